/- Part 4 of the proof of LayerAll: what its row stands on (lemmas about the model, the evaluator, contracts of functions), put together and cut to what is used. -/
import Derived.Test.YtolekmhhkopooaaGreatDoorKLayerAll3
import Derived.KernelRfl
section
namespace Go.Proofs.YtolekmhhkopooaaGreatDoor
open Go Zq
namespace Zv
set_option maxRecDepth 100000
set_option linter.unusedVariables false
def S_kit_ApartStandings (a0 : Sl) (H : Heap) (Q : Bool × Unit -> Heap -> Prop) : Prop :=
JOIN (fun (j1 : (Sl × Unit) × (Unit) -> Heap -> Prop) =>
LOOP (fun (r3 : (Sl × Int × Unit) × (Unit) -> Heap -> Prop) (s4 : (Sl × Int × Unit) × (Unit)) H2 =>
ifB (decide (s4.1.2.1 < (a0.len : Int))) (
IDX a0.p a0.len s4.1.2.1 1 fun b5 o6 =>
LD T_sl H2 b5 o6 fun (x7 : Sl) =>
IDX a0.p a0.len s4.1.2.1 1 fun b8 o9 =>
LD T_sl H2 b8 o9 fun (x10 : Sl) =>
GENV (T_int .i64) (aCap E 66 x10.v H2) fun (x11 : Int) =>
LD T_sl H2 b5 o6 fun (x12 : Sl) =>
REQ (T_sl.enc x12 = x7.v) (
GENV T_sl (aSlice E 66 x7.v none (some (.int .i64 x11)) none H2) fun (x13 : Sl) =>
APP T_sl (lenV s4.1.1.v + 1) (aAppE E [105, 105] s4.1.1.v 1 [(.slice x13.p x13.len x13.cap)] H2) fun (x14 : Sl) H3 =>
r3 ((x14, IntKind.wrap .i64 (s4.1.2.1 + 1), ()), (())) H3)) (
j1 ((s4.1.1, ()), (())) H2)) (((Sl.mk none 0 0), 0, ()), (())) H) fun (y2 : (Sl × Unit) × (Unit)) H1 =>
JOIN (fun (j15 : (Unit) × (Unit) -> Heap -> Prop) =>
LOOP (fun (r17 : (Int × Unit) × (Unit) -> Heap -> Prop) (s18 : (Int × Unit) × (Unit)) H5 =>
ifB (decide (s18.1.1 < (y2.1.1.len : Int))) (
JOIN (fun (j19 : (Unit) × (Unit) -> Heap -> Prop) =>
JOIN (fun (j21 : (Unit) × (Unit) -> Heap -> Prop) =>
LOOP (fun (r23 : (Int × Unit) × (Unit) -> Heap -> Prop) (s24 : (Int × Unit) × (Unit)) H8 =>
IDX y2.1.1.p y2.1.1.len s18.1.1 1 fun b25 o26 =>
LD T_sl H8 b25 o26 fun (x27 : Sl) =>
ifB (decide (s24.1.1 < (x27.len : Int))) (
IDX y2.1.1.p y2.1.1.len s18.1.1 1 fun b28 o29 =>
LD T_sl H8 b28 o29 fun (x30 : Sl) =>
CALL P [T_G_api_Standing] n_kit_markStandings [(.int .i64 s18.1.1), (.int .i64 s24.1.1)] H8 fun (x31 : G_api_Standing × Unit) H9 =>
LD T_sl H9 b28 o29 fun (x32 : Sl) =>
REQ (T_sl.enc x32 = x30.v) (
IDX x30.p x30.len s24.1.1 10 fun b33 o34 =>
ST H9 b33 o34 (T_G_api_Standing.cells x31.1) fun H10 =>
r23 ((IntKind.wrap .i64 (s24.1.1 + 1), ()), (())) H10)) (
j21 ((()), (())) H8)) ((0, ()), (())) H5) fun (y22 : (Unit) × (Unit)) H7 =>
j19 ((()), (())) H7) fun (y20 : (Unit) × (Unit)) H6 =>
r17 ((IntKind.wrap .i64 (s18.1.1 + 1), ()), (())) H6) (
j15 ((()), (())) H5)) ((0, ()), (())) H1) fun (y16 : (Unit) × (Unit)) H4 =>
JOIN (fun (j35 : (Unit) × (Unit) -> Heap -> Prop) =>
LOOP (fun (r37 : (Int × Unit) × (Unit) -> Heap -> Prop) (s38 : (Int × Unit) × (Unit)) H12 =>
ifB (decide (s38.1.1 < (y2.1.1.len : Int))) (
JOIN (fun (j39 : (Unit) × (Unit) -> Heap -> Prop) =>
JOIN (fun (j41 : (Unit) × (Unit) -> Heap -> Prop) =>
LOOP (fun (r43 : (Int × Unit) × (Unit) -> Heap -> Prop) (s44 : (Int × Unit) × (Unit)) H15 =>
IDX y2.1.1.p y2.1.1.len s38.1.1 1 fun b45 o46 =>
LD T_sl H15 b45 o46 fun (x47 : Sl) =>
ifB (decide (s44.1.1 < (x47.len : Int))) (
IDX y2.1.1.p y2.1.1.len s38.1.1 1 fun b48 o49 =>
LD T_sl H15 b48 o49 fun (x50 : Sl) =>
IDX x50.p x50.len s44.1.1 10 fun b51 o52 =>
LD T_G_api_Standing H15 b51 o52 fun (x53 : G_api_Standing) =>
CALL P [T_G_api_Standing] n_kit_markStandings [(.int .i64 s38.1.1), (.int .i64 s44.1.1)] H15 fun (x54 : G_api_Standing × Unit) H16 =>
LD T_sl H16 b48 o49 fun (x55 : Sl) =>
REQ (T_sl.enc x55 = x50.v) (
LD T_G_api_Standing H16 b51 o52 fun (x56 : G_api_Standing) =>
REQ (T_G_api_Standing.enc x56 = (T_G_api_Standing.enc x53)) (
ifB (!((x53.Thing == x54.1.Thing) && ((x53.Place == x54.1.Place) && (((x53.What.When == x54.1.What.When) && ((x53.What.Verb == x54.1.What.Verb) && ((x53.What.Whom == x54.1.What.Whom) && ((x53.What.Count == x54.1.What.Count) && ((x53.What.Suit == x54.1.What.Suit) && ((x53.What.Trait == x54.1.What.Trait) && ((x53.What.Mark == x54.1.What.Mark) && ((x53.What.Name.toList == x54.1.What.Name.toList) && true)))))))) && true)))) (
Q (false, ()) H16) (
r43 ((IntKind.wrap .i64 (s44.1.1 + 1), ()), (())) H16)))) (
j41 ((()), (())) H15)) ((0, ()), (())) H12) fun (y42 : (Unit) × (Unit)) H14 =>
j39 ((()), (())) H14) fun (y40 : (Unit) × (Unit)) H13 =>
r37 ((IntKind.wrap .i64 (s38.1.1 + 1), ()), (())) H13) (
j35 ((()), (())) H12)) ((0, ()), (())) H4) fun (y36 : (Unit) × (Unit)) H11 =>
Q (true, ()) H11
def h_kit_ApartStandings : Hnt := (.seq .leaf (.seq .leaf (.seq (.seq .leaf (.blk (some ⟨[(3, T_sl)], [], [4, 9, 10, 11, 12, 13, 14, 15, 16, 17, 18, 19, 20, 21, 22, 23, 24, 25, 26, 27]⟩) (.loop ⟨[(3, T_sl), (4, (T_int .i64))], [], [9, 10, 11, 12, 13, 14, 15, 16, 17, 18, 19, 20, 21, 22, 23, 24, 25, 26, 27]⟩ .leaf))) (.seq (.seq .leaf (.blk (some ⟨[], [], [5, 6, 28, 29, 30, 31, 32, 33, 34, 35, 36, 37, 38, 39, 40, 41, 42, 43, 44, 45, 46, 47, 48, 49, 50, 51]⟩) (.loop ⟨[(5, (T_int .i64))], [], [6, 28, 29, 30, 31, 32, 33, 34, 35, 36, 37, 38, 39, 40, 41, 42, 43, 44, 45, 46, 47, 48, 49, 50, 51]⟩ (.seq .leaf (.seq (.blk (some ⟨[], [], [6, 34, 35, 36, 37, 38, 39, 40, 41, 42, 43, 44, 45, 46, 47, 48, 49, 50, 51]⟩) (.seq .leaf (.blk (some ⟨[], [], [6, 34, 35, 36, 37, 38, 39, 40, 41, 42, 43, 44, 45, 46, 47, 48, 49, 50, 51]⟩) (.loop ⟨[(6, (T_int .i64))], [], [34, 35, 36, 37, 38, 39, 40, 41, 42, 43, 44, 45, 46, 47, 48, 49, 50, 51]⟩ .leaf)))) .leaf))))) (.seq (.seq .leaf (.blk (some ⟨[], [], [2, 7, 8, 52, 53, 54, 55, 56, 57, 58, 59, 60, 61, 62, 63, 64, 65, 66, 67, 68, 69, 70, 71, 72, 73, 74, 75, 76, 77]⟩) (.loop ⟨[(7, (T_int .i64))], [], [2, 8, 52, 53, 54, 55, 56, 57, 58, 59, 60, 61, 62, 63, 64, 65, 66, 67, 68, 69, 70, 71, 72, 73, 74, 75, 76, 77]⟩ (.seq .leaf (.seq (.blk (some ⟨[], [], [2, 8, 58, 59, 60, 61, 62, 63, 64, 65, 66, 67, 68, 69, 70, 71, 72, 73, 74, 75, 76, 77]⟩) (.seq .leaf (.blk (some ⟨[], [], [2, 8, 58, 59, 60, 61, 62, 63, 64, 65, 66, 67, 68, 69, 70, 71, 72, 73, 74, 75, 76, 77]⟩) (.loop ⟨[(8, (T_int .i64))], [], [2, 58, 59, 60, 61, 62, 63, 64, 65, 66, 67, 68, 69, 70, 71, 72, 73, 74, 75, 76, 77]⟩ .leaf)))) .leaf))))) .leaf)))))
theorem e_kit_ApartStandings (a0 : Sl) (H : Heap) (Q : Bool × Unit -> Heap -> Prop) : S_kit_ApartStandings a0 H Q = cFn C [26] Tryz.f50.ntmps Tryz.f50.results.toList [T_bool] (bodyOf Tryz.f50) h_kit_ApartStandings [a0.v] H Q := by kernel_rfl
theorem c_kit_ApartStandings {a0 : Sl} {H : Heap} {Q : Bool × Unit -> Heap -> Prop} (h : S_kit_ApartStandings a0 H Q) : CALL P [T_bool] n_kit_ApartStandings [a0.v] H Q := call_print hE Tryz.func50 rfl (by kernel_rfl) (e_kit_ApartStandings a0 H Q) h
def S_book_New  (H : Heap) (Q : (Option Addr) × Unit -> Heap -> Prop) : Prop :=
NEW H [(.bool true), (.bool false), (.int .i64 0), (.string (ByteArray.mk #[])), (.int .u8 0), (.int .u8 0), (.int .i64 0), (.int .i64 0), (.int .i64 0), (.int .u16 0), (.bool false), (.slice none 0 0), (.string (ByteArray.mk #[])), (.int .u8 0), (.int .u8 0), (.int .i64 0), (.int .i64 0), (.int .i64 0), (.int .u16 0), (.bool false), (.slice none 0 0), (.string (ByteArray.mk #[])), (.int .u8 0), (.int .u8 0), (.int .i64 0), (.int .i64 0), (.int .i64 0), (.int .u16 0), (.bool false), (.slice none 0 0), (.string (ByteArray.mk #[])), (.int .u8 0), (.int .u8 0), (.int .i64 0), (.int .i64 0), (.int .i64 0), (.int .u16 0), (.bool false), (.slice none 0 0), (.string (ByteArray.mk #[])), (.int .u8 0), (.int .u8 0), (.int .i64 0), (.int .i64 0), (.int .i64 0), (.int .u16 0), (.bool false), (.slice none 0 0), (.string (ByteArray.mk #[])), (.int .u8 0), (.int .u8 0), (.int .i64 0), (.int .i64 0), (.int .i64 0), (.int .u16 0), (.bool false), (.slice none 0 0), (.string (ByteArray.mk #[])), (.int .u8 0), (.int .u8 0), (.int .i64 0), (.int .i64 0), (.int .i64 0), (.int .u16 0), (.bool false), (.slice none 0 0), (.string (ByteArray.mk #[])), (.int .u8 0), (.int .u8 0), (.int .i64 0), (.int .i64 0), (.int .i64 0), (.int .u16 0), (.bool false), (.slice none 0 0), (.string (ByteArray.mk #[])), (.int .u8 0), (.int .u8 0), (.int .i64 0), (.int .i64 0), (.int .i64 0), (.int .u16 0), (.bool false), (.slice none 0 0), (.string (ByteArray.mk #[])), (.int .u8 0), (.int .u8 0), (.int .i64 0), (.int .i64 0), (.int .i64 0), (.int .u16 0), (.bool false), (.slice none 0 0), (.string (ByteArray.mk #[])), (.int .u8 0), (.int .u8 0), (.int .i64 0), (.int .i64 0), (.int .i64 0), (.int .u16 0), (.bool false), (.slice none 0 0), (.string (ByteArray.mk #[])), (.int .u8 0), (.int .u8 0), (.int .i64 0), (.int .i64 0), (.int .i64 0), (.int .u16 0), (.bool false), (.slice none 0 0), (.string (ByteArray.mk #[])), (.int .u8 0), (.int .u8 0), (.int .i64 0), (.int .i64 0), (.int .i64 0), (.int .u16 0), (.bool false), (.slice none 0 0), (.string (ByteArray.mk #[])), (.int .u8 0), (.int .u8 0), (.int .i64 0), (.int .i64 0), (.int .i64 0), (.int .u16 0), (.bool false), (.slice none 0 0), (.string (ByteArray.mk #[])), (.int .u8 0), (.int .u8 0), (.int .i64 0), (.int .i64 0), (.int .i64 0), (.int .u16 0), (.bool false), (.slice none 0 0), (.string (ByteArray.mk #[])), (.int .u8 0), (.int .u8 0), (.int .i64 0), (.int .i64 0), (.int .i64 0), (.int .u16 0), (.bool false), (.slice none 0 0), (.string (ByteArray.mk #[])), (.int .u8 0), (.int .u8 0), (.int .i64 0), (.int .i64 0), (.int .i64 0), (.int .u16 0), (.bool false), (.slice none 0 0), (.string (ByteArray.mk #[])), (.int .u8 0), (.int .u8 0), (.int .i64 0), (.int .i64 0), (.int .i64 0), (.int .u16 0), (.bool false), (.slice none 0 0), (.string (ByteArray.mk #[])), (.int .u8 0), (.int .u8 0), (.int .i64 0), (.int .i64 0), (.int .i64 0), (.int .u16 0), (.bool false), (.slice none 0 0), (.string (ByteArray.mk #[])), (.int .u8 0), (.int .u8 0), (.int .i64 0), (.int .i64 0), (.int .i64 0), (.int .u16 0), (.bool false), (.slice none 0 0), (.string (ByteArray.mk #[])), (.int .u8 0), (.int .u8 0), (.int .i64 0), (.int .i64 0), (.int .i64 0), (.int .u16 0), (.bool false), (.slice none 0 0), (.string (ByteArray.mk #[])), (.int .u8 0), (.int .u8 0), (.int .i64 0), (.int .i64 0), (.int .i64 0), (.int .u16 0), (.bool false), (.slice none 0 0), (.string (ByteArray.mk #[])), (.int .u8 0), (.int .u8 0), (.int .i64 0), (.int .i64 0), (.int .i64 0), (.int .u16 0), (.bool false), (.slice none 0 0), (.string (ByteArray.mk #[])), (.int .u8 0), (.int .u8 0), (.int .i64 0), (.int .i64 0), (.int .i64 0), (.int .u16 0), (.bool false), (.slice none 0 0), (.string (ByteArray.mk #[])), (.int .u8 0), (.int .u8 0), (.int .i64 0), (.int .i64 0), (.int .i64 0), (.int .u16 0), (.bool false), (.slice none 0 0), (.string (ByteArray.mk #[])), (.int .u8 0), (.int .u8 0), (.int .i64 0), (.int .i64 0), (.int .i64 0), (.int .u16 0), (.bool false), (.slice none 0 0), (.string (ByteArray.mk #[])), (.int .u8 0), (.int .u8 0), (.int .i64 0), (.int .i64 0), (.int .i64 0), (.int .u16 0), (.bool false), (.slice none 0 0), (.string (ByteArray.mk #[])), (.int .u8 0), (.int .u8 0), (.int .i64 0), (.int .i64 0), (.int .i64 0), (.int .u16 0), (.bool false), (.slice none 0 0), (.string (ByteArray.mk #[])), (.int .u8 0), (.int .u8 0), (.int .i64 0), (.int .i64 0), (.int .i64 0), (.int .u16 0), (.bool false), (.slice none 0 0), (.string (ByteArray.mk #[])), (.int .u8 0), (.int .u8 0), (.int .i64 0), (.int .i64 0), (.int .i64 0), (.int .u16 0), (.bool false), (.slice none 0 0), (.string (ByteArray.mk #[])), (.int .u8 0), (.int .u8 0), (.int .i64 0), (.int .i64 0), (.int .i64 0), (.int .u16 0), (.bool false), (.slice none 0 0), (.string (ByteArray.mk #[])), (.int .u8 0), (.int .u8 0), (.int .i64 0), (.int .i64 0), (.int .i64 0), (.int .u16 0), (.bool false), (.slice none 0 0), (.string (ByteArray.mk #[])), (.int .u8 0), (.int .u8 0), (.int .i64 0), (.int .i64 0), (.int .i64 0), (.int .u16 0), (.bool false), (.slice none 0 0), (.string (ByteArray.mk #[])), (.int .u8 0), (.int .u8 0), (.int .i64 0), (.int .i64 0), (.int .i64 0), (.int .u16 0), (.bool false), (.slice none 0 0), (.string (ByteArray.mk #[])), (.int .u8 0), (.int .u8 0), (.int .i64 0), (.int .i64 0), (.int .i64 0), (.int .u16 0), (.bool false), (.slice none 0 0), (.string (ByteArray.mk #[])), (.int .u8 0), (.int .u8 0), (.int .i64 0), (.int .i64 0), (.int .i64 0), (.int .u16 0), (.bool false), (.slice none 0 0), (.string (ByteArray.mk #[])), (.int .u8 0), (.int .u8 0), (.int .i64 0), (.int .i64 0), (.int .i64 0), (.int .u16 0), (.bool false), (.slice none 0 0), (.string (ByteArray.mk #[])), (.int .u8 0), (.int .u8 0), (.int .i64 0), (.int .i64 0), (.int .i64 0), (.int .u16 0), (.bool false), (.slice none 0 0), (.string (ByteArray.mk #[])), (.int .u8 0), (.int .u8 0), (.int .i64 0), (.int .i64 0), (.int .i64 0), (.int .u16 0), (.bool false), (.slice none 0 0), (.string (ByteArray.mk #[])), (.int .u8 0), (.int .u8 0), (.int .i64 0), (.int .i64 0), (.int .i64 0), (.int .u16 0), (.bool false), (.slice none 0 0), (.string (ByteArray.mk #[])), (.int .u8 0), (.int .u8 0), (.int .i64 0), (.int .i64 0), (.int .i64 0), (.int .u16 0), (.bool false), (.slice none 0 0), (.string (ByteArray.mk #[])), (.int .u8 0), (.int .u8 0), (.int .i64 0), (.int .i64 0), (.int .i64 0), (.int .u16 0), (.bool false), (.slice none 0 0), (.string (ByteArray.mk #[])), (.int .u8 0), (.int .u8 0), (.int .i64 0), (.int .i64 0), (.int .i64 0), (.int .u16 0), (.bool false), (.slice none 0 0), (.string (ByteArray.mk #[])), (.int .u8 0), (.int .u8 0), (.int .i64 0), (.int .i64 0), (.int .i64 0), (.int .u16 0), (.bool false), (.slice none 0 0), (.string (ByteArray.mk #[])), (.int .u8 0), (.int .u8 0), (.int .i64 0), (.int .i64 0), (.int .i64 0), (.int .u16 0), (.bool false), (.slice none 0 0), (.string (ByteArray.mk #[])), (.int .u8 0), (.int .u8 0), (.int .i64 0), (.int .i64 0), (.int .i64 0), (.int .u16 0), (.bool false), (.slice none 0 0), (.string (ByteArray.mk #[])), (.int .u8 0), (.int .u8 0), (.int .i64 0), (.int .i64 0), (.int .i64 0), (.int .u16 0), (.bool false), (.slice none 0 0), (.string (ByteArray.mk #[])), (.int .u8 0), (.int .u8 0), (.int .i64 0), (.int .i64 0), (.int .i64 0), (.int .u16 0), (.bool false), (.slice none 0 0), (.string (ByteArray.mk #[])), (.int .u8 0), (.int .u8 0), (.int .i64 0), (.int .i64 0), (.int .i64 0), (.int .u16 0), (.bool false), (.slice none 0 0), (.string (ByteArray.mk #[])), (.int .u8 0), (.int .u8 0), (.int .i64 0), (.int .i64 0), (.int .i64 0), (.int .u16 0), (.bool false), (.slice none 0 0), (.string (ByteArray.mk #[])), (.int .u8 0), (.int .u8 0), (.int .i64 0), (.int .i64 0), (.int .i64 0), (.int .u16 0), (.bool false), (.slice none 0 0), (.string (ByteArray.mk #[])), (.int .u8 0), (.int .u8 0), (.int .i64 0), (.int .i64 0), (.int .i64 0), (.int .u16 0), (.bool false), (.slice none 0 0), (.string (ByteArray.mk #[])), (.int .u8 0), (.int .u8 0), (.int .i64 0), (.int .i64 0), (.int .i64 0), (.int .u16 0), (.bool false), (.slice none 0 0), (.string (ByteArray.mk #[])), (.int .u8 0), (.int .u8 0), (.int .i64 0), (.int .i64 0), (.int .i64 0), (.int .u16 0), (.bool false), (.slice none 0 0), (.string (ByteArray.mk #[])), (.int .u8 0), (.int .u8 0), (.int .i64 0), (.int .i64 0), (.int .i64 0), (.int .u16 0), (.bool false), (.slice none 0 0), (.string (ByteArray.mk #[])), (.int .u8 0), (.int .u8 0), (.int .i64 0), (.int .i64 0), (.int .i64 0), (.int .u16 0), (.bool false), (.slice none 0 0), (.string (ByteArray.mk #[])), (.int .u8 0), (.int .u8 0), (.int .i64 0), (.int .i64 0), (.int .i64 0), (.int .u16 0), (.bool false), (.slice none 0 0), (.string (ByteArray.mk #[])), (.int .u8 0), (.int .u8 0), (.int .i64 0), (.int .i64 0), (.int .i64 0), (.int .u16 0), (.bool false), (.slice none 0 0), (.string (ByteArray.mk #[])), (.int .u8 0), (.int .u8 0), (.int .i64 0), (.int .i64 0), (.int .i64 0), (.int .u16 0), (.bool false), (.slice none 0 0), (.string (ByteArray.mk #[])), (.int .u8 0), (.int .u8 0), (.int .i64 0), (.int .i64 0), (.int .i64 0), (.int .u16 0), (.bool false), (.slice none 0 0), (.string (ByteArray.mk #[])), (.int .u8 0), (.int .u8 0), (.int .i64 0), (.int .i64 0), (.int .i64 0), (.int .u16 0), (.bool false), (.slice none 0 0), (.string (ByteArray.mk #[])), (.int .u8 0), (.int .u8 0), (.int .i64 0), (.int .i64 0), (.int .i64 0), (.int .u16 0), (.bool false), (.slice none 0 0), (.string (ByteArray.mk #[])), (.int .u8 0), (.int .u8 0), (.int .i64 0), (.int .i64 0), (.int .i64 0), (.int .u16 0), (.bool false), (.slice none 0 0), (.string (ByteArray.mk #[])), (.int .u8 0), (.int .u8 0), (.int .i64 0), (.int .i64 0), (.int .i64 0), (.int .u16 0), (.bool false), (.slice none 0 0), (.string (ByteArray.mk #[])), (.string (ByteArray.mk #[])), (.string (ByteArray.mk #[])), (.string (ByteArray.mk #[])), (.string (ByteArray.mk #[])), (.string (ByteArray.mk #[])), (.string (ByteArray.mk #[])), (.string (ByteArray.mk #[])), (.string (ByteArray.mk #[])), (.int .u8 0), (.string (ByteArray.mk #[])), (.int .i64 0), (.int .i64 0), (.int .u8 0), (.string (ByteArray.mk #[])), (.int .i64 0), (.int .i64 0), (.int .u8 0), (.string (ByteArray.mk #[])), (.int .i64 0), (.int .i64 0), (.int .u8 0), (.string (ByteArray.mk #[])), (.int .i64 0), (.int .i64 0), (.int .u8 0), (.string (ByteArray.mk #[])), (.int .i64 0), (.int .i64 0)] 608 fun H1 =>
Q ((some ⟨H.length, 0, none⟩), ()) H1
def h_book_New : Hnt := .leaf
theorem e_book_New  (H : Heap) (Q : (Option Addr) × Unit -> Heap -> Prop) : S_book_New  H Q = cFn C [] Tryz.f51.ntmps Tryz.f51.results.toList [T_ptr] (bodyOf Tryz.f51) h_book_New [] H Q := by kernel_rfl
theorem c_book_New {H : Heap} {Q : (Option Addr) × Unit -> Heap -> Prop} (h : S_book_New H Q) : CALL P [T_ptr] n_book_New [] H Q := call_print hE Tryz.func51 rfl (by kernel_rfl) (e_book_New H Q) h
def S_ref07_New  (H : Heap) (Q : (Option Addr) × Unit -> Heap -> Prop) : Prop :=
NEW H [(.bool true), (.bool false), (.slice none 0 0), (.string (ByteArray.mk #[])), (.string (ByteArray.mk #[])), (.string (ByteArray.mk #[])), (.string (ByteArray.mk #[])), (.string (ByteArray.mk #[])), (.string (ByteArray.mk #[])), (.string (ByteArray.mk #[])), (.string (ByteArray.mk #[])), (.string (ByteArray.mk #[])), (.int .u8 0), (.string (ByteArray.mk #[])), (.int .i64 0), (.int .i64 0), (.int .u8 0), (.string (ByteArray.mk #[])), (.int .i64 0), (.int .i64 0), (.int .u8 0), (.string (ByteArray.mk #[])), (.int .i64 0), (.int .i64 0), (.int .u8 0), (.string (ByteArray.mk #[])), (.int .i64 0), (.int .i64 0), (.int .u8 0), (.string (ByteArray.mk #[])), (.int .i64 0), (.int .i64 0)] 32 fun H1 =>
Q ((some ⟨H.length, 0, none⟩), ()) H1
def h_ref07_New : Hnt := .leaf
theorem e_ref07_New  (H : Heap) (Q : (Option Addr) × Unit -> Heap -> Prop) : S_ref07_New  H Q = cFn C [] Tryz.f52.ntmps Tryz.f52.results.toList [T_ptr] (bodyOf Tryz.f52) h_ref07_New [] H Q := by kernel_rfl
theorem c_ref07_New {H : Heap} {Q : (Option Addr) × Unit -> Heap -> Prop} (h : S_ref07_New H Q) : CALL P [T_ptr] n_ref07_New [] H Q := call_print hE Tryz.func52 rfl (by kernel_rfl) (e_ref07_New H Q) h
def S_book_Book_Card (a0 : Option Addr) (a1 : G_api_Card) (H : Heap) (Q : Int × Unit -> Heap -> Prop) : Prop :=
CALL P [(T_int .i64)] n_book_Book_shut [(.pointer a0)] H fun (x1 : Int × Unit) H1 =>
ifB (x1.1 != 0) (
Q (x1.1, ()) H1) (
CALL P [(T_int .i64)] n_card_Check [(T_G_api_Card.enc a1)] H1 fun (x2 : Int × Unit) H2 =>
ifB (x2.1 != 0) (
Q (x2.1, ()) H2) (
CALL P [(T_int .i64)] n_book_Book_place [(.pointer a0), (.string a1.Name)] H2 fun (x3 : Int × Unit) H3 =>
ifB (decide (x3.1 ≥ 0)) (
Q (5, ()) H3) (
NIL a0 fun b4 o5 =>
LD (T_int .i64) H3 b4 (o5 + 2) fun (x6 : Int) =>
ifB (decide (x6 ≥ 64)) (
Q (14, ()) H3) (
NIL a0 fun b7 o8 =>
LD (T_int .i64) H3 b7 (o8 + 2) fun (x9 : Int) =>
JOIN (fun (j10 : (Int × Unit) × (Unit) -> Heap -> Prop) =>
LOOP (fun (r12 : (Int × Unit) × (Unit) -> Heap -> Prop) (s13 : (Int × Unit) × (Unit)) H5 =>
JOIN (fun (j14 : (Bool × Unit) × (Unit) -> Heap -> Prop) =>
ifB (decide (s13.1.1 > 0)) (
NIL a0 fun b16 o17 =>
IDXA 64 (IntKind.wrap .i64 (s13.1.1 - 1)) (
LD T_G_api_Card H5 b16 (o17 + 3 + (IntKind.wrap .i64 (s13.1.1 - 1)).toNat * 9) fun (x18 : G_api_Card) =>
CALL P [T_bool] n_book_ahead [(T_G_api_Card.enc a1), (T_G_api_Card.enc x18)] H5 fun (x19 : Bool × Unit) H7 =>
j14 ((x19.1, ()), (())) H7)) (
j14 ((false, ()), (())) H5)) fun (y15 : (Bool × Unit) × (Unit)) H6 =>
ifB y15.1.1 (
NIL a0 fun b20 o21 =>
IDXA 64 (IntKind.wrap .i64 (s13.1.1 - 1)) (
LD T_G_api_Card H6 b20 (o21 + 3 + (IntKind.wrap .i64 (s13.1.1 - 1)).toNat * 9) fun (x22 : G_api_Card) =>
NIL a0 fun b23 o24 =>
IDXA 64 s13.1.1 (
ST H6 b23 (o24 + 3 + s13.1.1.toNat * 9) (T_G_api_Card.cells x22) fun H8 =>
r12 ((IntKind.wrap .i64 (s13.1.1 - 1), ()), (())) H8))) (
j10 ((s13.1.1, ()), (())) H6)) ((x9, ()), (())) H3) fun (y11 : (Int × Unit) × (Unit)) H4 =>
NIL a0 fun b25 o26 =>
CALL P [T_G_api_Card] n_card_Copy [(T_G_api_Card.enc a1)] H4 fun (x27 : G_api_Card × Unit) H9 =>
IDXA 64 y11.1.1 (
ST H9 b25 (o26 + 3 + y11.1.1.toNat * 9) (T_G_api_Card.cells x27.1) fun H10 =>
NIL a0 fun b28 o29 =>
LD (T_int .i64) H10 b28 (o29 + 2) fun (x30 : Int) =>
NIL a0 fun b31 o32 =>
ST H10 b31 (o32 + 2) [(.int .i64 (IntKind.wrap .i64 (x30 + 1)))] fun H11 =>
Q (0, ()) H11)))))
def h_book_Book_Card : Hnt := (.seq .leaf (.seq .leaf (.seq .leaf (.seq .leaf (.seq (.blk (some ⟨[(7, (T_int .i64))], [], [35, 36, 37, 38, 39, 40, 41, 42, 43, 44, 45, 46, 47, 48, 49, 50, 51, 52, 53, 54, 55, 56, 57, 58, 59, 60, 61]⟩) (.loop ⟨[(7, (T_int .i64))], [], [35, 36, 37, 38, 39, 40, 41, 42, 43, 44, 45, 46, 47, 48, 49, 50, 51, 52, 53, 54, 55, 56, 57, 58, 59, 60, 61]⟩ (.seq (.seq (.reg ⟨[(47, T_bool)], [], [35, 36, 37, 38, 39, 40, 41, 42, 43, 44, 45, 46]⟩) .leaf) .leaf))) .leaf)))))
theorem e_book_Book_Card (a0 : Option Addr) (a1 : G_api_Card) (H : Heap) (Q : Int × Unit -> Heap -> Prop) : S_book_Book_Card a0 a1 H Q = cFn C [3] Tryz.f53.ntmps Tryz.f53.results.toList [(T_int .i64)] (bodyOf Tryz.f53) h_book_Book_Card [(.pointer a0), (T_G_api_Card.enc a1)] H Q := by kernel_rfl
theorem c_book_Book_Card {a0 : Option Addr} {a1 : G_api_Card} {H : Heap} {Q : Int × Unit -> Heap -> Prop} (h : S_book_Book_Card a0 a1 H Q) : CALL P [(T_int .i64)] n_book_Book_Card [(.pointer a0), (T_G_api_Card.enc a1)] H Q := call_print hE Tryz.func53 rfl (by kernel_rfl) (e_book_Book_Card a0 a1 H Q) h
def S_kit_CopyCard (a0 : G_api_Card) (H : Heap) (Q : G_api_Card × Unit -> Heap -> Prop) : Prop :=
CALL P [T_sl] n_kit_CopyParts [a0.Parts.v] H fun (x1 : Sl × Unit) H1 =>
Q ((G_api_Card.mk a0.Name a0.Suit a0.Kind a0.Cost a0.Power a0.Health a0.Traits a0.Token x1.1), ()) H1
def h_kit_CopyCard : Hnt := .leaf
theorem e_kit_CopyCard (a0 : G_api_Card) (H : Heap) (Q : G_api_Card × Unit -> Heap -> Prop) : S_kit_CopyCard a0 H Q = cFn C [1, 2] Tryz.f54.ntmps Tryz.f54.results.toList [T_G_api_Card] (bodyOf Tryz.f54) h_kit_CopyCard [(T_G_api_Card.enc a0)] H Q := by kernel_rfl
theorem c_kit_CopyCard {a0 : G_api_Card} {H : Heap} {Q : G_api_Card × Unit -> Heap -> Prop} (h : S_kit_CopyCard a0 H Q) : CALL P [T_G_api_Card] n_kit_CopyCard [(T_G_api_Card.enc a0)] H Q := call_print hE Tryz.func54 rfl (by kernel_rfl) (e_kit_CopyCard a0 H Q) h
def S_ref07_Book_Card (a0 : Option Addr) (a1 : G_api_Card) (H : Heap) (Q : Int × Unit -> Heap -> Prop) : Prop :=
CALL P [T_bool] n_ref07_Book_None [(.pointer a0)] H fun (x1 : Bool × Unit) H1 =>
ifB x1.1 (
Q (1, ()) H1) (
NIL a0 fun b2 o3 =>
LD T_bool H1 b2 (o3 + 1) fun (x4 : Bool) =>
ifB x4 (
Q (7, ()) H1) (
CALL P [(T_int .i64)] n_ref06_Check [(T_G_api_Card.enc a1)] H1 fun (x5 : Int × Unit) H2 =>
ifB (x5.1 != 0) (
Q (x5.1, ()) H2) (
CALL P [(T_int .i64)] n_ref07_Book_place [(.pointer a0), (.string a1.Name)] H2 fun (x6 : Int × Unit) H3 =>
ifB (decide (x6.1 ≥ 0)) (
Q (5, ()) H3) (
NIL a0 fun b7 o8 =>
LD T_sl H3 b7 (o8 + 2) fun (x9 : Sl) =>
ifB (decide ((x9.len : Int) ≥ 64)) (
Q (14, ()) H3) (
JOIN (fun (j10 : (Sl × Bool × Unit) × (Unit) -> Heap -> Prop) =>
LOOP (fun (r12 : (Sl × Bool × Int × Unit) × (Unit) -> Heap -> Prop) (s13 : (Sl × Bool × Int × Unit) × (Unit)) H5 =>
NIL a0 fun b14 o15 =>
LD T_sl H5 b14 (o15 + 2) fun (x16 : Sl) =>
ifB (decide (s13.1.2.2.1 < (x16.len : Int))) (
JOIN (fun (j17 : (Bool × Unit) × (Unit) -> Heap -> Prop) =>
ifB (!s13.1.2.1) (
NIL a0 fun b19 o20 =>
LD T_sl H5 b19 (o20 + 2) fun (x21 : Sl) =>
IDX x21.p x21.len s13.1.2.2.1 9 fun b22 o23 =>
LD T_G_api_Card H5 b22 o23 fun (x24 : G_api_Card) =>
CALL P [T_bool] n_ref07_Ahead [(T_G_api_Card.enc a1), (T_G_api_Card.enc x24)] H5 fun (x25 : Bool × Unit) H7 =>
j17 ((x25.1, ()), (())) H7) (
j17 ((false, ()), (())) H5)) fun (y18 : (Bool × Unit) × (Unit)) H6 =>
JOIN (fun (j26 : (Sl × Bool × Unit) × (Unit) -> Heap -> Prop) =>
ifB y18.1.1 (
CALL P [T_G_api_Card] n_ref06_Copy [(T_G_api_Card.enc a1)] H6 fun (x28 : G_api_Card × Unit) H9 =>
APP T_sl (lenV s13.1.1.v + 1) (aAppE E [22, 22] s13.1.1.v 1 (T_G_api_Card.cells x28.1) H9) fun (x29 : Sl) H10 =>
j26 ((x29, true, ()), (())) H10) (
j26 ((s13.1.1, s13.1.2.1, ()), (())) H6)) fun (y27 : (Sl × Bool × Unit) × (Unit)) H8 =>
NIL a0 fun b30 o31 =>
LD T_sl H8 b30 (o31 + 2) fun (x32 : Sl) =>
IDX x32.p x32.len s13.1.2.2.1 9 fun b33 o34 =>
LD T_G_api_Card H8 b33 o34 fun (x35 : G_api_Card) =>
APP T_sl (lenV y27.1.1.v + 1) (aAppE E [22, 22] y27.1.1.v 1 (T_G_api_Card.cells x35) H8) fun (x36 : Sl) H11 =>
r12 ((x36, y27.1.2.1, IntKind.wrap .i64 (s13.1.2.2.1 + 1), ()), (())) H11) (
j10 ((s13.1.1, s13.1.2.1, ()), (())) H5)) (((Sl.mk none 0 0), false, 0, ()), (())) H3) fun (y11 : (Sl × Bool × Unit) × (Unit)) H4 =>
JOIN (fun (j37 : (Sl × Unit) × (Unit) -> Heap -> Prop) =>
ifB (!y11.1.2.1) (
CALL P [T_G_api_Card] n_ref06_Copy [(T_G_api_Card.enc a1)] H4 fun (x39 : G_api_Card × Unit) H13 =>
APP T_sl (lenV y11.1.1.v + 1) (aAppE E [22, 22] y11.1.1.v 1 (T_G_api_Card.cells x39.1) H13) fun (x40 : Sl) H14 =>
j37 ((x40, ()), (())) H14) (
j37 ((y11.1.1, ()), (())) H4)) fun (y38 : (Sl × Unit) × (Unit)) H12 =>
NIL a0 fun b41 o42 =>
ST H12 b41 (o42 + 2) [(.slice y38.1.1.p y38.1.1.len y38.1.1.cap)] fun H15 =>
Q (0, ()) H15)))))
def h_ref07_Book_Card : Hnt := (.seq .leaf (.seq .leaf (.seq .leaf (.seq .leaf (.seq .leaf (.seq .leaf (.seq .leaf (.seq .leaf (.seq .leaf (.seq (.seq .leaf (.blk (some ⟨[(6, T_sl), (7, T_bool)], [], [8, 31, 32, 33, 34, 35, 36, 37, 38, 39, 40, 41, 42, 43, 44, 45, 46, 47, 48, 49, 50, 51, 52, 53, 54, 55, 56, 57, 58, 59, 60, 61, 62, 63, 64, 65, 66, 67]⟩) (.loop ⟨[(6, T_sl), (7, T_bool), (8, (T_int .i64))], [], [31, 32, 33, 34, 35, 36, 37, 38, 39, 40, 41, 42, 43, 44, 45, 46, 47, 48, 49, 50, 51, 52, 53, 54, 55, 56, 57, 58, 59, 60, 61, 62, 63, 64, 65, 66, 67]⟩ (.seq .leaf (.seq (.blk none (.seq (.seq (.reg ⟨[(52, T_bool)], [], [40, 41, 42, 43, 44, 45, 46, 47, 48, 49, 50, 51]⟩) (.cond (some ⟨[(6, T_sl), (7, T_bool)], [], [53, 54, 55, 56, 57]⟩) .leaf .leaf)) .leaf)) .leaf))))) (.seq (.seq .leaf (.cond (some ⟨[(6, T_sl)], [], [70, 71, 72, 73, 74]⟩) .leaf .leaf)) .leaf)))))))))))
theorem e_ref07_Book_Card (a0 : Option Addr) (a1 : G_api_Card) (H : Heap) (Q : Int × Unit -> Heap -> Prop) : S_ref07_Book_Card a0 a1 H Q = cFn C [3, 56, 66, 73] Tryz.f55.ntmps Tryz.f55.results.toList [(T_int .i64)] (bodyOf Tryz.f55) h_ref07_Book_Card [(.pointer a0), (T_G_api_Card.enc a1)] H Q := by kernel_rfl
theorem c_ref07_Book_Card {a0 : Option Addr} {a1 : G_api_Card} {H : Heap} {Q : Int × Unit -> Heap -> Prop} (h : S_ref07_Book_Card a0 a1 H Q) : CALL P [(T_int .i64)] n_ref07_Book_Card [(.pointer a0), (T_G_api_Card.enc a1)] H Q := call_print hE Tryz.func55 rfl (by kernel_rfl) (e_ref07_Book_Card a0 a1 H Q) h
def S_book_Book_Mark (a0 : Option Addr) (a1 : G_api_MarkInfo) (H : Heap) (Q : Int × Unit -> Heap -> Prop) : Prop :=
CALL P [(T_int .i64)] n_book_Book_shut [(.pointer a0)] H fun (x1 : Int × Unit) H1 =>
ifB (x1.1 != 0) (
Q (x1.1, ()) H1) (
JOIN (fun (j2 : (Bool × Unit) × (Unit) -> Heap -> Prop) =>
ifB (decide (a1.Mark < 1)) (
j2 ((true, ()), (())) H1) (
ifB (decide (a1.Mark > 4)) (
j2 ((true, ()), (())) H1) (
CALL P [T_bool] n_book_within [(.int .i64 a1.Power)] H1 fun (x4 : Bool × Unit) H3 =>
ifB (!x4.1) (
j2 ((true, ()), (())) H3) (
CALL P [T_bool] n_book_within [(.int .i64 a1.Health)] H3 fun (x5 : Bool × Unit) H4 =>
j2 ((!x5.1, ()), (())) H4)))) fun (y3 : (Bool × Unit) × (Unit)) H2 =>
ifB y3.1.1 (
Q (2, ()) H2) (
CALL P [T_bool] n_book_name [(.string a1.Name)] H2 fun (x6 : Bool × Unit) H5 =>
ifB (!x6.1) (
Q (4, ()) H5) (
NIL a0 fun b7 o8 =>
IDXA 5 a1.Mark (
LD (T_int .u8) H5 b7 (o8 + 588 + a1.Mark.toNat * 4 + 0) fun (x9 : Int) =>
ifB (x9 != 0) (
Q (5, ()) H5) (
NIL a0 fun b10 o11 =>
LD T_arr5_T_G_api_MarkInfo H5 b10 (o11 + 588) fun (x12 : G_api_MarkInfo × G_api_MarkInfo × G_api_MarkInfo × G_api_MarkInfo × G_api_MarkInfo) =>
JOIN (fun (j13 : (Unit) × (Unit) -> Heap -> Prop) =>
LOOP (fun (r15 : (Int × Unit) × (Unit) -> Heap -> Prop) (s16 : (Int × Unit) × (Unit)) H7 =>
ifB (decide (s16.1.1 < 5)) (
GENV T_G_api_MarkInfo (aIndex E 158 (.agg #[(.int .u8 x12.1.Mark), (.string x12.1.Name), (.int .i64 x12.1.Power), (.int .i64 x12.1.Health), (.int .u8 x12.2.1.Mark), (.string x12.2.1.Name), (.int .i64 x12.2.1.Power), (.int .i64 x12.2.1.Health), (.int .u8 x12.2.2.1.Mark), (.string x12.2.2.1.Name), (.int .i64 x12.2.2.1.Power), (.int .i64 x12.2.2.1.Health), (.int .u8 x12.2.2.2.1.Mark), (.string x12.2.2.2.1.Name), (.int .i64 x12.2.2.2.1.Power), (.int .i64 x12.2.2.2.1.Health), (.int .u8 x12.2.2.2.2.Mark), (.string x12.2.2.2.2.Name), (.int .i64 x12.2.2.2.2.Power), (.int .i64 x12.2.2.2.2.Health)]) (.int .i64 s16.1.1)) fun (x17 : G_api_MarkInfo) =>
ifB (x17.Name.toList == a1.Name.toList) (
Q (5, ()) H7) (
r15 ((IntKind.wrap .i64 (s16.1.1 + 1), ()), (())) H7)) (
j13 ((()), (())) H7)) ((0, ()), (())) H5) fun (y14 : (Unit) × (Unit)) H6 =>
NIL a0 fun b18 o19 =>
IDXA 5 a1.Mark (
ST H6 b18 (o19 + 588 + a1.Mark.toNat * 4) (T_G_api_MarkInfo.cells a1) fun H8 =>
Q (0, ()) H8))))))
def h_book_Book_Mark : Hnt := (.seq .leaf (.seq .leaf (.seq (.blk none (.seq (.reg ⟨[(13, T_bool)], [], [14, 15, 16, 17, 18, 19, 20, 21, 22, 23, 24, 25, 26, 27, 28, 29, 30, 31, 32, 33]⟩) .leaf)) (.seq (.seq .leaf (.blk (some ⟨[], [], [4, 7, 53, 54, 55, 56, 57, 58, 59, 60, 61]⟩) (.loop ⟨[(53, (T_int .i64))], [], [4, 7, 54, 55, 56, 57, 58, 59, 60, 61]⟩ .leaf))) .leaf))))
theorem e_book_Book_Mark (a0 : Option Addr) (a1 : G_api_MarkInfo) (H : Heap) (Q : Int × Unit -> Heap -> Prop) : S_book_Book_Mark a0 a1 H Q = cFn C [3, 7] Tryz.f56.ntmps Tryz.f56.results.toList [(T_int .i64)] (bodyOf Tryz.f56) h_book_Book_Mark [(.pointer a0), (T_G_api_MarkInfo.enc a1)] H Q := by kernel_rfl
theorem c_book_Book_Mark {a0 : Option Addr} {a1 : G_api_MarkInfo} {H : Heap} {Q : Int × Unit -> Heap -> Prop} (h : S_book_Book_Mark a0 a1 H Q) : CALL P [(T_int .i64)] n_book_Book_Mark [(.pointer a0), (T_G_api_MarkInfo.enc a1)] H Q := call_print hE Tryz.func56 rfl (by kernel_rfl) (e_book_Book_Mark a0 a1 H Q) h
def S_ref07_Book_Mark (a0 : Option Addr) (a1 : G_api_MarkInfo) (H : Heap) (Q : Int × Unit -> Heap -> Prop) : Prop :=
CALL P [T_bool] n_ref07_Book_None [(.pointer a0)] H fun (x1 : Bool × Unit) H1 =>
ifB x1.1 (
Q (1, ()) H1) (
NIL a0 fun b2 o3 =>
LD T_bool H1 b2 (o3 + 1) fun (x4 : Bool) =>
ifB x4 (
Q (7, ()) H1) (
JOIN (fun (j5 : (Bool × Unit) × (Unit) -> Heap -> Prop) =>
ifB (decide (a1.Mark < 1)) (
j5 ((true, ()), (())) H1) (
ifB (decide (a1.Mark > 4)) (
j5 ((true, ()), (())) H1) (
ifB (decide (a1.Power < (-9))) (
j5 ((true, ()), (())) H1) (
ifB (decide (a1.Power > 9)) (
j5 ((true, ()), (())) H1) (
ifB (decide (a1.Health < (-9))) (
j5 ((true, ()), (())) H1) (
j5 ((decide (a1.Health > 9), ()), (())) H1)))))) fun (y6 : (Bool × Unit) × (Unit)) H2 =>
ifB y6.1.1 (
Q (2, ()) H2) (
CALL P [T_bool] n_ref07_Name [(.string a1.Name)] H2 fun (x7 : Bool × Unit) H3 =>
ifB (!x7.1) (
Q (4, ()) H3) (
JOIN (fun (j8 : (Unit) × (Unit) -> Heap -> Prop) =>
LOOP (fun (r10 : (Int × Unit) × (Unit) -> Heap -> Prop) (s11 : (Int × Unit) × (Unit)) H5 =>
ifB (decide (s11.1.1 ≤ 4)) (
JOIN (fun (j12 : (Bool × Unit) × (Unit) -> Heap -> Prop) =>
ifB ((IntKind.wrap .u8 s11.1.1) == a1.Mark) (
NIL a0 fun b14 o15 =>
IDXA 5 s11.1.1 (
LD (T_int .u8) H5 b14 (o15 + 12 + s11.1.1.toNat * 4 + 0) fun (x16 : Int) =>
ifB (x16 != 0) (
j12 ((true, ()), (())) H5) (
NIL a0 fun b17 o18 =>
IDXA 5 s11.1.1 (
LD T_str H5 b17 (o18 + 12 + s11.1.1.toNat * 4 + 1) fun (x19 : ByteArray) =>
j12 ((x19.toList == a1.Name.toList, ()), (())) H5)))) (
NIL a0 fun b20 o21 =>
IDXA 5 s11.1.1 (
LD T_str H5 b20 (o21 + 12 + s11.1.1.toNat * 4 + 1) fun (x22 : ByteArray) =>
j12 ((x22.toList == a1.Name.toList, ()), (())) H5))) fun (y13 : (Bool × Unit) × (Unit)) H6 =>
ifB y13.1.1 (
Q (5, ()) H6) (
r10 ((IntKind.wrap .i64 (s11.1.1 + 1), ()), (())) H6)) (
j8 ((()), (())) H5)) ((1, ()), (())) H3) fun (y9 : (Unit) × (Unit)) H4 =>
NIL a0 fun b23 o24 =>
IDXA 5 a1.Mark (
ST H4 b23 (o24 + 12 + a1.Mark.toNat * 4) (T_G_api_MarkInfo.cells a1) fun H7 =>
Q (0, ()) H7)))))
def h_ref07_Book_Mark : Hnt := (.seq .leaf (.seq .leaf (.seq .leaf (.seq (.seq (.reg ⟨[(39, T_bool)], [], [12, 13, 14, 15, 16, 17, 18, 19, 20, 21, 22, 23, 24, 25, 26, 27, 28, 29, 30, 31, 32, 33, 34, 35, 36, 37, 38]⟩) .leaf) (.seq .leaf (.seq (.seq .leaf (.blk (some ⟨[], [], [4, 5, 44, 45, 46, 47, 48, 49, 50, 51, 52, 53, 54, 55, 56, 57, 58, 59, 60, 61, 62, 63, 64, 65, 66, 67, 68, 69, 70, 71, 72, 73, 74]⟩) (.loop ⟨[(5, (T_int .i64))], [], [4, 44, 45, 46, 47, 48, 49, 50, 51, 52, 53, 54, 55, 56, 57, 58, 59, 60, 61, 62, 63, 64, 65, 66, 67, 68, 69, 70, 71, 72, 73, 74]⟩ (.seq .leaf (.seq (.blk none (.seq (.reg ⟨[(74, T_bool)], [], [48, 49, 50, 51, 52, 53, 54, 55, 56, 57, 58, 59, 60, 61, 62, 63, 64, 65, 66, 67, 68, 69, 70, 71, 72, 73]⟩) .leaf)) .leaf))))) .leaf))))))
theorem e_ref07_Book_Mark (a0 : Option Addr) (a1 : G_api_MarkInfo) (H : Heap) (Q : Int × Unit -> Heap -> Prop) : S_ref07_Book_Mark a0 a1 H Q = cFn C [3] Tryz.f57.ntmps Tryz.f57.results.toList [(T_int .i64)] (bodyOf Tryz.f57) h_ref07_Book_Mark [(.pointer a0), (T_G_api_MarkInfo.enc a1)] H Q := by kernel_rfl
theorem c_ref07_Book_Mark {a0 : Option Addr} {a1 : G_api_MarkInfo} {H : Heap} {Q : Int × Unit -> Heap -> Prop} (h : S_ref07_Book_Mark a0 a1 H Q) : CALL P [(T_int .i64)] n_ref07_Book_Mark [(.pointer a0), (T_G_api_MarkInfo.enc a1)] H Q := call_print hE Tryz.func57 rfl (by kernel_rfl) (e_ref07_Book_Mark a0 a1 H Q) h
def S_book_Book_Seal (a0 : Option Addr) (H : Heap) (Q : Int × Unit -> Heap -> Prop) : Prop :=
CALL P [(T_int .i64)] n_book_Book_shut [(.pointer a0)] H fun (x1 : Int × Unit) H1 =>
ifB (x1.1 != 0) (
Q (x1.1, ()) H1) (
NIL a0 fun b2 o3 =>
NIL a0 fun b4 o5 =>
LD (T_int .i64) H1 b4 (o5 + 2) fun (x6 : Int) =>
GENV T_sl (aSlice E 156 (.pointer (some ⟨b2, o3 + 3, none⟩)) none (some (.int .i64 x6)) none H1) fun (x7 : Sl) =>
JOIN (fun (j8 : (Unit) × (Unit) -> Heap -> Prop) =>
LOOP (fun (r10 : (Int × Unit) × (Unit) -> Heap -> Prop) (s11 : (Int × Unit) × (Unit)) H3 =>
ifB (decide (s11.1.1 < (x7.len : Int))) (
JOIN (fun (j12 : (Unit) × (Unit) -> Heap -> Prop) =>
IDX x7.p x7.len s11.1.1 9 fun b14 o15 =>
LD T_G_api_Card H3 b14 o15 fun (x16 : G_api_Card) =>
JOIN (fun (j17 : (Unit) × (Unit) -> Heap -> Prop) =>
LOOP (fun (r19 : (Int × Unit) × (Unit) -> Heap -> Prop) (s20 : (Int × Unit) × (Unit)) H6 =>
ifB (decide (s20.1.1 < (x16.Parts.len : Int))) (
JOIN (fun (j21 : (Unit) × (Unit) -> Heap -> Prop) =>
IDX x16.Parts.p x16.Parts.len s20.1.1 8 fun b23 o24 =>
LD T_G_api_Part H6 b23 o24 fun (x25 : G_api_Part) =>
ifB (x25.Verb != 7) (
j21 ((()), (())) H6) (
CALL P [(T_int .i64)] n_book_Book_place [(.pointer a0), (.string x25.Name)] H6 fun (x26 : Int × Unit) H8 =>
ifB (decide (x26.1 < 0)) (
Q (6, ()) H8) (
NIL a0 fun b27 o28 =>
IDXA 64 x26.1 (
LD (T_int .u8) H8 b27 (o28 + 3 + x26.1.toNat * 9 + 2) fun (x29 : Int) =>
ifB (x29 == 2) (
Q (8, ()) H8) (
j21 ((()), (())) H8))))) fun (y22 : (Unit) × (Unit)) H7 =>
r19 ((IntKind.wrap .i64 (s20.1.1 + 1), ()), (())) H7) (
j17 ((()), (())) H6)) ((0, ()), (())) H3) fun (y18 : (Unit) × (Unit)) H5 =>
j12 ((()), (())) H5) fun (y13 : (Unit) × (Unit)) H4 =>
r10 ((IntKind.wrap .i64 (s11.1.1 + 1), ()), (())) H4) (
j8 ((()), (())) H3)) ((0, ()), (())) H1) fun (y9 : (Unit) × (Unit)) H2 =>
NIL a0 fun b30 o31 =>
ST H2 b30 (o31 + 1) [(.bool true)] fun H9 =>
Q (0, ()) H9)
def h_book_Book_Seal : Hnt := (.seq .leaf (.seq .leaf (.seq (.seq .leaf (.blk (some ⟨[], [], [2, 5, 7, 8, 23, 24, 25, 26, 27, 28, 29, 30, 31, 32, 33, 34, 35, 36, 37, 38, 39, 40, 41, 42, 43, 44, 45, 46, 47, 48, 49, 50, 51, 52, 53, 54]⟩) (.loop ⟨[(23, (T_int .i64))], [], [2, 5, 7, 8, 24, 25, 26, 27, 28, 29, 30, 31, 32, 33, 34, 35, 36, 37, 38, 39, 40, 41, 42, 43, 44, 45, 46, 47, 48, 49, 50, 51, 52, 53, 54]⟩ (.seq .leaf (.seq .leaf (.seq (.blk (some ⟨[], [], [2, 5, 7, 8, 25, 26, 27, 28, 29, 30, 31, 32, 33, 34, 35, 36, 37, 38, 39, 40, 41, 42, 43, 44, 45, 46, 47, 48, 49, 50, 51, 52, 53]⟩) (.seq .leaf (.seq .leaf (.blk (some ⟨[], [], [2, 7, 8, 30, 31, 32, 33, 34, 35, 36, 37, 38, 39, 40, 41, 42, 43, 44, 45, 46, 47, 48, 49, 50, 51, 52, 53]⟩) (.loop ⟨[(30, (T_int .i64))], [], [2, 7, 8, 31, 32, 33, 34, 35, 36, 37, 38, 39, 40, 41, 42, 43, 44, 45, 46, 47, 48, 49, 50, 51, 52, 53]⟩ (.seq .leaf (.seq .leaf (.seq (.blk (some ⟨[], [], [2, 7, 8, 32, 33, 34, 35, 36, 37, 38, 39, 40, 41, 42, 43, 44, 45, 46, 47, 48, 49, 50, 51, 52]⟩) .leaf) .leaf)))))))) .leaf)))))) .leaf)))
theorem e_book_Book_Seal (a0 : Option Addr) (H : Heap) (Q : Int × Unit -> Heap -> Prop) : S_book_Book_Seal a0 H Q = cFn C [5, 7] Tryz.f58.ntmps Tryz.f58.results.toList [(T_int .i64)] (bodyOf Tryz.f58) h_book_Book_Seal [(.pointer a0)] H Q := by kernel_rfl
theorem c_book_Book_Seal {a0 : Option Addr} {H : Heap} {Q : Int × Unit -> Heap -> Prop} (h : S_book_Book_Seal a0 H Q) : CALL P [(T_int .i64)] n_book_Book_Seal [(.pointer a0)] H Q := call_print hE Tryz.func58 rfl (by kernel_rfl) (e_book_Book_Seal a0 H Q) h
def S_ref07_Book_Seal (a0 : Option Addr) (H : Heap) (Q : Int × Unit -> Heap -> Prop) : Prop :=
CALL P [T_bool] n_ref07_Book_None [(.pointer a0)] H fun (x1 : Bool × Unit) H1 =>
ifB x1.1 (
Q (1, ()) H1) (
NIL a0 fun b2 o3 =>
LD T_bool H1 b2 (o3 + 1) fun (x4 : Bool) =>
ifB x4 (
Q (7, ()) H1) (
JOIN (fun (j5 : (Unit) × (Unit) -> Heap -> Prop) =>
LOOP (fun (r7 : (Int × Unit) × (Unit) -> Heap -> Prop) (s8 : (Int × Unit) × (Unit)) H3 =>
NIL a0 fun b9 o10 =>
LD T_sl H3 b9 (o10 + 2) fun (x11 : Sl) =>
ifB (decide (s8.1.1 < (x11.len : Int))) (
JOIN (fun (j12 : (Unit) × (Unit) -> Heap -> Prop) =>
JOIN (fun (j14 : (Unit) × (Unit) -> Heap -> Prop) =>
LOOP (fun (r16 : (Int × Unit) × (Unit) -> Heap -> Prop) (s17 : (Int × Unit) × (Unit)) H6 =>
NIL a0 fun b18 o19 =>
LD T_sl H6 b18 (o19 + 2) fun (x20 : Sl) =>
IDX x20.p x20.len s8.1.1 9 fun b21 o22 =>
LD T_sl H6 b21 (o22 + 8) fun (x23 : Sl) =>
ifB (decide (s17.1.1 < (x23.len : Int))) (
JOIN (fun (j24 : (Unit) × (Unit) -> Heap -> Prop) =>
NIL a0 fun b26 o27 =>
LD T_sl H6 b26 (o27 + 2) fun (x28 : Sl) =>
IDX x28.p x28.len s8.1.1 9 fun b29 o30 =>
LD T_sl H6 b29 (o30 + 8) fun (x31 : Sl) =>
IDX x31.p x31.len s17.1.1 8 fun b32 o33 =>
LD T_G_api_Part H6 b32 o33 fun (x34 : G_api_Part) =>
ifB (x34.Verb != 7) (
j24 ((()), (())) H6) (
CALL P [(T_int .i64)] n_ref07_Book_place [(.pointer a0), (.string x34.Name)] H6 fun (x35 : Int × Unit) H8 =>
ifB (decide (x35.1 < 0)) (
Q (6, ()) H8) (
NIL a0 fun b36 o37 =>
LD T_sl H8 b36 (o37 + 2) fun (x38 : Sl) =>
IDX x38.p x38.len x35.1 9 fun b39 o40 =>
LD (T_int .u8) H8 b39 (o40 + 2) fun (x41 : Int) =>
ifB (x41 == 2) (
Q (8, ()) H8) (
j24 ((()), (())) H8)))) fun (y25 : (Unit) × (Unit)) H7 =>
r16 ((IntKind.wrap .i64 (s17.1.1 + 1), ()), (())) H7) (
j14 ((()), (())) H6)) ((0, ()), (())) H3) fun (y15 : (Unit) × (Unit)) H5 =>
j12 ((()), (())) H5) fun (y13 : (Unit) × (Unit)) H4 =>
r7 ((IntKind.wrap .i64 (s8.1.1 + 1), ()), (())) H4) (
j5 ((()), (())) H3)) ((0, ()), (())) H1) fun (y6 : (Unit) × (Unit)) H2 =>
NIL a0 fun b42 o43 =>
ST H2 b42 (o43 + 1) [(.bool true)] fun H9 =>
Q (0, ()) H9))
def h_ref07_Book_Seal : Hnt := (.seq .leaf (.seq .leaf (.seq .leaf (.seq (.seq .leaf (.blk (some ⟨[], [], [2, 3, 4, 5, 6, 13, 14, 15, 16, 17, 18, 19, 20, 21, 22, 23, 24, 25, 26, 27, 28, 29, 30, 31, 32, 33, 34, 35, 36, 37, 38, 39, 40, 41, 42, 43, 44, 45, 46, 47, 48, 49, 50, 51, 52, 53, 54, 55, 56, 57, 58, 59, 60, 61, 62, 63]⟩) (.loop ⟨[(3, (T_int .i64))], [], [2, 4, 5, 6, 13, 14, 15, 16, 17, 18, 19, 20, 21, 22, 23, 24, 25, 26, 27, 28, 29, 30, 31, 32, 33, 34, 35, 36, 37, 38, 39, 40, 41, 42, 43, 44, 45, 46, 47, 48, 49, 50, 51, 52, 53, 54, 55, 56, 57, 58, 59, 60, 61, 62, 63]⟩ (.seq .leaf (.seq (.blk (some ⟨[], [], [2, 4, 5, 6, 22, 23, 24, 25, 26, 27, 28, 29, 30, 31, 32, 33, 34, 35, 36, 37, 38, 39, 40, 41, 42, 43, 44, 45, 46, 47, 48, 49, 50, 51, 52, 53, 54, 55, 56, 57, 58, 59, 60, 61, 62, 63]⟩) (.seq .leaf (.blk (some ⟨[], [], [2, 4, 5, 6, 22, 23, 24, 25, 26, 27, 28, 29, 30, 31, 32, 33, 34, 35, 36, 37, 38, 39, 40, 41, 42, 43, 44, 45, 46, 47, 48, 49, 50, 51, 52, 53, 54, 55, 56, 57, 58, 59, 60, 61, 62, 63]⟩) (.loop ⟨[(4, (T_int .i64))], [], [2, 5, 6, 22, 23, 24, 25, 26, 27, 28, 29, 30, 31, 32, 33, 34, 35, 36, 37, 38, 39, 40, 41, 42, 43, 44, 45, 46, 47, 48, 49, 50, 51, 52, 53, 54, 55, 56, 57, 58, 59, 60, 61, 62, 63]⟩ (.seq .leaf (.seq (.blk (some ⟨[], [], [2, 5, 6, 35, 36, 37, 38, 39, 40, 41, 42, 43, 44, 45, 46, 47, 48, 49, 50, 51, 52, 53, 54, 55, 56, 57, 58, 59, 60, 61, 62, 63]⟩) .leaf) .leaf)))))) .leaf))))) .leaf))))
theorem e_ref07_Book_Seal (a0 : Option Addr) (H : Heap) (Q : Int × Unit -> Heap -> Prop) : S_ref07_Book_Seal a0 H Q = cFn C [5] Tryz.f59.ntmps Tryz.f59.results.toList [(T_int .i64)] (bodyOf Tryz.f59) h_ref07_Book_Seal [(.pointer a0)] H Q := by kernel_rfl
theorem c_ref07_Book_Seal {a0 : Option Addr} {H : Heap} {Q : Int × Unit -> Heap -> Prop} (h : S_ref07_Book_Seal a0 H Q) : CALL P [(T_int .i64)] n_ref07_Book_Seal [(.pointer a0)] H Q := call_print hE Tryz.func59 rfl (by kernel_rfl) (e_ref07_Book_Seal a0 H Q) h
def S_book_Book_Sealed (a0 : Option Addr) (H : Heap) (Q : Bool × Unit -> Heap -> Prop) : Prop :=
CALL P [T_bool] n_book_Book_none [(.pointer a0)] H fun (x1 : Bool × Unit) H1 =>
ifB x1.1 (
Q (false, ()) H1) (
NIL a0 fun b2 o3 =>
LD T_bool H1 b2 (o3 + 1) fun (x4 : Bool) =>
Q (x4, ()) H1)
def h_book_Book_Sealed : Hnt := .leaf
theorem e_book_Book_Sealed (a0 : Option Addr) (H : Heap) (Q : Bool × Unit -> Heap -> Prop) : S_book_Book_Sealed a0 H Q = cFn C [] Tryz.f60.ntmps Tryz.f60.results.toList [T_bool] (bodyOf Tryz.f60) h_book_Book_Sealed [(.pointer a0)] H Q := by kernel_rfl
theorem c_book_Book_Sealed {a0 : Option Addr} {H : Heap} {Q : Bool × Unit -> Heap -> Prop} (h : S_book_Book_Sealed a0 H Q) : CALL P [T_bool] n_book_Book_Sealed [(.pointer a0)] H Q := call_print hE Tryz.func60 rfl (by kernel_rfl) (e_book_Book_Sealed a0 H Q) h
def S_ref07_Book_Sealed (a0 : Option Addr) (H : Heap) (Q : Bool × Unit -> Heap -> Prop) : Prop :=
JOIN (fun (j1 : (Bool × Unit) × (Unit) -> Heap -> Prop) =>
CALL P [T_bool] n_ref07_Book_None [(.pointer a0)] H fun (x3 : Bool × Unit) H2 =>
ifB (!x3.1) (
NIL a0 fun b4 o5 =>
LD T_bool H2 b4 (o5 + 1) fun (x6 : Bool) =>
j1 ((x6, ()), (())) H2) (
j1 ((false, ()), (())) H2)) fun (y2 : (Bool × Unit) × (Unit)) H1 =>
Q (y2.1.1, ()) H1
def h_ref07_Book_Sealed : Hnt := (.seq .leaf (.seq (.reg ⟨[(2, T_bool)], [], [3, 4, 5, 6, 7, 8, 9, 10, 11]⟩) .leaf))
theorem e_ref07_Book_Sealed (a0 : Option Addr) (H : Heap) (Q : Bool × Unit -> Heap -> Prop) : S_ref07_Book_Sealed a0 H Q = cFn C [] Tryz.f61.ntmps Tryz.f61.results.toList [T_bool] (bodyOf Tryz.f61) h_ref07_Book_Sealed [(.pointer a0)] H Q := by kernel_rfl
theorem c_ref07_Book_Sealed {a0 : Option Addr} {H : Heap} {Q : Bool × Unit -> Heap -> Prop} (h : S_ref07_Book_Sealed a0 H Q) : CALL P [T_bool] n_ref07_Book_Sealed [(.pointer a0)] H Q := call_print hE Tryz.func61 rfl (by kernel_rfl) (e_ref07_Book_Sealed a0 H Q) h
def S_trait_Has (a0 : Int) (a1 : Int) (H : Heap) (Q : Bool × Unit -> Heap -> Prop) : Prop :=
CALL P [(T_int .u16)] n_trait_bit [(.int .u8 a1)] H fun (x1 : Int × Unit) H1 =>
Q ((IntKind.wrap .u16 (((BitVec.ofInt (IntKind.bits .u16) a0 &&& BitVec.ofInt (IntKind.bits .u16) x1.1).toNat : Int))) != 0, ()) H1
def h_trait_Has : Hnt := .leaf
theorem e_trait_Has (a0 : Int) (a1 : Int) (H : Heap) (Q : Bool × Unit -> Heap -> Prop) : S_trait_Has a0 a1 H Q = cFn C [] Tryz.f67.ntmps Tryz.f67.results.toList [T_bool] (bodyOf Tryz.f67) h_trait_Has [(.int .u16 a0), (.int .u8 a1)] H Q := by kernel_rfl
theorem c_trait_Has {a0 : Int} {a1 : Int} {H : Heap} {Q : Bool × Unit -> Heap -> Prop} (h : S_trait_Has a0 a1 H Q) : CALL P [T_bool] n_trait_Has [(.int .u16 a0), (.int .u8 a1)] H Q := call_print hE Tryz.func67 rfl (by kernel_rfl) (e_trait_Has a0 a1 H Q) h
def S_thing_Card (a0 : Option Addr) (a1 : G_api_Thing) (H : Heap) (Q : G_api_Card × Int × Unit -> Heap -> Prop) : Prop :=
CALL P [T_G_api_Card, (T_int .i64)] n_book_Book_At [(.pointer a0), (.int .i64 a1.Card)] H fun (x1 : G_api_Card × Int × Unit) H1 =>
Q (x1.1, x1.2.1, ()) H1
def h_thing_Card : Hnt := .leaf
theorem e_thing_Card (a0 : Option Addr) (a1 : G_api_Thing) (H : Heap) (Q : G_api_Card × Int × Unit -> Heap -> Prop) : S_thing_Card a0 a1 H Q = cFn C [3, 4] Tryz.f71.ntmps Tryz.f71.results.toList [T_G_api_Card, (T_int .i64)] (bodyOf Tryz.f71) h_thing_Card [(.pointer a0), (T_G_api_Thing.enc a1)] H Q := by kernel_rfl
theorem c_thing_Card {a0 : Option Addr} {a1 : G_api_Thing} {H : Heap} {Q : G_api_Card × Int × Unit -> Heap -> Prop} (h : S_thing_Card a0 a1 H Q) : CALL P [T_G_api_Card, (T_int .i64)] n_thing_Card [(.pointer a0), (T_G_api_Thing.enc a1)] H Q := call_print hE Tryz.func71 rfl (by kernel_rfl) (e_thing_Card a0 a1 H Q) h
def S_kit_SameThings (a0 : Sl) (a1 : Sl) (H : Heap) (Q : Bool × Unit -> Heap -> Prop) : Prop :=
ifB ((a0.len : Int) != (a1.len : Int)) (
Q (false, ()) H) (
JOIN (fun (j1 : (Unit) × (Unit) -> Heap -> Prop) =>
LOOP (fun (r3 : (Int × Unit) × (Unit) -> Heap -> Prop) (s4 : (Int × Unit) × (Unit)) H2 =>
ifB (decide (s4.1.1 < (a0.len : Int))) (
IDX a0.p a0.len s4.1.1 11 fun b5 o6 =>
LD T_G_api_Thing H2 b5 o6 fun (x7 : G_api_Thing) =>
IDX a1.p a1.len s4.1.1 11 fun b8 o9 =>
LD T_G_api_Thing H2 b8 o9 fun (x10 : G_api_Thing) =>
ifB (!((x7.Card == x10.Card) && ((x7.Owner == x10.Owner) && ((x7.Place == x10.Place) && ((x7.Stamp == x10.Stamp) && ((x7.Hurt == x10.Hurt) && (((x7.Marks.1 == x10.Marks.1) && ((x7.Marks.2.1 == x10.Marks.2.1) && ((x7.Marks.2.2.1 == x10.Marks.2.2.1) && ((x7.Marks.2.2.2 == x10.Marks.2.2.2) && true)))) && ((x7.Done == x10.Done) && ((x7.Fresh == x10.Fresh) && true))))))))) (
Q (false, ()) H2) (
r3 ((IntKind.wrap .i64 (s4.1.1 + 1), ()), (())) H2)) (
j1 ((()), (())) H2)) ((0, ()), (())) H) fun (y2 : (Unit) × (Unit)) H1 =>
Q (true, ()) H1)
def h_kit_SameThings : Hnt := (.seq .leaf (.seq .leaf (.seq (.seq .leaf (.blk (some ⟨[], [], [4, 5, 11, 12, 13, 14, 15, 16, 17, 18, 19, 20, 21, 22, 23, 24, 25]⟩) (.loop ⟨[(5, (T_int .i64))], [], [4, 11, 12, 13, 14, 15, 16, 17, 18, 19, 20, 21, 22, 23, 24, 25]⟩ .leaf))) .leaf)))
theorem e_kit_SameThings (a0 : Sl) (a1 : Sl) (H : Heap) (Q : Bool × Unit -> Heap -> Prop) : S_kit_SameThings a0 a1 H Q = cFn C [] Tryz.f75.ntmps Tryz.f75.results.toList [T_bool] (bodyOf Tryz.f75) h_kit_SameThings [a0.v, a1.v] H Q := by kernel_rfl
theorem c_kit_SameThings {a0 : Sl} {a1 : Sl} {H : Heap} {Q : Bool × Unit -> Heap -> Prop} (h : S_kit_SameThings a0 a1 H Q) : CALL P [T_bool] n_kit_SameThings [a0.v, a1.v] H Q := call_print hE Tryz.func75 rfl (by kernel_rfl) (e_kit_SameThings a0 a1 H Q) h
def S_kit_markInts (a0 : Int) (a1 : Int) (H : Heap) (Q : Int × Unit -> Heap -> Prop) : Prop :=
Q (IntKind.wrap .i64 ((IntKind.wrap .i64 ((IntKind.wrap .i64 ((-1000003) * a0)) - a1)) - 5), ()) H
def h_kit_markInts : Hnt := .leaf
theorem e_kit_markInts (a0 : Int) (a1 : Int) (H : Heap) (Q : Int × Unit -> Heap -> Prop) : S_kit_markInts a0 a1 H Q = cFn C [] Tryz.f76.ntmps Tryz.f76.results.toList [(T_int .i64)] (bodyOf Tryz.f76) h_kit_markInts [(.int .i64 a0), (.int .i64 a1)] H Q := by kernel_rfl
theorem c_kit_markInts {a0 : Int} {a1 : Int} {H : Heap} {Q : Int × Unit -> Heap -> Prop} (h : S_kit_markInts a0 a1 H Q) : CALL P [(T_int .i64)] n_kit_markInts [(.int .i64 a0), (.int .i64 a1)] H Q := call_print hE Tryz.func76 rfl (by kernel_rfl) (e_kit_markInts a0 a1 H Q) h
def S_layer_setup (a0 : Option Addr) (a1 : Sl) (a2 : Sl) (H : Heap) (Q : G_layer_place × Int × Unit -> Heap -> Prop) : Prop :=
NEW H [(.slice a1.p a1.len a1.cap)] 1 fun H1 =>
LD T_sl H1 H.length 0 fun (x1 : Sl) =>
LD T_sl H1 H.length 0 fun (x2 : Sl) =>
GEN T_sl (aMakeSlice E 22 (.int .i64 (x2.len : Int)) (.int .i64 (x2.len : Int)) H1) fun (x3 : Sl) H2 =>
LD T_sl H2 H.length 0 fun (x4 : Sl) =>
REQ (T_sl.enc x4 = x1.v) (
CALL P [(T_int .i64), (T_int .i64)] n_book_Book_Find [(.pointer a0), (.string (ByteArray.mk #[]))] H2 fun (x5 : Int × Int × Unit) H3 =>
ifB (x5.2.1 == 1) (
Q ((G_layer_place.mk a0 x1 x3 (Sl.mk none 0 0)), x5.2.1, ()) H3) (
LD T_sl H3 H.length 0 fun (x6 : Sl) =>
ifB (decide ((x6.len : Int) > 2048)) (
Q ((G_layer_place.mk a0 x1 x3 (Sl.mk none 0 0)), 3, ()) H3) (
JOIN (fun (j7 : (Bool × Unit) × (Unit) -> Heap -> Prop) =>
CALL P [T_bool] n_book_Book_Sealed [(.pointer a0)] H3 fun (x9 : Bool × Unit) H5 =>
ifB (!x9.1) (
j7 ((true, ()), (())) H5) (
LD T_sl H5 H.length 0 fun (x10 : Sl) =>
j7 (((a2.len : Int) != (x10.len : Int), ()), (())) H5)) fun (y8 : (Bool × Unit) × (Unit)) H4 =>
ifB y8.1.1 (
Q ((G_layer_place.mk a0 x1 x3 (Sl.mk none 0 0)), 2, ()) H4) (
LD T_sl H4 H.length 0 fun (x11 : Sl) =>
JOIN (fun (j12 : (Unit) × (G_layer_place × G_layer_place × Unit) -> Heap -> Prop) =>
LOOP (fun (r14 : (Int × Unit) × (G_layer_place × G_layer_place × Unit) -> Heap -> Prop) (s15 : (Int × Unit) × (G_layer_place × G_layer_place × Unit)) H7 =>
ifB (decide (s15.1.1 < (x11.len : Int))) (
JOIN (fun (j16 : (Unit) × (G_layer_place × G_layer_place × Unit) -> Heap -> Prop) =>
IDX x11.p x11.len s15.1.1 11 fun b18 o19 =>
LD T_G_api_Thing H7 b18 o19 fun (x20 : G_api_Thing) =>
CALL P [T_G_api_Card, (T_int .i64)] n_thing_Card [(.pointer a0), (T_G_api_Thing.enc x20)] H7 fun (x21 : G_api_Card × Int × Unit) H9 =>
JOIN (fun (j22 : (Bool × Unit) × (Unit) -> Heap -> Prop) =>
ifB (x21.2.1 != 0) (
j22 ((true, ()), (())) H9) (
ifB (x20.Owner != 0) (
ifB (x20.Owner != 1) (
j22 ((true, ()), (())) H9) (
ifB (decide (x20.Place < 1)) (
j22 ((true, ()), (())) H9) (
j22 ((decide (x20.Place > 5), ()), (())) H9))) (
ifB (decide (x20.Place < 1)) (
j22 ((true, ()), (())) H9) (
j22 ((decide (x20.Place > 5), ()), (())) H9)))) fun (y23 : (Bool × Unit) × (Unit)) H10 =>
ifB y23.1.1 (
Q (s15.2.2.1, 2, ()) H10) (
ifB (x20.Place != 4) (
j16 ((()), (s15.2.1, s15.2.2.1, ())) H10) (
JOIN (fun (j24 : (Bool × Unit) × (Unit) -> Heap -> Prop) =>
ifB (x21.1.Kind == 2) (
j24 ((true, ()), (())) H10) (
ifB (decide (x20.Stamp < 1)) (
j24 ((true, ()), (())) H10) (
IDX a2.p a2.len s15.1.1 5 fun b26 o27 =>
LD (T_int .i64) H10 b26 (o27 + 0) fun (x28 : Int) =>
ifB (x28 != 0) (
IDX a2.p a2.len s15.1.1 5 fun b29 o30 =>
LD (T_int .i64) H10 b29 (o30 + 0) fun (x31 : Int) =>
ifB (x31 != 1) (
j24 ((true, ()), (())) H10) (
IDX a2.p a2.len s15.1.1 5 fun b32 o33 =>
LD (T_int .u16) H10 b32 (o33 + 2) fun (x34 : Int) =>
CALL P [T_bool] n_trait_Check [(.int .u16 x34)] H10 fun (x35 : Bool × Unit) H12 =>
j24 ((!x35.1, ()), (())) H12)) (
IDX a2.p a2.len s15.1.1 5 fun b36 o37 =>
LD (T_int .u16) H10 b36 (o37 + 2) fun (x38 : Int) =>
CALL P [T_bool] n_trait_Check [(.int .u16 x38)] H10 fun (x39 : Bool × Unit) H13 =>
j24 ((!x39.1, ()), (())) H13)))) fun (y25 : (Bool × Unit) × (Unit)) H11 =>
ifB y25.1.1 (
Q (s15.2.2.1, 2, ()) H11) (
IDX s15.2.2.1.cards.p s15.2.2.1.cards.len s15.1.1 9 fun b40 o41 =>
ST H11 b40 o41 (T_G_api_Card.cells x21.1) fun H14 =>
APP T_sl (lenV s15.2.2.1.order.v + 1) (aAppE E [35, 35] s15.2.2.1.order.v 1 [(.int .i64 s15.1.1)] H14) fun (x42 : Sl) H15 =>
ifB (decide ((x42.len : Int) > 16)) (
Q ((G_layer_place.mk s15.2.2.1.b s15.2.2.1.things s15.2.2.1.cards x42), 2, ()) H15) (
j16 ((()), (s15.2.1, (G_layer_place.mk s15.2.2.1.b s15.2.2.1.things s15.2.2.1.cards x42), ())) H15))))) fun (y17 : (Unit) × (G_layer_place × G_layer_place × Unit)) H8 =>
r14 ((IntKind.wrap .i64 (s15.1.1 + 1), ()), (y17.2.1, y17.2.2.1, ())) H8) (
j12 ((()), (s15.2.1, s15.2.2.1, ())) H7)) ((0, ()), ((G_layer_place.mk none (Sl.mk none 0 0) (Sl.mk none 0 0) (Sl.mk none 0 0)), (G_layer_place.mk a0 x1 x3 (Sl.mk none 0 0)), ())) H4) fun (y13 : (Unit) × (G_layer_place × G_layer_place × Unit)) H6 =>
CALL P [] n_slices_SortFunc_int_int [y13.2.2.1.order.v, (.func (.func n_layer_setup_1) #[] #[(.pointer (some ⟨H.length, 0, none⟩))])] H6 fun (x43 : Unit) H16 =>
JOIN (fun (j44 : (Unit) × (G_layer_place × Unit) -> Heap -> Prop) =>
LOOP (fun (r46 : (Int × Unit) × (G_layer_place × Unit) -> Heap -> Prop) (s47 : (Int × Unit) × (G_layer_place × Unit)) H18 =>
ifB (decide (s47.1.1 < (y13.2.2.1.order.len : Int))) (
LD T_sl H18 H.length 0 fun (x48 : Sl) =>
IDX y13.2.2.1.order.p y13.2.2.1.order.len (IntKind.wrap .i64 (s47.1.1 - 1)) 1 fun b49 o50 =>
LD (T_int .i64) H18 b49 o50 fun (x51 : Int) =>
IDX x48.p x48.len x51 11 fun b52 o53 =>
LD (T_int .i64) H18 b52 (o53 + 3) fun (x54 : Int) =>
LD T_sl H18 H.length 0 fun (x55 : Sl) =>
IDX y13.2.2.1.order.p y13.2.2.1.order.len s47.1.1 1 fun b56 o57 =>
LD (T_int .i64) H18 b56 o57 fun (x58 : Int) =>
IDX x55.p x55.len x58 11 fun b59 o60 =>
LD (T_int .i64) H18 b59 (o60 + 3) fun (x61 : Int) =>
ifB (x54 == x61) (
Q (y13.2.2.1, 2, ()) H18) (
r46 ((IntKind.wrap .i64 (s47.1.1 + 1), ()), (s47.2.1, ())) H18)) (
j44 ((()), (s47.2.1, ())) H18)) ((1, ()), (y13.2.1, ())) H16) fun (y45 : (Unit) × (G_layer_place × Unit)) H17 =>
Q (y13.2.2.1, 0, ()) H17))))
def h_layer_setup : Hnt := (.seq .leaf (.seq .leaf (.seq (.seq .leaf (.blk none (.seq .leaf (.cond none .leaf (.seq .leaf (.cond none .leaf (.seq (.reg ⟨[(37, T_bool)], [], [38, 39, 40, 41, 42, 43, 44, 45, 46, 47]⟩) .leaf))))))) (.seq (.seq .leaf (.blk (some ⟨[], [(0, T_G_layer_place), (1, T_G_layer_place)], [7, 11, 12, 13, 14, 51, 52, 53, 54, 55, 56, 57, 58, 59, 60, 61, 62, 63, 64, 65, 66, 67, 68, 69, 70, 71, 72, 73, 74, 75, 76, 77, 78, 79, 80, 81, 82, 83, 84, 85, 86, 87, 88, 89, 90, 91, 92, 93, 94, 95, 96, 97, 98, 99, 100, 101, 102, 103, 104, 105, 106, 107, 108, 109, 110, 111, 112, 113, 114, 115, 116, 117, 118, 119, 120, 121, 122, 123, 124, 125, 126, 127, 128, 129, 130, 131, 132, 133, 134, 135, 136, 137, 138]⟩) (.loop ⟨[(51, (T_int .i64))], [(0, T_G_layer_place), (1, T_G_layer_place)], [7, 11, 12, 13, 14, 52, 53, 54, 55, 56, 57, 58, 59, 60, 61, 62, 63, 64, 65, 66, 67, 68, 69, 70, 71, 72, 73, 74, 75, 76, 77, 78, 79, 80, 81, 82, 83, 84, 85, 86, 87, 88, 89, 90, 91, 92, 93, 94, 95, 96, 97, 98, 99, 100, 101, 102, 103, 104, 105, 106, 107, 108, 109, 110, 111, 112, 113, 114, 115, 116, 117, 118, 119, 120, 121, 122, 123, 124, 125, 126, 127, 128, 129, 130, 131, 132, 133, 134, 135, 136, 137, 138]⟩ (.seq .leaf (.seq .leaf (.seq (.blk (some ⟨[], [(0, T_G_layer_place), (1, T_G_layer_place)], [7, 11, 12, 13, 14, 53, 54, 55, 56, 57, 58, 59, 60, 61, 62, 63, 64, 65, 66, 67, 68, 69, 70, 71, 72, 73, 74, 75, 76, 77, 78, 79, 80, 81, 82, 83, 84, 85, 86, 87, 88, 89, 90, 91, 92, 93, 94, 95, 96, 97, 98, 99, 100, 101, 102, 103, 104, 105, 106, 107, 108, 109, 110, 111, 112, 113, 114, 115, 116, 117, 118, 119, 120, 121, 122, 123, 124, 125, 126, 127, 128, 129, 130, 131, 132, 133, 134, 135, 136, 137]⟩) (.seq .leaf (.seq .leaf (.seq (.seq (.reg ⟨[(83, T_bool)], [], [62, 63, 64, 65, 66, 67, 68, 69, 70, 71, 72, 73, 74, 75, 76, 77, 78, 79, 80, 81, 82]⟩) .leaf) (.seq .leaf (.seq (.seq (.reg ⟨[(120, T_bool)], [], [88, 89, 90, 91, 92, 93, 94, 95, 96, 97, 98, 99, 100, 101, 102, 103, 104, 105, 106, 107, 108, 109, 110, 111, 112, 113, 114, 115, 116, 117, 118, 119]⟩) .leaf) .leaf)))))) .leaf)))))) (.seq .leaf (.seq (.seq .leaf (.blk (some ⟨[], [(0, T_G_layer_place)], [7, 15, 143, 144, 145, 146, 147, 148, 149, 150, 151, 152, 153, 154, 155, 156, 157, 158, 159, 160, 161, 162, 163, 164, 165, 166, 167, 168, 169, 170]⟩) (.loop ⟨[(15, (T_int .i64))], [(0, T_G_layer_place)], [7, 143, 144, 145, 146, 147, 148, 149, 150, 151, 152, 153, 154, 155, 156, 157, 158, 159, 160, 161, 162, 163, 164, 165, 166, 167, 168, 169, 170]⟩ .leaf))) .leaf))))))
theorem e_layer_setup (a0 : Option Addr) (a1 : Sl) (a2 : Sl) (H : Heap) (Q : G_layer_place × Int × Unit -> Heap -> Prop) : S_layer_setup a0 a1 a2 H Q = cFn C [6, 8, 12, 13, 130] Tryz.f78.ntmps Tryz.f78.results.toList [T_G_layer_place, (T_int .i64)] (bodyOf Tryz.f78) h_layer_setup [(.pointer a0), a1.v, a2.v] H Q := by kernel_rfl
theorem c_layer_setup {a0 : Option Addr} {a1 : Sl} {a2 : Sl} {H : Heap} {Q : G_layer_place × Int × Unit -> Heap -> Prop} (h : S_layer_setup a0 a1 a2 H Q) : CALL P [T_G_layer_place, (T_int .i64)] n_layer_setup [(.pointer a0), a1.v, a2.v] H Q := call_print hE Tryz.func78 rfl (by kernel_rfl) (e_layer_setup a0 a1 a2 H Q) h
def S_slices_Clone_api_Feature_api_Feature (a0 : Sl) (H : Heap) (Q : Sl × Unit -> Heap -> Prop) : Prop :=
ifB a0.p.isNone (
Q ((Sl.mk none 0 0), ()) H) (
NEW H [] 5 fun H1 =>
APP T_sl (lenV ((Sl.mk (some ⟨H.length, 0, none⟩) 0 0)).v + (lenX a0.v).getD 0) (aAppendE E [27, 27] ((Sl.mk (some ⟨H.length, 0, none⟩) 0 0)).v a0.v H1) fun (x1 : Sl) H2 =>
Q (x1, ()) H2)
def h_slices_Clone_api_Feature_api_Feature : Hnt := .leaf
theorem e_slices_Clone_api_Feature_api_Feature (a0 : Sl) (H : Heap) (Q : Sl × Unit -> Heap -> Prop) : S_slices_Clone_api_Feature_api_Feature a0 H Q = cFn C [] Tryz.f79.ntmps Tryz.f79.results.toList [T_sl] (bodyOf Tryz.f79) h_slices_Clone_api_Feature_api_Feature [a0.v] H Q := by kernel_rfl
theorem c_slices_Clone_api_Feature_api_Feature {a0 : Sl} {H : Heap} {Q : Sl × Unit -> Heap -> Prop} (h : S_slices_Clone_api_Feature_api_Feature a0 H Q) : CALL P [T_sl] n_slices_Clone_api_Feature_api_Feature [a0.v] H Q := call_print hE Tryz.func79 rfl (by kernel_rfl) (e_slices_Clone_api_Feature_api_Feature a0 H Q) h
def S_layer_place_next (a0 : G_layer_place) (a1 : Sl) (a2 : Sl) (H : Heap) (Q : Int × Unit -> Heap -> Prop) : Prop :=
JOIN (fun (j1 : (Int × Int × Unit) × (Unit) -> Heap -> Prop) =>
LOOP (fun (r3 : (Int × Int × Int × Unit) × (Unit) -> Heap -> Prop) (s4 : (Int × Int × Int × Unit) × (Unit)) H2 =>
ifB (decide (s4.1.2.2.1 < (a2.len : Int))) (
JOIN (fun (j5 : (Int × Int × Unit) × (Unit) -> Heap -> Prop) =>
IDX a2.p a2.len s4.1.2.2.1 10 fun b7 o8 =>
LD T_G_api_Standing H2 b7 o8 fun (x9 : G_api_Standing) =>
JOIN (fun (j10 : (Bool × Unit) × (Unit) -> Heap -> Prop) =>
ifB (decide (s4.1.2.1 < 0)) (
j10 ((true, ()), (())) H2) (
IDX a2.p a2.len s4.1.2.1 10 fun b12 o13 =>
LD T_G_api_Standing H2 b12 o13 fun (x14 : G_api_Standing) =>
CALL P [T_bool] n_layer_place_ahead [(T_G_layer_place.enc a0), (T_G_api_Standing.enc x9), (T_G_api_Standing.enc x14)] H2 fun (x15 : Bool × Unit) H5 =>
j10 ((x15.1, ()), (())) H5)) fun (y11 : (Bool × Unit) × (Unit)) H4 =>
JOIN (fun (j16 : (Int × Unit) × (Unit) -> Heap -> Prop) =>
ifB y11.1.1 (
j16 ((s4.1.2.2.1, ()), (())) H4) (
j16 ((s4.1.2.1, ()), (())) H4)) fun (y17 : (Int × Unit) × (Unit)) H6 =>
JOIN (fun (j18 : (Unit) × (Unit) -> Heap -> Prop) =>
LOOP (fun (r20 : (Int × Unit) × (Unit) -> Heap -> Prop) (s21 : (Int × Unit) × (Unit)) H8 =>
ifB (decide (s21.1.1 < (a2.len : Int))) (
IDX a2.p a2.len s21.1.1 10 fun b22 o23 =>
LD T_G_api_Standing H8 b22 o23 fun (x24 : G_api_Standing) =>
JOIN (fun (j25 : (Bool × Unit) × (Unit) -> Heap -> Prop) =>
ifB (s21.1.1 != s4.1.2.2.1) (
CALL P [T_bool] n_layer_place_depends [(T_G_layer_place.enc a0), a1.v, (T_G_api_Standing.enc x9), (T_G_api_Standing.enc x24)] H8 fun (x27 : Bool × Unit) H10 =>
j25 ((x27.1, ()), (())) H10) (
j25 ((false, ()), (())) H8)) fun (y26 : (Bool × Unit) × (Unit)) H9 =>
ifB y26.1.1 (
j5 ((s4.1.1, y17.1.1, ()), (())) H9) (
r20 ((IntKind.wrap .i64 (s21.1.1 + 1), ()), (())) H9)) (
j18 ((()), (())) H8)) ((0, ()), (())) H6) fun (y19 : (Unit) × (Unit)) H7 =>
JOIN (fun (j28 : (Bool × Unit) × (Unit) -> Heap -> Prop) =>
ifB (decide (s4.1.1 < 0)) (
j28 ((true, ()), (())) H7) (
IDX a2.p a2.len s4.1.1 10 fun b30 o31 =>
LD T_G_api_Standing H7 b30 o31 fun (x32 : G_api_Standing) =>
CALL P [T_bool] n_layer_place_ahead [(T_G_layer_place.enc a0), (T_G_api_Standing.enc x9), (T_G_api_Standing.enc x32)] H7 fun (x33 : Bool × Unit) H12 =>
j28 ((x33.1, ()), (())) H12)) fun (y29 : (Bool × Unit) × (Unit)) H11 =>
JOIN (fun (j34 : (Int × Unit) × (Unit) -> Heap -> Prop) =>
ifB y29.1.1 (
j34 ((s4.1.2.2.1, ()), (())) H11) (
j34 ((s4.1.1, ()), (())) H11)) fun (y35 : (Int × Unit) × (Unit)) H13 =>
j5 ((y35.1.1, y17.1.1, ()), (())) H13) fun (y6 : (Int × Int × Unit) × (Unit)) H3 =>
r3 ((y6.1.1, y6.1.2.1, IntKind.wrap .i64 (s4.1.2.2.1 + 1), ()), (())) H3) (
j1 ((s4.1.1, s4.1.2.1, ()), (())) H2)) (((-1), (-1), 0, ()), (())) H) fun (y2 : (Int × Int × Unit) × (Unit)) H1 =>
ifB (decide (y2.1.1 ≥ 0)) (
Q (y2.1.1, ()) H1) (
Q (y2.1.2.1, ()) H1)
def h_layer_place_next : Hnt := (.seq .leaf (.seq .leaf (.seq .leaf (.seq (.seq .leaf (.blk (some ⟨[(7, (T_int .i64)), (8, (T_int .i64))], [], [9, 10, 11, 12, 15, 16, 17, 18, 19, 20, 21, 22, 23, 24, 25, 26, 27, 28, 29, 30, 31, 32, 33, 34, 35, 36, 37, 38, 39, 40, 41, 42, 43, 44, 45, 46, 47, 48, 49, 50, 51, 52, 53, 54, 55, 56, 57, 58, 59, 60, 61, 62]⟩) (.loop ⟨[(7, (T_int .i64)), (8, (T_int .i64)), (15, (T_int .i64))], [], [9, 10, 11, 12, 16, 17, 18, 19, 20, 21, 22, 23, 24, 25, 26, 27, 28, 29, 30, 31, 32, 33, 34, 35, 36, 37, 38, 39, 40, 41, 42, 43, 44, 45, 46, 47, 48, 49, 50, 51, 52, 53, 54, 55, 56, 57, 58, 59, 60, 61, 62]⟩ (.seq .leaf (.seq .leaf (.seq (.blk (some ⟨[(7, (T_int .i64)), (8, (T_int .i64))], [], [9, 10, 11, 12, 17, 18, 19, 20, 21, 22, 23, 24, 25, 26, 27, 28, 29, 30, 31, 32, 33, 34, 35, 36, 37, 38, 39, 40, 41, 42, 43, 44, 45, 46, 47, 48, 49, 50, 51, 52, 53, 54, 55, 56, 57, 58, 59, 60, 61]⟩) (.seq .leaf (.seq (.seq (.reg ⟨[(30, T_bool)], [], [20, 21, 22, 23, 24, 25, 26, 27, 28, 29]⟩) (.cond (some ⟨[(8, (T_int .i64))], [], [31]⟩) .leaf .leaf)) (.seq (.seq .leaf (.blk (some ⟨[], [], [11, 12, 34, 35, 36, 37, 38, 39, 40, 41, 42, 43, 44, 45, 46, 47, 48, 49]⟩) (.loop ⟨[(34, (T_int .i64))], [], [11, 12, 35, 36, 37, 38, 39, 40, 41, 42, 43, 44, 45, 46, 47, 48, 49]⟩ (.seq .leaf (.seq .leaf (.seq (.blk none (.seq .leaf (.seq (.reg ⟨[(48, T_bool)], [], [39, 40, 41, 42, 43, 44, 45, 46, 47]⟩) .leaf))) .leaf)))))) (.seq (.reg ⟨[(60, T_bool)], [], [50, 51, 52, 53, 54, 55, 56, 57, 58, 59]⟩) (.cond (some ⟨[(7, (T_int .i64))], [], [61]⟩) .leaf .leaf)))))) .leaf)))))) .leaf))))
theorem e_layer_place_next (a0 : G_layer_place) (a1 : Sl) (a2 : Sl) (H : Heap) (Q : Int × Unit -> Heap -> Prop) : S_layer_place_next a0 a1 a2 H Q = cFn C [3, 10, 12] Tryz.f80.ntmps Tryz.f80.results.toList [(T_int .i64)] (bodyOf Tryz.f80) h_layer_place_next [(T_G_layer_place.enc a0), a1.v, a2.v] H Q := by kernel_rfl
theorem c_layer_place_next {a0 : G_layer_place} {a1 : Sl} {a2 : Sl} {H : Heap} {Q : Int × Unit -> Heap -> Prop} (h : S_layer_place_next a0 a1 a2 H Q) : CALL P [(T_int .i64)] n_layer_place_next [(T_G_layer_place.enc a0), a1.v, a2.v] H Q := call_print hE Tryz.func80 rfl (by kernel_rfl) (e_layer_place_next a0 a1 a2 H Q) h
def S_layer_place_apply (a0 : G_layer_place) (a1 : Sl) (a2 : G_api_Standing) (H : Heap) (Q : Sl × Unit -> Heap -> Prop) : Prop :=
CALL P [T_sl] n_slices_Clone_api_Feature_api_Feature [a1.v] H fun (x1 : Sl × Unit) H1 =>
CALL P [T_sl] n_layer_place_about [(T_G_layer_place.enc a0), a1.v, (T_G_api_Standing.enc a2)] H1 fun (x2 : Sl × Unit) H2 =>
JOIN (fun (j3 : (Unit) × (Unit) -> Heap -> Prop) =>
LOOP (fun (r5 : (Int × Unit) × (Unit) -> Heap -> Prop) (s6 : (Int × Unit) × (Unit)) H4 =>
ifB (decide (s6.1.1 < (x2.1.len : Int))) (
IDX x2.1.p x2.1.len s6.1.1 1 fun b7 o8 =>
LD (T_int .i64) H4 b7 o8 fun (x9 : Int) =>
IDX x1.1.p x1.1.len (IntKind.wrap .i64 (x9 - 1)) 5 fun b10 o11 =>
JOIN (fun (j12 : (Unit) × (Unit) -> Heap -> Prop) =>
ifB (a2.What.Verb == 10) (
IDX a1.p a1.len (IntKind.wrap .i64 (a2.Thing - 1)) 5 fun b14 o15 =>
LD (T_int .i64) H4 b14 (o15 + 0) fun (x16 : Int) =>
ST H4 b10 (o11 + 0) [(.int .i64 x16)] fun H6 =>
j12 ((()), (())) H6) (
JOIN (fun (j17 : (Unit) × (Unit) -> Heap -> Prop) =>
ifB (a2.What.Verb == 11) (
ST H4 b10 (o11 + 1) [(.int .u8 a2.What.Suit)] fun H8 =>
j17 ((()), (())) H8) (
JOIN (fun (j19 : (Unit) × (Unit) -> Heap -> Prop) =>
ifB (a2.What.Verb == 12) (
LD (T_int .u16) H4 b10 (o11 + 2) fun (x21 : Int) =>
CALL P [(T_int .u16)] n_trait_With [(.int .u16 x21), (.int .u8 a2.What.Trait)] H4 fun (x22 : Int × Unit) H10 =>
ST H10 b10 (o11 + 2) [(.int .u16 x22.1)] fun H11 =>
j19 ((()), (())) H11) (
JOIN (fun (j23 : (Unit) × (Unit) -> Heap -> Prop) =>
ifB (a2.What.Verb == 13) (
LD (T_int .u16) H4 b10 (o11 + 2) fun (x25 : Int) =>
CALL P [(T_int .u16)] n_trait_Without [(.int .u16 x25), (.int .u8 a2.What.Trait)] H4 fun (x26 : Int × Unit) H13 =>
ST H13 b10 (o11 + 2) [(.int .u16 x26.1)] fun H14 =>
j23 ((()), (())) H14) (
JOIN (fun (j27 : (Unit) × (Unit) -> Heap -> Prop) =>
ifB (a2.What.Verb == 14) (
ST H4 b10 (o11 + 3) [(.int .i64 a2.What.Count)] fun H16 =>
REQ ((some (.int .i64 a2.What.Count) : Option Value) = some (.int .i64 a2.What.Count)) (
ST H16 b10 (o11 + 4) [(.int .i64 a2.What.Count)] fun H17 =>
j27 ((()), (())) H17)) (
JOIN (fun (j29 : (Unit) × (Unit) -> Heap -> Prop) =>
ifB (a2.What.Verb == 15) (
LD (T_int .i64) H4 b10 (o11 + 3) fun (x31 : Int) =>
ST H4 b10 (o11 + 3) [(.int .i64 (IntKind.wrap .i64 (x31 + a2.What.Count)))] fun H19 =>
LD (T_int .i64) H19 b10 (o11 + 4) fun (x32 : Int) =>
ST H19 b10 (o11 + 4) [(.int .i64 (IntKind.wrap .i64 (x32 + a2.What.Count)))] fun H20 =>
j29 ((()), (())) H20) (
j29 ((()), (())) H4)) fun (y30 : (Unit) × (Unit)) H18 =>
j27 ((()), (())) H18)) fun (y28 : (Unit) × (Unit)) H15 =>
j23 ((()), (())) H15)) fun (y24 : (Unit) × (Unit)) H12 =>
j19 ((()), (())) H12)) fun (y20 : (Unit) × (Unit)) H9 =>
j17 ((()), (())) H9)) fun (y18 : (Unit) × (Unit)) H7 =>
j12 ((()), (())) H7)) fun (y13 : (Unit) × (Unit)) H5 =>
r5 ((IntKind.wrap .i64 (s6.1.1 + 1), ()), (())) H5) (
j3 ((()), (())) H4)) ((0, ()), (())) H2) fun (y4 : (Unit) × (Unit)) H3 =>
Q (x1.1, ()) H3
def h_layer_place_apply : Hnt := (.seq .leaf (.seq .leaf (.seq (.seq .leaf (.blk (some ⟨[], [], [9, 10, 18, 19, 20, 21, 22, 23, 24, 25, 26, 27, 28, 29, 30, 31, 32, 33, 34, 35, 36, 37, 38, 39, 40, 41, 42, 43, 44, 45, 46, 47, 48, 49, 50, 51, 52, 53, 54, 55, 56, 57, 58, 59, 60, 61, 62, 63, 64, 65, 66, 67, 68, 69, 70, 71, 72, 73, 74, 75, 76, 77, 78, 79, 80, 81, 82, 83, 84, 85, 86, 87, 88, 89, 90, 91, 92, 93, 94, 95, 96, 97, 98, 99, 100, 101, 102, 103, 104, 105, 106, 107, 108, 109, 110, 111]⟩) (.loop ⟨[(18, (T_int .i64))], [], [9, 10, 19, 20, 21, 22, 23, 24, 25, 26, 27, 28, 29, 30, 31, 32, 33, 34, 35, 36, 37, 38, 39, 40, 41, 42, 43, 44, 45, 46, 47, 48, 49, 50, 51, 52, 53, 54, 55, 56, 57, 58, 59, 60, 61, 62, 63, 64, 65, 66, 67, 68, 69, 70, 71, 72, 73, 74, 75, 76, 77, 78, 79, 80, 81, 82, 83, 84, 85, 86, 87, 88, 89, 90, 91, 92, 93, 94, 95, 96, 97, 98, 99, 100, 101, 102, 103, 104, 105, 106, 107, 108, 109, 110, 111]⟩ (.seq .leaf (.seq .leaf (.seq (.blk none (.seq .leaf (.seq .leaf (.seq .leaf (.blk none (.seq .leaf (.cond (some ⟨[], [], [31, 32, 33, 34, 35, 36, 37, 38, 39, 40, 41, 42, 43, 44, 45, 46, 47, 48, 49, 50, 51, 52, 53, 54, 55, 56, 57, 58, 59, 60, 61, 62, 63, 64, 65, 66, 67, 68, 69, 70, 71, 72, 73, 74, 75, 76, 77, 78, 79, 80, 81, 82, 83, 84, 85, 86, 87, 88, 89, 90, 91, 92, 93, 94, 95, 96, 97, 98, 99, 100, 101, 102, 103, 104, 105, 106, 107, 108, 109, 110]⟩) .leaf (.seq .leaf (.cond (some ⟨[], [], [43, 44, 45, 46, 47, 48, 49, 50, 51, 52, 53, 54, 55, 56, 57, 58, 59, 60, 61, 62, 63, 64, 65, 66, 67, 68, 69, 70, 71, 72, 73, 74, 75, 76, 77, 78, 79, 80, 81, 82, 83, 84, 85, 86, 87, 88, 89, 90, 91, 92, 93, 94, 95, 96, 97, 98, 99, 100, 101, 102, 103, 104, 105, 106, 107, 108, 109, 110]⟩) .leaf (.seq .leaf (.cond (some ⟨[], [], [51, 52, 53, 54, 55, 56, 57, 58, 59, 60, 61, 62, 63, 64, 65, 66, 67, 68, 69, 70, 71, 72, 73, 74, 75, 76, 77, 78, 79, 80, 81, 82, 83, 84, 85, 86, 87, 88, 89, 90, 91, 92, 93, 94, 95, 96, 97, 98, 99, 100, 101, 102, 103, 104, 105, 106, 107, 108, 109, 110]⟩) .leaf (.seq .leaf (.cond (some ⟨[], [], [64, 65, 66, 67, 68, 69, 70, 71, 72, 73, 74, 75, 76, 77, 78, 79, 80, 81, 82, 83, 84, 85, 86, 87, 88, 89, 90, 91, 92, 93, 94, 95, 96, 97, 98, 99, 100, 101, 102, 103, 104, 105, 106, 107, 108, 109, 110]⟩) .leaf (.seq .leaf (.cond (some ⟨[], [], [77, 78, 79, 80, 81, 82, 83, 84, 85, 86, 87, 88, 89, 90, 91, 92, 93, 94, 95, 96, 97, 98, 99, 100, 101, 102, 103, 104, 105, 106, 107, 108, 109, 110]⟩) .leaf (.seq .leaf (.cond (some ⟨[], [], [91, 92, 93, 94, 95, 96, 97, 98, 99, 100, 101, 102, 103, 104, 105, 106, 107, 108, 109, 110]⟩) .leaf .leaf))))))))))))))))) .leaf)))))) .leaf)))
theorem e_layer_place_apply (a0 : G_layer_place) (a1 : Sl) (a2 : G_api_Standing) (H : Heap) (Q : Sl × Unit -> Heap -> Prop) : S_layer_place_apply a0 a1 a2 H Q = cFn C [3, 5] Tryz.f81.ntmps Tryz.f81.results.toList [T_sl] (bodyOf Tryz.f81) h_layer_place_apply [(T_G_layer_place.enc a0), a1.v, (T_G_api_Standing.enc a2)] H Q := by kernel_rfl
theorem c_layer_place_apply {a0 : G_layer_place} {a1 : Sl} {a2 : G_api_Standing} {H : Heap} {Q : Sl × Unit -> Heap -> Prop} (h : S_layer_place_apply a0 a1 a2 H Q) : CALL P [T_sl] n_layer_place_apply [(T_G_layer_place.enc a0), a1.v, (T_G_api_Standing.enc a2)] H Q := call_print hE Tryz.func81 rfl (by kernel_rfl) (e_layer_place_apply a0 a1 a2 H Q) h
def S_slices_Delete_api_Standing_api_Standing (a0 : Sl) (a1 : Int) (a2 : Int) (H : Heap) (Q : Sl × Unit -> Heap -> Prop) : Prop :=
GENV T_sl (aSlice E 66 a0.v (some (.int .i64 a1)) (some (.int .i64 a2)) (some (.int .i64 (a0.len : Int))) H) fun (x1 : Sl) =>
ifB (a1 == a2) (
Q (a0, ()) H) (
GENV T_sl (aSlice E 66 a0.v none (some (.int .i64 a1)) none H) fun (x2 : Sl) =>
GENV T_sl (aSlice E 66 a0.v (some (.int .i64 a2)) none none H) fun (x3 : Sl) =>
APP T_sl (lenV x2.v + (lenX x3.v).getD 0) (aAppendE E [66, 66] x2.v x3.v H) fun (x4 : Sl) H1 =>
GENV T_sl (aSlice E 66 x4.v (some (.int .i64 (x4.len : Int))) (some (.int .i64 (a0.len : Int))) none H1) fun (x5 : Sl) =>
GENH (aClear E [66] x5.v H1) fun H2 =>
Q (x4, ()) H2)
def h_slices_Delete_api_Standing_api_Standing : Hnt := .leaf
theorem e_slices_Delete_api_Standing_api_Standing (a0 : Sl) (a1 : Int) (a2 : Int) (H : Heap) (Q : Sl × Unit -> Heap -> Prop) : S_slices_Delete_api_Standing_api_Standing a0 a1 a2 H Q = cFn C [] Tryz.f82.ntmps Tryz.f82.results.toList [T_sl] (bodyOf Tryz.f82) h_slices_Delete_api_Standing_api_Standing [a0.v, (.int .i64 a1), (.int .i64 a2)] H Q := by kernel_rfl
theorem c_slices_Delete_api_Standing_api_Standing {a0 : Sl} {a1 : Int} {a2 : Int} {H : Heap} {Q : Sl × Unit -> Heap -> Prop} (h : S_slices_Delete_api_Standing_api_Standing a0 a1 a2 H Q) : CALL P [T_sl] n_slices_Delete_api_Standing_api_Standing [a0.v, (.int .i64 a1), (.int .i64 a2)] H Q := call_print hE Tryz.func82 rfl (by kernel_rfl) (e_slices_Delete_api_Standing_api_Standing a0 a1 a2 H Q) h
def S_slices_Clone_api_Standing_api_Standing (a0 : Sl) (H : Heap) (Q : Sl × Unit -> Heap -> Prop) : Prop :=
ifB a0.p.isNone (
Q ((Sl.mk none 0 0), ()) H) (
NEW H [] 10 fun H1 =>
APP T_sl (lenV ((Sl.mk (some ⟨H.length, 0, none⟩) 0 0)).v + (lenX a0.v).getD 0) (aAppendE E [66, 66] ((Sl.mk (some ⟨H.length, 0, none⟩) 0 0)).v a0.v H1) fun (x1 : Sl) H2 =>
Q (x1, ()) H2)
def h_slices_Clone_api_Standing_api_Standing : Hnt := .leaf
theorem e_slices_Clone_api_Standing_api_Standing (a0 : Sl) (H : Heap) (Q : Sl × Unit -> Heap -> Prop) : S_slices_Clone_api_Standing_api_Standing a0 H Q = cFn C [] Tryz.f83.ntmps Tryz.f83.results.toList [T_sl] (bodyOf Tryz.f83) h_slices_Clone_api_Standing_api_Standing [a0.v] H Q := by kernel_rfl
theorem c_slices_Clone_api_Standing_api_Standing {a0 : Sl} {H : Heap} {Q : Sl × Unit -> Heap -> Prop} (h : S_slices_Clone_api_Standing_api_Standing a0 H Q) : CALL P [T_sl] n_slices_Clone_api_Standing_api_Standing [a0.v] H Q := call_print hE Tryz.func83 rfl (by kernel_rfl) (e_slices_Clone_api_Standing_api_Standing a0 H Q) h
def S_layer_place_effects (a0 : G_layer_place) (a1 : Sl) (a2 : Int) (H : Heap) (Q : Sl × Unit -> Heap -> Prop) : Prop :=
JOIN (fun (j1 : (Sl × Unit) × (Unit) -> Heap -> Prop) =>
LOOP (fun (r3 : (Sl × Int × Unit) × (Unit) -> Heap -> Prop) (s4 : (Sl × Int × Unit) × (Unit)) H2 =>
ifB (decide (s4.1.2.1 < (a0.order.len : Int))) (
JOIN (fun (j5 : (Sl × Unit) × (Unit) -> Heap -> Prop) =>
IDX a0.order.p a0.order.len s4.1.2.1 1 fun b7 o8 =>
LD (T_int .i64) H2 b7 o8 fun (x9 : Int) =>
IDX a1.p a1.len x9 5 fun b10 o11 =>
LD (T_int .u16) H2 b10 (o11 + 2) fun (x12 : Int) =>
CALL P [T_bool] n_trait_Has [(.int .u16 x12), (.int .u8 6)] H2 fun (x13 : Bool × Unit) H4 =>
ifB x13.1 (
j5 ((s4.1.1, ()), (())) H4) (
IDX a0.cards.p a0.cards.len x9 9 fun b14 o15 =>
LD T_sl H4 b14 (o15 + 8) fun (x16 : Sl) =>
JOIN (fun (j17 : (Sl × Unit) × (Unit) -> Heap -> Prop) =>
LOOP (fun (r19 : (Sl × Int × Unit) × (Unit) -> Heap -> Prop) (s20 : (Sl × Int × Unit) × (Unit)) H6 =>
ifB (decide (s20.1.2.1 < (x16.len : Int))) (
IDX x16.p x16.len s20.1.2.1 8 fun b21 o22 =>
LD T_G_api_Part H6 b21 o22 fun (x23 : G_api_Part) =>
JOIN (fun (j24 : (Bool × Unit) × (Unit) -> Heap -> Prop) =>
ifB (x23.When == 5) (
CALL P [(T_int .i64)] n_effect_Layer [(.int .u8 x23.Verb)] H6 fun (x26 : Int × Unit) H8 =>
j24 ((x26.1 == a2, ()), (())) H8) (
j24 ((false, ()), (())) H6)) fun (y25 : (Bool × Unit) × (Unit)) H7 =>
JOIN (fun (j27 : (Sl × Unit) × (Unit) -> Heap -> Prop) =>
ifB y25.1.1 (
APP T_sl (lenV s20.1.1.v + 1) (aAppE E [66, 66] s20.1.1.v 1 [(.int .i64 (IntKind.wrap .i64 (x9 + 1))), (.int .i64 s20.1.2.1), (.int .u8 x23.When), (.int .u8 x23.Verb), (.int .u8 x23.Whom), (.int .i64 x23.Count), (.int .u8 x23.Suit), (.int .u8 x23.Trait), (.int .u8 x23.Mark), (.string x23.Name)] H7) fun (x29 : Sl) H10 =>
j27 ((x29, ()), (())) H10) (
j27 ((s20.1.1, ()), (())) H7)) fun (y28 : (Sl × Unit) × (Unit)) H9 =>
r19 ((y28.1.1, IntKind.wrap .i64 (s20.1.2.1 + 1), ()), (())) H9) (
j17 ((s20.1.1, ()), (())) H6)) ((s4.1.1, 0, ()), (())) H4) fun (y18 : (Sl × Unit) × (Unit)) H5 =>
j5 ((y18.1.1, ()), (())) H5)) fun (y6 : (Sl × Unit) × (Unit)) H3 =>
r3 ((y6.1.1, IntKind.wrap .i64 (s4.1.2.1 + 1), ()), (())) H3) (
j1 ((s4.1.1, ()), (())) H2)) (((Sl.mk none 0 0), 0, ()), (())) H) fun (y2 : (Sl × Unit) × (Unit)) H1 =>
Q (y2.1.1, ()) H1
def h_layer_place_effects : Hnt := (.seq .leaf (.seq .leaf (.seq (.seq .leaf (.blk (some ⟨[(7, T_sl)], [], [9, 10, 11, 15, 16, 17, 18, 19, 20, 21, 22, 23, 24, 25, 26, 27, 28, 29, 30, 31, 32, 33, 34, 35, 36, 37, 38, 39, 40, 41, 42, 43, 44, 45, 46, 47, 48, 49, 50, 51, 52, 53, 54, 55, 56]⟩) (.loop ⟨[(7, T_sl), (15, (T_int .i64))], [], [9, 10, 11, 16, 17, 18, 19, 20, 21, 22, 23, 24, 25, 26, 27, 28, 29, 30, 31, 32, 33, 34, 35, 36, 37, 38, 39, 40, 41, 42, 43, 44, 45, 46, 47, 48, 49, 50, 51, 52, 53, 54, 55, 56]⟩ (.seq .leaf (.seq .leaf (.seq (.blk (some ⟨[(7, T_sl)], [], [9, 10, 11, 17, 18, 19, 20, 21, 22, 23, 24, 25, 26, 27, 28, 29, 30, 31, 32, 33, 34, 35, 36, 37, 38, 39, 40, 41, 42, 43, 44, 45, 46, 47, 48, 49, 50, 51, 52, 53, 54, 55]⟩) (.seq .leaf (.seq .leaf (.seq .leaf (.blk (some ⟨[(7, T_sl)], [], [10, 11, 32, 33, 34, 35, 36, 37, 38, 39, 40, 41, 42, 43, 44, 45, 46, 47, 48, 49, 50, 51, 52, 53, 54, 55]⟩) (.loop ⟨[(7, T_sl), (32, (T_int .i64))], [], [10, 11, 33, 34, 35, 36, 37, 38, 39, 40, 41, 42, 43, 44, 45, 46, 47, 48, 49, 50, 51, 52, 53, 54, 55]⟩ (.seq .leaf (.seq .leaf (.seq (.blk none (.seq .leaf (.seq (.reg ⟨[(46, T_bool)], [], [37, 38, 39, 40, 41, 42, 43, 44, 45]⟩) (.cond (some ⟨[(7, T_sl)], [], [47, 48, 49, 50, 51, 52, 53, 54]⟩) .leaf .leaf)))) .leaf))))))))) .leaf)))))) .leaf)))
theorem e_layer_place_effects (a0 : G_layer_place) (a1 : Sl) (a2 : Int) (H : Heap) (Q : Sl × Unit -> Heap -> Prop) : S_layer_place_effects a0 a1 a2 H Q = cFn C [3, 11, 53] Tryz.f84.ntmps Tryz.f84.results.toList [T_sl] (bodyOf Tryz.f84) h_layer_place_effects [(T_G_layer_place.enc a0), a1.v, (.int .i64 a2)] H Q := by kernel_rfl
theorem c_layer_place_effects {a0 : G_layer_place} {a1 : Sl} {a2 : Int} {H : Heap} {Q : Sl × Unit -> Heap -> Prop} (h : S_layer_place_effects a0 a1 a2 H Q) : CALL P [T_sl] n_layer_place_effects [(T_G_layer_place.enc a0), a1.v, (.int .i64 a2)] H Q := call_print hE Tryz.func84 rfl (by kernel_rfl) (e_layer_place_effects a0 a1 a2 H Q) h
def S_layer_place_may (a0 : G_layer_place) (a1 : G_api_Standing) (H : Heap) (Q : Bool × Unit -> Heap -> Prop) : Prop :=
JOIN (fun (j1 : (Bool × Unit) × (Unit) -> Heap -> Prop) =>
ifB (decide (a1.Thing < 1)) (
j1 ((true, ()), (())) H) (
ifB (decide (a1.Thing > (a0.things.len : Int))) (
j1 ((true, ()), (())) H) (
IDX a0.things.p a0.things.len (IntKind.wrap .i64 (a1.Thing - 1)) 11 fun b3 o4 =>
LD (T_int .u8) H b3 (o4 + 2) fun (x5 : Int) =>
j1 ((x5 != 4, ()), (())) H))) fun (y2 : (Bool × Unit) × (Unit)) H1 =>
ifB y2.1.1 (
Q (false, ()) H1) (
IDX a0.cards.p a0.cards.len (IntKind.wrap .i64 (a1.Thing - 1)) 9 fun b6 o7 =>
LD T_sl H1 b6 (o7 + 8) fun (x8 : Sl) =>
JOIN (fun (j9 : (Bool × Unit) × (Unit) -> Heap -> Prop) =>
ifB (decide (a1.Place ≥ 0)) (
ifB (decide (a1.Place < (x8.len : Int))) (
IDX x8.p x8.len a1.Place 8 fun b11 o12 =>
LD (T_int .u8) H1 b11 (o12 + 0) fun (x13 : Int) =>
ifB (x13 == 5) (
IDX x8.p x8.len a1.Place 8 fun b14 o15 =>
LD T_G_api_Part H1 b14 o15 fun (x16 : G_api_Part) =>
CALL P [T_bool] n_effect_Same [(T_G_api_Part.enc x16), (T_G_api_Part.enc a1.What)] H1 fun (x17 : Bool × Unit) H3 =>
j9 ((x17.1, ()), (())) H3) (
j9 ((false, ()), (())) H1)) (
j9 ((false, ()), (())) H1)) (
j9 ((false, ()), (())) H1)) fun (y10 : (Bool × Unit) × (Unit)) H2 =>
Q (y10.1.1, ()) H2)
def h_layer_place_may : Hnt := (.seq .leaf (.seq (.seq (.reg ⟨[(27, T_bool)], [], [6, 7, 8, 9, 10, 11, 12, 13, 14, 15, 16, 17, 18, 19, 20, 21, 22, 23, 24, 25, 26]⟩) .leaf) (.seq .leaf (.seq (.reg ⟨[(4, T_bool)], [], [36, 37, 38, 39, 40, 41, 42, 43, 44, 45, 46, 47, 48, 49, 50, 51, 52, 53, 54, 55, 56, 57, 58, 59, 60, 61, 62, 63, 64]⟩) .leaf))))
theorem e_layer_place_may (a0 : G_layer_place) (a1 : G_api_Standing) (H : Heap) (Q : Bool × Unit -> Heap -> Prop) : S_layer_place_may a0 a1 H Q = cFn C [2, 3] Tryz.f85.ntmps Tryz.f85.results.toList [T_bool] (bodyOf Tryz.f85) h_layer_place_may [(T_G_layer_place.enc a0), (T_G_api_Standing.enc a1)] H Q := by kernel_rfl
theorem c_layer_place_may {a0 : G_layer_place} {a1 : G_api_Standing} {H : Heap} {Q : Bool × Unit -> Heap -> Prop} (h : S_layer_place_may a0 a1 H Q) : CALL P [T_bool] n_layer_place_may [(T_G_layer_place.enc a0), (T_G_api_Standing.enc a1)] H Q := call_print hE Tryz.func85 rfl (by kernel_rfl) (e_layer_place_may a0 a1 H Q) h
def S_layer_place_about (a0 : G_layer_place) (a1 : Sl) (a2 : G_api_Standing) (H : Heap) (Q : Sl × Unit -> Heap -> Prop) : Prop :=
JOIN (fun (j1 : (Sl × Unit) × (Unit) -> Heap -> Prop) =>
LOOP (fun (r3 : (Sl × Int × Unit) × (Unit) -> Heap -> Prop) (s4 : (Sl × Int × Unit) × (Unit)) H2 =>
ifB (decide (s4.1.2.1 < (a0.order.len : Int))) (
IDX a0.order.p a0.order.len s4.1.2.1 1 fun b5 o6 =>
LD (T_int .i64) H2 b5 o6 fun (x7 : Int) =>
CALL P [T_bool] n_layer_place_means [(T_G_layer_place.enc a0), a1.v, (T_G_api_Standing.enc a2), (.int .i64 x7)] H2 fun (x8 : Bool × Unit) H3 =>
JOIN (fun (j9 : (Sl × Unit) × (Unit) -> Heap -> Prop) =>
ifB x8.1 (
APP T_sl (lenV s4.1.1.v + 1) (aAppE E [35, 35] s4.1.1.v 1 [(.int .i64 (IntKind.wrap .i64 (x7 + 1)))] H3) fun (x11 : Sl) H5 =>
j9 ((x11, ()), (())) H5) (
j9 ((s4.1.1, ()), (())) H3)) fun (y10 : (Sl × Unit) × (Unit)) H4 =>
r3 ((y10.1.1, IntKind.wrap .i64 (s4.1.2.1 + 1), ()), (())) H4) (
j1 ((s4.1.1, ()), (())) H2)) (((Sl.mk none 0 0), 0, ()), (())) H) fun (y2 : (Sl × Unit) × (Unit)) H1 =>
Q (y2.1.1, ()) H1
def h_layer_place_about : Hnt := (.seq .leaf (.seq .leaf (.seq (.seq .leaf (.blk (some ⟨[(7, T_sl)], [], [9, 13, 14, 15, 16, 17, 18, 19, 20, 21, 22, 23, 24, 25, 26, 27]⟩) (.loop ⟨[(7, T_sl), (13, (T_int .i64))], [], [9, 14, 15, 16, 17, 18, 19, 20, 21, 22, 23, 24, 25, 26, 27]⟩ (.seq .leaf (.seq .leaf (.seq (.blk none (.seq .leaf (.seq .leaf (.cond (some ⟨[(7, T_sl)], [], [22, 23, 24, 25, 26]⟩) .leaf .leaf)))) .leaf)))))) .leaf)))
theorem e_layer_place_about (a0 : G_layer_place) (a1 : Sl) (a2 : G_api_Standing) (H : Heap) (Q : Sl × Unit -> Heap -> Prop) : S_layer_place_about a0 a1 a2 H Q = cFn C [3, 5, 25] Tryz.f86.ntmps Tryz.f86.results.toList [T_sl] (bodyOf Tryz.f86) h_layer_place_about [(T_G_layer_place.enc a0), a1.v, (T_G_api_Standing.enc a2)] H Q := by kernel_rfl
theorem c_layer_place_about {a0 : G_layer_place} {a1 : Sl} {a2 : G_api_Standing} {H : Heap} {Q : Sl × Unit -> Heap -> Prop} (h : S_layer_place_about a0 a1 a2 H Q) : CALL P [T_sl] n_layer_place_about [(T_G_layer_place.enc a0), a1.v, (T_G_api_Standing.enc a2)] H Q := call_print hE Tryz.func86 rfl (by kernel_rfl) (e_layer_place_about a0 a1 a2 H Q) h
def S_trait_With (a0 : Int) (a1 : Int) (H : Heap) (Q : Int × Unit -> Heap -> Prop) : Prop :=
CALL P [(T_int .u16)] n_trait_bit [(.int .u8 a1)] H fun (x1 : Int × Unit) H1 =>
Q (IntKind.wrap .u16 (((BitVec.ofInt (IntKind.bits .u16) a0 ||| BitVec.ofInt (IntKind.bits .u16) x1.1).toNat : Int)), ()) H1
def h_trait_With : Hnt := .leaf
theorem e_trait_With (a0 : Int) (a1 : Int) (H : Heap) (Q : Int × Unit -> Heap -> Prop) : S_trait_With a0 a1 H Q = cFn C [] Tryz.f87.ntmps Tryz.f87.results.toList [(T_int .u16)] (bodyOf Tryz.f87) h_trait_With [(.int .u16 a0), (.int .u8 a1)] H Q := by kernel_rfl
theorem c_trait_With {a0 : Int} {a1 : Int} {H : Heap} {Q : Int × Unit -> Heap -> Prop} (h : S_trait_With a0 a1 H Q) : CALL P [(T_int .u16)] n_trait_With [(.int .u16 a0), (.int .u8 a1)] H Q := call_print hE Tryz.func87 rfl (by kernel_rfl) (e_trait_With a0 a1 H Q) h
def S_trait_Without (a0 : Int) (a1 : Int) (H : Heap) (Q : Int × Unit -> Heap -> Prop) : Prop :=
CALL P [(T_int .u16)] n_trait_bit [(.int .u8 a1)] H fun (x1 : Int × Unit) H1 =>
Q (IntKind.wrap .u16 (((BitVec.ofInt (IntKind.bits .u16) a0 &&& ~~~BitVec.ofInt (IntKind.bits .u16) x1.1).toNat : Int)), ()) H1
def h_trait_Without : Hnt := .leaf
theorem e_trait_Without (a0 : Int) (a1 : Int) (H : Heap) (Q : Int × Unit -> Heap -> Prop) : S_trait_Without a0 a1 H Q = cFn C [] Tryz.f88.ntmps Tryz.f88.results.toList [(T_int .u16)] (bodyOf Tryz.f88) h_trait_Without [(.int .u16 a0), (.int .u8 a1)] H Q := by kernel_rfl
theorem c_trait_Without {a0 : Int} {a1 : Int} {H : Heap} {Q : Int × Unit -> Heap -> Prop} (h : S_trait_Without a0 a1 H Q) : CALL P [(T_int .u16)] n_trait_Without [(.int .u16 a0), (.int .u8 a1)] H Q := call_print hE Tryz.func88 rfl (by kernel_rfl) (e_trait_Without a0 a1 H Q) h
def S_layer_place_listed (a0 : G_layer_place) (a1 : Sl) (H : Heap) (Q : Bool × Unit -> Heap -> Prop) : Prop :=
JOIN (fun (j1 : (Unit) × (Unit) -> Heap -> Prop) =>
LOOP (fun (r3 : (Int × Unit) × (Unit) -> Heap -> Prop) (s4 : (Int × Unit) × (Unit)) H2 =>
ifB (decide (s4.1.1 < (a1.len : Int))) (
JOIN (fun (j5 : (Unit) × (Unit) -> Heap -> Prop) =>
IDX a1.p a1.len s4.1.1 10 fun b7 o8 =>
LD T_G_api_Standing H2 b7 o8 fun (x9 : G_api_Standing) =>
JOIN (fun (j10 : (Bool × Unit) × (Unit) -> Heap -> Prop) =>
CALL P [T_bool] n_layer_place_may [(T_G_layer_place.enc a0), (T_G_api_Standing.enc x9)] H2 fun (x12 : Bool × Unit) H5 =>
ifB (!x12.1) (
j10 ((true, ()), (())) H5) (
IDX a1.p a1.len 0 10 fun b13 o14 =>
LD (T_int .u8) H5 b13 (o14 + 2 + 1) fun (x15 : Int) =>
CALL P [(T_int .i64)] n_effect_Layer [(.int .u8 x9.What.Verb)] H5 fun (x16 : Int × Unit) H6 =>
LD (T_int .u8) H6 b13 (o14 + 2 + 1) fun (x17 : Int) =>
REQ ((T_int .u8).enc x17 = (.int .u8 x15)) (
CALL P [(T_int .i64)] n_effect_Layer [(.int .u8 x15)] H6 fun (x18 : Int × Unit) H7 =>
j10 ((x16.1 != x18.1, ()), (())) H7))) fun (y11 : (Bool × Unit) × (Unit)) H4 =>
ifB y11.1.1 (
Q (false, ()) H4) (
GENV T_sl (aSlice E 66 a1.v none (some (.int .i64 s4.1.1)) none H4) fun (x19 : Sl) =>
JOIN (fun (j20 : (Unit) × (Unit) -> Heap -> Prop) =>
LOOP (fun (r22 : (Int × Unit) × (Unit) -> Heap -> Prop) (s23 : (Int × Unit) × (Unit)) H9 =>
ifB (decide (s23.1.1 < (x19.len : Int))) (
IDX x19.p x19.len s23.1.1 10 fun b24 o25 =>
LD T_G_api_Standing H9 b24 o25 fun (x26 : G_api_Standing) =>
JOIN (fun (j27 : (Bool × Unit) × (Unit) -> Heap -> Prop) =>
ifB (x26.Thing == x9.Thing) (
j27 ((x26.Place == x9.Place, ()), (())) H9) (
j27 ((false, ()), (())) H9)) fun (y28 : (Bool × Unit) × (Unit)) H10 =>
ifB y28.1.1 (
Q (false, ()) H10) (
r22 ((IntKind.wrap .i64 (s23.1.1 + 1), ()), (())) H10)) (
j20 ((()), (())) H9)) ((0, ()), (())) H4) fun (y21 : (Unit) × (Unit)) H8 =>
j5 ((()), (())) H8)) fun (y6 : (Unit) × (Unit)) H3 =>
r3 ((IntKind.wrap .i64 (s4.1.1 + 1), ()), (())) H3) (
j1 ((()), (())) H2)) ((0, ()), (())) H) fun (y2 : (Unit) × (Unit)) H1 =>
Q (true, ()) H1
def h_layer_place_listed : Hnt := (.seq .leaf (.seq (.seq .leaf (.blk (some ⟨[], [], [4, 5, 6, 8, 11, 12, 13, 14, 15, 16, 17, 18, 19, 20, 21, 22, 23, 24, 25, 26, 27, 28, 29, 30, 31, 32, 33, 34, 35, 36, 37, 38, 39, 40, 41, 42, 43, 44, 45, 46, 47, 48, 49, 50, 51, 52, 53, 54]⟩) (.loop ⟨[(11, (T_int .i64))], [], [4, 5, 6, 8, 12, 13, 14, 15, 16, 17, 18, 19, 20, 21, 22, 23, 24, 25, 26, 27, 28, 29, 30, 31, 32, 33, 34, 35, 36, 37, 38, 39, 40, 41, 42, 43, 44, 45, 46, 47, 48, 49, 50, 51, 52, 53, 54]⟩ (.seq .leaf (.seq .leaf (.seq (.blk (some ⟨[], [], [4, 5, 6, 8, 13, 14, 15, 16, 17, 18, 19, 20, 21, 22, 23, 24, 25, 26, 27, 28, 29, 30, 31, 32, 33, 34, 35, 36, 37, 38, 39, 40, 41, 42, 43, 44, 45, 46, 47, 48, 49, 50, 51, 52, 53]⟩) (.seq .leaf (.seq (.seq (.reg ⟨[(32, T_bool)], [], [16, 17, 18, 19, 20, 21, 22, 23, 24, 25, 26, 27, 28, 29, 30, 31]⟩) .leaf) (.seq .leaf (.blk (some ⟨[], [], [4, 8, 37, 38, 39, 40, 41, 42, 43, 44, 45, 46, 47, 48, 49, 50, 51, 52, 53]⟩) (.loop ⟨[(37, (T_int .i64))], [], [4, 8, 38, 39, 40, 41, 42, 43, 44, 45, 46, 47, 48, 49, 50, 51, 52, 53]⟩ (.seq .leaf (.seq .leaf (.seq (.blk none (.seq .leaf (.seq (.reg ⟨[(52, T_bool)], [], [41, 42, 43, 44, 45, 46, 47, 48, 49, 50, 51]⟩) .leaf))) .leaf))))))))) .leaf)))))) .leaf))
theorem e_layer_place_listed (a0 : G_layer_place) (a1 : Sl) (H : Heap) (Q : Bool × Unit -> Heap -> Prop) : S_layer_place_listed a0 a1 H Q = cFn C [2, 6, 8] Tryz.f89.ntmps Tryz.f89.results.toList [T_bool] (bodyOf Tryz.f89) h_layer_place_listed [(T_G_layer_place.enc a0), a1.v] H Q := by kernel_rfl
theorem c_layer_place_listed {a0 : G_layer_place} {a1 : Sl} {H : Heap} {Q : Bool × Unit -> Heap -> Prop} (h : S_layer_place_listed a0 a1 H Q) : CALL P [T_bool] n_layer_place_listed [(T_G_layer_place.enc a0), a1.v] H Q := call_print hE Tryz.func89 rfl (by kernel_rfl) (e_layer_place_listed a0 a1 H Q) h
def S_layer_place_depends (a0 : G_layer_place) (a1 : Sl) (a2 : G_api_Standing) (a3 : G_api_Standing) (H : Heap) (Q : Bool × Unit -> Heap -> Prop) : Prop :=
CALL P [T_sl] n_layer_place_about [(T_G_layer_place.enc a0), a1.v, (T_G_api_Standing.enc a2)] H fun (x1 : Sl × Unit) H1 =>
REQ ((some (.agg #[(.pointer a0.b), (.slice a0.things.p a0.things.len a0.things.cap), (.slice a0.cards.p a0.cards.len a0.cards.cap), (.slice a0.order.p a0.order.len a0.order.cap)]) : Option Value) = some (.agg #[(.pointer a0.b), (.slice a0.things.p a0.things.len a0.things.cap), (.slice a0.cards.p a0.cards.len a0.cards.cap), (.slice a0.order.p a0.order.len a0.order.cap)])) (
REQ ((some (.agg #[(.pointer a0.b), (.slice a0.things.p a0.things.len a0.things.cap), (.slice a0.cards.p a0.cards.len a0.cards.cap), (.slice a0.order.p a0.order.len a0.order.cap)]) : Option Value) = some (.agg #[(.pointer a0.b), (.slice a0.things.p a0.things.len a0.things.cap), (.slice a0.cards.p a0.cards.len a0.cards.cap), (.slice a0.order.p a0.order.len a0.order.cap)])) (
REQ ((some (.agg #[(.int .i64 a3.Thing), (.int .i64 a3.Place), (.int .u8 a3.What.When), (.int .u8 a3.What.Verb), (.int .u8 a3.What.Whom), (.int .i64 a3.What.Count), (.int .u8 a3.What.Suit), (.int .u8 a3.What.Trait), (.int .u8 a3.What.Mark), (.string a3.What.Name)]) : Option Value) = some (.agg #[(.int .i64 a3.Thing), (.int .i64 a3.Place), (.int .u8 a3.What.When), (.int .u8 a3.What.Verb), (.int .u8 a3.What.Whom), (.int .i64 a3.What.Count), (.int .u8 a3.What.Suit), (.int .u8 a3.What.Trait), (.int .u8 a3.What.Mark), (.string a3.What.Name)])) (
REQ ((some (.agg #[(.int .i64 a2.Thing), (.int .i64 a2.Place), (.int .u8 a2.What.When), (.int .u8 a2.What.Verb), (.int .u8 a2.What.Whom), (.int .i64 a2.What.Count), (.int .u8 a2.What.Suit), (.int .u8 a2.What.Trait), (.int .u8 a2.What.Mark), (.string a2.What.Name)]) : Option Value) = some (.agg #[(.int .i64 a2.Thing), (.int .i64 a2.Place), (.int .u8 a2.What.When), (.int .u8 a2.What.Verb), (.int .u8 a2.What.Whom), (.int .i64 a2.What.Count), (.int .u8 a2.What.Suit), (.int .u8 a2.What.Trait), (.int .u8 a2.What.Mark), (.string a2.What.Name)])) (
CALL P [T_sl] n_layer_place_apply [(T_G_layer_place.enc a0), a1.v, (T_G_api_Standing.enc a3)] H1 fun (x2 : Sl × Unit) H2 =>
REQ ((some (.agg #[(.pointer a0.b), (.slice a0.things.p a0.things.len a0.things.cap), (.slice a0.cards.p a0.cards.len a0.cards.cap), (.slice a0.order.p a0.order.len a0.order.cap)]) : Option Value) = some (.agg #[(.pointer a0.b), (.slice a0.things.p a0.things.len a0.things.cap), (.slice a0.cards.p a0.cards.len a0.cards.cap), (.slice a0.order.p a0.order.len a0.order.cap)])) (
REQ ((some (.agg #[(.int .i64 a2.Thing), (.int .i64 a2.Place), (.int .u8 a2.What.When), (.int .u8 a2.What.Verb), (.int .u8 a2.What.Whom), (.int .i64 a2.What.Count), (.int .u8 a2.What.Suit), (.int .u8 a2.What.Trait), (.int .u8 a2.What.Mark), (.string a2.What.Name)]) : Option Value) = some (.agg #[(.int .i64 a2.Thing), (.int .i64 a2.Place), (.int .u8 a2.What.When), (.int .u8 a2.What.Verb), (.int .u8 a2.What.Whom), (.int .i64 a2.What.Count), (.int .u8 a2.What.Suit), (.int .u8 a2.What.Trait), (.int .u8 a2.What.Mark), (.string a2.What.Name)])) (
CALL P [T_sl] n_layer_place_about [(T_G_layer_place.enc a0), x2.1.v, (T_G_api_Standing.enc a2)] H2 fun (x3 : Sl × Unit) H3 =>
CALL P [T_bool] n_slices_Equal_int_int [x1.1.v, x3.1.v] H3 fun (x4 : Bool × Unit) H4 =>
Q (!x4.1, ()) H4))))))
def h_layer_place_depends : Hnt := .leaf
theorem e_layer_place_depends (a0 : G_layer_place) (a1 : Sl) (a2 : G_api_Standing) (a3 : G_api_Standing) (H : Heap) (Q : Bool × Unit -> Heap -> Prop) : S_layer_place_depends a0 a1 a2 a3 H Q = cFn C [4, 6, 7] Tryz.f90.ntmps Tryz.f90.results.toList [T_bool] (bodyOf Tryz.f90) h_layer_place_depends [(T_G_layer_place.enc a0), a1.v, (T_G_api_Standing.enc a2), (T_G_api_Standing.enc a3)] H Q := by kernel_rfl
theorem c_layer_place_depends {a0 : G_layer_place} {a1 : Sl} {a2 : G_api_Standing} {a3 : G_api_Standing} {H : Heap} {Q : Bool × Unit -> Heap -> Prop} (h : S_layer_place_depends a0 a1 a2 a3 H Q) : CALL P [T_bool] n_layer_place_depends [(T_G_layer_place.enc a0), a1.v, (T_G_api_Standing.enc a2), (T_G_api_Standing.enc a3)] H Q := call_print hE Tryz.func90 rfl (by kernel_rfl) (e_layer_place_depends a0 a1 a2 a3 H Q) h
def S_ref19_wrong (a0 : Option Addr) (a1 : Sl) (a2 : Sl) (H : Heap) (Q : Int × Unit -> Heap -> Prop) : Prop :=
CALL P [T_bool] n_ref07_Book_None [(.pointer a0)] H fun (x1 : Bool × Unit) H1 =>
ifB x1.1 (
Q (1, ()) H1) (
ifB (decide ((a1.len : Int) > 2048)) (
Q (3, ()) H1) (
CALL P [T_bool] n_ref19_Together [(.pointer a0), a1.v, a2.v] H1 fun (x2 : Bool × Unit) H2 =>
ifB (!x2.1) (
Q (2, ()) H2) (
Q (0, ()) H2)))
def h_ref19_wrong : Hnt := .leaf
theorem e_ref19_wrong (a0 : Option Addr) (a1 : Sl) (a2 : Sl) (H : Heap) (Q : Int × Unit -> Heap -> Prop) : S_ref19_wrong a0 a1 a2 H Q = cFn C [] Tryz.f91.ntmps Tryz.f91.results.toList [(T_int .i64)] (bodyOf Tryz.f91) h_ref19_wrong [(.pointer a0), a1.v, a2.v] H Q := by kernel_rfl
theorem c_ref19_wrong {a0 : Option Addr} {a1 : Sl} {a2 : Sl} {H : Heap} {Q : Int × Unit -> Heap -> Prop} (h : S_ref19_wrong a0 a1 a2 H Q) : CALL P [(T_int .i64)] n_ref19_wrong [(.pointer a0), a1.v, a2.v] H Q := call_print hE Tryz.func91 rfl (by kernel_rfl) (e_ref19_wrong a0 a1 a2 H Q) h
def S_ref19_listed (a0 : Option Addr) (a1 : Sl) (a2 : Sl) (H : Heap) (Q : Bool × Unit -> Heap -> Prop) : Prop :=
ifB (decide ((a2.len : Int) > 64)) (
Q (false, ()) H) (
JOIN (fun (j1 : (Unit) × (Unit) -> Heap -> Prop) =>
LOOP (fun (r3 : (Int × Unit) × (Unit) -> Heap -> Prop) (s4 : (Int × Unit) × (Unit)) H2 =>
ifB (decide (s4.1.1 < (a2.len : Int))) (
JOIN (fun (j5 : (Unit) × (Unit) -> Heap -> Prop) =>
JOIN (fun (j7 : (Bool × Unit) × (Unit) -> Heap -> Prop) =>
IDX a2.p a2.len s4.1.1 10 fun b9 o10 =>
LD T_G_api_Standing H2 b9 o10 fun (x11 : G_api_Standing) =>
CALL P [T_bool] n_ref19_may [(.pointer a0), a1.v, (T_G_api_Standing.enc x11)] H2 fun (x12 : Bool × Unit) H5 =>
ifB (!x12.1) (
j7 ((true, ()), (())) H5) (
IDX a2.p a2.len s4.1.1 10 fun b13 o14 =>
LD (T_int .u8) H5 b13 (o14 + 2 + 1) fun (x15 : Int) =>
IDX a2.p a2.len 0 10 fun b16 o17 =>
LD (T_int .u8) H5 b16 (o17 + 2 + 1) fun (x18 : Int) =>
CALL P [(T_int .i64)] n_ref05_Layer [(.int .u8 x15)] H5 fun (x19 : Int × Unit) H6 =>
LD (T_int .u8) H6 b16 (o17 + 2 + 1) fun (x20 : Int) =>
REQ ((T_int .u8).enc x20 = (.int .u8 x18)) (
CALL P [(T_int .i64)] n_ref05_Layer [(.int .u8 x18)] H6 fun (x21 : Int × Unit) H7 =>
j7 ((x19.1 != x21.1, ()), (())) H7))) fun (y8 : (Bool × Unit) × (Unit)) H4 =>
ifB y8.1.1 (
Q (false, ()) H4) (
JOIN (fun (j22 : (Unit) × (Unit) -> Heap -> Prop) =>
LOOP (fun (r24 : (Int × Unit) × (Unit) -> Heap -> Prop) (s25 : (Int × Unit) × (Unit)) H9 =>
ifB (decide (s25.1.1 < s4.1.1)) (
JOIN (fun (j26 : (Bool × Unit) × (Unit) -> Heap -> Prop) =>
IDX a2.p a2.len s25.1.1 10 fun b28 o29 =>
LD (T_int .i64) H9 b28 (o29 + 0) fun (x30 : Int) =>
IDX a2.p a2.len s4.1.1 10 fun b31 o32 =>
LD (T_int .i64) H9 b31 (o32 + 0) fun (x33 : Int) =>
ifB (x30 == x33) (
IDX a2.p a2.len s25.1.1 10 fun b34 o35 =>
LD (T_int .i64) H9 b34 (o35 + 1) fun (x36 : Int) =>
IDX a2.p a2.len s4.1.1 10 fun b37 o38 =>
LD (T_int .i64) H9 b37 (o38 + 1) fun (x39 : Int) =>
j26 ((x36 == x39, ()), (())) H9) (
j26 ((false, ()), (())) H9)) fun (y27 : (Bool × Unit) × (Unit)) H10 =>
ifB y27.1.1 (
Q (false, ()) H10) (
r24 ((IntKind.wrap .i64 (s25.1.1 + 1), ()), (())) H10)) (
j22 ((()), (())) H9)) ((0, ()), (())) H4) fun (y23 : (Unit) × (Unit)) H8 =>
j5 ((()), (())) H8)) fun (y6 : (Unit) × (Unit)) H3 =>
r3 ((IntKind.wrap .i64 (s4.1.1 + 1), ()), (())) H3) (
j1 ((()), (())) H2)) ((0, ()), (())) H) fun (y2 : (Unit) × (Unit)) H1 =>
Q (true, ()) H1)
def h_ref19_listed : Hnt := (.seq .leaf (.seq .leaf (.seq (.seq .leaf (.blk (some ⟨[], [], [6, 7, 8, 12, 13, 14, 15, 16, 17, 18, 19, 20, 21, 22, 23, 24, 25, 26, 27, 28, 29, 30, 31, 32, 33, 34, 35, 36, 37, 38, 39, 40, 41, 42, 43, 44, 45, 46, 47, 48, 49, 50, 51, 52, 53, 54, 55, 56, 57, 58, 59, 60, 61, 62, 63, 64, 65, 66, 67, 68, 69, 70]⟩) (.loop ⟨[(7, (T_int .i64))], [], [6, 8, 12, 13, 14, 15, 16, 17, 18, 19, 20, 21, 22, 23, 24, 25, 26, 27, 28, 29, 30, 31, 32, 33, 34, 35, 36, 37, 38, 39, 40, 41, 42, 43, 44, 45, 46, 47, 48, 49, 50, 51, 52, 53, 54, 55, 56, 57, 58, 59, 60, 61, 62, 63, 64, 65, 66, 67, 68, 69, 70]⟩ (.seq .leaf (.seq (.blk (some ⟨[], [], [6, 8, 18, 19, 20, 21, 22, 23, 24, 25, 26, 27, 28, 29, 30, 31, 32, 33, 34, 35, 36, 37, 38, 39, 40, 41, 42, 43, 44, 45, 46, 47, 48, 49, 50, 51, 52, 53, 54, 55, 56, 57, 58, 59, 60, 61, 62, 63, 64, 65, 66, 67, 68, 69, 70]⟩) (.seq (.seq (.reg ⟨[(41, T_bool)], [], [18, 19, 20, 21, 22, 23, 24, 25, 26, 27, 28, 29, 30, 31, 32, 33, 34, 35, 36, 37, 38, 39, 40]⟩) .leaf) (.seq .leaf (.blk (some ⟨[], [], [6, 8, 42, 43, 44, 45, 46, 47, 48, 49, 50, 51, 52, 53, 54, 55, 56, 57, 58, 59, 60, 61, 62, 63, 64, 65, 66, 67, 68, 69, 70]⟩) (.loop ⟨[(8, (T_int .i64))], [], [6, 42, 43, 44, 45, 46, 47, 48, 49, 50, 51, 52, 53, 54, 55, 56, 57, 58, 59, 60, 61, 62, 63, 64, 65, 66, 67, 68, 69, 70]⟩ (.seq .leaf (.seq (.blk none (.seq (.reg ⟨[(70, T_bool)], [], [47, 48, 49, 50, 51, 52, 53, 54, 55, 56, 57, 58, 59, 60, 61, 62, 63, 64, 65, 66, 67, 68, 69]⟩) .leaf)) .leaf))))))) .leaf))))) .leaf)))
theorem e_ref19_listed (a0 : Option Addr) (a1 : Sl) (a2 : Sl) (H : Heap) (Q : Bool × Unit -> Heap -> Prop) : S_ref19_listed a0 a1 a2 H Q = cFn C [] Tryz.f92.ntmps Tryz.f92.results.toList [T_bool] (bodyOf Tryz.f92) h_ref19_listed [(.pointer a0), a1.v, a2.v] H Q := by kernel_rfl
theorem c_ref19_listed {a0 : Option Addr} {a1 : Sl} {a2 : Sl} {H : Heap} {Q : Bool × Unit -> Heap -> Prop} (h : S_ref19_listed a0 a1 a2 H Q) : CALL P [T_bool] n_ref19_listed [(.pointer a0), a1.v, a2.v] H Q := call_print hE Tryz.func92 rfl (by kernel_rfl) (e_ref19_listed a0 a1 a2 H Q) h
def S_ref19_next (a0 : Option Addr) (a1 : Sl) (a2 : Sl) (a3 : Sl) (H : Heap) (Q : Int × Unit -> Heap -> Prop) : Prop :=
JOIN (fun (j1 : (Int × Int × Unit) × (Unit) -> Heap -> Prop) =>
LOOP (fun (r3 : (Int × Int × Int × Unit) × (Unit) -> Heap -> Prop) (s4 : (Int × Int × Int × Unit) × (Unit)) H2 =>
ifB (decide (s4.1.2.2.1 < (a3.len : Int))) (
JOIN (fun (j5 : (Int × Int × Unit) × (Unit) -> Heap -> Prop) =>
IDX a3.p a3.len s4.1.2.2.1 10 fun b7 o8 =>
LD T_G_api_Standing H2 b7 o8 fun (x9 : G_api_Standing) =>
IDX a3.p a3.len s4.1.2.1 10 fun b10 o11 =>
LD T_G_api_Standing H2 b10 o11 fun (x12 : G_api_Standing) =>
CALL P [T_bool] n_ref19_ahead [a1.v, (T_G_api_Standing.enc x9), (T_G_api_Standing.enc x12)] H2 fun (x13 : Bool × Unit) H4 =>
JOIN (fun (j14 : (Int × Unit) × (Unit) -> Heap -> Prop) =>
ifB x13.1 (
j14 ((s4.1.2.2.1, ()), (())) H4) (
j14 ((s4.1.2.1, ()), (())) H4)) fun (y15 : (Int × Unit) × (Unit)) H5 =>
JOIN (fun (j16 : (Bool × Unit) × (Unit) -> Heap -> Prop) =>
LOOP (fun (r18 : (Bool × Int × Unit) × (Unit) -> Heap -> Prop) (s19 : (Bool × Int × Unit) × (Unit)) H7 =>
JOIN (fun (j20 : (Bool × Unit) × (Unit) -> Heap -> Prop) =>
ifB (decide (s19.1.2.1 < (a3.len : Int))) (
j20 ((!s19.1.1, ()), (())) H7) (
j20 ((false, ()), (())) H7)) fun (y21 : (Bool × Unit) × (Unit)) H8 =>
ifB y21.1.1 (
JOIN (fun (j22 : (Bool × Unit) × (Unit) -> Heap -> Prop) =>
ifB (s19.1.2.1 != s4.1.2.2.1) (
IDX a3.p a3.len s4.1.2.2.1 10 fun b24 o25 =>
LD T_G_api_Standing H8 b24 o25 fun (x26 : G_api_Standing) =>
IDX a3.p a3.len s19.1.2.1 10 fun b27 o28 =>
LD T_G_api_Standing H8 b27 o28 fun (x29 : G_api_Standing) =>
CALL P [T_bool] n_ref19_depends [(.pointer a0), a1.v, a2.v, (T_G_api_Standing.enc x26), (T_G_api_Standing.enc x29)] H8 fun (x30 : Bool × Unit) H10 =>
j22 ((x30.1, ()), (())) H10) (
j22 ((false, ()), (())) H8)) fun (y23 : (Bool × Unit) × (Unit)) H9 =>
r18 ((y23.1.1, IntKind.wrap .i64 (s19.1.2.1 + 1), ()), (())) H9) (
j16 ((s19.1.1, ()), (())) H8)) ((false, 0, ()), (())) H5) fun (y17 : (Bool × Unit) × (Unit)) H6 =>
JOIN (fun (j31 : (Bool × Unit) × (Unit) -> Heap -> Prop) =>
ifB (!y17.1.1) (
ifB (decide (s4.1.1 < 0)) (
j31 ((true, ()), (())) H6) (
IDX a3.p a3.len s4.1.2.2.1 10 fun b33 o34 =>
LD T_G_api_Standing H6 b33 o34 fun (x35 : G_api_Standing) =>
IDX a3.p a3.len s4.1.1 10 fun b36 o37 =>
LD T_G_api_Standing H6 b36 o37 fun (x38 : G_api_Standing) =>
CALL P [T_bool] n_ref19_ahead [a1.v, (T_G_api_Standing.enc x35), (T_G_api_Standing.enc x38)] H6 fun (x39 : Bool × Unit) H12 =>
j31 ((x39.1, ()), (())) H12)) (
j31 ((false, ()), (())) H6)) fun (y32 : (Bool × Unit) × (Unit)) H11 =>
JOIN (fun (j40 : (Int × Unit) × (Unit) -> Heap -> Prop) =>
ifB y32.1.1 (
j40 ((s4.1.2.2.1, ()), (())) H11) (
j40 ((s4.1.1, ()), (())) H11)) fun (y41 : (Int × Unit) × (Unit)) H13 =>
j5 ((y41.1.1, y15.1.1, ()), (())) H13) fun (y6 : (Int × Int × Unit) × (Unit)) H3 =>
r3 ((y6.1.1, y6.1.2.1, IntKind.wrap .i64 (s4.1.2.2.1 + 1), ()), (())) H3) (
j1 ((s4.1.1, s4.1.2.1, ()), (())) H2)) (((-1), 0, 0, ()), (())) H) fun (y2 : (Int × Int × Unit) × (Unit)) H1 =>
ifB (decide (y2.1.1 < 0)) (
Q (y2.1.2.1, ()) H1) (
Q (y2.1.1, ()) H1)
def h_ref19_next : Hnt := (.seq .leaf (.seq .leaf (.seq (.seq .leaf (.blk (some ⟨[(9, (T_int .i64)), (10, (T_int .i64))], [], [11, 12, 13, 14, 15, 16, 17, 18, 19, 20, 21, 22, 23, 24, 25, 26, 27, 28, 29, 30, 31, 32, 33, 34, 35, 36, 37, 38, 39, 40, 41, 42, 43, 44, 45, 46, 47, 48, 49, 50, 51, 52, 53, 54, 55, 56, 57, 58, 59, 60, 61, 62, 63, 64, 65, 66, 67, 68, 69, 70, 71, 72, 73, 74, 75, 76]⟩) (.loop ⟨[(9, (T_int .i64)), (10, (T_int .i64)), (11, (T_int .i64))], [], [12, 13, 14, 15, 16, 17, 18, 19, 20, 21, 22, 23, 24, 25, 26, 27, 28, 29, 30, 31, 32, 33, 34, 35, 36, 37, 38, 39, 40, 41, 42, 43, 44, 45, 46, 47, 48, 49, 50, 51, 52, 53, 54, 55, 56, 57, 58, 59, 60, 61, 62, 63, 64, 65, 66, 67, 68, 69, 70, 71, 72, 73, 74, 75, 76]⟩ (.seq .leaf (.seq (.blk (some ⟨[(9, (T_int .i64)), (10, (T_int .i64))], [], [12, 13, 20, 21, 22, 23, 24, 25, 26, 27, 28, 29, 30, 31, 32, 33, 34, 35, 36, 37, 38, 39, 40, 41, 42, 43, 44, 45, 46, 47, 48, 49, 50, 51, 52, 53, 54, 55, 56, 57, 58, 59, 60, 61, 62, 63, 64, 65, 66, 67, 68, 69, 70, 71, 72, 73, 74, 75, 76]⟩) (.seq (.seq .leaf (.cond (some ⟨[(10, (T_int .i64))], [], [30]⟩) .leaf .leaf)) (.seq .leaf (.seq (.seq .leaf (.blk (some ⟨[(12, T_bool)], [], [13, 31, 32, 33, 34, 35, 36, 37, 38, 39, 40, 41, 42, 43, 44, 45, 46, 47, 48, 49, 50, 51, 52, 53, 54, 55, 56, 57]⟩) (.loop ⟨[(12, T_bool), (13, (T_int .i64))], [], [31, 32, 33, 34, 35, 36, 37, 38, 39, 40, 41, 42, 43, 44, 45, 46, 47, 48, 49, 50, 51, 52, 53, 54, 55, 56, 57]⟩ (.seq (.seq (.reg ⟨[(38, T_bool)], [], [31, 32, 33, 34, 35, 36, 37]⟩) .leaf) (.seq (.blk none (.reg ⟨[(12, T_bool)], [], [41, 42, 43, 44, 45, 46, 47, 48, 49, 50, 51, 52, 53, 54, 55, 56, 57]⟩)) .leaf))))) (.seq (.reg ⟨[(75, T_bool)], [], [58, 59, 60, 61, 62, 63, 64, 65, 66, 67, 68, 69, 70, 71, 72, 73, 74]⟩) (.cond (some ⟨[(9, (T_int .i64))], [], [76]⟩) .leaf .leaf)))))) .leaf))))) .leaf)))
theorem e_ref19_next (a0 : Option Addr) (a1 : Sl) (a2 : Sl) (a3 : Sl) (H : Heap) (Q : Int × Unit -> Heap -> Prop) : S_ref19_next a0 a1 a2 a3 H Q = cFn C [] Tryz.f93.ntmps Tryz.f93.results.toList [(T_int .i64)] (bodyOf Tryz.f93) h_ref19_next [(.pointer a0), a1.v, a2.v, a3.v] H Q := by kernel_rfl
theorem c_ref19_next {a0 : Option Addr} {a1 : Sl} {a2 : Sl} {a3 : Sl} {H : Heap} {Q : Int × Unit -> Heap -> Prop} (h : S_ref19_next a0 a1 a2 a3 H Q) : CALL P [(T_int .i64)] n_ref19_next [(.pointer a0), a1.v, a2.v, a3.v] H Q := call_print hE Tryz.func93 rfl (by kernel_rfl) (e_ref19_next a0 a1 a2 a3 H Q) h
def S_ref19_effects (a0 : Option Addr) (a1 : Sl) (a2 : Sl) (a3 : Int) (H : Heap) (Q : Sl × Unit -> Heap -> Prop) : Prop :=
CALL P [T_sl] n_ref19_order [a1.v] H fun (x1 : Sl × Unit) H1 =>
JOIN (fun (j2 : (Sl × Unit) × (Unit) -> Heap -> Prop) =>
LOOP (fun (r4 : (Sl × Int × Unit) × (Unit) -> Heap -> Prop) (s5 : (Sl × Int × Unit) × (Unit)) H3 =>
ifB (decide (s5.1.2.1 < (x1.1.len : Int))) (
JOIN (fun (j6 : (Sl × Unit) × (Unit) -> Heap -> Prop) =>
IDX x1.1.p x1.1.len s5.1.2.1 1 fun b8 o9 =>
LD (T_int .i64) H3 b8 o9 fun (x10 : Int) =>
IDX a2.p a2.len (IntKind.wrap .i64 (x10 - 1)) 5 fun b11 o12 =>
LD (T_int .u16) H3 b11 (o12 + 2) fun (x13 : Int) =>
CALL P [T_bool] n_ref04_Has [(.int .u16 x13), (.int .u8 6)] H3 fun (x14 : Bool × Unit) H5 =>
ifB x14.1 (
j6 ((s5.1.1, ()), (())) H5) (
IDX x1.1.p x1.1.len s5.1.2.1 1 fun b15 o16 =>
LD (T_int .i64) H5 b15 o16 fun (x17 : Int) =>
IDX a1.p a1.len (IntKind.wrap .i64 (x17 - 1)) 11 fun b18 o19 =>
LD (T_int .i64) H5 b18 (o19 + 0) fun (x20 : Int) =>
CALL P [T_G_api_Card, (T_int .i64)] n_ref07_Book_At [(.pointer a0), (.int .i64 x20)] H5 fun (x21 : G_api_Card × Int × Unit) H6 =>
JOIN (fun (j22 : (Sl × Unit) × (Unit) -> Heap -> Prop) =>
LOOP (fun (r24 : (Sl × Int × Unit) × (Unit) -> Heap -> Prop) (s25 : (Sl × Int × Unit) × (Unit)) H8 =>
ifB (decide (s25.1.2.1 < (x21.1.Parts.len : Int))) (
JOIN (fun (j26 : (Bool × Unit) × (Unit) -> Heap -> Prop) =>
IDX x21.1.Parts.p x21.1.Parts.len s25.1.2.1 8 fun b28 o29 =>
LD (T_int .u8) H8 b28 (o29 + 0) fun (x30 : Int) =>
ifB (x30 == 5) (
IDX x21.1.Parts.p x21.1.Parts.len s25.1.2.1 8 fun b31 o32 =>
LD (T_int .u8) H8 b31 (o32 + 1) fun (x33 : Int) =>
CALL P [(T_int .i64)] n_ref05_Layer [(.int .u8 x33)] H8 fun (x34 : Int × Unit) H10 =>
j26 ((x34.1 == a3, ()), (())) H10) (
j26 ((false, ()), (())) H8)) fun (y27 : (Bool × Unit) × (Unit)) H9 =>
JOIN (fun (j35 : (Sl × Unit) × (Unit) -> Heap -> Prop) =>
ifB y27.1.1 (
IDX x1.1.p x1.1.len s5.1.2.1 1 fun b37 o38 =>
LD (T_int .i64) H9 b37 o38 fun (x39 : Int) =>
IDX x21.1.Parts.p x21.1.Parts.len s25.1.2.1 8 fun b40 o41 =>
LD T_G_api_Part H9 b40 o41 fun (x42 : G_api_Part) =>
APP T_sl (lenV s25.1.1.v + 1) (aAppE E [66, 66] s25.1.1.v 1 [(.int .i64 x39), (.int .i64 s25.1.2.1), (.int .u8 x42.When), (.int .u8 x42.Verb), (.int .u8 x42.Whom), (.int .i64 x42.Count), (.int .u8 x42.Suit), (.int .u8 x42.Trait), (.int .u8 x42.Mark), (.string x42.Name)] H9) fun (x43 : Sl) H12 =>
j35 ((x43, ()), (())) H12) (
j35 ((s25.1.1, ()), (())) H9)) fun (y36 : (Sl × Unit) × (Unit)) H11 =>
r24 ((y36.1.1, IntKind.wrap .i64 (s25.1.2.1 + 1), ()), (())) H11) (
j22 ((s25.1.1, ()), (())) H8)) ((s5.1.1, 0, ()), (())) H6) fun (y23 : (Sl × Unit) × (Unit)) H7 =>
j6 ((y23.1.1, ()), (())) H7)) fun (y7 : (Sl × Unit) × (Unit)) H4 =>
r4 ((y7.1.1, IntKind.wrap .i64 (s5.1.2.1 + 1), ()), (())) H4) (
j2 ((s5.1.1, ()), (())) H3)) (((Sl.mk none 0 0), 0, ()), (())) H1) fun (y3 : (Sl × Unit) × (Unit)) H2 =>
Q (y3.1.1, ()) H2
def h_ref19_effects : Hnt := (.seq .leaf (.seq .leaf (.seq .leaf (.seq (.seq .leaf (.blk (some ⟨[(9, T_sl)], [], [11, 12, 13, 14, 17, 18, 19, 20, 21, 22, 23, 24, 25, 26, 27, 28, 29, 30, 31, 32, 33, 34, 35, 36, 37, 38, 39, 40, 41, 42, 43, 44, 45, 46, 47, 48, 49, 50, 51, 52, 53, 54, 55, 56, 57, 58, 59, 60, 61, 62, 63, 64, 65, 66, 67, 68, 69, 70, 71, 72, 73, 74, 75, 76, 77, 78, 79, 80, 81, 82, 83, 84, 85]⟩) (.loop ⟨[(9, T_sl), (11, (T_int .i64))], [], [12, 13, 14, 17, 18, 19, 20, 21, 22, 23, 24, 25, 26, 27, 28, 29, 30, 31, 32, 33, 34, 35, 36, 37, 38, 39, 40, 41, 42, 43, 44, 45, 46, 47, 48, 49, 50, 51, 52, 53, 54, 55, 56, 57, 58, 59, 60, 61, 62, 63, 64, 65, 66, 67, 68, 69, 70, 71, 72, 73, 74, 75, 76, 77, 78, 79, 80, 81, 82, 83, 84, 85]⟩ (.seq .leaf (.seq (.blk (some ⟨[(9, T_sl)], [], [12, 13, 14, 23, 24, 25, 26, 27, 28, 29, 30, 31, 32, 33, 34, 35, 36, 37, 38, 39, 40, 41, 42, 43, 44, 45, 46, 47, 48, 49, 50, 51, 52, 53, 54, 55, 56, 57, 58, 59, 60, 61, 62, 63, 64, 65, 66, 67, 68, 69, 70, 71, 72, 73, 74, 75, 76, 77, 78, 79, 80, 81, 82, 83, 84, 85]⟩) (.seq .leaf (.seq .leaf (.seq .leaf (.blk (some ⟨[(9, T_sl)], [], [14, 47, 48, 49, 50, 51, 52, 53, 54, 55, 56, 57, 58, 59, 60, 61, 62, 63, 64, 65, 66, 67, 68, 69, 70, 71, 72, 73, 74, 75, 76, 77, 78, 79, 80, 81, 82, 83, 84, 85]⟩) (.loop ⟨[(9, T_sl), (14, (T_int .i64))], [], [47, 48, 49, 50, 51, 52, 53, 54, 55, 56, 57, 58, 59, 60, 61, 62, 63, 64, 65, 66, 67, 68, 69, 70, 71, 72, 73, 74, 75, 76, 77, 78, 79, 80, 81, 82, 83, 84, 85]⟩ (.seq .leaf (.seq (.blk none (.seq (.reg ⟨[(71, T_bool)], [], [54, 55, 56, 57, 58, 59, 60, 61, 62, 63, 64, 65, 66, 67, 68, 69, 70]⟩) (.cond (some ⟨[(9, T_sl)], [], [72, 73, 74, 75, 76, 77, 78, 79, 80, 81, 82, 83, 84, 85]⟩) .leaf .leaf))) .leaf)))))))) .leaf))))) .leaf))))
theorem e_ref19_effects (a0 : Option Addr) (a1 : Sl) (a2 : Sl) (a3 : Int) (H : Heap) (Q : Sl × Unit -> Heap -> Prop) : S_ref19_effects a0 a1 a2 a3 H Q = cFn C [12, 84] Tryz.f94.ntmps Tryz.f94.results.toList [T_sl] (bodyOf Tryz.f94) h_ref19_effects [(.pointer a0), a1.v, a2.v, (.int .i64 a3)] H Q := by kernel_rfl
theorem c_ref19_effects {a0 : Option Addr} {a1 : Sl} {a2 : Sl} {a3 : Int} {H : Heap} {Q : Sl × Unit -> Heap -> Prop} (h : S_ref19_effects a0 a1 a2 a3 H Q) : CALL P [T_sl] n_ref19_effects [(.pointer a0), a1.v, a2.v, (.int .i64 a3)] H Q := call_print hE Tryz.func94 rfl (by kernel_rfl) (e_ref19_effects a0 a1 a2 a3 H Q) h
end Zv
end Go.Proofs.YtolekmhhkopooaaGreatDoor
end
