/- Part 4 of the proof of LayerStamps: what its row stands on (lemmas about the model, the evaluator, contracts of functions), put together and cut to what is used. -/
import Derived.Test.YtolekmhhkopooaaGreatDoorKLayerStamps3
import Derived.KernelRfl
section
namespace Go.Proofs.YtolekmhhkopooaaGreatDoor
open Go Zq
namespace Zv
set_option maxRecDepth 100000
set_option linter.unusedVariables false
def S_book_New  (H : Heap) (Q : (Option Addr) × Unit -> Heap -> Prop) : Prop :=
NEW H [(.bool true), (.bool false), (.int .i64 0), (.string (ByteArray.mk #[])), (.int .u8 0), (.int .u8 0), (.int .i64 0), (.int .i64 0), (.int .i64 0), (.int .u16 0), (.bool false), (.slice none 0 0), (.string (ByteArray.mk #[])), (.int .u8 0), (.int .u8 0), (.int .i64 0), (.int .i64 0), (.int .i64 0), (.int .u16 0), (.bool false), (.slice none 0 0), (.string (ByteArray.mk #[])), (.int .u8 0), (.int .u8 0), (.int .i64 0), (.int .i64 0), (.int .i64 0), (.int .u16 0), (.bool false), (.slice none 0 0), (.string (ByteArray.mk #[])), (.int .u8 0), (.int .u8 0), (.int .i64 0), (.int .i64 0), (.int .i64 0), (.int .u16 0), (.bool false), (.slice none 0 0), (.string (ByteArray.mk #[])), (.int .u8 0), (.int .u8 0), (.int .i64 0), (.int .i64 0), (.int .i64 0), (.int .u16 0), (.bool false), (.slice none 0 0), (.string (ByteArray.mk #[])), (.int .u8 0), (.int .u8 0), (.int .i64 0), (.int .i64 0), (.int .i64 0), (.int .u16 0), (.bool false), (.slice none 0 0), (.string (ByteArray.mk #[])), (.int .u8 0), (.int .u8 0), (.int .i64 0), (.int .i64 0), (.int .i64 0), (.int .u16 0), (.bool false), (.slice none 0 0), (.string (ByteArray.mk #[])), (.int .u8 0), (.int .u8 0), (.int .i64 0), (.int .i64 0), (.int .i64 0), (.int .u16 0), (.bool false), (.slice none 0 0), (.string (ByteArray.mk #[])), (.int .u8 0), (.int .u8 0), (.int .i64 0), (.int .i64 0), (.int .i64 0), (.int .u16 0), (.bool false), (.slice none 0 0), (.string (ByteArray.mk #[])), (.int .u8 0), (.int .u8 0), (.int .i64 0), (.int .i64 0), (.int .i64 0), (.int .u16 0), (.bool false), (.slice none 0 0), (.string (ByteArray.mk #[])), (.int .u8 0), (.int .u8 0), (.int .i64 0), (.int .i64 0), (.int .i64 0), (.int .u16 0), (.bool false), (.slice none 0 0), (.string (ByteArray.mk #[])), (.int .u8 0), (.int .u8 0), (.int .i64 0), (.int .i64 0), (.int .i64 0), (.int .u16 0), (.bool false), (.slice none 0 0), (.string (ByteArray.mk #[])), (.int .u8 0), (.int .u8 0), (.int .i64 0), (.int .i64 0), (.int .i64 0), (.int .u16 0), (.bool false), (.slice none 0 0), (.string (ByteArray.mk #[])), (.int .u8 0), (.int .u8 0), (.int .i64 0), (.int .i64 0), (.int .i64 0), (.int .u16 0), (.bool false), (.slice none 0 0), (.string (ByteArray.mk #[])), (.int .u8 0), (.int .u8 0), (.int .i64 0), (.int .i64 0), (.int .i64 0), (.int .u16 0), (.bool false), (.slice none 0 0), (.string (ByteArray.mk #[])), (.int .u8 0), (.int .u8 0), (.int .i64 0), (.int .i64 0), (.int .i64 0), (.int .u16 0), (.bool false), (.slice none 0 0), (.string (ByteArray.mk #[])), (.int .u8 0), (.int .u8 0), (.int .i64 0), (.int .i64 0), (.int .i64 0), (.int .u16 0), (.bool false), (.slice none 0 0), (.string (ByteArray.mk #[])), (.int .u8 0), (.int .u8 0), (.int .i64 0), (.int .i64 0), (.int .i64 0), (.int .u16 0), (.bool false), (.slice none 0 0), (.string (ByteArray.mk #[])), (.int .u8 0), (.int .u8 0), (.int .i64 0), (.int .i64 0), (.int .i64 0), (.int .u16 0), (.bool false), (.slice none 0 0), (.string (ByteArray.mk #[])), (.int .u8 0), (.int .u8 0), (.int .i64 0), (.int .i64 0), (.int .i64 0), (.int .u16 0), (.bool false), (.slice none 0 0), (.string (ByteArray.mk #[])), (.int .u8 0), (.int .u8 0), (.int .i64 0), (.int .i64 0), (.int .i64 0), (.int .u16 0), (.bool false), (.slice none 0 0), (.string (ByteArray.mk #[])), (.int .u8 0), (.int .u8 0), (.int .i64 0), (.int .i64 0), (.int .i64 0), (.int .u16 0), (.bool false), (.slice none 0 0), (.string (ByteArray.mk #[])), (.int .u8 0), (.int .u8 0), (.int .i64 0), (.int .i64 0), (.int .i64 0), (.int .u16 0), (.bool false), (.slice none 0 0), (.string (ByteArray.mk #[])), (.int .u8 0), (.int .u8 0), (.int .i64 0), (.int .i64 0), (.int .i64 0), (.int .u16 0), (.bool false), (.slice none 0 0), (.string (ByteArray.mk #[])), (.int .u8 0), (.int .u8 0), (.int .i64 0), (.int .i64 0), (.int .i64 0), (.int .u16 0), (.bool false), (.slice none 0 0), (.string (ByteArray.mk #[])), (.int .u8 0), (.int .u8 0), (.int .i64 0), (.int .i64 0), (.int .i64 0), (.int .u16 0), (.bool false), (.slice none 0 0), (.string (ByteArray.mk #[])), (.int .u8 0), (.int .u8 0), (.int .i64 0), (.int .i64 0), (.int .i64 0), (.int .u16 0), (.bool false), (.slice none 0 0), (.string (ByteArray.mk #[])), (.int .u8 0), (.int .u8 0), (.int .i64 0), (.int .i64 0), (.int .i64 0), (.int .u16 0), (.bool false), (.slice none 0 0), (.string (ByteArray.mk #[])), (.int .u8 0), (.int .u8 0), (.int .i64 0), (.int .i64 0), (.int .i64 0), (.int .u16 0), (.bool false), (.slice none 0 0), (.string (ByteArray.mk #[])), (.int .u8 0), (.int .u8 0), (.int .i64 0), (.int .i64 0), (.int .i64 0), (.int .u16 0), (.bool false), (.slice none 0 0), (.string (ByteArray.mk #[])), (.int .u8 0), (.int .u8 0), (.int .i64 0), (.int .i64 0), (.int .i64 0), (.int .u16 0), (.bool false), (.slice none 0 0), (.string (ByteArray.mk #[])), (.int .u8 0), (.int .u8 0), (.int .i64 0), (.int .i64 0), (.int .i64 0), (.int .u16 0), (.bool false), (.slice none 0 0), (.string (ByteArray.mk #[])), (.int .u8 0), (.int .u8 0), (.int .i64 0), (.int .i64 0), (.int .i64 0), (.int .u16 0), (.bool false), (.slice none 0 0), (.string (ByteArray.mk #[])), (.int .u8 0), (.int .u8 0), (.int .i64 0), (.int .i64 0), (.int .i64 0), (.int .u16 0), (.bool false), (.slice none 0 0), (.string (ByteArray.mk #[])), (.int .u8 0), (.int .u8 0), (.int .i64 0), (.int .i64 0), (.int .i64 0), (.int .u16 0), (.bool false), (.slice none 0 0), (.string (ByteArray.mk #[])), (.int .u8 0), (.int .u8 0), (.int .i64 0), (.int .i64 0), (.int .i64 0), (.int .u16 0), (.bool false), (.slice none 0 0), (.string (ByteArray.mk #[])), (.int .u8 0), (.int .u8 0), (.int .i64 0), (.int .i64 0), (.int .i64 0), (.int .u16 0), (.bool false), (.slice none 0 0), (.string (ByteArray.mk #[])), (.int .u8 0), (.int .u8 0), (.int .i64 0), (.int .i64 0), (.int .i64 0), (.int .u16 0), (.bool false), (.slice none 0 0), (.string (ByteArray.mk #[])), (.int .u8 0), (.int .u8 0), (.int .i64 0), (.int .i64 0), (.int .i64 0), (.int .u16 0), (.bool false), (.slice none 0 0), (.string (ByteArray.mk #[])), (.int .u8 0), (.int .u8 0), (.int .i64 0), (.int .i64 0), (.int .i64 0), (.int .u16 0), (.bool false), (.slice none 0 0), (.string (ByteArray.mk #[])), (.int .u8 0), (.int .u8 0), (.int .i64 0), (.int .i64 0), (.int .i64 0), (.int .u16 0), (.bool false), (.slice none 0 0), (.string (ByteArray.mk #[])), (.int .u8 0), (.int .u8 0), (.int .i64 0), (.int .i64 0), (.int .i64 0), (.int .u16 0), (.bool false), (.slice none 0 0), (.string (ByteArray.mk #[])), (.int .u8 0), (.int .u8 0), (.int .i64 0), (.int .i64 0), (.int .i64 0), (.int .u16 0), (.bool false), (.slice none 0 0), (.string (ByteArray.mk #[])), (.int .u8 0), (.int .u8 0), (.int .i64 0), (.int .i64 0), (.int .i64 0), (.int .u16 0), (.bool false), (.slice none 0 0), (.string (ByteArray.mk #[])), (.int .u8 0), (.int .u8 0), (.int .i64 0), (.int .i64 0), (.int .i64 0), (.int .u16 0), (.bool false), (.slice none 0 0), (.string (ByteArray.mk #[])), (.int .u8 0), (.int .u8 0), (.int .i64 0), (.int .i64 0), (.int .i64 0), (.int .u16 0), (.bool false), (.slice none 0 0), (.string (ByteArray.mk #[])), (.int .u8 0), (.int .u8 0), (.int .i64 0), (.int .i64 0), (.int .i64 0), (.int .u16 0), (.bool false), (.slice none 0 0), (.string (ByteArray.mk #[])), (.int .u8 0), (.int .u8 0), (.int .i64 0), (.int .i64 0), (.int .i64 0), (.int .u16 0), (.bool false), (.slice none 0 0), (.string (ByteArray.mk #[])), (.int .u8 0), (.int .u8 0), (.int .i64 0), (.int .i64 0), (.int .i64 0), (.int .u16 0), (.bool false), (.slice none 0 0), (.string (ByteArray.mk #[])), (.int .u8 0), (.int .u8 0), (.int .i64 0), (.int .i64 0), (.int .i64 0), (.int .u16 0), (.bool false), (.slice none 0 0), (.string (ByteArray.mk #[])), (.int .u8 0), (.int .u8 0), (.int .i64 0), (.int .i64 0), (.int .i64 0), (.int .u16 0), (.bool false), (.slice none 0 0), (.string (ByteArray.mk #[])), (.int .u8 0), (.int .u8 0), (.int .i64 0), (.int .i64 0), (.int .i64 0), (.int .u16 0), (.bool false), (.slice none 0 0), (.string (ByteArray.mk #[])), (.int .u8 0), (.int .u8 0), (.int .i64 0), (.int .i64 0), (.int .i64 0), (.int .u16 0), (.bool false), (.slice none 0 0), (.string (ByteArray.mk #[])), (.int .u8 0), (.int .u8 0), (.int .i64 0), (.int .i64 0), (.int .i64 0), (.int .u16 0), (.bool false), (.slice none 0 0), (.string (ByteArray.mk #[])), (.int .u8 0), (.int .u8 0), (.int .i64 0), (.int .i64 0), (.int .i64 0), (.int .u16 0), (.bool false), (.slice none 0 0), (.string (ByteArray.mk #[])), (.int .u8 0), (.int .u8 0), (.int .i64 0), (.int .i64 0), (.int .i64 0), (.int .u16 0), (.bool false), (.slice none 0 0), (.string (ByteArray.mk #[])), (.int .u8 0), (.int .u8 0), (.int .i64 0), (.int .i64 0), (.int .i64 0), (.int .u16 0), (.bool false), (.slice none 0 0), (.string (ByteArray.mk #[])), (.int .u8 0), (.int .u8 0), (.int .i64 0), (.int .i64 0), (.int .i64 0), (.int .u16 0), (.bool false), (.slice none 0 0), (.string (ByteArray.mk #[])), (.int .u8 0), (.int .u8 0), (.int .i64 0), (.int .i64 0), (.int .i64 0), (.int .u16 0), (.bool false), (.slice none 0 0), (.string (ByteArray.mk #[])), (.int .u8 0), (.int .u8 0), (.int .i64 0), (.int .i64 0), (.int .i64 0), (.int .u16 0), (.bool false), (.slice none 0 0), (.string (ByteArray.mk #[])), (.int .u8 0), (.int .u8 0), (.int .i64 0), (.int .i64 0), (.int .i64 0), (.int .u16 0), (.bool false), (.slice none 0 0), (.string (ByteArray.mk #[])), (.int .u8 0), (.int .u8 0), (.int .i64 0), (.int .i64 0), (.int .i64 0), (.int .u16 0), (.bool false), (.slice none 0 0), (.string (ByteArray.mk #[])), (.int .u8 0), (.int .u8 0), (.int .i64 0), (.int .i64 0), (.int .i64 0), (.int .u16 0), (.bool false), (.slice none 0 0), (.string (ByteArray.mk #[])), (.int .u8 0), (.int .u8 0), (.int .i64 0), (.int .i64 0), (.int .i64 0), (.int .u16 0), (.bool false), (.slice none 0 0), (.string (ByteArray.mk #[])), (.string (ByteArray.mk #[])), (.string (ByteArray.mk #[])), (.string (ByteArray.mk #[])), (.string (ByteArray.mk #[])), (.string (ByteArray.mk #[])), (.string (ByteArray.mk #[])), (.string (ByteArray.mk #[])), (.string (ByteArray.mk #[])), (.int .u8 0), (.string (ByteArray.mk #[])), (.int .i64 0), (.int .i64 0), (.int .u8 0), (.string (ByteArray.mk #[])), (.int .i64 0), (.int .i64 0), (.int .u8 0), (.string (ByteArray.mk #[])), (.int .i64 0), (.int .i64 0), (.int .u8 0), (.string (ByteArray.mk #[])), (.int .i64 0), (.int .i64 0), (.int .u8 0), (.string (ByteArray.mk #[])), (.int .i64 0), (.int .i64 0)] 608 fun H1 =>
Q ((some ⟨H.length, 0, none⟩), ()) H1
def h_book_New : Hnt := .leaf
theorem e_book_New  (H : Heap) (Q : (Option Addr) × Unit -> Heap -> Prop) : S_book_New  H Q = cFn C [] Tryz.f51.ntmps Tryz.f51.results.toList [T_ptr] (bodyOf Tryz.f51) h_book_New [] H Q := by kernel_rfl
theorem c_book_New {H : Heap} {Q : (Option Addr) × Unit -> Heap -> Prop} (h : S_book_New H Q) : CALL P [T_ptr] n_book_New [] H Q := call_print hE Tryz.func51 rfl (by kernel_rfl) (e_book_New H Q) h
def S_ref07_New  (H : Heap) (Q : (Option Addr) × Unit -> Heap -> Prop) : Prop :=
NEW H [(.bool true), (.bool false), (.slice none 0 0), (.string (ByteArray.mk #[])), (.string (ByteArray.mk #[])), (.string (ByteArray.mk #[])), (.string (ByteArray.mk #[])), (.string (ByteArray.mk #[])), (.string (ByteArray.mk #[])), (.string (ByteArray.mk #[])), (.string (ByteArray.mk #[])), (.string (ByteArray.mk #[])), (.int .u8 0), (.string (ByteArray.mk #[])), (.int .i64 0), (.int .i64 0), (.int .u8 0), (.string (ByteArray.mk #[])), (.int .i64 0), (.int .i64 0), (.int .u8 0), (.string (ByteArray.mk #[])), (.int .i64 0), (.int .i64 0), (.int .u8 0), (.string (ByteArray.mk #[])), (.int .i64 0), (.int .i64 0), (.int .u8 0), (.string (ByteArray.mk #[])), (.int .i64 0), (.int .i64 0)] 32 fun H1 =>
Q ((some ⟨H.length, 0, none⟩), ()) H1
def h_ref07_New : Hnt := .leaf
theorem e_ref07_New  (H : Heap) (Q : (Option Addr) × Unit -> Heap -> Prop) : S_ref07_New  H Q = cFn C [] Tryz.f52.ntmps Tryz.f52.results.toList [T_ptr] (bodyOf Tryz.f52) h_ref07_New [] H Q := by kernel_rfl
theorem c_ref07_New {H : Heap} {Q : (Option Addr) × Unit -> Heap -> Prop} (h : S_ref07_New H Q) : CALL P [T_ptr] n_ref07_New [] H Q := call_print hE Tryz.func52 rfl (by kernel_rfl) (e_ref07_New H Q) h
def S_book_Book_Card (a0 : Option Addr) (a1 : G_api_Card) (H : Heap) (Q : Int × Unit -> Heap -> Prop) : Prop :=
CALL P [(T_int .i64)] n_book_Book_shut [(.pointer a0)] H fun (x1 : Int × Unit) H1 =>
ifB (x1.1 != 0) (
Q (x1.1, ()) H1) (
CALL P [(T_int .i64)] n_card_Check [(T_G_api_Card.enc a1)] H1 fun (x2 : Int × Unit) H2 =>
ifB (x2.1 != 0) (
Q (x2.1, ()) H2) (
CALL P [(T_int .i64)] n_book_Book_place [(.pointer a0), (.string a1.Name)] H2 fun (x3 : Int × Unit) H3 =>
ifB (decide (x3.1 ≥ 0)) (
Q (5, ()) H3) (
NIL a0 fun b4 o5 =>
LD (T_int .i64) H3 b4 (o5 + 2) fun (x6 : Int) =>
ifB (decide (x6 ≥ 64)) (
Q (14, ()) H3) (
NIL a0 fun b7 o8 =>
LD (T_int .i64) H3 b7 (o8 + 2) fun (x9 : Int) =>
JOIN (fun (j10 : (Int × Unit) × (Unit) -> Heap -> Prop) =>
LOOP (fun (r12 : (Int × Unit) × (Unit) -> Heap -> Prop) (s13 : (Int × Unit) × (Unit)) H5 =>
JOIN (fun (j14 : (Bool × Unit) × (Unit) -> Heap -> Prop) =>
ifB (decide (s13.1.1 > 0)) (
NIL a0 fun b16 o17 =>
IDXA 64 (IntKind.wrap .i64 (s13.1.1 - 1)) (
LD T_G_api_Card H5 b16 (o17 + 3 + (IntKind.wrap .i64 (s13.1.1 - 1)).toNat * 9) fun (x18 : G_api_Card) =>
CALL P [T_bool] n_book_ahead [(T_G_api_Card.enc a1), (T_G_api_Card.enc x18)] H5 fun (x19 : Bool × Unit) H7 =>
j14 ((x19.1, ()), (())) H7)) (
j14 ((false, ()), (())) H5)) fun (y15 : (Bool × Unit) × (Unit)) H6 =>
ifB y15.1.1 (
NIL a0 fun b20 o21 =>
IDXA 64 (IntKind.wrap .i64 (s13.1.1 - 1)) (
LD T_G_api_Card H6 b20 (o21 + 3 + (IntKind.wrap .i64 (s13.1.1 - 1)).toNat * 9) fun (x22 : G_api_Card) =>
NIL a0 fun b23 o24 =>
IDXA 64 s13.1.1 (
ST H6 b23 (o24 + 3 + s13.1.1.toNat * 9) (T_G_api_Card.cells x22) fun H8 =>
r12 ((IntKind.wrap .i64 (s13.1.1 - 1), ()), (())) H8))) (
j10 ((s13.1.1, ()), (())) H6)) ((x9, ()), (())) H3) fun (y11 : (Int × Unit) × (Unit)) H4 =>
NIL a0 fun b25 o26 =>
CALL P [T_G_api_Card] n_card_Copy [(T_G_api_Card.enc a1)] H4 fun (x27 : G_api_Card × Unit) H9 =>
IDXA 64 y11.1.1 (
ST H9 b25 (o26 + 3 + y11.1.1.toNat * 9) (T_G_api_Card.cells x27.1) fun H10 =>
NIL a0 fun b28 o29 =>
LD (T_int .i64) H10 b28 (o29 + 2) fun (x30 : Int) =>
NIL a0 fun b31 o32 =>
ST H10 b31 (o32 + 2) [(.int .i64 (IntKind.wrap .i64 (x30 + 1)))] fun H11 =>
Q (0, ()) H11)))))
def h_book_Book_Card : Hnt := (.seq .leaf (.seq .leaf (.seq .leaf (.seq .leaf (.seq (.blk (some ⟨[(7, (T_int .i64))], [], [35, 36, 37, 38, 39, 40, 41, 42, 43, 44, 45, 46, 47, 48, 49, 50, 51, 52, 53, 54, 55, 56, 57, 58, 59, 60, 61]⟩) (.loop ⟨[(7, (T_int .i64))], [], [35, 36, 37, 38, 39, 40, 41, 42, 43, 44, 45, 46, 47, 48, 49, 50, 51, 52, 53, 54, 55, 56, 57, 58, 59, 60, 61]⟩ (.seq (.seq (.reg ⟨[(47, T_bool)], [], [35, 36, 37, 38, 39, 40, 41, 42, 43, 44, 45, 46]⟩) .leaf) .leaf))) .leaf)))))
theorem e_book_Book_Card (a0 : Option Addr) (a1 : G_api_Card) (H : Heap) (Q : Int × Unit -> Heap -> Prop) : S_book_Book_Card a0 a1 H Q = cFn C [3] Tryz.f53.ntmps Tryz.f53.results.toList [(T_int .i64)] (bodyOf Tryz.f53) h_book_Book_Card [(.pointer a0), (T_G_api_Card.enc a1)] H Q := by kernel_rfl
theorem c_book_Book_Card {a0 : Option Addr} {a1 : G_api_Card} {H : Heap} {Q : Int × Unit -> Heap -> Prop} (h : S_book_Book_Card a0 a1 H Q) : CALL P [(T_int .i64)] n_book_Book_Card [(.pointer a0), (T_G_api_Card.enc a1)] H Q := call_print hE Tryz.func53 rfl (by kernel_rfl) (e_book_Book_Card a0 a1 H Q) h
def S_kit_CopyCard (a0 : G_api_Card) (H : Heap) (Q : G_api_Card × Unit -> Heap -> Prop) : Prop :=
CALL P [T_sl] n_kit_CopyParts [a0.Parts.v] H fun (x1 : Sl × Unit) H1 =>
Q ((G_api_Card.mk a0.Name a0.Suit a0.Kind a0.Cost a0.Power a0.Health a0.Traits a0.Token x1.1), ()) H1
def h_kit_CopyCard : Hnt := .leaf
theorem e_kit_CopyCard (a0 : G_api_Card) (H : Heap) (Q : G_api_Card × Unit -> Heap -> Prop) : S_kit_CopyCard a0 H Q = cFn C [1, 2] Tryz.f54.ntmps Tryz.f54.results.toList [T_G_api_Card] (bodyOf Tryz.f54) h_kit_CopyCard [(T_G_api_Card.enc a0)] H Q := by kernel_rfl
theorem c_kit_CopyCard {a0 : G_api_Card} {H : Heap} {Q : G_api_Card × Unit -> Heap -> Prop} (h : S_kit_CopyCard a0 H Q) : CALL P [T_G_api_Card] n_kit_CopyCard [(T_G_api_Card.enc a0)] H Q := call_print hE Tryz.func54 rfl (by kernel_rfl) (e_kit_CopyCard a0 H Q) h
def S_ref07_Book_Card (a0 : Option Addr) (a1 : G_api_Card) (H : Heap) (Q : Int × Unit -> Heap -> Prop) : Prop :=
CALL P [T_bool] n_ref07_Book_None [(.pointer a0)] H fun (x1 : Bool × Unit) H1 =>
ifB x1.1 (
Q (1, ()) H1) (
NIL a0 fun b2 o3 =>
LD T_bool H1 b2 (o3 + 1) fun (x4 : Bool) =>
ifB x4 (
Q (7, ()) H1) (
CALL P [(T_int .i64)] n_ref06_Check [(T_G_api_Card.enc a1)] H1 fun (x5 : Int × Unit) H2 =>
ifB (x5.1 != 0) (
Q (x5.1, ()) H2) (
CALL P [(T_int .i64)] n_ref07_Book_place [(.pointer a0), (.string a1.Name)] H2 fun (x6 : Int × Unit) H3 =>
ifB (decide (x6.1 ≥ 0)) (
Q (5, ()) H3) (
NIL a0 fun b7 o8 =>
LD T_sl H3 b7 (o8 + 2) fun (x9 : Sl) =>
ifB (decide ((x9.len : Int) ≥ 64)) (
Q (14, ()) H3) (
JOIN (fun (j10 : (Sl × Bool × Unit) × (Unit) -> Heap -> Prop) =>
LOOP (fun (r12 : (Sl × Bool × Int × Unit) × (Unit) -> Heap -> Prop) (s13 : (Sl × Bool × Int × Unit) × (Unit)) H5 =>
NIL a0 fun b14 o15 =>
LD T_sl H5 b14 (o15 + 2) fun (x16 : Sl) =>
ifB (decide (s13.1.2.2.1 < (x16.len : Int))) (
JOIN (fun (j17 : (Bool × Unit) × (Unit) -> Heap -> Prop) =>
ifB (!s13.1.2.1) (
NIL a0 fun b19 o20 =>
LD T_sl H5 b19 (o20 + 2) fun (x21 : Sl) =>
IDX x21.p x21.len s13.1.2.2.1 9 fun b22 o23 =>
LD T_G_api_Card H5 b22 o23 fun (x24 : G_api_Card) =>
CALL P [T_bool] n_ref07_Ahead [(T_G_api_Card.enc a1), (T_G_api_Card.enc x24)] H5 fun (x25 : Bool × Unit) H7 =>
j17 ((x25.1, ()), (())) H7) (
j17 ((false, ()), (())) H5)) fun (y18 : (Bool × Unit) × (Unit)) H6 =>
JOIN (fun (j26 : (Sl × Bool × Unit) × (Unit) -> Heap -> Prop) =>
ifB y18.1.1 (
CALL P [T_G_api_Card] n_ref06_Copy [(T_G_api_Card.enc a1)] H6 fun (x28 : G_api_Card × Unit) H9 =>
APP T_sl (lenV s13.1.1.v + 1) (aAppE E [22, 22] s13.1.1.v 1 (T_G_api_Card.cells x28.1) H9) fun (x29 : Sl) H10 =>
j26 ((x29, true, ()), (())) H10) (
j26 ((s13.1.1, s13.1.2.1, ()), (())) H6)) fun (y27 : (Sl × Bool × Unit) × (Unit)) H8 =>
NIL a0 fun b30 o31 =>
LD T_sl H8 b30 (o31 + 2) fun (x32 : Sl) =>
IDX x32.p x32.len s13.1.2.2.1 9 fun b33 o34 =>
LD T_G_api_Card H8 b33 o34 fun (x35 : G_api_Card) =>
APP T_sl (lenV y27.1.1.v + 1) (aAppE E [22, 22] y27.1.1.v 1 (T_G_api_Card.cells x35) H8) fun (x36 : Sl) H11 =>
r12 ((x36, y27.1.2.1, IntKind.wrap .i64 (s13.1.2.2.1 + 1), ()), (())) H11) (
j10 ((s13.1.1, s13.1.2.1, ()), (())) H5)) (((Sl.mk none 0 0), false, 0, ()), (())) H3) fun (y11 : (Sl × Bool × Unit) × (Unit)) H4 =>
JOIN (fun (j37 : (Sl × Unit) × (Unit) -> Heap -> Prop) =>
ifB (!y11.1.2.1) (
CALL P [T_G_api_Card] n_ref06_Copy [(T_G_api_Card.enc a1)] H4 fun (x39 : G_api_Card × Unit) H13 =>
APP T_sl (lenV y11.1.1.v + 1) (aAppE E [22, 22] y11.1.1.v 1 (T_G_api_Card.cells x39.1) H13) fun (x40 : Sl) H14 =>
j37 ((x40, ()), (())) H14) (
j37 ((y11.1.1, ()), (())) H4)) fun (y38 : (Sl × Unit) × (Unit)) H12 =>
NIL a0 fun b41 o42 =>
ST H12 b41 (o42 + 2) [(.slice y38.1.1.p y38.1.1.len y38.1.1.cap)] fun H15 =>
Q (0, ()) H15)))))
def h_ref07_Book_Card : Hnt := (.seq .leaf (.seq .leaf (.seq .leaf (.seq .leaf (.seq .leaf (.seq .leaf (.seq .leaf (.seq .leaf (.seq .leaf (.seq (.seq .leaf (.blk (some ⟨[(6, T_sl), (7, T_bool)], [], [8, 31, 32, 33, 34, 35, 36, 37, 38, 39, 40, 41, 42, 43, 44, 45, 46, 47, 48, 49, 50, 51, 52, 53, 54, 55, 56, 57, 58, 59, 60, 61, 62, 63, 64, 65, 66, 67]⟩) (.loop ⟨[(6, T_sl), (7, T_bool), (8, (T_int .i64))], [], [31, 32, 33, 34, 35, 36, 37, 38, 39, 40, 41, 42, 43, 44, 45, 46, 47, 48, 49, 50, 51, 52, 53, 54, 55, 56, 57, 58, 59, 60, 61, 62, 63, 64, 65, 66, 67]⟩ (.seq .leaf (.seq (.blk none (.seq (.seq (.reg ⟨[(52, T_bool)], [], [40, 41, 42, 43, 44, 45, 46, 47, 48, 49, 50, 51]⟩) (.cond (some ⟨[(6, T_sl), (7, T_bool)], [], [53, 54, 55, 56, 57]⟩) .leaf .leaf)) .leaf)) .leaf))))) (.seq (.seq .leaf (.cond (some ⟨[(6, T_sl)], [], [70, 71, 72, 73, 74]⟩) .leaf .leaf)) .leaf)))))))))))
theorem e_ref07_Book_Card (a0 : Option Addr) (a1 : G_api_Card) (H : Heap) (Q : Int × Unit -> Heap -> Prop) : S_ref07_Book_Card a0 a1 H Q = cFn C [3, 56, 66, 73] Tryz.f55.ntmps Tryz.f55.results.toList [(T_int .i64)] (bodyOf Tryz.f55) h_ref07_Book_Card [(.pointer a0), (T_G_api_Card.enc a1)] H Q := by kernel_rfl
theorem c_ref07_Book_Card {a0 : Option Addr} {a1 : G_api_Card} {H : Heap} {Q : Int × Unit -> Heap -> Prop} (h : S_ref07_Book_Card a0 a1 H Q) : CALL P [(T_int .i64)] n_ref07_Book_Card [(.pointer a0), (T_G_api_Card.enc a1)] H Q := call_print hE Tryz.func55 rfl (by kernel_rfl) (e_ref07_Book_Card a0 a1 H Q) h
def S_book_Book_Mark (a0 : Option Addr) (a1 : G_api_MarkInfo) (H : Heap) (Q : Int × Unit -> Heap -> Prop) : Prop :=
CALL P [(T_int .i64)] n_book_Book_shut [(.pointer a0)] H fun (x1 : Int × Unit) H1 =>
ifB (x1.1 != 0) (
Q (x1.1, ()) H1) (
JOIN (fun (j2 : (Bool × Unit) × (Unit) -> Heap -> Prop) =>
ifB (decide (a1.Mark < 1)) (
j2 ((true, ()), (())) H1) (
ifB (decide (a1.Mark > 4)) (
j2 ((true, ()), (())) H1) (
CALL P [T_bool] n_book_within [(.int .i64 a1.Power)] H1 fun (x4 : Bool × Unit) H3 =>
ifB (!x4.1) (
j2 ((true, ()), (())) H3) (
CALL P [T_bool] n_book_within [(.int .i64 a1.Health)] H3 fun (x5 : Bool × Unit) H4 =>
j2 ((!x5.1, ()), (())) H4)))) fun (y3 : (Bool × Unit) × (Unit)) H2 =>
ifB y3.1.1 (
Q (2, ()) H2) (
CALL P [T_bool] n_book_name [(.string a1.Name)] H2 fun (x6 : Bool × Unit) H5 =>
ifB (!x6.1) (
Q (4, ()) H5) (
NIL a0 fun b7 o8 =>
IDXA 5 a1.Mark (
LD (T_int .u8) H5 b7 (o8 + 588 + a1.Mark.toNat * 4 + 0) fun (x9 : Int) =>
ifB (x9 != 0) (
Q (5, ()) H5) (
NIL a0 fun b10 o11 =>
LD T_arr5_T_G_api_MarkInfo H5 b10 (o11 + 588) fun (x12 : G_api_MarkInfo × G_api_MarkInfo × G_api_MarkInfo × G_api_MarkInfo × G_api_MarkInfo) =>
JOIN (fun (j13 : (Unit) × (Unit) -> Heap -> Prop) =>
LOOP (fun (r15 : (Int × Unit) × (Unit) -> Heap -> Prop) (s16 : (Int × Unit) × (Unit)) H7 =>
ifB (decide (s16.1.1 < 5)) (
GENV T_G_api_MarkInfo (aIndex E 158 (.agg #[(.int .u8 x12.1.Mark), (.string x12.1.Name), (.int .i64 x12.1.Power), (.int .i64 x12.1.Health), (.int .u8 x12.2.1.Mark), (.string x12.2.1.Name), (.int .i64 x12.2.1.Power), (.int .i64 x12.2.1.Health), (.int .u8 x12.2.2.1.Mark), (.string x12.2.2.1.Name), (.int .i64 x12.2.2.1.Power), (.int .i64 x12.2.2.1.Health), (.int .u8 x12.2.2.2.1.Mark), (.string x12.2.2.2.1.Name), (.int .i64 x12.2.2.2.1.Power), (.int .i64 x12.2.2.2.1.Health), (.int .u8 x12.2.2.2.2.Mark), (.string x12.2.2.2.2.Name), (.int .i64 x12.2.2.2.2.Power), (.int .i64 x12.2.2.2.2.Health)]) (.int .i64 s16.1.1)) fun (x17 : G_api_MarkInfo) =>
ifB (x17.Name.toList == a1.Name.toList) (
Q (5, ()) H7) (
r15 ((IntKind.wrap .i64 (s16.1.1 + 1), ()), (())) H7)) (
j13 ((()), (())) H7)) ((0, ()), (())) H5) fun (y14 : (Unit) × (Unit)) H6 =>
NIL a0 fun b18 o19 =>
IDXA 5 a1.Mark (
ST H6 b18 (o19 + 588 + a1.Mark.toNat * 4) (T_G_api_MarkInfo.cells a1) fun H8 =>
Q (0, ()) H8))))))
def h_book_Book_Mark : Hnt := (.seq .leaf (.seq .leaf (.seq (.blk none (.seq (.reg ⟨[(13, T_bool)], [], [14, 15, 16, 17, 18, 19, 20, 21, 22, 23, 24, 25, 26, 27, 28, 29, 30, 31, 32, 33]⟩) .leaf)) (.seq (.seq .leaf (.blk (some ⟨[], [], [4, 7, 53, 54, 55, 56, 57, 58, 59, 60, 61]⟩) (.loop ⟨[(53, (T_int .i64))], [], [4, 7, 54, 55, 56, 57, 58, 59, 60, 61]⟩ .leaf))) .leaf))))
theorem e_book_Book_Mark (a0 : Option Addr) (a1 : G_api_MarkInfo) (H : Heap) (Q : Int × Unit -> Heap -> Prop) : S_book_Book_Mark a0 a1 H Q = cFn C [3, 7] Tryz.f56.ntmps Tryz.f56.results.toList [(T_int .i64)] (bodyOf Tryz.f56) h_book_Book_Mark [(.pointer a0), (T_G_api_MarkInfo.enc a1)] H Q := by kernel_rfl
theorem c_book_Book_Mark {a0 : Option Addr} {a1 : G_api_MarkInfo} {H : Heap} {Q : Int × Unit -> Heap -> Prop} (h : S_book_Book_Mark a0 a1 H Q) : CALL P [(T_int .i64)] n_book_Book_Mark [(.pointer a0), (T_G_api_MarkInfo.enc a1)] H Q := call_print hE Tryz.func56 rfl (by kernel_rfl) (e_book_Book_Mark a0 a1 H Q) h
def S_ref07_Book_Mark (a0 : Option Addr) (a1 : G_api_MarkInfo) (H : Heap) (Q : Int × Unit -> Heap -> Prop) : Prop :=
CALL P [T_bool] n_ref07_Book_None [(.pointer a0)] H fun (x1 : Bool × Unit) H1 =>
ifB x1.1 (
Q (1, ()) H1) (
NIL a0 fun b2 o3 =>
LD T_bool H1 b2 (o3 + 1) fun (x4 : Bool) =>
ifB x4 (
Q (7, ()) H1) (
JOIN (fun (j5 : (Bool × Unit) × (Unit) -> Heap -> Prop) =>
ifB (decide (a1.Mark < 1)) (
j5 ((true, ()), (())) H1) (
ifB (decide (a1.Mark > 4)) (
j5 ((true, ()), (())) H1) (
ifB (decide (a1.Power < (-9))) (
j5 ((true, ()), (())) H1) (
ifB (decide (a1.Power > 9)) (
j5 ((true, ()), (())) H1) (
ifB (decide (a1.Health < (-9))) (
j5 ((true, ()), (())) H1) (
j5 ((decide (a1.Health > 9), ()), (())) H1)))))) fun (y6 : (Bool × Unit) × (Unit)) H2 =>
ifB y6.1.1 (
Q (2, ()) H2) (
CALL P [T_bool] n_ref07_Name [(.string a1.Name)] H2 fun (x7 : Bool × Unit) H3 =>
ifB (!x7.1) (
Q (4, ()) H3) (
JOIN (fun (j8 : (Unit) × (Unit) -> Heap -> Prop) =>
LOOP (fun (r10 : (Int × Unit) × (Unit) -> Heap -> Prop) (s11 : (Int × Unit) × (Unit)) H5 =>
ifB (decide (s11.1.1 ≤ 4)) (
JOIN (fun (j12 : (Bool × Unit) × (Unit) -> Heap -> Prop) =>
ifB ((IntKind.wrap .u8 s11.1.1) == a1.Mark) (
NIL a0 fun b14 o15 =>
IDXA 5 s11.1.1 (
LD (T_int .u8) H5 b14 (o15 + 12 + s11.1.1.toNat * 4 + 0) fun (x16 : Int) =>
ifB (x16 != 0) (
j12 ((true, ()), (())) H5) (
NIL a0 fun b17 o18 =>
IDXA 5 s11.1.1 (
LD T_str H5 b17 (o18 + 12 + s11.1.1.toNat * 4 + 1) fun (x19 : ByteArray) =>
j12 ((x19.toList == a1.Name.toList, ()), (())) H5)))) (
NIL a0 fun b20 o21 =>
IDXA 5 s11.1.1 (
LD T_str H5 b20 (o21 + 12 + s11.1.1.toNat * 4 + 1) fun (x22 : ByteArray) =>
j12 ((x22.toList == a1.Name.toList, ()), (())) H5))) fun (y13 : (Bool × Unit) × (Unit)) H6 =>
ifB y13.1.1 (
Q (5, ()) H6) (
r10 ((IntKind.wrap .i64 (s11.1.1 + 1), ()), (())) H6)) (
j8 ((()), (())) H5)) ((1, ()), (())) H3) fun (y9 : (Unit) × (Unit)) H4 =>
NIL a0 fun b23 o24 =>
IDXA 5 a1.Mark (
ST H4 b23 (o24 + 12 + a1.Mark.toNat * 4) (T_G_api_MarkInfo.cells a1) fun H7 =>
Q (0, ()) H7)))))
def h_ref07_Book_Mark : Hnt := (.seq .leaf (.seq .leaf (.seq .leaf (.seq (.seq (.reg ⟨[(39, T_bool)], [], [12, 13, 14, 15, 16, 17, 18, 19, 20, 21, 22, 23, 24, 25, 26, 27, 28, 29, 30, 31, 32, 33, 34, 35, 36, 37, 38]⟩) .leaf) (.seq .leaf (.seq (.seq .leaf (.blk (some ⟨[], [], [4, 5, 44, 45, 46, 47, 48, 49, 50, 51, 52, 53, 54, 55, 56, 57, 58, 59, 60, 61, 62, 63, 64, 65, 66, 67, 68, 69, 70, 71, 72, 73, 74]⟩) (.loop ⟨[(5, (T_int .i64))], [], [4, 44, 45, 46, 47, 48, 49, 50, 51, 52, 53, 54, 55, 56, 57, 58, 59, 60, 61, 62, 63, 64, 65, 66, 67, 68, 69, 70, 71, 72, 73, 74]⟩ (.seq .leaf (.seq (.blk none (.seq (.reg ⟨[(74, T_bool)], [], [48, 49, 50, 51, 52, 53, 54, 55, 56, 57, 58, 59, 60, 61, 62, 63, 64, 65, 66, 67, 68, 69, 70, 71, 72, 73]⟩) .leaf)) .leaf))))) .leaf))))))
theorem e_ref07_Book_Mark (a0 : Option Addr) (a1 : G_api_MarkInfo) (H : Heap) (Q : Int × Unit -> Heap -> Prop) : S_ref07_Book_Mark a0 a1 H Q = cFn C [3] Tryz.f57.ntmps Tryz.f57.results.toList [(T_int .i64)] (bodyOf Tryz.f57) h_ref07_Book_Mark [(.pointer a0), (T_G_api_MarkInfo.enc a1)] H Q := by kernel_rfl
theorem c_ref07_Book_Mark {a0 : Option Addr} {a1 : G_api_MarkInfo} {H : Heap} {Q : Int × Unit -> Heap -> Prop} (h : S_ref07_Book_Mark a0 a1 H Q) : CALL P [(T_int .i64)] n_ref07_Book_Mark [(.pointer a0), (T_G_api_MarkInfo.enc a1)] H Q := call_print hE Tryz.func57 rfl (by kernel_rfl) (e_ref07_Book_Mark a0 a1 H Q) h
def S_book_Book_Seal (a0 : Option Addr) (H : Heap) (Q : Int × Unit -> Heap -> Prop) : Prop :=
CALL P [(T_int .i64)] n_book_Book_shut [(.pointer a0)] H fun (x1 : Int × Unit) H1 =>
ifB (x1.1 != 0) (
Q (x1.1, ()) H1) (
NIL a0 fun b2 o3 =>
NIL a0 fun b4 o5 =>
LD (T_int .i64) H1 b4 (o5 + 2) fun (x6 : Int) =>
GENV T_sl (aSlice E 156 (.pointer (some ⟨b2, o3 + 3, none⟩)) none (some (.int .i64 x6)) none H1) fun (x7 : Sl) =>
JOIN (fun (j8 : (Unit) × (Unit) -> Heap -> Prop) =>
LOOP (fun (r10 : (Int × Unit) × (Unit) -> Heap -> Prop) (s11 : (Int × Unit) × (Unit)) H3 =>
ifB (decide (s11.1.1 < (x7.len : Int))) (
JOIN (fun (j12 : (Unit) × (Unit) -> Heap -> Prop) =>
IDX x7.p x7.len s11.1.1 9 fun b14 o15 =>
LD T_G_api_Card H3 b14 o15 fun (x16 : G_api_Card) =>
JOIN (fun (j17 : (Unit) × (Unit) -> Heap -> Prop) =>
LOOP (fun (r19 : (Int × Unit) × (Unit) -> Heap -> Prop) (s20 : (Int × Unit) × (Unit)) H6 =>
ifB (decide (s20.1.1 < (x16.Parts.len : Int))) (
JOIN (fun (j21 : (Unit) × (Unit) -> Heap -> Prop) =>
IDX x16.Parts.p x16.Parts.len s20.1.1 8 fun b23 o24 =>
LD T_G_api_Part H6 b23 o24 fun (x25 : G_api_Part) =>
ifB (x25.Verb != 7) (
j21 ((()), (())) H6) (
CALL P [(T_int .i64)] n_book_Book_place [(.pointer a0), (.string x25.Name)] H6 fun (x26 : Int × Unit) H8 =>
ifB (decide (x26.1 < 0)) (
Q (6, ()) H8) (
NIL a0 fun b27 o28 =>
IDXA 64 x26.1 (
LD (T_int .u8) H8 b27 (o28 + 3 + x26.1.toNat * 9 + 2) fun (x29 : Int) =>
ifB (x29 == 2) (
Q (8, ()) H8) (
j21 ((()), (())) H8))))) fun (y22 : (Unit) × (Unit)) H7 =>
r19 ((IntKind.wrap .i64 (s20.1.1 + 1), ()), (())) H7) (
j17 ((()), (())) H6)) ((0, ()), (())) H3) fun (y18 : (Unit) × (Unit)) H5 =>
j12 ((()), (())) H5) fun (y13 : (Unit) × (Unit)) H4 =>
r10 ((IntKind.wrap .i64 (s11.1.1 + 1), ()), (())) H4) (
j8 ((()), (())) H3)) ((0, ()), (())) H1) fun (y9 : (Unit) × (Unit)) H2 =>
NIL a0 fun b30 o31 =>
ST H2 b30 (o31 + 1) [(.bool true)] fun H9 =>
Q (0, ()) H9)
def h_book_Book_Seal : Hnt := (.seq .leaf (.seq .leaf (.seq (.seq .leaf (.blk (some ⟨[], [], [2, 5, 7, 8, 23, 24, 25, 26, 27, 28, 29, 30, 31, 32, 33, 34, 35, 36, 37, 38, 39, 40, 41, 42, 43, 44, 45, 46, 47, 48, 49, 50, 51, 52, 53, 54]⟩) (.loop ⟨[(23, (T_int .i64))], [], [2, 5, 7, 8, 24, 25, 26, 27, 28, 29, 30, 31, 32, 33, 34, 35, 36, 37, 38, 39, 40, 41, 42, 43, 44, 45, 46, 47, 48, 49, 50, 51, 52, 53, 54]⟩ (.seq .leaf (.seq .leaf (.seq (.blk (some ⟨[], [], [2, 5, 7, 8, 25, 26, 27, 28, 29, 30, 31, 32, 33, 34, 35, 36, 37, 38, 39, 40, 41, 42, 43, 44, 45, 46, 47, 48, 49, 50, 51, 52, 53]⟩) (.seq .leaf (.seq .leaf (.blk (some ⟨[], [], [2, 7, 8, 30, 31, 32, 33, 34, 35, 36, 37, 38, 39, 40, 41, 42, 43, 44, 45, 46, 47, 48, 49, 50, 51, 52, 53]⟩) (.loop ⟨[(30, (T_int .i64))], [], [2, 7, 8, 31, 32, 33, 34, 35, 36, 37, 38, 39, 40, 41, 42, 43, 44, 45, 46, 47, 48, 49, 50, 51, 52, 53]⟩ (.seq .leaf (.seq .leaf (.seq (.blk (some ⟨[], [], [2, 7, 8, 32, 33, 34, 35, 36, 37, 38, 39, 40, 41, 42, 43, 44, 45, 46, 47, 48, 49, 50, 51, 52]⟩) .leaf) .leaf)))))))) .leaf)))))) .leaf)))
theorem e_book_Book_Seal (a0 : Option Addr) (H : Heap) (Q : Int × Unit -> Heap -> Prop) : S_book_Book_Seal a0 H Q = cFn C [5, 7] Tryz.f58.ntmps Tryz.f58.results.toList [(T_int .i64)] (bodyOf Tryz.f58) h_book_Book_Seal [(.pointer a0)] H Q := by kernel_rfl
theorem c_book_Book_Seal {a0 : Option Addr} {H : Heap} {Q : Int × Unit -> Heap -> Prop} (h : S_book_Book_Seal a0 H Q) : CALL P [(T_int .i64)] n_book_Book_Seal [(.pointer a0)] H Q := call_print hE Tryz.func58 rfl (by kernel_rfl) (e_book_Book_Seal a0 H Q) h
def S_ref07_Book_Seal (a0 : Option Addr) (H : Heap) (Q : Int × Unit -> Heap -> Prop) : Prop :=
CALL P [T_bool] n_ref07_Book_None [(.pointer a0)] H fun (x1 : Bool × Unit) H1 =>
ifB x1.1 (
Q (1, ()) H1) (
NIL a0 fun b2 o3 =>
LD T_bool H1 b2 (o3 + 1) fun (x4 : Bool) =>
ifB x4 (
Q (7, ()) H1) (
JOIN (fun (j5 : (Unit) × (Unit) -> Heap -> Prop) =>
LOOP (fun (r7 : (Int × Unit) × (Unit) -> Heap -> Prop) (s8 : (Int × Unit) × (Unit)) H3 =>
NIL a0 fun b9 o10 =>
LD T_sl H3 b9 (o10 + 2) fun (x11 : Sl) =>
ifB (decide (s8.1.1 < (x11.len : Int))) (
JOIN (fun (j12 : (Unit) × (Unit) -> Heap -> Prop) =>
JOIN (fun (j14 : (Unit) × (Unit) -> Heap -> Prop) =>
LOOP (fun (r16 : (Int × Unit) × (Unit) -> Heap -> Prop) (s17 : (Int × Unit) × (Unit)) H6 =>
NIL a0 fun b18 o19 =>
LD T_sl H6 b18 (o19 + 2) fun (x20 : Sl) =>
IDX x20.p x20.len s8.1.1 9 fun b21 o22 =>
LD T_sl H6 b21 (o22 + 8) fun (x23 : Sl) =>
ifB (decide (s17.1.1 < (x23.len : Int))) (
JOIN (fun (j24 : (Unit) × (Unit) -> Heap -> Prop) =>
NIL a0 fun b26 o27 =>
LD T_sl H6 b26 (o27 + 2) fun (x28 : Sl) =>
IDX x28.p x28.len s8.1.1 9 fun b29 o30 =>
LD T_sl H6 b29 (o30 + 8) fun (x31 : Sl) =>
IDX x31.p x31.len s17.1.1 8 fun b32 o33 =>
LD T_G_api_Part H6 b32 o33 fun (x34 : G_api_Part) =>
ifB (x34.Verb != 7) (
j24 ((()), (())) H6) (
CALL P [(T_int .i64)] n_ref07_Book_place [(.pointer a0), (.string x34.Name)] H6 fun (x35 : Int × Unit) H8 =>
ifB (decide (x35.1 < 0)) (
Q (6, ()) H8) (
NIL a0 fun b36 o37 =>
LD T_sl H8 b36 (o37 + 2) fun (x38 : Sl) =>
IDX x38.p x38.len x35.1 9 fun b39 o40 =>
LD (T_int .u8) H8 b39 (o40 + 2) fun (x41 : Int) =>
ifB (x41 == 2) (
Q (8, ()) H8) (
j24 ((()), (())) H8)))) fun (y25 : (Unit) × (Unit)) H7 =>
r16 ((IntKind.wrap .i64 (s17.1.1 + 1), ()), (())) H7) (
j14 ((()), (())) H6)) ((0, ()), (())) H3) fun (y15 : (Unit) × (Unit)) H5 =>
j12 ((()), (())) H5) fun (y13 : (Unit) × (Unit)) H4 =>
r7 ((IntKind.wrap .i64 (s8.1.1 + 1), ()), (())) H4) (
j5 ((()), (())) H3)) ((0, ()), (())) H1) fun (y6 : (Unit) × (Unit)) H2 =>
NIL a0 fun b42 o43 =>
ST H2 b42 (o43 + 1) [(.bool true)] fun H9 =>
Q (0, ()) H9))
def h_ref07_Book_Seal : Hnt := (.seq .leaf (.seq .leaf (.seq .leaf (.seq (.seq .leaf (.blk (some ⟨[], [], [2, 3, 4, 5, 6, 13, 14, 15, 16, 17, 18, 19, 20, 21, 22, 23, 24, 25, 26, 27, 28, 29, 30, 31, 32, 33, 34, 35, 36, 37, 38, 39, 40, 41, 42, 43, 44, 45, 46, 47, 48, 49, 50, 51, 52, 53, 54, 55, 56, 57, 58, 59, 60, 61, 62, 63]⟩) (.loop ⟨[(3, (T_int .i64))], [], [2, 4, 5, 6, 13, 14, 15, 16, 17, 18, 19, 20, 21, 22, 23, 24, 25, 26, 27, 28, 29, 30, 31, 32, 33, 34, 35, 36, 37, 38, 39, 40, 41, 42, 43, 44, 45, 46, 47, 48, 49, 50, 51, 52, 53, 54, 55, 56, 57, 58, 59, 60, 61, 62, 63]⟩ (.seq .leaf (.seq (.blk (some ⟨[], [], [2, 4, 5, 6, 22, 23, 24, 25, 26, 27, 28, 29, 30, 31, 32, 33, 34, 35, 36, 37, 38, 39, 40, 41, 42, 43, 44, 45, 46, 47, 48, 49, 50, 51, 52, 53, 54, 55, 56, 57, 58, 59, 60, 61, 62, 63]⟩) (.seq .leaf (.blk (some ⟨[], [], [2, 4, 5, 6, 22, 23, 24, 25, 26, 27, 28, 29, 30, 31, 32, 33, 34, 35, 36, 37, 38, 39, 40, 41, 42, 43, 44, 45, 46, 47, 48, 49, 50, 51, 52, 53, 54, 55, 56, 57, 58, 59, 60, 61, 62, 63]⟩) (.loop ⟨[(4, (T_int .i64))], [], [2, 5, 6, 22, 23, 24, 25, 26, 27, 28, 29, 30, 31, 32, 33, 34, 35, 36, 37, 38, 39, 40, 41, 42, 43, 44, 45, 46, 47, 48, 49, 50, 51, 52, 53, 54, 55, 56, 57, 58, 59, 60, 61, 62, 63]⟩ (.seq .leaf (.seq (.blk (some ⟨[], [], [2, 5, 6, 35, 36, 37, 38, 39, 40, 41, 42, 43, 44, 45, 46, 47, 48, 49, 50, 51, 52, 53, 54, 55, 56, 57, 58, 59, 60, 61, 62, 63]⟩) .leaf) .leaf)))))) .leaf))))) .leaf))))
theorem e_ref07_Book_Seal (a0 : Option Addr) (H : Heap) (Q : Int × Unit -> Heap -> Prop) : S_ref07_Book_Seal a0 H Q = cFn C [5] Tryz.f59.ntmps Tryz.f59.results.toList [(T_int .i64)] (bodyOf Tryz.f59) h_ref07_Book_Seal [(.pointer a0)] H Q := by kernel_rfl
theorem c_ref07_Book_Seal {a0 : Option Addr} {H : Heap} {Q : Int × Unit -> Heap -> Prop} (h : S_ref07_Book_Seal a0 H Q) : CALL P [(T_int .i64)] n_ref07_Book_Seal [(.pointer a0)] H Q := call_print hE Tryz.func59 rfl (by kernel_rfl) (e_ref07_Book_Seal a0 H Q) h
def S_book_Book_Sealed (a0 : Option Addr) (H : Heap) (Q : Bool × Unit -> Heap -> Prop) : Prop :=
CALL P [T_bool] n_book_Book_none [(.pointer a0)] H fun (x1 : Bool × Unit) H1 =>
ifB x1.1 (
Q (false, ()) H1) (
NIL a0 fun b2 o3 =>
LD T_bool H1 b2 (o3 + 1) fun (x4 : Bool) =>
Q (x4, ()) H1)
def h_book_Book_Sealed : Hnt := .leaf
theorem e_book_Book_Sealed (a0 : Option Addr) (H : Heap) (Q : Bool × Unit -> Heap -> Prop) : S_book_Book_Sealed a0 H Q = cFn C [] Tryz.f60.ntmps Tryz.f60.results.toList [T_bool] (bodyOf Tryz.f60) h_book_Book_Sealed [(.pointer a0)] H Q := by kernel_rfl
theorem c_book_Book_Sealed {a0 : Option Addr} {H : Heap} {Q : Bool × Unit -> Heap -> Prop} (h : S_book_Book_Sealed a0 H Q) : CALL P [T_bool] n_book_Book_Sealed [(.pointer a0)] H Q := call_print hE Tryz.func60 rfl (by kernel_rfl) (e_book_Book_Sealed a0 H Q) h
def S_ref07_Book_Sealed (a0 : Option Addr) (H : Heap) (Q : Bool × Unit -> Heap -> Prop) : Prop :=
JOIN (fun (j1 : (Bool × Unit) × (Unit) -> Heap -> Prop) =>
CALL P [T_bool] n_ref07_Book_None [(.pointer a0)] H fun (x3 : Bool × Unit) H2 =>
ifB (!x3.1) (
NIL a0 fun b4 o5 =>
LD T_bool H2 b4 (o5 + 1) fun (x6 : Bool) =>
j1 ((x6, ()), (())) H2) (
j1 ((false, ()), (())) H2)) fun (y2 : (Bool × Unit) × (Unit)) H1 =>
Q (y2.1.1, ()) H1
def h_ref07_Book_Sealed : Hnt := (.seq .leaf (.seq (.reg ⟨[(2, T_bool)], [], [3, 4, 5, 6, 7, 8, 9, 10, 11]⟩) .leaf))
theorem e_ref07_Book_Sealed (a0 : Option Addr) (H : Heap) (Q : Bool × Unit -> Heap -> Prop) : S_ref07_Book_Sealed a0 H Q = cFn C [] Tryz.f61.ntmps Tryz.f61.results.toList [T_bool] (bodyOf Tryz.f61) h_ref07_Book_Sealed [(.pointer a0)] H Q := by kernel_rfl
theorem c_ref07_Book_Sealed {a0 : Option Addr} {H : Heap} {Q : Bool × Unit -> Heap -> Prop} (h : S_ref07_Book_Sealed a0 H Q) : CALL P [T_bool] n_ref07_Book_Sealed [(.pointer a0)] H Q := call_print hE Tryz.func61 rfl (by kernel_rfl) (e_ref07_Book_Sealed a0 H Q) h
def S_trait_Has (a0 : Int) (a1 : Int) (H : Heap) (Q : Bool × Unit -> Heap -> Prop) : Prop :=
CALL P [(T_int .u16)] n_trait_bit [(.int .u8 a1)] H fun (x1 : Int × Unit) H1 =>
Q ((IntKind.wrap .u16 (((BitVec.ofInt (IntKind.bits .u16) a0 &&& BitVec.ofInt (IntKind.bits .u16) x1.1).toNat : Int))) != 0, ()) H1
def h_trait_Has : Hnt := .leaf
theorem e_trait_Has (a0 : Int) (a1 : Int) (H : Heap) (Q : Bool × Unit -> Heap -> Prop) : S_trait_Has a0 a1 H Q = cFn C [] Tryz.f67.ntmps Tryz.f67.results.toList [T_bool] (bodyOf Tryz.f67) h_trait_Has [(.int .u16 a0), (.int .u8 a1)] H Q := by kernel_rfl
theorem c_trait_Has {a0 : Int} {a1 : Int} {H : Heap} {Q : Bool × Unit -> Heap -> Prop} (h : S_trait_Has a0 a1 H Q) : CALL P [T_bool] n_trait_Has [(.int .u16 a0), (.int .u8 a1)] H Q := call_print hE Tryz.func67 rfl (by kernel_rfl) (e_trait_Has a0 a1 H Q) h
def S_thing_Card (a0 : Option Addr) (a1 : G_api_Thing) (H : Heap) (Q : G_api_Card × Int × Unit -> Heap -> Prop) : Prop :=
CALL P [T_G_api_Card, (T_int .i64)] n_book_Book_At [(.pointer a0), (.int .i64 a1.Card)] H fun (x1 : G_api_Card × Int × Unit) H1 =>
Q (x1.1, x1.2.1, ()) H1
def h_thing_Card : Hnt := .leaf
theorem e_thing_Card (a0 : Option Addr) (a1 : G_api_Thing) (H : Heap) (Q : G_api_Card × Int × Unit -> Heap -> Prop) : S_thing_Card a0 a1 H Q = cFn C [3, 4] Tryz.f71.ntmps Tryz.f71.results.toList [T_G_api_Card, (T_int .i64)] (bodyOf Tryz.f71) h_thing_Card [(.pointer a0), (T_G_api_Thing.enc a1)] H Q := by kernel_rfl
theorem c_thing_Card {a0 : Option Addr} {a1 : G_api_Thing} {H : Heap} {Q : G_api_Card × Int × Unit -> Heap -> Prop} (h : S_thing_Card a0 a1 H Q) : CALL P [T_G_api_Card, (T_int .i64)] n_thing_Card [(.pointer a0), (T_G_api_Thing.enc a1)] H Q := call_print hE Tryz.func71 rfl (by kernel_rfl) (e_thing_Card a0 a1 H Q) h
def S_kit_SameThings (a0 : Sl) (a1 : Sl) (H : Heap) (Q : Bool × Unit -> Heap -> Prop) : Prop :=
ifB ((a0.len : Int) != (a1.len : Int)) (
Q (false, ()) H) (
JOIN (fun (j1 : (Unit) × (Unit) -> Heap -> Prop) =>
LOOP (fun (r3 : (Int × Unit) × (Unit) -> Heap -> Prop) (s4 : (Int × Unit) × (Unit)) H2 =>
ifB (decide (s4.1.1 < (a0.len : Int))) (
IDX a0.p a0.len s4.1.1 11 fun b5 o6 =>
LD T_G_api_Thing H2 b5 o6 fun (x7 : G_api_Thing) =>
IDX a1.p a1.len s4.1.1 11 fun b8 o9 =>
LD T_G_api_Thing H2 b8 o9 fun (x10 : G_api_Thing) =>
ifB (!((x7.Card == x10.Card) && ((x7.Owner == x10.Owner) && ((x7.Place == x10.Place) && ((x7.Stamp == x10.Stamp) && ((x7.Hurt == x10.Hurt) && (((x7.Marks.1 == x10.Marks.1) && ((x7.Marks.2.1 == x10.Marks.2.1) && ((x7.Marks.2.2.1 == x10.Marks.2.2.1) && ((x7.Marks.2.2.2 == x10.Marks.2.2.2) && true)))) && ((x7.Done == x10.Done) && ((x7.Fresh == x10.Fresh) && true))))))))) (
Q (false, ()) H2) (
r3 ((IntKind.wrap .i64 (s4.1.1 + 1), ()), (())) H2)) (
j1 ((()), (())) H2)) ((0, ()), (())) H) fun (y2 : (Unit) × (Unit)) H1 =>
Q (true, ()) H1)
def h_kit_SameThings : Hnt := (.seq .leaf (.seq .leaf (.seq (.seq .leaf (.blk (some ⟨[], [], [4, 5, 11, 12, 13, 14, 15, 16, 17, 18, 19, 20, 21, 22, 23, 24, 25]⟩) (.loop ⟨[(5, (T_int .i64))], [], [4, 11, 12, 13, 14, 15, 16, 17, 18, 19, 20, 21, 22, 23, 24, 25]⟩ .leaf))) .leaf)))
theorem e_kit_SameThings (a0 : Sl) (a1 : Sl) (H : Heap) (Q : Bool × Unit -> Heap -> Prop) : S_kit_SameThings a0 a1 H Q = cFn C [] Tryz.f75.ntmps Tryz.f75.results.toList [T_bool] (bodyOf Tryz.f75) h_kit_SameThings [a0.v, a1.v] H Q := by kernel_rfl
theorem c_kit_SameThings {a0 : Sl} {a1 : Sl} {H : Heap} {Q : Bool × Unit -> Heap -> Prop} (h : S_kit_SameThings a0 a1 H Q) : CALL P [T_bool] n_kit_SameThings [a0.v, a1.v] H Q := call_print hE Tryz.func75 rfl (by kernel_rfl) (e_kit_SameThings a0 a1 H Q) h
def S_layer_setup (a0 : Option Addr) (a1 : Sl) (a2 : Sl) (H : Heap) (Q : G_layer_place × Int × Unit -> Heap -> Prop) : Prop :=
NEW H [(.slice a1.p a1.len a1.cap)] 1 fun H1 =>
LD T_sl H1 H.length 0 fun (x1 : Sl) =>
LD T_sl H1 H.length 0 fun (x2 : Sl) =>
GEN T_sl (aMakeSlice E 22 (.int .i64 (x2.len : Int)) (.int .i64 (x2.len : Int)) H1) fun (x3 : Sl) H2 =>
LD T_sl H2 H.length 0 fun (x4 : Sl) =>
REQ (T_sl.enc x4 = x1.v) (
CALL P [(T_int .i64), (T_int .i64)] n_book_Book_Find [(.pointer a0), (.string (ByteArray.mk #[]))] H2 fun (x5 : Int × Int × Unit) H3 =>
ifB (x5.2.1 == 1) (
Q ((G_layer_place.mk a0 x1 x3 (Sl.mk none 0 0)), x5.2.1, ()) H3) (
LD T_sl H3 H.length 0 fun (x6 : Sl) =>
ifB (decide ((x6.len : Int) > 2048)) (
Q ((G_layer_place.mk a0 x1 x3 (Sl.mk none 0 0)), 3, ()) H3) (
JOIN (fun (j7 : (Bool × Unit) × (Unit) -> Heap -> Prop) =>
CALL P [T_bool] n_book_Book_Sealed [(.pointer a0)] H3 fun (x9 : Bool × Unit) H5 =>
ifB (!x9.1) (
j7 ((true, ()), (())) H5) (
LD T_sl H5 H.length 0 fun (x10 : Sl) =>
j7 (((a2.len : Int) != (x10.len : Int), ()), (())) H5)) fun (y8 : (Bool × Unit) × (Unit)) H4 =>
ifB y8.1.1 (
Q ((G_layer_place.mk a0 x1 x3 (Sl.mk none 0 0)), 2, ()) H4) (
LD T_sl H4 H.length 0 fun (x11 : Sl) =>
JOIN (fun (j12 : (Unit) × (G_layer_place × G_layer_place × Unit) -> Heap -> Prop) =>
LOOP (fun (r14 : (Int × Unit) × (G_layer_place × G_layer_place × Unit) -> Heap -> Prop) (s15 : (Int × Unit) × (G_layer_place × G_layer_place × Unit)) H7 =>
ifB (decide (s15.1.1 < (x11.len : Int))) (
JOIN (fun (j16 : (Unit) × (G_layer_place × G_layer_place × Unit) -> Heap -> Prop) =>
IDX x11.p x11.len s15.1.1 11 fun b18 o19 =>
LD T_G_api_Thing H7 b18 o19 fun (x20 : G_api_Thing) =>
CALL P [T_G_api_Card, (T_int .i64)] n_thing_Card [(.pointer a0), (T_G_api_Thing.enc x20)] H7 fun (x21 : G_api_Card × Int × Unit) H9 =>
JOIN (fun (j22 : (Bool × Unit) × (Unit) -> Heap -> Prop) =>
ifB (x21.2.1 != 0) (
j22 ((true, ()), (())) H9) (
ifB (x20.Owner != 0) (
ifB (x20.Owner != 1) (
j22 ((true, ()), (())) H9) (
ifB (decide (x20.Place < 1)) (
j22 ((true, ()), (())) H9) (
j22 ((decide (x20.Place > 5), ()), (())) H9))) (
ifB (decide (x20.Place < 1)) (
j22 ((true, ()), (())) H9) (
j22 ((decide (x20.Place > 5), ()), (())) H9)))) fun (y23 : (Bool × Unit) × (Unit)) H10 =>
ifB y23.1.1 (
Q (s15.2.2.1, 2, ()) H10) (
ifB (x20.Place != 4) (
j16 ((()), (s15.2.1, s15.2.2.1, ())) H10) (
JOIN (fun (j24 : (Bool × Unit) × (Unit) -> Heap -> Prop) =>
ifB (x21.1.Kind == 2) (
j24 ((true, ()), (())) H10) (
ifB (decide (x20.Stamp < 1)) (
j24 ((true, ()), (())) H10) (
IDX a2.p a2.len s15.1.1 5 fun b26 o27 =>
LD (T_int .i64) H10 b26 (o27 + 0) fun (x28 : Int) =>
ifB (x28 != 0) (
IDX a2.p a2.len s15.1.1 5 fun b29 o30 =>
LD (T_int .i64) H10 b29 (o30 + 0) fun (x31 : Int) =>
ifB (x31 != 1) (
j24 ((true, ()), (())) H10) (
IDX a2.p a2.len s15.1.1 5 fun b32 o33 =>
LD (T_int .u16) H10 b32 (o33 + 2) fun (x34 : Int) =>
CALL P [T_bool] n_trait_Check [(.int .u16 x34)] H10 fun (x35 : Bool × Unit) H12 =>
j24 ((!x35.1, ()), (())) H12)) (
IDX a2.p a2.len s15.1.1 5 fun b36 o37 =>
LD (T_int .u16) H10 b36 (o37 + 2) fun (x38 : Int) =>
CALL P [T_bool] n_trait_Check [(.int .u16 x38)] H10 fun (x39 : Bool × Unit) H13 =>
j24 ((!x39.1, ()), (())) H13)))) fun (y25 : (Bool × Unit) × (Unit)) H11 =>
ifB y25.1.1 (
Q (s15.2.2.1, 2, ()) H11) (
IDX s15.2.2.1.cards.p s15.2.2.1.cards.len s15.1.1 9 fun b40 o41 =>
ST H11 b40 o41 (T_G_api_Card.cells x21.1) fun H14 =>
APP T_sl (lenV s15.2.2.1.order.v + 1) (aAppE E [35, 35] s15.2.2.1.order.v 1 [(.int .i64 s15.1.1)] H14) fun (x42 : Sl) H15 =>
ifB (decide ((x42.len : Int) > 16)) (
Q ((G_layer_place.mk s15.2.2.1.b s15.2.2.1.things s15.2.2.1.cards x42), 2, ()) H15) (
j16 ((()), (s15.2.1, (G_layer_place.mk s15.2.2.1.b s15.2.2.1.things s15.2.2.1.cards x42), ())) H15))))) fun (y17 : (Unit) × (G_layer_place × G_layer_place × Unit)) H8 =>
r14 ((IntKind.wrap .i64 (s15.1.1 + 1), ()), (y17.2.1, y17.2.2.1, ())) H8) (
j12 ((()), (s15.2.1, s15.2.2.1, ())) H7)) ((0, ()), ((G_layer_place.mk none (Sl.mk none 0 0) (Sl.mk none 0 0) (Sl.mk none 0 0)), (G_layer_place.mk a0 x1 x3 (Sl.mk none 0 0)), ())) H4) fun (y13 : (Unit) × (G_layer_place × G_layer_place × Unit)) H6 =>
CALL P [] n_slices_SortFunc_int_int [y13.2.2.1.order.v, (.func (.func n_layer_setup_1) #[] #[(.pointer (some ⟨H.length, 0, none⟩))])] H6 fun (x43 : Unit) H16 =>
JOIN (fun (j44 : (Unit) × (G_layer_place × Unit) -> Heap -> Prop) =>
LOOP (fun (r46 : (Int × Unit) × (G_layer_place × Unit) -> Heap -> Prop) (s47 : (Int × Unit) × (G_layer_place × Unit)) H18 =>
ifB (decide (s47.1.1 < (y13.2.2.1.order.len : Int))) (
LD T_sl H18 H.length 0 fun (x48 : Sl) =>
IDX y13.2.2.1.order.p y13.2.2.1.order.len (IntKind.wrap .i64 (s47.1.1 - 1)) 1 fun b49 o50 =>
LD (T_int .i64) H18 b49 o50 fun (x51 : Int) =>
IDX x48.p x48.len x51 11 fun b52 o53 =>
LD (T_int .i64) H18 b52 (o53 + 3) fun (x54 : Int) =>
LD T_sl H18 H.length 0 fun (x55 : Sl) =>
IDX y13.2.2.1.order.p y13.2.2.1.order.len s47.1.1 1 fun b56 o57 =>
LD (T_int .i64) H18 b56 o57 fun (x58 : Int) =>
IDX x55.p x55.len x58 11 fun b59 o60 =>
LD (T_int .i64) H18 b59 (o60 + 3) fun (x61 : Int) =>
ifB (x54 == x61) (
Q (y13.2.2.1, 2, ()) H18) (
r46 ((IntKind.wrap .i64 (s47.1.1 + 1), ()), (s47.2.1, ())) H18)) (
j44 ((()), (s47.2.1, ())) H18)) ((1, ()), (y13.2.1, ())) H16) fun (y45 : (Unit) × (G_layer_place × Unit)) H17 =>
Q (y13.2.2.1, 0, ()) H17))))
def h_layer_setup : Hnt := (.seq .leaf (.seq .leaf (.seq (.seq .leaf (.blk none (.seq .leaf (.cond none .leaf (.seq .leaf (.cond none .leaf (.seq (.reg ⟨[(37, T_bool)], [], [38, 39, 40, 41, 42, 43, 44, 45, 46, 47]⟩) .leaf))))))) (.seq (.seq .leaf (.blk (some ⟨[], [(0, T_G_layer_place), (1, T_G_layer_place)], [7, 11, 12, 13, 14, 51, 52, 53, 54, 55, 56, 57, 58, 59, 60, 61, 62, 63, 64, 65, 66, 67, 68, 69, 70, 71, 72, 73, 74, 75, 76, 77, 78, 79, 80, 81, 82, 83, 84, 85, 86, 87, 88, 89, 90, 91, 92, 93, 94, 95, 96, 97, 98, 99, 100, 101, 102, 103, 104, 105, 106, 107, 108, 109, 110, 111, 112, 113, 114, 115, 116, 117, 118, 119, 120, 121, 122, 123, 124, 125, 126, 127, 128, 129, 130, 131, 132, 133, 134, 135, 136, 137, 138]⟩) (.loop ⟨[(51, (T_int .i64))], [(0, T_G_layer_place), (1, T_G_layer_place)], [7, 11, 12, 13, 14, 52, 53, 54, 55, 56, 57, 58, 59, 60, 61, 62, 63, 64, 65, 66, 67, 68, 69, 70, 71, 72, 73, 74, 75, 76, 77, 78, 79, 80, 81, 82, 83, 84, 85, 86, 87, 88, 89, 90, 91, 92, 93, 94, 95, 96, 97, 98, 99, 100, 101, 102, 103, 104, 105, 106, 107, 108, 109, 110, 111, 112, 113, 114, 115, 116, 117, 118, 119, 120, 121, 122, 123, 124, 125, 126, 127, 128, 129, 130, 131, 132, 133, 134, 135, 136, 137, 138]⟩ (.seq .leaf (.seq .leaf (.seq (.blk (some ⟨[], [(0, T_G_layer_place), (1, T_G_layer_place)], [7, 11, 12, 13, 14, 53, 54, 55, 56, 57, 58, 59, 60, 61, 62, 63, 64, 65, 66, 67, 68, 69, 70, 71, 72, 73, 74, 75, 76, 77, 78, 79, 80, 81, 82, 83, 84, 85, 86, 87, 88, 89, 90, 91, 92, 93, 94, 95, 96, 97, 98, 99, 100, 101, 102, 103, 104, 105, 106, 107, 108, 109, 110, 111, 112, 113, 114, 115, 116, 117, 118, 119, 120, 121, 122, 123, 124, 125, 126, 127, 128, 129, 130, 131, 132, 133, 134, 135, 136, 137]⟩) (.seq .leaf (.seq .leaf (.seq (.seq (.reg ⟨[(83, T_bool)], [], [62, 63, 64, 65, 66, 67, 68, 69, 70, 71, 72, 73, 74, 75, 76, 77, 78, 79, 80, 81, 82]⟩) .leaf) (.seq .leaf (.seq (.seq (.reg ⟨[(120, T_bool)], [], [88, 89, 90, 91, 92, 93, 94, 95, 96, 97, 98, 99, 100, 101, 102, 103, 104, 105, 106, 107, 108, 109, 110, 111, 112, 113, 114, 115, 116, 117, 118, 119]⟩) .leaf) .leaf)))))) .leaf)))))) (.seq .leaf (.seq (.seq .leaf (.blk (some ⟨[], [(0, T_G_layer_place)], [7, 15, 143, 144, 145, 146, 147, 148, 149, 150, 151, 152, 153, 154, 155, 156, 157, 158, 159, 160, 161, 162, 163, 164, 165, 166, 167, 168, 169, 170]⟩) (.loop ⟨[(15, (T_int .i64))], [(0, T_G_layer_place)], [7, 143, 144, 145, 146, 147, 148, 149, 150, 151, 152, 153, 154, 155, 156, 157, 158, 159, 160, 161, 162, 163, 164, 165, 166, 167, 168, 169, 170]⟩ .leaf))) .leaf))))))
theorem e_layer_setup (a0 : Option Addr) (a1 : Sl) (a2 : Sl) (H : Heap) (Q : G_layer_place × Int × Unit -> Heap -> Prop) : S_layer_setup a0 a1 a2 H Q = cFn C [6, 8, 12, 13, 130] Tryz.f78.ntmps Tryz.f78.results.toList [T_G_layer_place, (T_int .i64)] (bodyOf Tryz.f78) h_layer_setup [(.pointer a0), a1.v, a2.v] H Q := by kernel_rfl
theorem c_layer_setup {a0 : Option Addr} {a1 : Sl} {a2 : Sl} {H : Heap} {Q : G_layer_place × Int × Unit -> Heap -> Prop} (h : S_layer_setup a0 a1 a2 H Q) : CALL P [T_G_layer_place, (T_int .i64)] n_layer_setup [(.pointer a0), a1.v, a2.v] H Q := call_print hE Tryz.func78 rfl (by kernel_rfl) (e_layer_setup a0 a1 a2 H Q) h
def S_slices_Clone_api_Feature_api_Feature (a0 : Sl) (H : Heap) (Q : Sl × Unit -> Heap -> Prop) : Prop :=
ifB a0.p.isNone (
Q ((Sl.mk none 0 0), ()) H) (
NEW H [] 5 fun H1 =>
APP T_sl (lenV ((Sl.mk (some ⟨H.length, 0, none⟩) 0 0)).v + (lenX a0.v).getD 0) (aAppendE E [27, 27] ((Sl.mk (some ⟨H.length, 0, none⟩) 0 0)).v a0.v H1) fun (x1 : Sl) H2 =>
Q (x1, ()) H2)
def h_slices_Clone_api_Feature_api_Feature : Hnt := .leaf
theorem e_slices_Clone_api_Feature_api_Feature (a0 : Sl) (H : Heap) (Q : Sl × Unit -> Heap -> Prop) : S_slices_Clone_api_Feature_api_Feature a0 H Q = cFn C [] Tryz.f79.ntmps Tryz.f79.results.toList [T_sl] (bodyOf Tryz.f79) h_slices_Clone_api_Feature_api_Feature [a0.v] H Q := by kernel_rfl
theorem c_slices_Clone_api_Feature_api_Feature {a0 : Sl} {H : Heap} {Q : Sl × Unit -> Heap -> Prop} (h : S_slices_Clone_api_Feature_api_Feature a0 H Q) : CALL P [T_sl] n_slices_Clone_api_Feature_api_Feature [a0.v] H Q := call_print hE Tryz.func79 rfl (by kernel_rfl) (e_slices_Clone_api_Feature_api_Feature a0 H Q) h
def S_layer_place_next (a0 : G_layer_place) (a1 : Sl) (a2 : Sl) (H : Heap) (Q : Int × Unit -> Heap -> Prop) : Prop :=
JOIN (fun (j1 : (Int × Int × Unit) × (Unit) -> Heap -> Prop) =>
LOOP (fun (r3 : (Int × Int × Int × Unit) × (Unit) -> Heap -> Prop) (s4 : (Int × Int × Int × Unit) × (Unit)) H2 =>
ifB (decide (s4.1.2.2.1 < (a2.len : Int))) (
JOIN (fun (j5 : (Int × Int × Unit) × (Unit) -> Heap -> Prop) =>
IDX a2.p a2.len s4.1.2.2.1 10 fun b7 o8 =>
LD T_G_api_Standing H2 b7 o8 fun (x9 : G_api_Standing) =>
JOIN (fun (j10 : (Bool × Unit) × (Unit) -> Heap -> Prop) =>
ifB (decide (s4.1.2.1 < 0)) (
j10 ((true, ()), (())) H2) (
IDX a2.p a2.len s4.1.2.1 10 fun b12 o13 =>
LD T_G_api_Standing H2 b12 o13 fun (x14 : G_api_Standing) =>
CALL P [T_bool] n_layer_place_ahead [(T_G_layer_place.enc a0), (T_G_api_Standing.enc x9), (T_G_api_Standing.enc x14)] H2 fun (x15 : Bool × Unit) H5 =>
j10 ((x15.1, ()), (())) H5)) fun (y11 : (Bool × Unit) × (Unit)) H4 =>
JOIN (fun (j16 : (Int × Unit) × (Unit) -> Heap -> Prop) =>
ifB y11.1.1 (
j16 ((s4.1.2.2.1, ()), (())) H4) (
j16 ((s4.1.2.1, ()), (())) H4)) fun (y17 : (Int × Unit) × (Unit)) H6 =>
JOIN (fun (j18 : (Unit) × (Unit) -> Heap -> Prop) =>
LOOP (fun (r20 : (Int × Unit) × (Unit) -> Heap -> Prop) (s21 : (Int × Unit) × (Unit)) H8 =>
ifB (decide (s21.1.1 < (a2.len : Int))) (
IDX a2.p a2.len s21.1.1 10 fun b22 o23 =>
LD T_G_api_Standing H8 b22 o23 fun (x24 : G_api_Standing) =>
JOIN (fun (j25 : (Bool × Unit) × (Unit) -> Heap -> Prop) =>
ifB (s21.1.1 != s4.1.2.2.1) (
CALL P [T_bool] n_layer_place_depends [(T_G_layer_place.enc a0), a1.v, (T_G_api_Standing.enc x9), (T_G_api_Standing.enc x24)] H8 fun (x27 : Bool × Unit) H10 =>
j25 ((x27.1, ()), (())) H10) (
j25 ((false, ()), (())) H8)) fun (y26 : (Bool × Unit) × (Unit)) H9 =>
ifB y26.1.1 (
j5 ((s4.1.1, y17.1.1, ()), (())) H9) (
r20 ((IntKind.wrap .i64 (s21.1.1 + 1), ()), (())) H9)) (
j18 ((()), (())) H8)) ((0, ()), (())) H6) fun (y19 : (Unit) × (Unit)) H7 =>
JOIN (fun (j28 : (Bool × Unit) × (Unit) -> Heap -> Prop) =>
ifB (decide (s4.1.1 < 0)) (
j28 ((true, ()), (())) H7) (
IDX a2.p a2.len s4.1.1 10 fun b30 o31 =>
LD T_G_api_Standing H7 b30 o31 fun (x32 : G_api_Standing) =>
CALL P [T_bool] n_layer_place_ahead [(T_G_layer_place.enc a0), (T_G_api_Standing.enc x9), (T_G_api_Standing.enc x32)] H7 fun (x33 : Bool × Unit) H12 =>
j28 ((x33.1, ()), (())) H12)) fun (y29 : (Bool × Unit) × (Unit)) H11 =>
JOIN (fun (j34 : (Int × Unit) × (Unit) -> Heap -> Prop) =>
ifB y29.1.1 (
j34 ((s4.1.2.2.1, ()), (())) H11) (
j34 ((s4.1.1, ()), (())) H11)) fun (y35 : (Int × Unit) × (Unit)) H13 =>
j5 ((y35.1.1, y17.1.1, ()), (())) H13) fun (y6 : (Int × Int × Unit) × (Unit)) H3 =>
r3 ((y6.1.1, y6.1.2.1, IntKind.wrap .i64 (s4.1.2.2.1 + 1), ()), (())) H3) (
j1 ((s4.1.1, s4.1.2.1, ()), (())) H2)) (((-1), (-1), 0, ()), (())) H) fun (y2 : (Int × Int × Unit) × (Unit)) H1 =>
ifB (decide (y2.1.1 ≥ 0)) (
Q (y2.1.1, ()) H1) (
Q (y2.1.2.1, ()) H1)
def h_layer_place_next : Hnt := (.seq .leaf (.seq .leaf (.seq .leaf (.seq (.seq .leaf (.blk (some ⟨[(7, (T_int .i64)), (8, (T_int .i64))], [], [9, 10, 11, 12, 15, 16, 17, 18, 19, 20, 21, 22, 23, 24, 25, 26, 27, 28, 29, 30, 31, 32, 33, 34, 35, 36, 37, 38, 39, 40, 41, 42, 43, 44, 45, 46, 47, 48, 49, 50, 51, 52, 53, 54, 55, 56, 57, 58, 59, 60, 61, 62]⟩) (.loop ⟨[(7, (T_int .i64)), (8, (T_int .i64)), (15, (T_int .i64))], [], [9, 10, 11, 12, 16, 17, 18, 19, 20, 21, 22, 23, 24, 25, 26, 27, 28, 29, 30, 31, 32, 33, 34, 35, 36, 37, 38, 39, 40, 41, 42, 43, 44, 45, 46, 47, 48, 49, 50, 51, 52, 53, 54, 55, 56, 57, 58, 59, 60, 61, 62]⟩ (.seq .leaf (.seq .leaf (.seq (.blk (some ⟨[(7, (T_int .i64)), (8, (T_int .i64))], [], [9, 10, 11, 12, 17, 18, 19, 20, 21, 22, 23, 24, 25, 26, 27, 28, 29, 30, 31, 32, 33, 34, 35, 36, 37, 38, 39, 40, 41, 42, 43, 44, 45, 46, 47, 48, 49, 50, 51, 52, 53, 54, 55, 56, 57, 58, 59, 60, 61]⟩) (.seq .leaf (.seq (.seq (.reg ⟨[(30, T_bool)], [], [20, 21, 22, 23, 24, 25, 26, 27, 28, 29]⟩) (.cond (some ⟨[(8, (T_int .i64))], [], [31]⟩) .leaf .leaf)) (.seq (.seq .leaf (.blk (some ⟨[], [], [11, 12, 34, 35, 36, 37, 38, 39, 40, 41, 42, 43, 44, 45, 46, 47, 48, 49]⟩) (.loop ⟨[(34, (T_int .i64))], [], [11, 12, 35, 36, 37, 38, 39, 40, 41, 42, 43, 44, 45, 46, 47, 48, 49]⟩ (.seq .leaf (.seq .leaf (.seq (.blk none (.seq .leaf (.seq (.reg ⟨[(48, T_bool)], [], [39, 40, 41, 42, 43, 44, 45, 46, 47]⟩) .leaf))) .leaf)))))) (.seq (.reg ⟨[(60, T_bool)], [], [50, 51, 52, 53, 54, 55, 56, 57, 58, 59]⟩) (.cond (some ⟨[(7, (T_int .i64))], [], [61]⟩) .leaf .leaf)))))) .leaf)))))) .leaf))))
theorem e_layer_place_next (a0 : G_layer_place) (a1 : Sl) (a2 : Sl) (H : Heap) (Q : Int × Unit -> Heap -> Prop) : S_layer_place_next a0 a1 a2 H Q = cFn C [3, 10, 12] Tryz.f80.ntmps Tryz.f80.results.toList [(T_int .i64)] (bodyOf Tryz.f80) h_layer_place_next [(T_G_layer_place.enc a0), a1.v, a2.v] H Q := by kernel_rfl
theorem c_layer_place_next {a0 : G_layer_place} {a1 : Sl} {a2 : Sl} {H : Heap} {Q : Int × Unit -> Heap -> Prop} (h : S_layer_place_next a0 a1 a2 H Q) : CALL P [(T_int .i64)] n_layer_place_next [(T_G_layer_place.enc a0), a1.v, a2.v] H Q := call_print hE Tryz.func80 rfl (by kernel_rfl) (e_layer_place_next a0 a1 a2 H Q) h
def S_layer_place_apply (a0 : G_layer_place) (a1 : Sl) (a2 : G_api_Standing) (H : Heap) (Q : Sl × Unit -> Heap -> Prop) : Prop :=
CALL P [T_sl] n_slices_Clone_api_Feature_api_Feature [a1.v] H fun (x1 : Sl × Unit) H1 =>
CALL P [T_sl] n_layer_place_about [(T_G_layer_place.enc a0), a1.v, (T_G_api_Standing.enc a2)] H1 fun (x2 : Sl × Unit) H2 =>
JOIN (fun (j3 : (Unit) × (Unit) -> Heap -> Prop) =>
LOOP (fun (r5 : (Int × Unit) × (Unit) -> Heap -> Prop) (s6 : (Int × Unit) × (Unit)) H4 =>
ifB (decide (s6.1.1 < (x2.1.len : Int))) (
IDX x2.1.p x2.1.len s6.1.1 1 fun b7 o8 =>
LD (T_int .i64) H4 b7 o8 fun (x9 : Int) =>
IDX x1.1.p x1.1.len (IntKind.wrap .i64 (x9 - 1)) 5 fun b10 o11 =>
JOIN (fun (j12 : (Unit) × (Unit) -> Heap -> Prop) =>
ifB (a2.What.Verb == 10) (
IDX a1.p a1.len (IntKind.wrap .i64 (a2.Thing - 1)) 5 fun b14 o15 =>
LD (T_int .i64) H4 b14 (o15 + 0) fun (x16 : Int) =>
ST H4 b10 (o11 + 0) [(.int .i64 x16)] fun H6 =>
j12 ((()), (())) H6) (
JOIN (fun (j17 : (Unit) × (Unit) -> Heap -> Prop) =>
ifB (a2.What.Verb == 11) (
ST H4 b10 (o11 + 1) [(.int .u8 a2.What.Suit)] fun H8 =>
j17 ((()), (())) H8) (
JOIN (fun (j19 : (Unit) × (Unit) -> Heap -> Prop) =>
ifB (a2.What.Verb == 12) (
LD (T_int .u16) H4 b10 (o11 + 2) fun (x21 : Int) =>
CALL P [(T_int .u16)] n_trait_With [(.int .u16 x21), (.int .u8 a2.What.Trait)] H4 fun (x22 : Int × Unit) H10 =>
ST H10 b10 (o11 + 2) [(.int .u16 x22.1)] fun H11 =>
j19 ((()), (())) H11) (
JOIN (fun (j23 : (Unit) × (Unit) -> Heap -> Prop) =>
ifB (a2.What.Verb == 13) (
LD (T_int .u16) H4 b10 (o11 + 2) fun (x25 : Int) =>
CALL P [(T_int .u16)] n_trait_Without [(.int .u16 x25), (.int .u8 a2.What.Trait)] H4 fun (x26 : Int × Unit) H13 =>
ST H13 b10 (o11 + 2) [(.int .u16 x26.1)] fun H14 =>
j23 ((()), (())) H14) (
JOIN (fun (j27 : (Unit) × (Unit) -> Heap -> Prop) =>
ifB (a2.What.Verb == 14) (
ST H4 b10 (o11 + 3) [(.int .i64 a2.What.Count)] fun H16 =>
REQ ((some (.int .i64 a2.What.Count) : Option Value) = some (.int .i64 a2.What.Count)) (
ST H16 b10 (o11 + 4) [(.int .i64 a2.What.Count)] fun H17 =>
j27 ((()), (())) H17)) (
JOIN (fun (j29 : (Unit) × (Unit) -> Heap -> Prop) =>
ifB (a2.What.Verb == 15) (
LD (T_int .i64) H4 b10 (o11 + 3) fun (x31 : Int) =>
ST H4 b10 (o11 + 3) [(.int .i64 (IntKind.wrap .i64 (x31 + a2.What.Count)))] fun H19 =>
LD (T_int .i64) H19 b10 (o11 + 4) fun (x32 : Int) =>
ST H19 b10 (o11 + 4) [(.int .i64 (IntKind.wrap .i64 (x32 + a2.What.Count)))] fun H20 =>
j29 ((()), (())) H20) (
j29 ((()), (())) H4)) fun (y30 : (Unit) × (Unit)) H18 =>
j27 ((()), (())) H18)) fun (y28 : (Unit) × (Unit)) H15 =>
j23 ((()), (())) H15)) fun (y24 : (Unit) × (Unit)) H12 =>
j19 ((()), (())) H12)) fun (y20 : (Unit) × (Unit)) H9 =>
j17 ((()), (())) H9)) fun (y18 : (Unit) × (Unit)) H7 =>
j12 ((()), (())) H7)) fun (y13 : (Unit) × (Unit)) H5 =>
r5 ((IntKind.wrap .i64 (s6.1.1 + 1), ()), (())) H5) (
j3 ((()), (())) H4)) ((0, ()), (())) H2) fun (y4 : (Unit) × (Unit)) H3 =>
Q (x1.1, ()) H3
def h_layer_place_apply : Hnt := (.seq .leaf (.seq .leaf (.seq (.seq .leaf (.blk (some ⟨[], [], [9, 10, 18, 19, 20, 21, 22, 23, 24, 25, 26, 27, 28, 29, 30, 31, 32, 33, 34, 35, 36, 37, 38, 39, 40, 41, 42, 43, 44, 45, 46, 47, 48, 49, 50, 51, 52, 53, 54, 55, 56, 57, 58, 59, 60, 61, 62, 63, 64, 65, 66, 67, 68, 69, 70, 71, 72, 73, 74, 75, 76, 77, 78, 79, 80, 81, 82, 83, 84, 85, 86, 87, 88, 89, 90, 91, 92, 93, 94, 95, 96, 97, 98, 99, 100, 101, 102, 103, 104, 105, 106, 107, 108, 109, 110, 111]⟩) (.loop ⟨[(18, (T_int .i64))], [], [9, 10, 19, 20, 21, 22, 23, 24, 25, 26, 27, 28, 29, 30, 31, 32, 33, 34, 35, 36, 37, 38, 39, 40, 41, 42, 43, 44, 45, 46, 47, 48, 49, 50, 51, 52, 53, 54, 55, 56, 57, 58, 59, 60, 61, 62, 63, 64, 65, 66, 67, 68, 69, 70, 71, 72, 73, 74, 75, 76, 77, 78, 79, 80, 81, 82, 83, 84, 85, 86, 87, 88, 89, 90, 91, 92, 93, 94, 95, 96, 97, 98, 99, 100, 101, 102, 103, 104, 105, 106, 107, 108, 109, 110, 111]⟩ (.seq .leaf (.seq .leaf (.seq (.blk none (.seq .leaf (.seq .leaf (.seq .leaf (.blk none (.seq .leaf (.cond (some ⟨[], [], [31, 32, 33, 34, 35, 36, 37, 38, 39, 40, 41, 42, 43, 44, 45, 46, 47, 48, 49, 50, 51, 52, 53, 54, 55, 56, 57, 58, 59, 60, 61, 62, 63, 64, 65, 66, 67, 68, 69, 70, 71, 72, 73, 74, 75, 76, 77, 78, 79, 80, 81, 82, 83, 84, 85, 86, 87, 88, 89, 90, 91, 92, 93, 94, 95, 96, 97, 98, 99, 100, 101, 102, 103, 104, 105, 106, 107, 108, 109, 110]⟩) .leaf (.seq .leaf (.cond (some ⟨[], [], [43, 44, 45, 46, 47, 48, 49, 50, 51, 52, 53, 54, 55, 56, 57, 58, 59, 60, 61, 62, 63, 64, 65, 66, 67, 68, 69, 70, 71, 72, 73, 74, 75, 76, 77, 78, 79, 80, 81, 82, 83, 84, 85, 86, 87, 88, 89, 90, 91, 92, 93, 94, 95, 96, 97, 98, 99, 100, 101, 102, 103, 104, 105, 106, 107, 108, 109, 110]⟩) .leaf (.seq .leaf (.cond (some ⟨[], [], [51, 52, 53, 54, 55, 56, 57, 58, 59, 60, 61, 62, 63, 64, 65, 66, 67, 68, 69, 70, 71, 72, 73, 74, 75, 76, 77, 78, 79, 80, 81, 82, 83, 84, 85, 86, 87, 88, 89, 90, 91, 92, 93, 94, 95, 96, 97, 98, 99, 100, 101, 102, 103, 104, 105, 106, 107, 108, 109, 110]⟩) .leaf (.seq .leaf (.cond (some ⟨[], [], [64, 65, 66, 67, 68, 69, 70, 71, 72, 73, 74, 75, 76, 77, 78, 79, 80, 81, 82, 83, 84, 85, 86, 87, 88, 89, 90, 91, 92, 93, 94, 95, 96, 97, 98, 99, 100, 101, 102, 103, 104, 105, 106, 107, 108, 109, 110]⟩) .leaf (.seq .leaf (.cond (some ⟨[], [], [77, 78, 79, 80, 81, 82, 83, 84, 85, 86, 87, 88, 89, 90, 91, 92, 93, 94, 95, 96, 97, 98, 99, 100, 101, 102, 103, 104, 105, 106, 107, 108, 109, 110]⟩) .leaf (.seq .leaf (.cond (some ⟨[], [], [91, 92, 93, 94, 95, 96, 97, 98, 99, 100, 101, 102, 103, 104, 105, 106, 107, 108, 109, 110]⟩) .leaf .leaf))))))))))))))))) .leaf)))))) .leaf)))
theorem e_layer_place_apply (a0 : G_layer_place) (a1 : Sl) (a2 : G_api_Standing) (H : Heap) (Q : Sl × Unit -> Heap -> Prop) : S_layer_place_apply a0 a1 a2 H Q = cFn C [3, 5] Tryz.f81.ntmps Tryz.f81.results.toList [T_sl] (bodyOf Tryz.f81) h_layer_place_apply [(T_G_layer_place.enc a0), a1.v, (T_G_api_Standing.enc a2)] H Q := by kernel_rfl
theorem c_layer_place_apply {a0 : G_layer_place} {a1 : Sl} {a2 : G_api_Standing} {H : Heap} {Q : Sl × Unit -> Heap -> Prop} (h : S_layer_place_apply a0 a1 a2 H Q) : CALL P [T_sl] n_layer_place_apply [(T_G_layer_place.enc a0), a1.v, (T_G_api_Standing.enc a2)] H Q := call_print hE Tryz.func81 rfl (by kernel_rfl) (e_layer_place_apply a0 a1 a2 H Q) h
def S_slices_Delete_api_Standing_api_Standing (a0 : Sl) (a1 : Int) (a2 : Int) (H : Heap) (Q : Sl × Unit -> Heap -> Prop) : Prop :=
GENV T_sl (aSlice E 66 a0.v (some (.int .i64 a1)) (some (.int .i64 a2)) (some (.int .i64 (a0.len : Int))) H) fun (x1 : Sl) =>
ifB (a1 == a2) (
Q (a0, ()) H) (
GENV T_sl (aSlice E 66 a0.v none (some (.int .i64 a1)) none H) fun (x2 : Sl) =>
GENV T_sl (aSlice E 66 a0.v (some (.int .i64 a2)) none none H) fun (x3 : Sl) =>
APP T_sl (lenV x2.v + (lenX x3.v).getD 0) (aAppendE E [66, 66] x2.v x3.v H) fun (x4 : Sl) H1 =>
GENV T_sl (aSlice E 66 x4.v (some (.int .i64 (x4.len : Int))) (some (.int .i64 (a0.len : Int))) none H1) fun (x5 : Sl) =>
GENH (aClear E [66] x5.v H1) fun H2 =>
Q (x4, ()) H2)
def h_slices_Delete_api_Standing_api_Standing : Hnt := .leaf
theorem e_slices_Delete_api_Standing_api_Standing (a0 : Sl) (a1 : Int) (a2 : Int) (H : Heap) (Q : Sl × Unit -> Heap -> Prop) : S_slices_Delete_api_Standing_api_Standing a0 a1 a2 H Q = cFn C [] Tryz.f82.ntmps Tryz.f82.results.toList [T_sl] (bodyOf Tryz.f82) h_slices_Delete_api_Standing_api_Standing [a0.v, (.int .i64 a1), (.int .i64 a2)] H Q := by kernel_rfl
theorem c_slices_Delete_api_Standing_api_Standing {a0 : Sl} {a1 : Int} {a2 : Int} {H : Heap} {Q : Sl × Unit -> Heap -> Prop} (h : S_slices_Delete_api_Standing_api_Standing a0 a1 a2 H Q) : CALL P [T_sl] n_slices_Delete_api_Standing_api_Standing [a0.v, (.int .i64 a1), (.int .i64 a2)] H Q := call_print hE Tryz.func82 rfl (by kernel_rfl) (e_slices_Delete_api_Standing_api_Standing a0 a1 a2 H Q) h
def S_slices_Clone_api_Standing_api_Standing (a0 : Sl) (H : Heap) (Q : Sl × Unit -> Heap -> Prop) : Prop :=
ifB a0.p.isNone (
Q ((Sl.mk none 0 0), ()) H) (
NEW H [] 10 fun H1 =>
APP T_sl (lenV ((Sl.mk (some ⟨H.length, 0, none⟩) 0 0)).v + (lenX a0.v).getD 0) (aAppendE E [66, 66] ((Sl.mk (some ⟨H.length, 0, none⟩) 0 0)).v a0.v H1) fun (x1 : Sl) H2 =>
Q (x1, ()) H2)
def h_slices_Clone_api_Standing_api_Standing : Hnt := .leaf
theorem e_slices_Clone_api_Standing_api_Standing (a0 : Sl) (H : Heap) (Q : Sl × Unit -> Heap -> Prop) : S_slices_Clone_api_Standing_api_Standing a0 H Q = cFn C [] Tryz.f83.ntmps Tryz.f83.results.toList [T_sl] (bodyOf Tryz.f83) h_slices_Clone_api_Standing_api_Standing [a0.v] H Q := by kernel_rfl
theorem c_slices_Clone_api_Standing_api_Standing {a0 : Sl} {H : Heap} {Q : Sl × Unit -> Heap -> Prop} (h : S_slices_Clone_api_Standing_api_Standing a0 H Q) : CALL P [T_sl] n_slices_Clone_api_Standing_api_Standing [a0.v] H Q := call_print hE Tryz.func83 rfl (by kernel_rfl) (e_slices_Clone_api_Standing_api_Standing a0 H Q) h
def S_layer_place_effects (a0 : G_layer_place) (a1 : Sl) (a2 : Int) (H : Heap) (Q : Sl × Unit -> Heap -> Prop) : Prop :=
JOIN (fun (j1 : (Sl × Unit) × (Unit) -> Heap -> Prop) =>
LOOP (fun (r3 : (Sl × Int × Unit) × (Unit) -> Heap -> Prop) (s4 : (Sl × Int × Unit) × (Unit)) H2 =>
ifB (decide (s4.1.2.1 < (a0.order.len : Int))) (
JOIN (fun (j5 : (Sl × Unit) × (Unit) -> Heap -> Prop) =>
IDX a0.order.p a0.order.len s4.1.2.1 1 fun b7 o8 =>
LD (T_int .i64) H2 b7 o8 fun (x9 : Int) =>
IDX a1.p a1.len x9 5 fun b10 o11 =>
LD (T_int .u16) H2 b10 (o11 + 2) fun (x12 : Int) =>
CALL P [T_bool] n_trait_Has [(.int .u16 x12), (.int .u8 6)] H2 fun (x13 : Bool × Unit) H4 =>
ifB x13.1 (
j5 ((s4.1.1, ()), (())) H4) (
IDX a0.cards.p a0.cards.len x9 9 fun b14 o15 =>
LD T_sl H4 b14 (o15 + 8) fun (x16 : Sl) =>
JOIN (fun (j17 : (Sl × Unit) × (Unit) -> Heap -> Prop) =>
LOOP (fun (r19 : (Sl × Int × Unit) × (Unit) -> Heap -> Prop) (s20 : (Sl × Int × Unit) × (Unit)) H6 =>
ifB (decide (s20.1.2.1 < (x16.len : Int))) (
IDX x16.p x16.len s20.1.2.1 8 fun b21 o22 =>
LD T_G_api_Part H6 b21 o22 fun (x23 : G_api_Part) =>
JOIN (fun (j24 : (Bool × Unit) × (Unit) -> Heap -> Prop) =>
ifB (x23.When == 5) (
CALL P [(T_int .i64)] n_effect_Layer [(.int .u8 x23.Verb)] H6 fun (x26 : Int × Unit) H8 =>
j24 ((x26.1 == a2, ()), (())) H8) (
j24 ((false, ()), (())) H6)) fun (y25 : (Bool × Unit) × (Unit)) H7 =>
JOIN (fun (j27 : (Sl × Unit) × (Unit) -> Heap -> Prop) =>
ifB y25.1.1 (
APP T_sl (lenV s20.1.1.v + 1) (aAppE E [66, 66] s20.1.1.v 1 [(.int .i64 (IntKind.wrap .i64 (x9 + 1))), (.int .i64 s20.1.2.1), (.int .u8 x23.When), (.int .u8 x23.Verb), (.int .u8 x23.Whom), (.int .i64 x23.Count), (.int .u8 x23.Suit), (.int .u8 x23.Trait), (.int .u8 x23.Mark), (.string x23.Name)] H7) fun (x29 : Sl) H10 =>
j27 ((x29, ()), (())) H10) (
j27 ((s20.1.1, ()), (())) H7)) fun (y28 : (Sl × Unit) × (Unit)) H9 =>
r19 ((y28.1.1, IntKind.wrap .i64 (s20.1.2.1 + 1), ()), (())) H9) (
j17 ((s20.1.1, ()), (())) H6)) ((s4.1.1, 0, ()), (())) H4) fun (y18 : (Sl × Unit) × (Unit)) H5 =>
j5 ((y18.1.1, ()), (())) H5)) fun (y6 : (Sl × Unit) × (Unit)) H3 =>
r3 ((y6.1.1, IntKind.wrap .i64 (s4.1.2.1 + 1), ()), (())) H3) (
j1 ((s4.1.1, ()), (())) H2)) (((Sl.mk none 0 0), 0, ()), (())) H) fun (y2 : (Sl × Unit) × (Unit)) H1 =>
Q (y2.1.1, ()) H1
def h_layer_place_effects : Hnt := (.seq .leaf (.seq .leaf (.seq (.seq .leaf (.blk (some ⟨[(7, T_sl)], [], [9, 10, 11, 15, 16, 17, 18, 19, 20, 21, 22, 23, 24, 25, 26, 27, 28, 29, 30, 31, 32, 33, 34, 35, 36, 37, 38, 39, 40, 41, 42, 43, 44, 45, 46, 47, 48, 49, 50, 51, 52, 53, 54, 55, 56]⟩) (.loop ⟨[(7, T_sl), (15, (T_int .i64))], [], [9, 10, 11, 16, 17, 18, 19, 20, 21, 22, 23, 24, 25, 26, 27, 28, 29, 30, 31, 32, 33, 34, 35, 36, 37, 38, 39, 40, 41, 42, 43, 44, 45, 46, 47, 48, 49, 50, 51, 52, 53, 54, 55, 56]⟩ (.seq .leaf (.seq .leaf (.seq (.blk (some ⟨[(7, T_sl)], [], [9, 10, 11, 17, 18, 19, 20, 21, 22, 23, 24, 25, 26, 27, 28, 29, 30, 31, 32, 33, 34, 35, 36, 37, 38, 39, 40, 41, 42, 43, 44, 45, 46, 47, 48, 49, 50, 51, 52, 53, 54, 55]⟩) (.seq .leaf (.seq .leaf (.seq .leaf (.blk (some ⟨[(7, T_sl)], [], [10, 11, 32, 33, 34, 35, 36, 37, 38, 39, 40, 41, 42, 43, 44, 45, 46, 47, 48, 49, 50, 51, 52, 53, 54, 55]⟩) (.loop ⟨[(7, T_sl), (32, (T_int .i64))], [], [10, 11, 33, 34, 35, 36, 37, 38, 39, 40, 41, 42, 43, 44, 45, 46, 47, 48, 49, 50, 51, 52, 53, 54, 55]⟩ (.seq .leaf (.seq .leaf (.seq (.blk none (.seq .leaf (.seq (.reg ⟨[(46, T_bool)], [], [37, 38, 39, 40, 41, 42, 43, 44, 45]⟩) (.cond (some ⟨[(7, T_sl)], [], [47, 48, 49, 50, 51, 52, 53, 54]⟩) .leaf .leaf)))) .leaf))))))))) .leaf)))))) .leaf)))
theorem e_layer_place_effects (a0 : G_layer_place) (a1 : Sl) (a2 : Int) (H : Heap) (Q : Sl × Unit -> Heap -> Prop) : S_layer_place_effects a0 a1 a2 H Q = cFn C [3, 11, 53] Tryz.f84.ntmps Tryz.f84.results.toList [T_sl] (bodyOf Tryz.f84) h_layer_place_effects [(T_G_layer_place.enc a0), a1.v, (.int .i64 a2)] H Q := by kernel_rfl
theorem c_layer_place_effects {a0 : G_layer_place} {a1 : Sl} {a2 : Int} {H : Heap} {Q : Sl × Unit -> Heap -> Prop} (h : S_layer_place_effects a0 a1 a2 H Q) : CALL P [T_sl] n_layer_place_effects [(T_G_layer_place.enc a0), a1.v, (.int .i64 a2)] H Q := call_print hE Tryz.func84 rfl (by kernel_rfl) (e_layer_place_effects a0 a1 a2 H Q) h
def S_layer_place_about (a0 : G_layer_place) (a1 : Sl) (a2 : G_api_Standing) (H : Heap) (Q : Sl × Unit -> Heap -> Prop) : Prop :=
JOIN (fun (j1 : (Sl × Unit) × (Unit) -> Heap -> Prop) =>
LOOP (fun (r3 : (Sl × Int × Unit) × (Unit) -> Heap -> Prop) (s4 : (Sl × Int × Unit) × (Unit)) H2 =>
ifB (decide (s4.1.2.1 < (a0.order.len : Int))) (
IDX a0.order.p a0.order.len s4.1.2.1 1 fun b5 o6 =>
LD (T_int .i64) H2 b5 o6 fun (x7 : Int) =>
CALL P [T_bool] n_layer_place_means [(T_G_layer_place.enc a0), a1.v, (T_G_api_Standing.enc a2), (.int .i64 x7)] H2 fun (x8 : Bool × Unit) H3 =>
JOIN (fun (j9 : (Sl × Unit) × (Unit) -> Heap -> Prop) =>
ifB x8.1 (
APP T_sl (lenV s4.1.1.v + 1) (aAppE E [35, 35] s4.1.1.v 1 [(.int .i64 (IntKind.wrap .i64 (x7 + 1)))] H3) fun (x11 : Sl) H5 =>
j9 ((x11, ()), (())) H5) (
j9 ((s4.1.1, ()), (())) H3)) fun (y10 : (Sl × Unit) × (Unit)) H4 =>
r3 ((y10.1.1, IntKind.wrap .i64 (s4.1.2.1 + 1), ()), (())) H4) (
j1 ((s4.1.1, ()), (())) H2)) (((Sl.mk none 0 0), 0, ()), (())) H) fun (y2 : (Sl × Unit) × (Unit)) H1 =>
Q (y2.1.1, ()) H1
def h_layer_place_about : Hnt := (.seq .leaf (.seq .leaf (.seq (.seq .leaf (.blk (some ⟨[(7, T_sl)], [], [9, 13, 14, 15, 16, 17, 18, 19, 20, 21, 22, 23, 24, 25, 26, 27]⟩) (.loop ⟨[(7, T_sl), (13, (T_int .i64))], [], [9, 14, 15, 16, 17, 18, 19, 20, 21, 22, 23, 24, 25, 26, 27]⟩ (.seq .leaf (.seq .leaf (.seq (.blk none (.seq .leaf (.seq .leaf (.cond (some ⟨[(7, T_sl)], [], [22, 23, 24, 25, 26]⟩) .leaf .leaf)))) .leaf)))))) .leaf)))
theorem e_layer_place_about (a0 : G_layer_place) (a1 : Sl) (a2 : G_api_Standing) (H : Heap) (Q : Sl × Unit -> Heap -> Prop) : S_layer_place_about a0 a1 a2 H Q = cFn C [3, 5, 25] Tryz.f86.ntmps Tryz.f86.results.toList [T_sl] (bodyOf Tryz.f86) h_layer_place_about [(T_G_layer_place.enc a0), a1.v, (T_G_api_Standing.enc a2)] H Q := by kernel_rfl
theorem c_layer_place_about {a0 : G_layer_place} {a1 : Sl} {a2 : G_api_Standing} {H : Heap} {Q : Sl × Unit -> Heap -> Prop} (h : S_layer_place_about a0 a1 a2 H Q) : CALL P [T_sl] n_layer_place_about [(T_G_layer_place.enc a0), a1.v, (T_G_api_Standing.enc a2)] H Q := call_print hE Tryz.func86 rfl (by kernel_rfl) (e_layer_place_about a0 a1 a2 H Q) h
def S_trait_With (a0 : Int) (a1 : Int) (H : Heap) (Q : Int × Unit -> Heap -> Prop) : Prop :=
CALL P [(T_int .u16)] n_trait_bit [(.int .u8 a1)] H fun (x1 : Int × Unit) H1 =>
Q (IntKind.wrap .u16 (((BitVec.ofInt (IntKind.bits .u16) a0 ||| BitVec.ofInt (IntKind.bits .u16) x1.1).toNat : Int)), ()) H1
def h_trait_With : Hnt := .leaf
theorem e_trait_With (a0 : Int) (a1 : Int) (H : Heap) (Q : Int × Unit -> Heap -> Prop) : S_trait_With a0 a1 H Q = cFn C [] Tryz.f87.ntmps Tryz.f87.results.toList [(T_int .u16)] (bodyOf Tryz.f87) h_trait_With [(.int .u16 a0), (.int .u8 a1)] H Q := by kernel_rfl
theorem c_trait_With {a0 : Int} {a1 : Int} {H : Heap} {Q : Int × Unit -> Heap -> Prop} (h : S_trait_With a0 a1 H Q) : CALL P [(T_int .u16)] n_trait_With [(.int .u16 a0), (.int .u8 a1)] H Q := call_print hE Tryz.func87 rfl (by kernel_rfl) (e_trait_With a0 a1 H Q) h
def S_trait_Without (a0 : Int) (a1 : Int) (H : Heap) (Q : Int × Unit -> Heap -> Prop) : Prop :=
CALL P [(T_int .u16)] n_trait_bit [(.int .u8 a1)] H fun (x1 : Int × Unit) H1 =>
Q (IntKind.wrap .u16 (((BitVec.ofInt (IntKind.bits .u16) a0 &&& ~~~BitVec.ofInt (IntKind.bits .u16) x1.1).toNat : Int)), ()) H1
def h_trait_Without : Hnt := .leaf
theorem e_trait_Without (a0 : Int) (a1 : Int) (H : Heap) (Q : Int × Unit -> Heap -> Prop) : S_trait_Without a0 a1 H Q = cFn C [] Tryz.f88.ntmps Tryz.f88.results.toList [(T_int .u16)] (bodyOf Tryz.f88) h_trait_Without [(.int .u16 a0), (.int .u8 a1)] H Q := by kernel_rfl
theorem c_trait_Without {a0 : Int} {a1 : Int} {H : Heap} {Q : Int × Unit -> Heap -> Prop} (h : S_trait_Without a0 a1 H Q) : CALL P [(T_int .u16)] n_trait_Without [(.int .u16 a0), (.int .u8 a1)] H Q := call_print hE Tryz.func88 rfl (by kernel_rfl) (e_trait_Without a0 a1 H Q) h
def S_layer_place_depends (a0 : G_layer_place) (a1 : Sl) (a2 : G_api_Standing) (a3 : G_api_Standing) (H : Heap) (Q : Bool × Unit -> Heap -> Prop) : Prop :=
CALL P [T_sl] n_layer_place_about [(T_G_layer_place.enc a0), a1.v, (T_G_api_Standing.enc a2)] H fun (x1 : Sl × Unit) H1 =>
REQ ((some (.agg #[(.pointer a0.b), (.slice a0.things.p a0.things.len a0.things.cap), (.slice a0.cards.p a0.cards.len a0.cards.cap), (.slice a0.order.p a0.order.len a0.order.cap)]) : Option Value) = some (.agg #[(.pointer a0.b), (.slice a0.things.p a0.things.len a0.things.cap), (.slice a0.cards.p a0.cards.len a0.cards.cap), (.slice a0.order.p a0.order.len a0.order.cap)])) (
REQ ((some (.agg #[(.pointer a0.b), (.slice a0.things.p a0.things.len a0.things.cap), (.slice a0.cards.p a0.cards.len a0.cards.cap), (.slice a0.order.p a0.order.len a0.order.cap)]) : Option Value) = some (.agg #[(.pointer a0.b), (.slice a0.things.p a0.things.len a0.things.cap), (.slice a0.cards.p a0.cards.len a0.cards.cap), (.slice a0.order.p a0.order.len a0.order.cap)])) (
REQ ((some (.agg #[(.int .i64 a3.Thing), (.int .i64 a3.Place), (.int .u8 a3.What.When), (.int .u8 a3.What.Verb), (.int .u8 a3.What.Whom), (.int .i64 a3.What.Count), (.int .u8 a3.What.Suit), (.int .u8 a3.What.Trait), (.int .u8 a3.What.Mark), (.string a3.What.Name)]) : Option Value) = some (.agg #[(.int .i64 a3.Thing), (.int .i64 a3.Place), (.int .u8 a3.What.When), (.int .u8 a3.What.Verb), (.int .u8 a3.What.Whom), (.int .i64 a3.What.Count), (.int .u8 a3.What.Suit), (.int .u8 a3.What.Trait), (.int .u8 a3.What.Mark), (.string a3.What.Name)])) (
REQ ((some (.agg #[(.int .i64 a2.Thing), (.int .i64 a2.Place), (.int .u8 a2.What.When), (.int .u8 a2.What.Verb), (.int .u8 a2.What.Whom), (.int .i64 a2.What.Count), (.int .u8 a2.What.Suit), (.int .u8 a2.What.Trait), (.int .u8 a2.What.Mark), (.string a2.What.Name)]) : Option Value) = some (.agg #[(.int .i64 a2.Thing), (.int .i64 a2.Place), (.int .u8 a2.What.When), (.int .u8 a2.What.Verb), (.int .u8 a2.What.Whom), (.int .i64 a2.What.Count), (.int .u8 a2.What.Suit), (.int .u8 a2.What.Trait), (.int .u8 a2.What.Mark), (.string a2.What.Name)])) (
CALL P [T_sl] n_layer_place_apply [(T_G_layer_place.enc a0), a1.v, (T_G_api_Standing.enc a3)] H1 fun (x2 : Sl × Unit) H2 =>
REQ ((some (.agg #[(.pointer a0.b), (.slice a0.things.p a0.things.len a0.things.cap), (.slice a0.cards.p a0.cards.len a0.cards.cap), (.slice a0.order.p a0.order.len a0.order.cap)]) : Option Value) = some (.agg #[(.pointer a0.b), (.slice a0.things.p a0.things.len a0.things.cap), (.slice a0.cards.p a0.cards.len a0.cards.cap), (.slice a0.order.p a0.order.len a0.order.cap)])) (
REQ ((some (.agg #[(.int .i64 a2.Thing), (.int .i64 a2.Place), (.int .u8 a2.What.When), (.int .u8 a2.What.Verb), (.int .u8 a2.What.Whom), (.int .i64 a2.What.Count), (.int .u8 a2.What.Suit), (.int .u8 a2.What.Trait), (.int .u8 a2.What.Mark), (.string a2.What.Name)]) : Option Value) = some (.agg #[(.int .i64 a2.Thing), (.int .i64 a2.Place), (.int .u8 a2.What.When), (.int .u8 a2.What.Verb), (.int .u8 a2.What.Whom), (.int .i64 a2.What.Count), (.int .u8 a2.What.Suit), (.int .u8 a2.What.Trait), (.int .u8 a2.What.Mark), (.string a2.What.Name)])) (
CALL P [T_sl] n_layer_place_about [(T_G_layer_place.enc a0), x2.1.v, (T_G_api_Standing.enc a2)] H2 fun (x3 : Sl × Unit) H3 =>
CALL P [T_bool] n_slices_Equal_int_int [x1.1.v, x3.1.v] H3 fun (x4 : Bool × Unit) H4 =>
Q (!x4.1, ()) H4))))))
def h_layer_place_depends : Hnt := .leaf
theorem e_layer_place_depends (a0 : G_layer_place) (a1 : Sl) (a2 : G_api_Standing) (a3 : G_api_Standing) (H : Heap) (Q : Bool × Unit -> Heap -> Prop) : S_layer_place_depends a0 a1 a2 a3 H Q = cFn C [4, 6, 7] Tryz.f90.ntmps Tryz.f90.results.toList [T_bool] (bodyOf Tryz.f90) h_layer_place_depends [(T_G_layer_place.enc a0), a1.v, (T_G_api_Standing.enc a2), (T_G_api_Standing.enc a3)] H Q := by kernel_rfl
theorem c_layer_place_depends {a0 : G_layer_place} {a1 : Sl} {a2 : G_api_Standing} {a3 : G_api_Standing} {H : Heap} {Q : Bool × Unit -> Heap -> Prop} (h : S_layer_place_depends a0 a1 a2 a3 H Q) : CALL P [T_bool] n_layer_place_depends [(T_G_layer_place.enc a0), a1.v, (T_G_api_Standing.enc a2), (T_G_api_Standing.enc a3)] H Q := call_print hE Tryz.func90 rfl (by kernel_rfl) (e_layer_place_depends a0 a1 a2 a3 H Q) h
end Zv
end Go.Proofs.YtolekmhhkopooaaGreatDoor
end
section
namespace Go.Proofs.YtolekmhhkopooaaGreatDoor
open Go Zq
namespace Zv
set_option maxRecDepth 100000
set_option linter.unusedVariables false
def S_book_Book_shut (a0 : Option Addr) (H : Heap) (Q : Int × Unit -> Heap -> Prop) : Prop :=
CALL P [T_bool] n_book_Book_none [(.pointer a0)] H fun (x1 : Bool × Unit) H1 =>
ifB x1.1 (
Q (1, ()) H1) (
NIL a0 fun b2 o3 =>
LD T_bool H1 b2 (o3 + 1) fun (x4 : Bool) =>
ifB x4 (
Q (7, ()) H1) (
Q (0, ()) H1))
def h_book_Book_shut : Hnt := .leaf
theorem e_book_Book_shut (a0 : Option Addr) (H : Heap) (Q : Int × Unit -> Heap -> Prop) : S_book_Book_shut a0 H Q = cFn C [] Tryz.f101.ntmps Tryz.f101.results.toList [(T_int .i64)] (bodyOf Tryz.f101) h_book_Book_shut [(.pointer a0)] H Q := by kernel_rfl
theorem c_book_Book_shut {a0 : Option Addr} {H : Heap} {Q : Int × Unit -> Heap -> Prop} (h : S_book_Book_shut a0 H Q) : CALL P [(T_int .i64)] n_book_Book_shut [(.pointer a0)] H Q := call_print hE Tryz.func101 rfl (by kernel_rfl) (e_book_Book_shut a0 H Q) h
def S_card_Check (a0 : G_api_Card) (H : Heap) (Q : Int × Unit -> Heap -> Prop) : Prop :=
CALL P [(T_int .i64)] n_card_face [(T_G_api_Card.enc a0)] H fun (x1 : Int × Unit) H1 =>
ifB (x1.1 != 0) (
Q (x1.1, ()) H1) (
JOIN (fun (j2 : (Unit) × (Unit) -> Heap -> Prop) =>
LOOP (fun (r4 : (Int × Unit) × (Unit) -> Heap -> Prop) (s5 : (Int × Unit) × (Unit)) H3 =>
ifB (decide (s5.1.1 < (a0.Parts.len : Int))) (
IDX a0.Parts.p a0.Parts.len s5.1.1 8 fun b6 o7 =>
LD T_G_api_Part H3 b6 o7 fun (x8 : G_api_Part) =>
CALL P [(T_int .i64)] n_effect_Check [(T_G_api_Part.enc x8)] H3 fun (x9 : Int × Unit) H4 =>
ifB (x9.1 != 0) (
Q (x9.1, ()) H4) (
JOIN (fun (j10 : (Bool × Unit) × (Unit) -> Heap -> Prop) =>
ifB (a0.Kind == 2) (
ifB (x8.When != 1) (
j10 ((true, ()), (())) H4) (
ifB (a0.Kind == 3) (
j10 ((x8.When == 4, ()), (())) H4) (
j10 ((false, ()), (())) H4))) (
ifB (a0.Kind == 3) (
j10 ((x8.When == 4, ()), (())) H4) (
j10 ((false, ()), (())) H4))) fun (y11 : (Bool × Unit) × (Unit)) H5 =>
ifB y11.1.1 (
Q (8, ()) H5) (
r4 ((IntKind.wrap .i64 (s5.1.1 + 1), ()), (())) H5))) (
j2 ((()), (())) H3)) ((0, ()), (())) H1) fun (y3 : (Unit) × (Unit)) H2 =>
Q (0, ()) H2)
def h_card_Check : Hnt := (.seq .leaf (.seq .leaf (.seq (.seq .leaf (.blk (some ⟨[], [], [2, 5, 6, 15, 16, 17, 18, 19, 20, 21, 22, 23, 24, 25, 26, 27, 28, 29, 30, 31, 32, 33, 34, 35, 36, 37, 38, 39, 40, 41, 42]⟩) (.loop ⟨[(15, (T_int .i64))], [], [2, 5, 6, 16, 17, 18, 19, 20, 21, 22, 23, 24, 25, 26, 27, 28, 29, 30, 31, 32, 33, 34, 35, 36, 37, 38, 39, 40, 41, 42]⟩ (.seq .leaf (.seq .leaf (.seq (.blk none (.seq .leaf (.seq .leaf (.seq (.reg ⟨[(41, T_bool)], [], [24, 25, 26, 27, 28, 29, 30, 31, 32, 33, 34, 35, 36, 37, 38, 39, 40]⟩) .leaf)))) .leaf)))))) .leaf)))
theorem e_card_Check (a0 : G_api_Card) (H : Heap) (Q : Int × Unit -> Heap -> Prop) : S_card_Check a0 H Q = cFn C [1, 5] Tryz.f102.ntmps Tryz.f102.results.toList [(T_int .i64)] (bodyOf Tryz.f102) h_card_Check [(T_G_api_Card.enc a0)] H Q := by kernel_rfl
theorem c_card_Check {a0 : G_api_Card} {H : Heap} {Q : Int × Unit -> Heap -> Prop} (h : S_card_Check a0 H Q) : CALL P [(T_int .i64)] n_card_Check [(T_G_api_Card.enc a0)] H Q := call_print hE Tryz.func102 rfl (by kernel_rfl) (e_card_Check a0 H Q) h
def S_book_Book_place (a0 : Option Addr) (a1 : ByteArray) (H : Heap) (Q : Int × Unit -> Heap -> Prop) : Prop :=
NIL a0 fun b1 o2 =>
LD (T_int .i64) H b1 (o2 + 2) fun (x3 : Int) =>
JOIN (fun (j4 : (Unit) × (Unit) -> Heap -> Prop) =>
LOOP (fun (r6 : (Int × Unit) × (Unit) -> Heap -> Prop) (s7 : (Int × Unit) × (Unit)) H2 =>
ifB (decide (s7.1.1 < x3)) (
NIL a0 fun b8 o9 =>
IDXA 64 s7.1.1 (
LD T_str H2 b8 (o9 + 3 + s7.1.1.toNat * 9 + 0) fun (x10 : ByteArray) =>
ifB (x10.toList == a1.toList) (
Q (s7.1.1, ()) H2) (
r6 ((IntKind.wrap .i64 (s7.1.1 + 1), ()), (())) H2))) (
j4 ((()), (())) H2)) ((0, ()), (())) H) fun (y5 : (Unit) × (Unit)) H1 =>
Q ((-1), ()) H1
def h_book_Book_place : Hnt := (.seq .leaf (.seq (.seq .leaf (.blk (some ⟨[], [], [4, 5, 10, 11, 12, 13, 14, 15, 16, 17, 18, 19, 20, 21, 22, 23]⟩) (.loop ⟨[(10, (T_int .i64))], [], [4, 5, 11, 12, 13, 14, 15, 16, 17, 18, 19, 20, 21, 22, 23]⟩ .leaf))) .leaf))
theorem e_book_Book_place (a0 : Option Addr) (a1 : ByteArray) (H : Heap) (Q : Int × Unit -> Heap -> Prop) : S_book_Book_place a0 a1 H Q = cFn C [] Tryz.f103.ntmps Tryz.f103.results.toList [(T_int .i64)] (bodyOf Tryz.f103) h_book_Book_place [(.pointer a0), (.string a1)] H Q := by kernel_rfl
theorem c_book_Book_place {a0 : Option Addr} {a1 : ByteArray} {H : Heap} {Q : Int × Unit -> Heap -> Prop} (h : S_book_Book_place a0 a1 H Q) : CALL P [(T_int .i64)] n_book_Book_place [(.pointer a0), (.string a1)] H Q := call_print hE Tryz.func103 rfl (by kernel_rfl) (e_book_Book_place a0 a1 H Q) h
def S_book_ahead (a0 : G_api_Card) (a1 : G_api_Card) (H : Heap) (Q : Bool × Unit -> Heap -> Prop) : Prop :=
ifB (a0.Suit != a1.Suit) (
Q (decide (a0.Suit < a1.Suit), ()) H) (
Q (Op.bytesLess a0.Name.toList a1.Name.toList, ()) H)
def h_book_ahead : Hnt := .leaf
theorem e_book_ahead (a0 : G_api_Card) (a1 : G_api_Card) (H : Heap) (Q : Bool × Unit -> Heap -> Prop) : S_book_ahead a0 a1 H Q = cFn C [2, 3] Tryz.f104.ntmps Tryz.f104.results.toList [T_bool] (bodyOf Tryz.f104) h_book_ahead [(T_G_api_Card.enc a0), (T_G_api_Card.enc a1)] H Q := by kernel_rfl
theorem c_book_ahead {a0 : G_api_Card} {a1 : G_api_Card} {H : Heap} {Q : Bool × Unit -> Heap -> Prop} (h : S_book_ahead a0 a1 H Q) : CALL P [T_bool] n_book_ahead [(T_G_api_Card.enc a0), (T_G_api_Card.enc a1)] H Q := call_print hE Tryz.func104 rfl (by kernel_rfl) (e_book_ahead a0 a1 H Q) h
def S_card_Copy (a0 : G_api_Card) (H : Heap) (Q : G_api_Card × Unit -> Heap -> Prop) : Prop :=
APP T_sl (lenV ((Sl.mk none 0 0)).v + (lenX a0.Parts.v).getD 0) (aAppendE E [111, 111] ((Sl.mk none 0 0)).v a0.Parts.v H) fun (x1 : Sl) H1 =>
Q ((G_api_Card.mk a0.Name a0.Suit a0.Kind a0.Cost a0.Power a0.Health a0.Traits a0.Token x1), ()) H1
def h_card_Copy : Hnt := .leaf
theorem e_card_Copy (a0 : G_api_Card) (H : Heap) (Q : G_api_Card × Unit -> Heap -> Prop) : S_card_Copy a0 H Q = cFn C [1, 2] Tryz.f105.ntmps Tryz.f105.results.toList [T_G_api_Card] (bodyOf Tryz.f105) h_card_Copy [(T_G_api_Card.enc a0)] H Q := by kernel_rfl
theorem c_card_Copy {a0 : G_api_Card} {H : Heap} {Q : G_api_Card × Unit -> Heap -> Prop} (h : S_card_Copy a0 H Q) : CALL P [T_G_api_Card] n_card_Copy [(T_G_api_Card.enc a0)] H Q := call_print hE Tryz.func105 rfl (by kernel_rfl) (e_card_Copy a0 H Q) h
def S_kit_CopyParts (a0 : Sl) (H : Heap) (Q : Sl × Unit -> Heap -> Prop) : Prop :=
APP T_sl (lenV ((Sl.mk none 0 0)).v + (lenX a0.v).getD 0) (aAppendE E [111, 111] ((Sl.mk none 0 0)).v a0.v H) fun (x1 : Sl) H1 =>
Q (x1, ()) H1
def h_kit_CopyParts : Hnt := .leaf
theorem e_kit_CopyParts (a0 : Sl) (H : Heap) (Q : Sl × Unit -> Heap -> Prop) : S_kit_CopyParts a0 H Q = cFn C [] Tryz.f106.ntmps Tryz.f106.results.toList [T_sl] (bodyOf Tryz.f106) h_kit_CopyParts [a0.v] H Q := by kernel_rfl
theorem c_kit_CopyParts {a0 : Sl} {H : Heap} {Q : Sl × Unit -> Heap -> Prop} (h : S_kit_CopyParts a0 H Q) : CALL P [T_sl] n_kit_CopyParts [a0.v] H Q := call_print hE Tryz.func106 rfl (by kernel_rfl) (e_kit_CopyParts a0 H Q) h
def S_ref07_Book_None (a0 : Option Addr) (H : Heap) (Q : Bool × Unit -> Heap -> Prop) : Prop :=
JOIN (fun (j1 : (Bool × Unit) × (Unit) -> Heap -> Prop) =>
ifB a0.isNone (
j1 ((true, ()), (())) H) (
NIL a0 fun b3 o4 =>
LD T_bool H b3 (o4 + 0) fun (x5 : Bool) =>
j1 ((!x5, ()), (())) H)) fun (y2 : (Bool × Unit) × (Unit)) H1 =>
Q (y2.1.1, ()) H1
def h_ref07_Book_None : Hnt := (.seq .leaf (.seq (.reg ⟨[(2, T_bool)], [], [3, 4, 5, 6, 7, 8, 9, 10, 11]⟩) .leaf))
theorem e_ref07_Book_None (a0 : Option Addr) (H : Heap) (Q : Bool × Unit -> Heap -> Prop) : S_ref07_Book_None a0 H Q = cFn C [] Tryz.f107.ntmps Tryz.f107.results.toList [T_bool] (bodyOf Tryz.f107) h_ref07_Book_None [(.pointer a0)] H Q := by kernel_rfl
theorem c_ref07_Book_None {a0 : Option Addr} {H : Heap} {Q : Bool × Unit -> Heap -> Prop} (h : S_ref07_Book_None a0 H Q) : CALL P [T_bool] n_ref07_Book_None [(.pointer a0)] H Q := call_print hE Tryz.func107 rfl (by kernel_rfl) (e_ref07_Book_None a0 H Q) h
def S_ref06_Check (a0 : G_api_Card) (H : Heap) (Q : Int × Unit -> Heap -> Prop) : Prop :=
CALL P [T_bool] n_ref06_NameMay [(.string a0.Name)] H fun (x1 : Bool × Unit) H1 =>
ifB (!x1.1) (
Q (4, ()) H1) (
JOIN (fun (j2 : (Bool × Unit) × (Unit) -> Heap -> Prop) =>
CALL P [T_bool] n_ref06_within [(.int .i64 (IntKind.wrap .i64 a0.Suit)), (.int .i64 1), (.int .i64 6)] H1 fun (x4 : Bool × Unit) H3 =>
ifB (!x4.1) (
j2 ((true, ()), (())) H3) (
CALL P [T_bool] n_ref06_within [(.int .i64 (IntKind.wrap .i64 a0.Kind)), (.int .i64 1), (.int .i64 3)] H3 fun (x5 : Bool × Unit) H4 =>
j2 ((!x5.1, ()), (())) H4)) fun (y3 : (Bool × Unit) × (Unit)) H2 =>
ifB y3.1.1 (
Q (8, ()) H2) (
JOIN (fun (j6 : (Bool × Unit) × (Unit) -> Heap -> Prop) =>
CALL P [T_bool] n_ref06_within [(.int .i64 a0.Cost), (.int .i64 0), (.int .i64 10)] H2 fun (x8 : Bool × Unit) H6 =>
ifB (!x8.1) (
j6 ((true, ()), (())) H6) (
CALL P [T_bool] n_ref06_within [(.int .i64 a0.Power), (.int .i64 0), (.int .i64 99)] H6 fun (x9 : Bool × Unit) H7 =>
ifB (!x9.1) (
j6 ((true, ()), (())) H7) (
CALL P [T_bool] n_ref06_within [(.int .i64 a0.Health), (.int .i64 0), (.int .i64 99)] H7 fun (x10 : Bool × Unit) H8 =>
j6 ((!x10.1, ()), (())) H8))) fun (y7 : (Bool × Unit) × (Unit)) H5 =>
ifB y7.1.1 (
Q (2, ()) H5) (
JOIN (fun (j11 : (Bool × Unit) × (Unit) -> Heap -> Prop) =>
ifB (a0.Kind == 1) (
ifB (a0.Health == 0) (
j11 ((true, ()), (())) H5) (
ifB (!(a0.Kind == 1)) (
ifB (a0.Power != 0) (
j11 ((true, ()), (())) H5) (
j11 ((a0.Health != 0, ()), (())) H5)) (
j11 ((false, ()), (())) H5))) (
ifB (!(a0.Kind == 1)) (
ifB (a0.Power != 0) (
j11 ((true, ()), (())) H5) (
j11 ((a0.Health != 0, ()), (())) H5)) (
j11 ((false, ()), (())) H5))) fun (y12 : (Bool × Unit) × (Unit)) H9 =>
ifB y12.1.1 (
Q (8, ()) H9) (
JOIN (fun (j13 : (Bool × Unit) × (Unit) -> Heap -> Prop) =>
CALL P [T_bool] n_ref04_Check [(.int .u16 a0.Traits)] H9 fun (x15 : Bool × Unit) H11 =>
ifB (!x15.1) (
j13 ((true, ()), (())) H11) (
ifB (a0.Kind == 2) (
j13 ((a0.Token, ()), (())) H11) (
j13 ((false, ()), (())) H11))) fun (y14 : (Bool × Unit) × (Unit)) H10 =>
ifB y14.1.1 (
Q (8, ()) H10) (
ifB (decide ((a0.Parts.len : Int) > 4)) (
Q (3, ()) H10) (
JOIN (fun (j16 : (Unit) × (Unit) -> Heap -> Prop) =>
LOOP (fun (r18 : (Int × Unit) × (Unit) -> Heap -> Prop) (s19 : (Int × Unit) × (Unit)) H13 =>
ifB (decide (s19.1.1 < (a0.Parts.len : Int))) (
IDX a0.Parts.p a0.Parts.len s19.1.1 8 fun b20 o21 =>
LD T_G_api_Part H13 b20 o21 fun (x22 : G_api_Part) =>
CALL P [(T_int .i64)] n_ref05_Check [(T_G_api_Part.enc x22)] H13 fun (x23 : Int × Unit) H14 =>
ifB (x23.1 != 0) (
Q (x23.1, ()) H14) (
JOIN (fun (j24 : (Bool × Unit) × (Unit) -> Heap -> Prop) =>
ifB (a0.Kind == 2) (
IDX a0.Parts.p a0.Parts.len s19.1.1 8 fun b26 o27 =>
LD (T_int .u8) H14 b26 (o27 + 0) fun (x28 : Int) =>
ifB (x28 != 1) (
j24 ((true, ()), (())) H14) (
ifB (a0.Kind == 3) (
IDX a0.Parts.p a0.Parts.len s19.1.1 8 fun b29 o30 =>
LD (T_int .u8) H14 b29 (o30 + 0) fun (x31 : Int) =>
j24 ((x31 == 4, ()), (())) H14) (
j24 ((false, ()), (())) H14))) (
ifB (a0.Kind == 3) (
IDX a0.Parts.p a0.Parts.len s19.1.1 8 fun b32 o33 =>
LD (T_int .u8) H14 b32 (o33 + 0) fun (x34 : Int) =>
j24 ((x34 == 4, ()), (())) H14) (
j24 ((false, ()), (())) H14))) fun (y25 : (Bool × Unit) × (Unit)) H15 =>
ifB y25.1.1 (
Q (8, ()) H15) (
r18 ((IntKind.wrap .i64 (s19.1.1 + 1), ()), (())) H15))) (
j16 ((()), (())) H13)) ((0, ()), (())) H10) fun (y17 : (Unit) × (Unit)) H12 =>
Q (0, ()) H12))))))
def h_ref06_Check : Hnt := (.seq .leaf (.seq .leaf (.seq (.blk none (.seq .leaf (.cond none .leaf (.seq (.reg ⟨[(14, T_bool)], [], [15, 16, 17, 18, 19, 20, 21, 22, 23, 24, 25, 26]⟩) (.cond none .leaf (.seq (.reg ⟨[(27, T_bool)], [], [28, 29, 30, 31, 32, 33, 34, 35, 36, 37, 38, 39, 40, 41, 42, 43]⟩) (.cond none .leaf (.seq (.reg ⟨[(44, T_bool)], [], [45, 46, 47, 48, 49, 50, 51, 52, 53, 54, 55, 56, 57, 58, 59, 60, 61, 62, 63, 64]⟩) (.cond none .leaf (.seq (.reg ⟨[(65, T_bool)], [], [66, 67, 68, 69, 70, 71, 72, 73, 74, 75, 76, 77, 78]⟩) .leaf)))))))))) (.seq (.seq .leaf (.blk (some ⟨[], [], [2, 4, 5, 84, 85, 86, 87, 88, 89, 90, 91, 92, 93, 94, 95, 96, 97, 98, 99, 100, 101, 102, 103, 104, 105, 106, 107, 108, 109, 110, 111, 112, 113, 114, 115, 116, 117, 118, 119, 120, 121, 122, 123, 124, 125]⟩) (.loop ⟨[(4, (T_int .i64))], [], [2, 5, 84, 85, 86, 87, 88, 89, 90, 91, 92, 93, 94, 95, 96, 97, 98, 99, 100, 101, 102, 103, 104, 105, 106, 107, 108, 109, 110, 111, 112, 113, 114, 115, 116, 117, 118, 119, 120, 121, 122, 123, 124, 125]⟩ (.seq .leaf (.seq (.blk none (.seq .leaf (.seq .leaf (.seq (.reg ⟨[(125, T_bool)], [], [100, 101, 102, 103, 104, 105, 106, 107, 108, 109, 110, 111, 112, 113, 114, 115, 116, 117, 118, 119, 120, 121, 122, 123, 124]⟩) .leaf)))) .leaf))))) .leaf))))
theorem e_ref06_Check (a0 : G_api_Card) (H : Heap) (Q : Int × Unit -> Heap -> Prop) : S_ref06_Check a0 H Q = cFn C [1] Tryz.f108.ntmps Tryz.f108.results.toList [(T_int .i64)] (bodyOf Tryz.f108) h_ref06_Check [(T_G_api_Card.enc a0)] H Q := by kernel_rfl
theorem c_ref06_Check {a0 : G_api_Card} {H : Heap} {Q : Int × Unit -> Heap -> Prop} (h : S_ref06_Check a0 H Q) : CALL P [(T_int .i64)] n_ref06_Check [(T_G_api_Card.enc a0)] H Q := call_print hE Tryz.func108 rfl (by kernel_rfl) (e_ref06_Check a0 H Q) h
def S_ref07_Book_place (a0 : Option Addr) (a1 : ByteArray) (H : Heap) (Q : Int × Unit -> Heap -> Prop) : Prop :=
JOIN (fun (j1 : (Unit) × (Unit) -> Heap -> Prop) =>
LOOP (fun (r3 : (Int × Unit) × (Unit) -> Heap -> Prop) (s4 : (Int × Unit) × (Unit)) H2 =>
NIL a0 fun b5 o6 =>
LD T_sl H2 b5 (o6 + 2) fun (x7 : Sl) =>
ifB (decide (s4.1.1 < (x7.len : Int))) (
NIL a0 fun b8 o9 =>
LD T_sl H2 b8 (o9 + 2) fun (x10 : Sl) =>
IDX x10.p x10.len s4.1.1 9 fun b11 o12 =>
LD T_str H2 b11 (o12 + 0) fun (x13 : ByteArray) =>
ifB (x13.toList == a1.toList) (
Q (s4.1.1, ()) H2) (
r3 ((IntKind.wrap .i64 (s4.1.1 + 1), ()), (())) H2)) (
j1 ((()), (())) H2)) ((0, ()), (())) H) fun (y2 : (Unit) × (Unit)) H1 =>
Q ((-1), ()) H1
def h_ref07_Book_place : Hnt := (.seq .leaf (.seq (.seq .leaf (.blk (some ⟨[], [], [4, 5, 6, 7, 8, 9, 10, 11, 12, 13, 14, 15, 16, 17, 18, 19, 20, 21, 22, 23, 24, 25]⟩) (.loop ⟨[(5, (T_int .i64))], [], [4, 6, 7, 8, 9, 10, 11, 12, 13, 14, 15, 16, 17, 18, 19, 20, 21, 22, 23, 24, 25]⟩ .leaf))) .leaf))
theorem e_ref07_Book_place (a0 : Option Addr) (a1 : ByteArray) (H : Heap) (Q : Int × Unit -> Heap -> Prop) : S_ref07_Book_place a0 a1 H Q = cFn C [] Tryz.f109.ntmps Tryz.f109.results.toList [(T_int .i64)] (bodyOf Tryz.f109) h_ref07_Book_place [(.pointer a0), (.string a1)] H Q := by kernel_rfl
theorem c_ref07_Book_place {a0 : Option Addr} {a1 : ByteArray} {H : Heap} {Q : Int × Unit -> Heap -> Prop} (h : S_ref07_Book_place a0 a1 H Q) : CALL P [(T_int .i64)] n_ref07_Book_place [(.pointer a0), (.string a1)] H Q := call_print hE Tryz.func109 rfl (by kernel_rfl) (e_ref07_Book_place a0 a1 H Q) h
def S_ref07_Ahead (a0 : G_api_Card) (a1 : G_api_Card) (H : Heap) (Q : Bool × Unit -> Heap -> Prop) : Prop :=
JOIN (fun (j1 : (Bool × Unit) × (Unit) -> Heap -> Prop) =>
ifB (decide (a0.Suit < a1.Suit)) (
j1 ((true, ()), (())) H) (
ifB (a0.Suit == a1.Suit) (
j1 ((Op.bytesLess a0.Name.toList a1.Name.toList, ()), (())) H) (
j1 ((false, ()), (())) H))) fun (y2 : (Bool × Unit) × (Unit)) H1 =>
Q (y2.1.1, ()) H1
def h_ref07_Ahead : Hnt := (.seq .leaf (.seq (.reg ⟨[(4, T_bool)], [], [5, 6, 7, 8, 9, 10, 11, 12, 13, 14, 15, 16, 17, 18, 19, 20, 21, 22, 23]⟩) .leaf))
theorem e_ref07_Ahead (a0 : G_api_Card) (a1 : G_api_Card) (H : Heap) (Q : Bool × Unit -> Heap -> Prop) : S_ref07_Ahead a0 a1 H Q = cFn C [2, 3] Tryz.f110.ntmps Tryz.f110.results.toList [T_bool] (bodyOf Tryz.f110) h_ref07_Ahead [(T_G_api_Card.enc a0), (T_G_api_Card.enc a1)] H Q := by kernel_rfl
theorem c_ref07_Ahead {a0 : G_api_Card} {a1 : G_api_Card} {H : Heap} {Q : Bool × Unit -> Heap -> Prop} (h : S_ref07_Ahead a0 a1 H Q) : CALL P [T_bool] n_ref07_Ahead [(T_G_api_Card.enc a0), (T_G_api_Card.enc a1)] H Q := call_print hE Tryz.func110 rfl (by kernel_rfl) (e_ref07_Ahead a0 a1 H Q) h
def S_ref06_Copy (a0 : G_api_Card) (H : Heap) (Q : G_api_Card × Unit -> Heap -> Prop) : Prop :=
APP T_sl (lenV ((Sl.mk none 0 0)).v + (lenX a0.Parts.v).getD 0) (aAppendE E [111, 111] ((Sl.mk none 0 0)).v a0.Parts.v H) fun (x1 : Sl) H1 =>
Q ((G_api_Card.mk a0.Name a0.Suit a0.Kind a0.Cost a0.Power a0.Health a0.Traits a0.Token x1), ()) H1
def h_ref06_Copy : Hnt := .leaf
theorem e_ref06_Copy (a0 : G_api_Card) (H : Heap) (Q : G_api_Card × Unit -> Heap -> Prop) : S_ref06_Copy a0 H Q = cFn C [1, 2] Tryz.f111.ntmps Tryz.f111.results.toList [T_G_api_Card] (bodyOf Tryz.f111) h_ref06_Copy [(T_G_api_Card.enc a0)] H Q := by kernel_rfl
theorem c_ref06_Copy {a0 : G_api_Card} {H : Heap} {Q : G_api_Card × Unit -> Heap -> Prop} (h : S_ref06_Copy a0 H Q) : CALL P [T_G_api_Card] n_ref06_Copy [(T_G_api_Card.enc a0)] H Q := call_print hE Tryz.func111 rfl (by kernel_rfl) (e_ref06_Copy a0 H Q) h
def S_book_within (a0 : Int) (H : Heap) (Q : Bool × Unit -> Heap -> Prop) : Prop :=
JOIN (fun (j1 : (Bool × Unit) × (Unit) -> Heap -> Prop) =>
ifB (decide (a0 ≥ (-9))) (
j1 ((decide (a0 ≤ 9), ()), (())) H) (
j1 ((false, ()), (())) H)) fun (y2 : (Bool × Unit) × (Unit)) H1 =>
Q (y2.1.1, ()) H1
def h_book_within : Hnt := (.seq .leaf (.seq (.reg ⟨[(2, T_bool)], [], [3, 4, 5, 6, 7, 8]⟩) .leaf))
theorem e_book_within (a0 : Int) (H : Heap) (Q : Bool × Unit -> Heap -> Prop) : S_book_within a0 H Q = cFn C [] Tryz.f112.ntmps Tryz.f112.results.toList [T_bool] (bodyOf Tryz.f112) h_book_within [(.int .i64 a0)] H Q := by kernel_rfl
theorem c_book_within {a0 : Int} {H : Heap} {Q : Bool × Unit -> Heap -> Prop} (h : S_book_within a0 H Q) : CALL P [T_bool] n_book_within [(.int .i64 a0)] H Q := call_print hE Tryz.func112 rfl (by kernel_rfl) (e_book_within a0 H Q) h
def S_book_name (a0 : ByteArray) (H : Heap) (Q : Bool × Unit -> Heap -> Prop) : Prop :=
JOIN (fun (j1 : (Bool × Unit) × (Unit) -> Heap -> Prop) =>
GENV (T_int .i64) (aLen E 9 (.string a0) H) fun (x3 : Int) =>
ifB (x3 == 0) (
j1 ((true, ()), (())) H) (
GENV (T_int .i64) (aLen E 9 (.string a0) H) fun (x4 : Int) =>
ifB (decide (x4 > 20)) (
j1 ((true, ()), (())) H) (
GENV (T_int .u8) (aIndex E 9 (.string a0) (.int .i64 0)) fun (x5 : Int) =>
j1 ((x5 == 45, ()), (())) H))) fun (y2 : (Bool × Unit) × (Unit)) H1 =>
ifB y2.1.1 (
Q (false, ()) H1) (
GENR (aRange E 9 (.string a0) H1) fun (x6 : Value) H2 =>
JOIN (fun (j7 : (Unit) × (Unit) -> Heap -> Prop) =>
LOOP (fun (r9 : (Unit) × (Unit) -> Heap -> Prop) (s10 : (Unit) × (Unit)) H4 =>
NXT (aNext x6 H4) (fun (i11 : Int) (r12 : Int) H5 =>
JOIN (fun (j13 : (Bool × Unit) × (Unit) -> Heap -> Prop) =>
ifB (r12 != 45) (
ifB (decide (r12 < 97)) (
j13 ((true, ()), (())) H5) (
j13 ((decide (r12 > 122), ()), (())) H5)) (
j13 ((false, ()), (())) H5)) fun (y14 : (Bool × Unit) × (Unit)) H7 =>
ifB y14.1.1 (
Q (false, ()) H7) (
r9 ((()), (())) H7)) (fun H6 =>
j7 ((()), (())) H6)) ((()), (())) H2) fun (y8 : (Unit) × (Unit)) H3 =>
Q (true, ()) H3)
def h_book_name : Hnt := (.seq .leaf (.seq (.seq (.reg ⟨[(17, T_bool)], [], [5, 6, 7, 8, 9, 10, 11, 12, 13, 14, 15, 16]⟩) .leaf) (.seq (.seq .leaf (.blk (some ⟨[], [], [2, 4, 20, 21, 22, 23, 24, 25, 26, 27, 28, 29, 30, 31, 32]⟩) (.loop ⟨[], [], [2, 4, 20, 21, 22, 23, 24, 25, 26, 27, 28, 29, 30, 31, 32]⟩ (.seq .leaf (.seq .leaf (.blk none (.seq .leaf (.seq (.reg ⟨[(32, T_bool)], [], [23, 24, 25, 26, 27, 28, 29, 30, 31]⟩) .leaf)))))))) .leaf)))
theorem e_book_name (a0 : ByteArray) (H : Heap) (Q : Bool × Unit -> Heap -> Prop) : S_book_name a0 H Q = cFn C [] Tryz.f113.ntmps Tryz.f113.results.toList [T_bool] (bodyOf Tryz.f113) h_book_name [(.string a0)] H Q := by kernel_rfl
theorem c_book_name {a0 : ByteArray} {H : Heap} {Q : Bool × Unit -> Heap -> Prop} (h : S_book_name a0 H Q) : CALL P [T_bool] n_book_name [(.string a0)] H Q := call_print hE Tryz.func113 rfl (by kernel_rfl) (e_book_name a0 H Q) h
def S_ref07_Name (a0 : ByteArray) (H : Heap) (Q : Bool × Unit -> Heap -> Prop) : Prop :=
JOIN (fun (j1 : (Bool × Unit) × (Unit) -> Heap -> Prop) =>
GENV (T_int .i64) (aLen E 9 (.string a0) H) fun (x3 : Int) =>
ifB (decide (x3 < 1)) (
j1 ((true, ()), (())) H) (
GENV (T_int .i64) (aLen E 9 (.string a0) H) fun (x4 : Int) =>
ifB (decide (x4 > 20)) (
j1 ((true, ()), (())) H) (
GENV (T_int .u8) (aIndex E 9 (.string a0) (.int .i64 0)) fun (x5 : Int) =>
ifB (decide (x5 < 97)) (
j1 ((true, ()), (())) H) (
GENV (T_int .u8) (aIndex E 9 (.string a0) (.int .i64 0)) fun (x6 : Int) =>
j1 ((decide (x6 > 122), ()), (())) H)))) fun (y2 : (Bool × Unit) × (Unit)) H1 =>
ifB y2.1.1 (
Q (false, ()) H1) (
JOIN (fun (j7 : (Unit) × (Unit) -> Heap -> Prop) =>
LOOP (fun (r9 : (Int × Unit) × (Unit) -> Heap -> Prop) (s10 : (Int × Unit) × (Unit)) H3 =>
GENV (T_int .i64) (aLen E 9 (.string a0) H3) fun (x11 : Int) =>
ifB (decide (s10.1.1 < x11)) (
JOIN (fun (j12 : (Bool × Unit) × (Unit) -> Heap -> Prop) =>
GENV (T_int .u8) (aIndex E 9 (.string a0) (.int .i64 s10.1.1)) fun (x14 : Int) =>
ifB (decide (x14 < 97)) (
GENV (T_int .u8) (aIndex E 9 (.string a0) (.int .i64 s10.1.1)) fun (x15 : Int) =>
j12 ((x15 != 45, ()), (())) H3) (
GENV (T_int .u8) (aIndex E 9 (.string a0) (.int .i64 s10.1.1)) fun (x16 : Int) =>
ifB (decide (x16 > 122)) (
GENV (T_int .u8) (aIndex E 9 (.string a0) (.int .i64 s10.1.1)) fun (x17 : Int) =>
j12 ((x17 != 45, ()), (())) H3) (
j12 ((false, ()), (())) H3))) fun (y13 : (Bool × Unit) × (Unit)) H4 =>
ifB y13.1.1 (
Q (false, ()) H4) (
r9 ((IntKind.wrap .i64 (s10.1.1 + 1), ()), (())) H4)) (
j7 ((()), (())) H3)) ((0, ()), (())) H1) fun (y8 : (Unit) × (Unit)) H2 =>
Q (true, ()) H2)
def h_ref07_Name : Hnt := (.seq .leaf (.seq (.seq (.reg ⟨[(21, T_bool)], [], [4, 5, 6, 7, 8, 9, 10, 11, 12, 13, 14, 15, 16, 17, 18, 19, 20]⟩) .leaf) (.seq (.seq .leaf (.blk (some ⟨[], [], [2, 3, 22, 23, 24, 25, 26, 27, 28, 29, 30, 31, 32, 33, 34, 35, 36, 37, 38, 39, 40, 41, 42, 43]⟩) (.loop ⟨[(3, (T_int .i64))], [], [2, 22, 23, 24, 25, 26, 27, 28, 29, 30, 31, 32, 33, 34, 35, 36, 37, 38, 39, 40, 41, 42, 43]⟩ (.seq .leaf (.seq (.blk none (.seq (.reg ⟨[(43, T_bool)], [], [28, 29, 30, 31, 32, 33, 34, 35, 36, 37, 38, 39, 40, 41, 42]⟩) .leaf)) .leaf))))) .leaf)))
theorem e_ref07_Name (a0 : ByteArray) (H : Heap) (Q : Bool × Unit -> Heap -> Prop) : S_ref07_Name a0 H Q = cFn C [] Tryz.f114.ntmps Tryz.f114.results.toList [T_bool] (bodyOf Tryz.f114) h_ref07_Name [(.string a0)] H Q := by kernel_rfl
theorem c_ref07_Name {a0 : ByteArray} {H : Heap} {Q : Bool × Unit -> Heap -> Prop} (h : S_ref07_Name a0 H Q) : CALL P [T_bool] n_ref07_Name [(.string a0)] H Q := call_print hE Tryz.func114 rfl (by kernel_rfl) (e_ref07_Name a0 H Q) h
def S_book_Book_none (a0 : Option Addr) (H : Heap) (Q : Bool × Unit -> Heap -> Prop) : Prop :=
JOIN (fun (j1 : (Bool × Unit) × (Unit) -> Heap -> Prop) =>
ifB a0.isNone (
j1 ((true, ()), (())) H) (
NIL a0 fun b3 o4 =>
LD T_bool H b3 (o4 + 0) fun (x5 : Bool) =>
j1 ((!x5, ()), (())) H)) fun (y2 : (Bool × Unit) × (Unit)) H1 =>
Q (y2.1.1, ()) H1
def h_book_Book_none : Hnt := (.seq .leaf (.seq (.reg ⟨[(2, T_bool)], [], [3, 4, 5, 6, 7, 8, 9, 10, 11]⟩) .leaf))
theorem e_book_Book_none (a0 : Option Addr) (H : Heap) (Q : Bool × Unit -> Heap -> Prop) : S_book_Book_none a0 H Q = cFn C [] Tryz.f115.ntmps Tryz.f115.results.toList [T_bool] (bodyOf Tryz.f115) h_book_Book_none [(.pointer a0)] H Q := by kernel_rfl
theorem c_book_Book_none {a0 : Option Addr} {H : Heap} {Q : Bool × Unit -> Heap -> Prop} (h : S_book_Book_none a0 H Q) : CALL P [T_bool] n_book_Book_none [(.pointer a0)] H Q := call_print hE Tryz.func115 rfl (by kernel_rfl) (e_book_Book_none a0 H Q) h
def S_trait_bit (a0 : Int) (H : Heap) (Q : Int × Unit -> Heap -> Prop) : Prop :=
CALL P [T_bool] n_trait_is [(.int .u8 a0)] H fun (x1 : Bool × Unit) H1 =>
ifB (!x1.1) (
Q (0, ()) H1) (
REQ ((0 : Int) ≤ (IntKind.wrap .u8 (a0 - 1))) (
Q (IntKind.wrap .u16 (1 * 2 ^ (min (IntKind.wrap .u8 (a0 - 1)).toNat (IntKind.bits .u16))), ()) H1))
def h_trait_bit : Hnt := .leaf
theorem e_trait_bit (a0 : Int) (H : Heap) (Q : Int × Unit -> Heap -> Prop) : S_trait_bit a0 H Q = cFn C [] Tryz.f117.ntmps Tryz.f117.results.toList [(T_int .u16)] (bodyOf Tryz.f117) h_trait_bit [(.int .u8 a0)] H Q := by kernel_rfl
theorem c_trait_bit {a0 : Int} {H : Heap} {Q : Int × Unit -> Heap -> Prop} (h : S_trait_bit a0 H Q) : CALL P [(T_int .u16)] n_trait_bit [(.int .u8 a0)] H Q := call_print hE Tryz.func117 rfl (by kernel_rfl) (e_trait_bit a0 H Q) h
def S_book_Book_At (a0 : Option Addr) (a1 : Int) (H : Heap) (Q : G_api_Card × Int × Unit -> Heap -> Prop) : Prop :=
CALL P [T_bool] n_book_Book_none [(.pointer a0)] H fun (x1 : Bool × Unit) H1 =>
ifB x1.1 (
Q ((G_api_Card.mk (ByteArray.mk #[]) 0 0 0 0 0 0 false (Sl.mk none 0 0)), 1, ()) H1) (
JOIN (fun (j2 : (Bool × Unit) × (Unit) -> Heap -> Prop) =>
NIL a0 fun b4 o5 =>
LD T_bool H1 b4 (o5 + 1) fun (x6 : Bool) =>
ifB (!x6) (
j2 ((true, ()), (())) H1) (
ifB (decide (a1 < 1)) (
j2 ((true, ()), (())) H1) (
NIL a0 fun b7 o8 =>
LD (T_int .i64) H1 b7 (o8 + 2) fun (x9 : Int) =>
j2 ((decide (a1 > x9), ()), (())) H1))) fun (y3 : (Bool × Unit) × (Unit)) H2 =>
ifB y3.1.1 (
Q ((G_api_Card.mk (ByteArray.mk #[]) 0 0 0 0 0 0 false (Sl.mk none 0 0)), 6, ()) H2) (
NIL a0 fun b10 o11 =>
IDXA 64 (IntKind.wrap .i64 (a1 - 1)) (
LD T_G_api_Card H2 b10 (o11 + 3 + (IntKind.wrap .i64 (a1 - 1)).toNat * 9) fun (x12 : G_api_Card) =>
CALL P [T_G_api_Card] n_card_Copy [(T_G_api_Card.enc x12)] H2 fun (x13 : G_api_Card × Unit) H3 =>
Q (x13.1, 0, ()) H3)))
def h_book_Book_At : Hnt := (.seq .leaf (.seq .leaf (.seq (.seq (.reg ⟨[(25, T_bool)], [], [9, 10, 11, 12, 13, 14, 15, 16, 17, 18, 19, 20, 21, 22, 23, 24]⟩) .leaf) .leaf)))
theorem e_book_Book_At (a0 : Option Addr) (a1 : Int) (H : Heap) (Q : G_api_Card × Int × Unit -> Heap -> Prop) : S_book_Book_At a0 a1 H Q = cFn C [4] Tryz.f121.ntmps Tryz.f121.results.toList [T_G_api_Card, (T_int .i64)] (bodyOf Tryz.f121) h_book_Book_At [(.pointer a0), (.int .i64 a1)] H Q := by kernel_rfl
theorem c_book_Book_At {a0 : Option Addr} {a1 : Int} {H : Heap} {Q : G_api_Card × Int × Unit -> Heap -> Prop} (h : S_book_Book_At a0 a1 H Q) : CALL P [T_G_api_Card, (T_int .i64)] n_book_Book_At [(.pointer a0), (.int .i64 a1)] H Q := call_print hE Tryz.func121 rfl (by kernel_rfl) (e_book_Book_At a0 a1 H Q) h
def S_book_Book_Find (a0 : Option Addr) (a1 : ByteArray) (H : Heap) (Q : Int × Int × Unit -> Heap -> Prop) : Prop :=
CALL P [T_bool] n_book_Book_none [(.pointer a0)] H fun (x1 : Bool × Unit) H1 =>
ifB x1.1 (
Q (0, 1, ()) H1) (
CALL P [(T_int .i64)] n_book_Book_place [(.pointer a0), (.string a1)] H1 fun (x2 : Int × Unit) H2 =>
JOIN (fun (j3 : (Bool × Unit) × (Unit) -> Heap -> Prop) =>
NIL a0 fun b5 o6 =>
LD T_bool H2 b5 (o6 + 1) fun (x7 : Bool) =>
ifB x7 (
j3 ((decide (x2.1 ≥ 0), ()), (())) H2) (
j3 ((false, ()), (())) H2)) fun (y4 : (Bool × Unit) × (Unit)) H3 =>
ifB y4.1.1 (
Q (IntKind.wrap .i64 (x2.1 + 1), 0, ()) H3) (
Q (0, 6, ()) H3))
def h_book_Book_Find : Hnt := (.seq .leaf (.seq .leaf (.seq (.seq .leaf (.seq (.reg ⟨[(19, T_bool)], [], [12, 13, 14, 15, 16, 17, 18]⟩) .leaf)) .leaf)))
theorem e_book_Book_Find (a0 : Option Addr) (a1 : ByteArray) (H : Heap) (Q : Int × Int × Unit -> Heap -> Prop) : S_book_Book_Find a0 a1 H Q = cFn C [] Tryz.f125.ntmps Tryz.f125.results.toList [(T_int .i64), (T_int .i64)] (bodyOf Tryz.f125) h_book_Book_Find [(.pointer a0), (.string a1)] H Q := by kernel_rfl
theorem c_book_Book_Find {a0 : Option Addr} {a1 : ByteArray} {H : Heap} {Q : Int × Int × Unit -> Heap -> Prop} (h : S_book_Book_Find a0 a1 H Q) : CALL P [(T_int .i64), (T_int .i64)] n_book_Book_Find [(.pointer a0), (.string a1)] H Q := call_print hE Tryz.func125 rfl (by kernel_rfl) (e_book_Book_Find a0 a1 H Q) h
def S_trait_Check (a0 : Int) (H : Heap) (Q : Bool × Unit -> Heap -> Prop) : Prop :=
REQ ((0 : Int) ≤ 8) (
Q ((Int.fdiv a0 (2 ^ (min (8 : Int).toNat (IntKind.bits .u16)))) == 0, ()) H)
def h_trait_Check : Hnt := .leaf
theorem e_trait_Check (a0 : Int) (H : Heap) (Q : Bool × Unit -> Heap -> Prop) : S_trait_Check a0 H Q = cFn C [] Tryz.f126.ntmps Tryz.f126.results.toList [T_bool] (bodyOf Tryz.f126) h_trait_Check [(.int .u16 a0)] H Q := by kernel_rfl
theorem c_trait_Check {a0 : Int} {H : Heap} {Q : Bool × Unit -> Heap -> Prop} (h : S_trait_Check a0 H Q) : CALL P [T_bool] n_trait_Check [(.int .u16 a0)] H Q := call_print hE Tryz.func126 rfl (by kernel_rfl) (e_trait_Check a0 H Q) h
def S_layer_setup_1 (a0 : Int) (a1 : Int) (c0 : Nat × Nat) (H : Heap) (Q : Int × Unit -> Heap -> Prop) : Prop :=
LD T_sl H c0.1 c0.2 fun (x1 : Sl) =>
IDX x1.p x1.len a0 11 fun b2 o3 =>
LD (T_int .i64) H b2 (o3 + 3) fun (x4 : Int) =>
LD T_sl H c0.1 c0.2 fun (x5 : Sl) =>
IDX x5.p x5.len a1 11 fun b6 o7 =>
LD (T_int .i64) H b6 (o7 + 3) fun (x8 : Int) =>
Q (IntKind.wrap .i64 (x4 - x8), ()) H
def h_layer_setup_1 : Hnt := .leaf
theorem e_layer_setup_1 (a0 : Int) (a1 : Int) (c0 : Nat × Nat) (H : Heap) (Q : Int × Unit -> Heap -> Prop) : S_layer_setup_1 a0 a1 c0 H Q = cFn C [] Tryz.f128.ntmps Tryz.f128.results.toList [(T_int .i64)] (bodyOf Tryz.f128) h_layer_setup_1 [(.int .i64 a0), (.int .i64 a1), (.pointer (some ⟨c0.1, c0.2, none⟩))] H Q := by kernel_rfl
theorem c_layer_setup_1 {a0 : Int} {a1 : Int} {c0 : Nat × Nat} {H : Heap} {Q : Int × Unit -> Heap -> Prop} (h : S_layer_setup_1 a0 a1 c0 H Q) : CALL P [(T_int .i64)] n_layer_setup_1 [(.int .i64 a0), (.int .i64 a1), (.pointer (some ⟨c0.1, c0.2, none⟩))] H Q := call_print hE Tryz.func128 rfl (by kernel_rfl) (e_layer_setup_1 a0 a1 c0 H Q) h
def S_layer_place_ahead (a0 : G_layer_place) (a1 : G_api_Standing) (a2 : G_api_Standing) (H : Heap) (Q : Bool × Unit -> Heap -> Prop) : Prop :=
IDX a0.things.p a0.things.len (IntKind.wrap .i64 (a1.Thing - 1)) 11 fun b1 o2 =>
LD (T_int .i64) H b1 (o2 + 3) fun (x3 : Int) =>
IDX a0.things.p a0.things.len (IntKind.wrap .i64 (a2.Thing - 1)) 11 fun b4 o5 =>
LD (T_int .i64) H b4 (o5 + 3) fun (x6 : Int) =>
JOIN (fun (j7 : (Bool × Unit) × (Unit) -> Heap -> Prop) =>
ifB (decide (x3 < x6)) (
j7 ((true, ()), (())) H) (
ifB (x3 == x6) (
j7 ((decide (a1.Place < a2.Place), ()), (())) H) (
j7 ((false, ()), (())) H))) fun (y8 : (Bool × Unit) × (Unit)) H1 =>
Q (y8.1.1, ()) H1
def h_layer_place_ahead : Hnt := (.seq .leaf (.seq .leaf (.seq (.reg ⟨[(6, T_bool)], [], [25, 26, 27, 28, 29, 30, 31, 32, 33, 34, 35, 36, 37, 38, 39]⟩) .leaf)))
theorem e_layer_place_ahead (a0 : G_layer_place) (a1 : G_api_Standing) (a2 : G_api_Standing) (H : Heap) (Q : Bool × Unit -> Heap -> Prop) : S_layer_place_ahead a0 a1 a2 H Q = cFn C [3, 4, 5] Tryz.f129.ntmps Tryz.f129.results.toList [T_bool] (bodyOf Tryz.f129) h_layer_place_ahead [(T_G_layer_place.enc a0), (T_G_api_Standing.enc a1), (T_G_api_Standing.enc a2)] H Q := by kernel_rfl
theorem c_layer_place_ahead {a0 : G_layer_place} {a1 : G_api_Standing} {a2 : G_api_Standing} {H : Heap} {Q : Bool × Unit -> Heap -> Prop} (h : S_layer_place_ahead a0 a1 a2 H Q) : CALL P [T_bool] n_layer_place_ahead [(T_G_layer_place.enc a0), (T_G_api_Standing.enc a1), (T_G_api_Standing.enc a2)] H Q := call_print hE Tryz.func129 rfl (by kernel_rfl) (e_layer_place_ahead a0 a1 a2 H Q) h
def S_layer_place_means (a0 : G_layer_place) (a1 : Sl) (a2 : G_api_Standing) (a3 : Int) (H : Heap) (Q : Bool × Unit -> Heap -> Prop) : Prop :=
ifB (a2.What.Whom == 4) (
Q (a3 == (IntKind.wrap .i64 (a2.Thing - 1)), ()) H) (
IDX a1.p a1.len a3 5 fun b1 o2 =>
LD T_G_api_Feature H b1 o2 fun (x3 : G_api_Feature) =>
IDX a1.p a1.len (IntKind.wrap .i64 (a2.Thing - 1)) 5 fun b4 o5 =>
LD (T_int .i64) H b4 (o5 + 0) fun (x6 : Int) =>
REQ ((some (.int .i64 a2.Thing) : Option Value) = some (.int .i64 a2.Thing)) (
LD (T_int .i64) H b4 (o5 + 0) fun (x7 : Int) =>
REQ ((T_int .i64).enc x7 = (.int .i64 x6)) (
IDX a0.cards.p a0.cards.len a3 9 fun b8 o9 =>
LD (T_int .u8) H b8 (o9 + 2) fun (x10 : Int) =>
ifB (x10 != 1) (
Q (false, ()) H) (
ifB (a2.What.Whom == 5) (
Q (x3.Holder == x6, ()) H) (
ifB (a2.What.Whom == 6) (
Q (x3.Holder != x6, ()) H) (
ifB (a2.What.Whom == 7) (
Q (true, ()) H) (
ifB (a2.What.Whom == 8) (
JOIN (fun (j11 : (Bool × Unit) × (Unit) -> Heap -> Prop) =>
ifB (x3.Holder == x6) (
j11 ((a3 != (IntKind.wrap .i64 (a2.Thing - 1)), ()), (())) H) (
j11 ((false, ()), (())) H)) fun (y12 : (Bool × Unit) × (Unit)) H1 =>
Q (y12.1.1, ()) H1) (
ifB (a2.What.Whom == 9) (
Q (x3.Suit == a2.What.Suit, ()) H) (
ifB (a2.What.Whom == 10) (
CALL P [T_bool] n_trait_Has [(.int .u16 x3.Traits), (.int .u8 a2.What.Trait)] H fun (x13 : Bool × Unit) H2 =>
Q (x13.1, ()) H2) (
Q (false, ()) H))))))))))
def h_layer_place_means : Hnt := (.seq .leaf (.seq .leaf (.seq .leaf (.seq .leaf (.seq (.seq .leaf (.blk none (.seq .leaf (.cond none .leaf (.seq .leaf (.cond none .leaf (.seq .leaf (.cond none .leaf (.seq .leaf (.cond none (.seq (.reg ⟨[(8, T_bool)], [], [57, 58, 59, 60, 61, 62, 63, 64, 65, 66, 67]⟩) .leaf) .leaf)))))))))) .leaf)))))
theorem e_layer_place_means (a0 : G_layer_place) (a1 : Sl) (a2 : G_api_Standing) (a3 : Int) (H : Heap) (Q : Bool × Unit -> Heap -> Prop) : S_layer_place_means a0 a1 a2 a3 H Q = cFn C [4, 6, 9] Tryz.f131.ntmps Tryz.f131.results.toList [T_bool] (bodyOf Tryz.f131) h_layer_place_means [(T_G_layer_place.enc a0), a1.v, (T_G_api_Standing.enc a2), (.int .i64 a3)] H Q := by kernel_rfl
theorem c_layer_place_means {a0 : G_layer_place} {a1 : Sl} {a2 : G_api_Standing} {a3 : Int} {H : Heap} {Q : Bool × Unit -> Heap -> Prop} (h : S_layer_place_means a0 a1 a2 a3 H Q) : CALL P [T_bool] n_layer_place_means [(T_G_layer_place.enc a0), a1.v, (T_G_api_Standing.enc a2), (.int .i64 a3)] H Q := call_print hE Tryz.func131 rfl (by kernel_rfl) (e_layer_place_means a0 a1 a2 a3 H Q) h
def S_slices_Equal_int_int (a0 : Sl) (a1 : Sl) (H : Heap) (Q : Bool × Unit -> Heap -> Prop) : Prop :=
ifB ((a0.len : Int) != (a1.len : Int)) (
Q (false, ()) H) (
JOIN (fun (j1 : (Unit) × (Unit) -> Heap -> Prop) =>
LOOP (fun (r3 : (Int × Unit) × (Unit) -> Heap -> Prop) (s4 : (Int × Unit) × (Unit)) H2 =>
ifB (decide (s4.1.1 < (a0.len : Int))) (
IDX a0.p a0.len s4.1.1 1 fun b5 o6 =>
LD (T_int .i64) H2 b5 o6 fun (x7 : Int) =>
IDX a1.p a1.len s4.1.1 1 fun b8 o9 =>
LD (T_int .i64) H2 b8 o9 fun (x10 : Int) =>
ifB (x7 != x10) (
Q (false, ()) H2) (
r3 ((IntKind.wrap .i64 (s4.1.1 + 1), ()), (())) H2)) (
j1 ((()), (())) H2)) ((0, ()), (())) H) fun (y2 : (Unit) × (Unit)) H1 =>
Q (true, ()) H1)
def h_slices_Equal_int_int : Hnt := (.seq .leaf (.seq .leaf (.seq (.seq .leaf (.blk (some ⟨[], [], [4, 5, 13, 14, 15, 16, 17, 18, 19, 20, 21, 22, 23, 24, 25]⟩) (.loop ⟨[(13, (T_int .i64))], [], [4, 5, 14, 15, 16, 17, 18, 19, 20, 21, 22, 23, 24, 25]⟩ .leaf))) .leaf)))
theorem e_slices_Equal_int_int (a0 : Sl) (a1 : Sl) (H : Heap) (Q : Bool × Unit -> Heap -> Prop) : S_slices_Equal_int_int a0 a1 H Q = cFn C [] Tryz.f132.ntmps Tryz.f132.results.toList [T_bool] (bodyOf Tryz.f132) h_slices_Equal_int_int [a0.v, a1.v] H Q := by kernel_rfl
theorem c_slices_Equal_int_int {a0 : Sl} {a1 : Sl} {H : Heap} {Q : Bool × Unit -> Heap -> Prop} (h : S_slices_Equal_int_int a0 a1 H Q) : CALL P [T_bool] n_slices_Equal_int_int [a0.v, a1.v] H Q := call_print hE Tryz.func132 rfl (by kernel_rfl) (e_slices_Equal_int_int a0 a1 H Q) h
def S_card_face (a0 : G_api_Card) (H : Heap) (Q : Int × Unit -> Heap -> Prop) : Prop :=
CALL P [T_bool] n_card_named [(.string a0.Name)] H fun (x1 : Bool × Unit) H1 =>
ifB (!x1.1) (
Q (4, ()) H1) (
JOIN (fun (j2 : (Bool × Unit) × (Unit) -> Heap -> Prop) =>
CALL P [T_str] n_suit_Name [(.int .u8 a0.Suit)] H1 fun (x4 : ByteArray × Unit) H3 =>
ifB (x4.1.toList == (ByteArray.mk #[]).toList) (
j2 ((true, ()), (())) H3) (
CALL P [T_str] n_card_word [(.int .u8 a0.Kind)] H3 fun (x5 : ByteArray × Unit) H4 =>
j2 ((x5.1.toList == (ByteArray.mk #[]).toList, ()), (())) H4)) fun (y3 : (Bool × Unit) × (Unit)) H2 =>
ifB y3.1.1 (
Q (8, ()) H2) (
JOIN (fun (j6 : (Bool × Unit) × (Unit) -> Heap -> Prop) =>
CALL P [T_bool] n_card_within [(.int .i64 a0.Cost), (.int .i64 10)] H2 fun (x8 : Bool × Unit) H6 =>
ifB (!x8.1) (
j6 ((true, ()), (())) H6) (
CALL P [T_bool] n_card_within [(.int .i64 a0.Power), (.int .i64 99)] H6 fun (x9 : Bool × Unit) H7 =>
ifB (!x9.1) (
j6 ((true, ()), (())) H7) (
CALL P [T_bool] n_card_within [(.int .i64 a0.Health), (.int .i64 99)] H7 fun (x10 : Bool × Unit) H8 =>
j6 ((!x10.1, ()), (())) H8))) fun (y7 : (Bool × Unit) × (Unit)) H5 =>
ifB y7.1.1 (
Q (2, ()) H5) (
JOIN (fun (j11 : (Bool × Unit) × (Unit) -> Heap -> Prop) =>
ifB (a0.Kind == 1) (
ifB (a0.Health == 0) (
j11 ((true, ()), (())) H5) (
ifB (!(a0.Kind == 1)) (
ifB (a0.Power != 0) (
j11 ((true, ()), (())) H5) (
j11 ((a0.Health != 0, ()), (())) H5)) (
j11 ((false, ()), (())) H5))) (
ifB (!(a0.Kind == 1)) (
ifB (a0.Power != 0) (
j11 ((true, ()), (())) H5) (
j11 ((a0.Health != 0, ()), (())) H5)) (
j11 ((false, ()), (())) H5))) fun (y12 : (Bool × Unit) × (Unit)) H9 =>
ifB y12.1.1 (
Q (8, ()) H9) (
JOIN (fun (j13 : (Bool × Unit) × (Unit) -> Heap -> Prop) =>
CALL P [T_bool] n_trait_Check [(.int .u16 a0.Traits)] H9 fun (x15 : Bool × Unit) H11 =>
ifB (!x15.1) (
j13 ((true, ()), (())) H11) (
ifB (a0.Kind == 2) (
j13 ((a0.Token, ()), (())) H11) (
j13 ((false, ()), (())) H11))) fun (y14 : (Bool × Unit) × (Unit)) H10 =>
ifB y14.1.1 (
Q (8, ()) H10) (
ifB (decide ((a0.Parts.len : Int) > 4)) (
Q (3, ()) H10) (
Q (0, ()) H10))))))
def h_card_face : Hnt := (.seq .leaf (.seq .leaf (.seq (.blk none (.seq .leaf (.cond none .leaf (.seq (.reg ⟨[(12, T_bool)], [], [13, 14, 15, 16, 17, 18, 19, 20, 21, 22]⟩) (.cond none .leaf (.seq (.reg ⟨[(23, T_bool)], [], [24, 25, 26, 27, 28, 29, 30, 31, 32, 33, 34, 35, 36, 37, 38, 39]⟩) (.cond none .leaf (.seq (.reg ⟨[(40, T_bool)], [], [41, 42, 43, 44, 45, 46, 47, 48, 49, 50, 51, 52, 53, 54, 55, 56, 57, 58, 59, 60]⟩) (.cond none .leaf (.seq (.reg ⟨[(61, T_bool)], [], [62, 63, 64, 65, 66, 67, 68, 69, 70, 71, 72, 73, 74]⟩) .leaf)))))))))) .leaf)))
theorem e_card_face (a0 : G_api_Card) (H : Heap) (Q : Int × Unit -> Heap -> Prop) : S_card_face a0 H Q = cFn C [1] Tryz.f140.ntmps Tryz.f140.results.toList [(T_int .i64)] (bodyOf Tryz.f140) h_card_face [(T_G_api_Card.enc a0)] H Q := by kernel_rfl
theorem c_card_face {a0 : G_api_Card} {H : Heap} {Q : Int × Unit -> Heap -> Prop} (h : S_card_face a0 H Q) : CALL P [(T_int .i64)] n_card_face [(T_G_api_Card.enc a0)] H Q := call_print hE Tryz.func140 rfl (by kernel_rfl) (e_card_face a0 H Q) h
def S_effect_Check (a0 : G_api_Part) (H : Heap) (Q : Int × Unit -> Heap -> Prop) : Prop :=
CALL P [T_bool, T_bool, T_bool, T_bool, T_bool] n_effect_Uses [(.int .u8 a0.Verb), (.int .u8 a0.Whom)] H fun (x1 : Bool × Bool × Bool × Bool × Bool × Unit) H1 =>
CALL P [(T_int .i64), (T_int .i64), T_bool] n_effect_bounds [(.int .u8 a0.Verb)] H1 fun (x2 : Int × Int × Bool × Unit) H2 =>
JOIN (fun (j3 : (Bool × Unit) × (Unit) -> Heap -> Prop) =>
ifB (decide (a0.When < 1)) (
j3 ((true, ()), (())) H2) (
ifB (decide (a0.When > 6)) (
j3 ((true, ()), (())) H2) (
ifB (decide (a0.Verb < 1)) (
j3 ((true, ()), (())) H2) (
ifB (decide (a0.Verb > 19)) (
j3 ((true, ()), (())) H2) (
ifB (decide (a0.Whom < 1)) (
j3 ((true, ()), (())) H2) (
j3 ((decide (a0.Whom > 10), ()), (())) H2)))))) fun (y4 : (Bool × Unit) × (Unit)) H3 =>
ifB y4.1.1 (
Q (2, ()) H3) (
JOIN (fun (j5 : (Bool × Unit) × (Unit) -> Heap -> Prop) =>
CALL P [T_bool] n_effect_wanted [(.int .u8 a0.When), (.int .u8 a0.Verb)] H3 fun (x7 : Bool × Unit) H5 =>
ifB (!x7.1) (
j5 ((true, ()), (())) H5) (
ifB (a0.Verb == 11) (
j5 ((a0.Whom == 9, ()), (())) H5) (
j5 ((false, ()), (())) H5))) fun (y6 : (Bool × Unit) × (Unit)) H4 =>
ifB y6.1.1 (
Q (8, ()) H4) (
CALL P [T_bool] n_effect_about [(T_G_api_Part.enc a0)] H4 fun (x8 : Bool × Unit) H6 =>
ifB (!x8.1) (
Q (13, ()) H6) (
JOIN (fun (j9 : (Bool × Unit) × (Unit) -> Heap -> Prop) =>
CALL P [T_bool] n_effect_within_int [(.int .i64 a0.Count), (.bool x1.1), (.int .i64 x2.1), (.int .i64 x2.2.1)] H6 fun (x11 : Bool × Unit) H8 =>
ifB (!x11.1) (
j9 ((true, ()), (())) H8) (
ifB x1.1 (
ifB (!x2.2.2.1) (
j9 ((a0.Count == 0, ()), (())) H8) (
j9 ((false, ()), (())) H8)) (
j9 ((false, ()), (())) H8))) fun (y10 : (Bool × Unit) × (Unit)) H7 =>
ifB y10.1.1 (
Q (2, ()) H7) (
JOIN (fun (j12 : (Bool × Unit) × (Unit) -> Heap -> Prop) =>
CALL P [T_bool] n_effect_within_api_Suit [(.int .u8 a0.Suit), (.bool x1.2.1), (.int .u8 1), (.int .u8 6)] H7 fun (x14 : Bool × Unit) H10 =>
ifB (!x14.1) (
j12 ((true, ()), (())) H10) (
CALL P [T_bool] n_effect_within_api_Trait [(.int .u8 a0.Trait), (.bool x1.2.2.1), (.int .u8 1), (.int .u8 8)] H10 fun (x15 : Bool × Unit) H11 =>
ifB (!x15.1) (
j12 ((true, ()), (())) H11) (
CALL P [T_bool] n_effect_within_api_Mark [(.int .u8 a0.Mark), (.bool x1.2.2.2.1), (.int .u8 1), (.int .u8 4)] H11 fun (x16 : Bool × Unit) H12 =>
j12 ((!x16.1, ()), (())) H12))) fun (y13 : (Bool × Unit) × (Unit)) H9 =>
ifB y13.1.1 (
Q (2, ()) H9) (
JOIN (fun (j17 : (Bool × Unit) × (Unit) -> Heap -> Prop) =>
ifB (!(x1.2.2.2.2.1 == (!(a0.Name.toList == (ByteArray.mk #[]).toList)))) (
j17 ((true, ()), (())) H9) (
ifB x1.2.2.2.2.1 (
CALL P [T_bool] n_effect_name [(.string a0.Name)] H9 fun (x19 : Bool × Unit) H14 =>
j17 ((!x19.1, ()), (())) H14) (
j17 ((false, ()), (())) H9))) fun (y18 : (Bool × Unit) × (Unit)) H13 =>
ifB y18.1.1 (
Q (4, ()) H13) (
Q (0, ()) H13))))))
def h_effect_Check : Hnt := (.seq .leaf (.seq .leaf (.seq .leaf (.seq (.blk none (.seq (.reg ⟨[(29, T_bool)], [], [30, 31, 32, 33, 34, 35, 36, 37, 38, 39, 40, 41, 42, 43, 44, 45, 46, 47, 48, 49, 50, 51, 52, 53, 54, 55, 56, 57]⟩) (.cond none .leaf (.seq (.reg ⟨[(58, T_bool)], [], [59, 60, 61, 62, 63, 64, 65, 66, 67, 68, 69, 70, 71, 72, 73, 74]⟩) (.cond none .leaf (.seq .leaf (.cond none .leaf (.seq (.reg ⟨[(79, T_bool)], [], [80, 81, 82, 83, 84, 85, 86, 87, 88, 89, 90, 91, 92, 93, 94, 95, 96, 97, 98]⟩) (.cond none .leaf (.seq (.reg ⟨[(99, T_bool)], [], [100, 101, 102, 103, 104, 105, 106, 107, 108, 109, 110, 111, 112, 113, 114, 115, 116, 117, 118]⟩) (.cond none .leaf (.seq (.reg ⟨[(119, T_bool)], [], [120, 121, 122, 123, 124, 125, 126, 127, 128, 129, 130, 131, 132, 133]⟩) .leaf)))))))))))) .leaf))))
theorem e_effect_Check (a0 : G_api_Part) (H : Heap) (Q : Int × Unit -> Heap -> Prop) : S_effect_Check a0 H Q = cFn C [1] Tryz.f141.ntmps Tryz.f141.results.toList [(T_int .i64)] (bodyOf Tryz.f141) h_effect_Check [(T_G_api_Part.enc a0)] H Q := by kernel_rfl
theorem c_effect_Check {a0 : G_api_Part} {H : Heap} {Q : Int × Unit -> Heap -> Prop} (h : S_effect_Check a0 H Q) : CALL P [(T_int .i64)] n_effect_Check [(T_G_api_Part.enc a0)] H Q := call_print hE Tryz.func141 rfl (by kernel_rfl) (e_effect_Check a0 H Q) h
def S_ref06_NameMay (a0 : ByteArray) (H : Heap) (Q : Bool × Unit -> Heap -> Prop) : Prop :=
JOIN (fun (j1 : (Bool × Unit) × (Unit) -> Heap -> Prop) =>
GENV (T_int .i64) (aLen E 9 (.string a0) H) fun (x3 : Int) =>
ifB (decide (x3 < 1)) (
j1 ((true, ()), (())) H) (
GENV (T_int .i64) (aLen E 9 (.string a0) H) fun (x4 : Int) =>
ifB (decide (x4 > 20)) (
j1 ((true, ()), (())) H) (
GENV (T_int .u8) (aIndex E 9 (.string a0) (.int .i64 0)) fun (x5 : Int) =>
j1 ((x5 == 45, ()), (())) H))) fun (y2 : (Bool × Unit) × (Unit)) H1 =>
ifB y2.1.1 (
Q (false, ()) H1) (
JOIN (fun (j6 : (Unit) × (Unit) -> Heap -> Prop) =>
LOOP (fun (r8 : (Int × Unit) × (Unit) -> Heap -> Prop) (s9 : (Int × Unit) × (Unit)) H3 =>
GENV (T_int .i64) (aLen E 9 (.string a0) H3) fun (x10 : Int) =>
ifB (decide (s9.1.1 < x10)) (
JOIN (fun (j11 : (Bool × Unit) × (Unit) -> Heap -> Prop) =>
GENV (T_int .u8) (aIndex E 9 (.string a0) (.int .i64 s9.1.1)) fun (x13 : Int) =>
ifB (x13 != 45) (
GENV (T_int .u8) (aIndex E 9 (.string a0) (.int .i64 s9.1.1)) fun (x14 : Int) =>
ifB (decide (x14 < 97)) (
j11 ((true, ()), (())) H3) (
GENV (T_int .u8) (aIndex E 9 (.string a0) (.int .i64 s9.1.1)) fun (x15 : Int) =>
j11 ((decide (x15 > 122), ()), (())) H3)) (
j11 ((false, ()), (())) H3)) fun (y12 : (Bool × Unit) × (Unit)) H4 =>
ifB y12.1.1 (
Q (false, ()) H4) (
r8 ((IntKind.wrap .i64 (s9.1.1 + 1), ()), (())) H4)) (
j6 ((()), (())) H3)) ((0, ()), (())) H1) fun (y7 : (Unit) × (Unit)) H2 =>
Q (true, ()) H2)
def h_ref06_NameMay : Hnt := (.seq .leaf (.seq (.seq (.reg ⟨[(16, T_bool)], [], [4, 5, 6, 7, 8, 9, 10, 11, 12, 13, 14, 15]⟩) .leaf) (.seq (.seq .leaf (.blk (some ⟨[], [], [2, 3, 17, 18, 19, 20, 21, 22, 23, 24, 25, 26, 27, 28, 29, 30, 31, 32, 33, 34, 35, 36, 37, 38]⟩) (.loop ⟨[(3, (T_int .i64))], [], [2, 17, 18, 19, 20, 21, 22, 23, 24, 25, 26, 27, 28, 29, 30, 31, 32, 33, 34, 35, 36, 37, 38]⟩ (.seq .leaf (.seq (.blk none (.seq (.reg ⟨[(38, T_bool)], [], [23, 24, 25, 26, 27, 28, 29, 30, 31, 32, 33, 34, 35, 36, 37]⟩) .leaf)) .leaf))))) .leaf)))
theorem e_ref06_NameMay (a0 : ByteArray) (H : Heap) (Q : Bool × Unit -> Heap -> Prop) : S_ref06_NameMay a0 H Q = cFn C [] Tryz.f142.ntmps Tryz.f142.results.toList [T_bool] (bodyOf Tryz.f142) h_ref06_NameMay [(.string a0)] H Q := by kernel_rfl
theorem c_ref06_NameMay {a0 : ByteArray} {H : Heap} {Q : Bool × Unit -> Heap -> Prop} (h : S_ref06_NameMay a0 H Q) : CALL P [T_bool] n_ref06_NameMay [(.string a0)] H Q := call_print hE Tryz.func142 rfl (by kernel_rfl) (e_ref06_NameMay a0 H Q) h
def S_ref06_within (a0 : Int) (a1 : Int) (a2 : Int) (H : Heap) (Q : Bool × Unit -> Heap -> Prop) : Prop :=
JOIN (fun (j1 : (Bool × Unit) × (Unit) -> Heap -> Prop) =>
ifB (decide (a0 ≥ a1)) (
j1 ((decide (a0 ≤ a2), ()), (())) H) (
j1 ((false, ()), (())) H)) fun (y2 : (Bool × Unit) × (Unit)) H1 =>
Q (y2.1.1, ()) H1
def h_ref06_within : Hnt := (.seq .leaf (.seq (.reg ⟨[(6, T_bool)], [], [7, 8, 9, 10, 11, 12, 13, 14]⟩) .leaf))
theorem e_ref06_within (a0 : Int) (a1 : Int) (a2 : Int) (H : Heap) (Q : Bool × Unit -> Heap -> Prop) : S_ref06_within a0 a1 a2 H Q = cFn C [] Tryz.f143.ntmps Tryz.f143.results.toList [T_bool] (bodyOf Tryz.f143) h_ref06_within [(.int .i64 a0), (.int .i64 a1), (.int .i64 a2)] H Q := by kernel_rfl
theorem c_ref06_within {a0 : Int} {a1 : Int} {a2 : Int} {H : Heap} {Q : Bool × Unit -> Heap -> Prop} (h : S_ref06_within a0 a1 a2 H Q) : CALL P [T_bool] n_ref06_within [(.int .i64 a0), (.int .i64 a1), (.int .i64 a2)] H Q := call_print hE Tryz.func143 rfl (by kernel_rfl) (e_ref06_within a0 a1 a2 H Q) h
def S_ref04_Check (a0 : Int) (H : Heap) (Q : Bool × Unit -> Heap -> Prop) : Prop :=
Q (decide (a0 < 256), ()) H
def h_ref04_Check : Hnt := .leaf
theorem e_ref04_Check (a0 : Int) (H : Heap) (Q : Bool × Unit -> Heap -> Prop) : S_ref04_Check a0 H Q = cFn C [] Tryz.f144.ntmps Tryz.f144.results.toList [T_bool] (bodyOf Tryz.f144) h_ref04_Check [(.int .u16 a0)] H Q := by kernel_rfl
theorem c_ref04_Check {a0 : Int} {H : Heap} {Q : Bool × Unit -> Heap -> Prop} (h : S_ref04_Check a0 H Q) : CALL P [T_bool] n_ref04_Check [(.int .u16 a0)] H Q := call_print hE Tryz.func144 rfl (by kernel_rfl) (e_ref04_Check a0 H Q) h
def S_ref05_Check (a0 : G_api_Part) (H : Heap) (Q : Int × Unit -> Heap -> Prop) : Prop :=
JOIN (fun (j1 : (Bool × Unit) × (Unit) -> Heap -> Prop) =>
ifB (decide (a0.When < 1)) (
j1 ((true, ()), (())) H) (
ifB (decide (a0.When > 6)) (
j1 ((true, ()), (())) H) (
ifB (decide (a0.Verb < 1)) (
j1 ((true, ()), (())) H) (
ifB (decide (a0.Verb > 19)) (
j1 ((true, ()), (())) H) (
ifB (decide (a0.Whom < 1)) (
j1 ((true, ()), (())) H) (
j1 ((decide (a0.Whom > 10), ()), (())) H)))))) fun (y2 : (Bool × Unit) × (Unit)) H1 =>
ifB y2.1.1 (
Q (2, ()) H1) (
CALL P [T_bool, T_bool, T_bool, T_bool, T_bool] n_ref05_Uses [(.int .u8 a0.Verb), (.int .u8 a0.Whom)] H1 fun (x3 : Bool × Bool × Bool × Bool × Bool × Unit) H2 =>
JOIN (fun (j4 : (Bool × Unit) × (Unit) -> Heap -> Prop) =>
CALL P [(T_int .i64)] n_ref05_kind [(.int .u8 a0.Verb)] H2 fun (x6 : Int × Unit) H4 =>
REQ ((some (.int .u8 a0.When) : Option Value) = some (.int .u8 a0.When)) (
CALL P [(T_int .i64)] n_ref05_wants [(.int .u8 a0.When)] H4 fun (x7 : Int × Unit) H5 =>
ifB (x6.1 != x7.1) (
j4 ((true, ()), (())) H5) (
ifB (a0.Verb == 11) (
j4 ((a0.Whom == 9, ()), (())) H5) (
j4 ((false, ()), (())) H5)))) fun (y5 : (Bool × Unit) × (Unit)) H3 =>
ifB y5.1.1 (
Q (8, ()) H3) (
CALL P [T_bool] n_ref05_about [(T_G_api_Part.enc a0)] H3 fun (x8 : Bool × Unit) H6 =>
ifB (!x8.1) (
Q (13, ()) H6) (
CALL P [T_bool] n_ref05_counted [(T_G_api_Part.enc a0)] H6 fun (x9 : Bool × Unit) H7 =>
ifB (!x9.1) (
Q (2, ()) H7) (
JOIN (fun (j10 : (Bool × Unit) × (Unit) -> Heap -> Prop) =>
CALL P [T_bool] n_ref05_within [(.bool x3.2.1), (.int .i64 (IntKind.wrap .i64 a0.Suit)), (.int .i64 6)] H7 fun (x12 : Bool × Unit) H9 =>
ifB (!x12.1) (
j10 ((true, ()), (())) H9) (
CALL P [T_bool] n_ref05_within [(.bool x3.2.2.1), (.int .i64 (IntKind.wrap .i64 a0.Trait)), (.int .i64 8)] H9 fun (x13 : Bool × Unit) H10 =>
ifB (!x13.1) (
j10 ((true, ()), (())) H10) (
CALL P [T_bool] n_ref05_within [(.bool x3.2.2.2.1), (.int .i64 (IntKind.wrap .i64 a0.Mark)), (.int .i64 4)] H10 fun (x14 : Bool × Unit) H11 =>
j10 ((!x14.1, ()), (())) H11))) fun (y11 : (Bool × Unit) × (Unit)) H8 =>
ifB y11.1.1 (
Q (2, ()) H8) (
JOIN (fun (j15 : (Bool × Unit) × (Unit) -> Heap -> Prop) =>
ifB x3.2.2.2.2.1 (
CALL P [T_bool] n_ref05_Name [(.string a0.Name)] H8 fun (x17 : Bool × Unit) H13 =>
ifB (!x17.1) (
j15 ((true, ()), (())) H13) (
ifB (!x3.2.2.2.2.1) (
j15 ((!(a0.Name.toList == (ByteArray.mk #[]).toList), ()), (())) H13) (
j15 ((false, ()), (())) H13))) (
ifB (!x3.2.2.2.2.1) (
j15 ((!(a0.Name.toList == (ByteArray.mk #[]).toList), ()), (())) H8) (
j15 ((false, ()), (())) H8))) fun (y16 : (Bool × Unit) × (Unit)) H12 =>
ifB y16.1.1 (
Q (4, ()) H12) (
Q (0, ()) H12))))))
def h_ref05_Check : Hnt := (.seq .leaf (.seq (.seq (.reg ⟨[(35, T_bool)], [], [8, 9, 10, 11, 12, 13, 14, 15, 16, 17, 18, 19, 20, 21, 22, 23, 24, 25, 26, 27, 28, 29, 30, 31, 32, 33, 34]⟩) .leaf) (.seq .leaf (.seq (.blk none (.seq (.reg ⟨[(47, T_bool)], [], [48, 49, 50, 51, 52, 53, 54, 55, 56, 57, 58, 59, 60, 61, 62, 63, 64]⟩) (.cond none .leaf (.seq .leaf (.cond none .leaf (.seq .leaf (.cond none .leaf (.seq (.reg ⟨[(73, T_bool)], [], [74, 75, 76, 77, 78, 79, 80, 81, 82, 83, 84, 85, 86, 87, 88, 89, 90, 91, 92, 93, 94, 95]⟩) (.cond none .leaf (.seq (.reg ⟨[(96, T_bool)], [], [97, 98, 99, 100, 101, 102, 103, 104, 105, 106, 107, 108, 109, 110, 111, 112]⟩) .leaf)))))))))) .leaf))))
theorem e_ref05_Check (a0 : G_api_Part) (H : Heap) (Q : Int × Unit -> Heap -> Prop) : S_ref05_Check a0 H Q = cFn C [1] Tryz.f145.ntmps Tryz.f145.results.toList [(T_int .i64)] (bodyOf Tryz.f145) h_ref05_Check [(T_G_api_Part.enc a0)] H Q := by kernel_rfl
theorem c_ref05_Check {a0 : G_api_Part} {H : Heap} {Q : Int × Unit -> Heap -> Prop} (h : S_ref05_Check a0 H Q) : CALL P [(T_int .i64)] n_ref05_Check [(T_G_api_Part.enc a0)] H Q := call_print hE Tryz.func145 rfl (by kernel_rfl) (e_ref05_Check a0 H Q) h
def S_trait_is (a0 : Int) (H : Heap) (Q : Bool × Unit -> Heap -> Prop) : Prop :=
JOIN (fun (j1 : (Bool × Unit) × (Unit) -> Heap -> Prop) =>
ifB (decide (a0 ≥ 1)) (
j1 ((decide (a0 ≤ 8), ()), (())) H) (
j1 ((false, ()), (())) H)) fun (y2 : (Bool × Unit) × (Unit)) H1 =>
Q (y2.1.1, ()) H1
def h_trait_is : Hnt := (.seq .leaf (.seq (.reg ⟨[(2, T_bool)], [], [3, 4, 5, 6, 7, 8]⟩) .leaf))
theorem e_trait_is (a0 : Int) (H : Heap) (Q : Bool × Unit -> Heap -> Prop) : S_trait_is a0 H Q = cFn C [] Tryz.f148.ntmps Tryz.f148.results.toList [T_bool] (bodyOf Tryz.f148) h_trait_is [(.int .u8 a0)] H Q := by kernel_rfl
theorem c_trait_is {a0 : Int} {H : Heap} {Q : Bool × Unit -> Heap -> Prop} (h : S_trait_is a0 H Q) : CALL P [T_bool] n_trait_is [(.int .u8 a0)] H Q := call_print hE Tryz.func148 rfl (by kernel_rfl) (e_trait_is a0 H Q) h
def S_card_named (a0 : ByteArray) (H : Heap) (Q : Bool × Unit -> Heap -> Prop) : Prop :=
JOIN (fun (j1 : (Bool × Unit) × (Unit) -> Heap -> Prop) =>
GENV (T_int .i64) (aLen E 9 (.string a0) H) fun (x3 : Int) =>
ifB (decide (x3 > 0)) (
GENV (T_int .i64) (aLen E 9 (.string a0) H) fun (x4 : Int) =>
ifB (decide (x4 ≤ 20)) (
GENV (T_int .u8) (aIndex E 9 (.string a0) (.int .i64 0)) fun (x5 : Int) =>
ifB (x5 != 45) (
CALL P [T_str] n_strings_Trim [(.string a0), (.string (ByteArray.mk #[97, 98, 99, 100, 101, 102, 103, 104, 105, 106, 107, 108, 109, 110, 111, 112, 113, 114, 115, 116, 117, 118, 119, 120, 121, 122, 45]))] H fun (x6 : ByteArray × Unit) H2 =>
j1 ((x6.1.toList == (ByteArray.mk #[]).toList, ()), (())) H2) (
j1 ((false, ()), (())) H)) (
j1 ((false, ()), (())) H)) (
j1 ((false, ()), (())) H)) fun (y2 : (Bool × Unit) × (Unit)) H1 =>
Q (y2.1.1, ()) H1
def h_card_named : Hnt := (.seq .leaf (.seq (.reg ⟨[(2, T_bool)], [], [3, 4, 5, 6, 7, 8, 9, 10, 11, 12, 13, 14, 15, 16, 17, 18, 19, 20]⟩) .leaf))
theorem e_card_named (a0 : ByteArray) (H : Heap) (Q : Bool × Unit -> Heap -> Prop) : S_card_named a0 H Q = cFn C [] Tryz.f158.ntmps Tryz.f158.results.toList [T_bool] (bodyOf Tryz.f158) h_card_named [(.string a0)] H Q := by kernel_rfl
theorem c_card_named {a0 : ByteArray} {H : Heap} {Q : Bool × Unit -> Heap -> Prop} (h : S_card_named a0 H Q) : CALL P [T_bool] n_card_named [(.string a0)] H Q := call_print hE Tryz.func158 rfl (by kernel_rfl) (e_card_named a0 H Q) h
def S_suit_Name (a0 : Int) (H : Heap) (Q : ByteArray × Unit -> Heap -> Prop) : Prop :=
ifB (a0 == 1) (
Q ((ByteArray.mk #[97, 105, 114]), ()) H) (
ifB (a0 == 2) (
Q ((ByteArray.mk #[101, 97, 114, 116, 104]), ()) H) (
ifB (a0 == 3) (
Q ((ByteArray.mk #[102, 105, 114, 101]), ()) H) (
ifB (a0 == 4) (
Q ((ByteArray.mk #[119, 97, 116, 101, 114]), ()) H) (
ifB (a0 == 5) (
Q ((ByteArray.mk #[118, 111, 105, 100]), ()) H) (
ifB (a0 == 6) (
Q ((ByteArray.mk #[103, 111, 108, 100]), ()) H) (
Q ((ByteArray.mk #[]), ()) H))))))
def h_suit_Name : Hnt := .leaf
theorem e_suit_Name (a0 : Int) (H : Heap) (Q : ByteArray × Unit -> Heap -> Prop) : S_suit_Name a0 H Q = cFn C [] Tryz.f159.ntmps Tryz.f159.results.toList [T_str] (bodyOf Tryz.f159) h_suit_Name [(.int .u8 a0)] H Q := by kernel_rfl
theorem c_suit_Name {a0 : Int} {H : Heap} {Q : ByteArray × Unit -> Heap -> Prop} (h : S_suit_Name a0 H Q) : CALL P [T_str] n_suit_Name [(.int .u8 a0)] H Q := call_print hE Tryz.func159 rfl (by kernel_rfl) (e_suit_Name a0 H Q) h
def S_card_word (a0 : Int) (H : Heap) (Q : ByteArray × Unit -> Heap -> Prop) : Prop :=
ifB (a0 == 1) (
Q ((ByteArray.mk #[117, 110, 105, 116]), ()) H) (
ifB (a0 == 2) (
Q ((ByteArray.mk #[115, 112, 101, 108, 108]), ()) H) (
ifB (a0 == 3) (
Q ((ByteArray.mk #[114, 101, 108, 105, 99]), ()) H) (
Q ((ByteArray.mk #[]), ()) H)))
def h_card_word : Hnt := .leaf
theorem e_card_word (a0 : Int) (H : Heap) (Q : ByteArray × Unit -> Heap -> Prop) : S_card_word a0 H Q = cFn C [] Tryz.f160.ntmps Tryz.f160.results.toList [T_str] (bodyOf Tryz.f160) h_card_word [(.int .u8 a0)] H Q := by kernel_rfl
theorem c_card_word {a0 : Int} {H : Heap} {Q : ByteArray × Unit -> Heap -> Prop} (h : S_card_word a0 H Q) : CALL P [T_str] n_card_word [(.int .u8 a0)] H Q := call_print hE Tryz.func160 rfl (by kernel_rfl) (e_card_word a0 H Q) h
def S_card_within (a0 : Int) (a1 : Int) (H : Heap) (Q : Bool × Unit -> Heap -> Prop) : Prop :=
JOIN (fun (j1 : (Bool × Unit) × (Unit) -> Heap -> Prop) =>
ifB (decide (a0 ≥ 0)) (
j1 ((decide (a0 ≤ a1), ()), (())) H) (
j1 ((false, ()), (())) H)) fun (y2 : (Bool × Unit) × (Unit)) H1 =>
Q (y2.1.1, ()) H1
def h_card_within : Hnt := (.seq .leaf (.seq (.reg ⟨[(4, T_bool)], [], [5, 6, 7, 8, 9, 10, 11]⟩) .leaf))
theorem e_card_within (a0 : Int) (a1 : Int) (H : Heap) (Q : Bool × Unit -> Heap -> Prop) : S_card_within a0 a1 H Q = cFn C [] Tryz.f161.ntmps Tryz.f161.results.toList [T_bool] (bodyOf Tryz.f161) h_card_within [(.int .i64 a0), (.int .i64 a1)] H Q := by kernel_rfl
theorem c_card_within {a0 : Int} {a1 : Int} {H : Heap} {Q : Bool × Unit -> Heap -> Prop} (h : S_card_within a0 a1 H Q) : CALL P [T_bool] n_card_within [(.int .i64 a0), (.int .i64 a1)] H Q := call_print hE Tryz.func161 rfl (by kernel_rfl) (e_card_within a0 a1 H Q) h
end Zv
end Go.Proofs.YtolekmhhkopooaaGreatDoor
end
section
namespace Go.Proofs.YtolekmhhkopooaaGreatDoor
open Go Zq
namespace Zv
set_option maxRecDepth 100000
set_option linter.unusedVariables false
def S_effect_Uses (a0 : Int) (a1 : Int) (H : Heap) (Q : Bool × Bool × Bool × Bool × Bool × Unit -> Heap -> Prop) : Prop :=
JOIN (fun (j1 : (Bool × Unit) × (Unit) -> Heap -> Prop) =>
ifB (a0 == 1) (
j1 ((a0 == 1, ()), (())) H) (
JOIN (fun (j3 : (Bool × Unit) × (Unit) -> Heap -> Prop) =>
ifB (a0 == 2) (
j3 ((a0 == 2, ()), (())) H) (
JOIN (fun (j5 : (Bool × Unit) × (Unit) -> Heap -> Prop) =>
ifB (a0 == 3) (
j5 ((a0 == 3, ()), (())) H) (
JOIN (fun (j7 : (Bool × Unit) × (Unit) -> Heap -> Prop) =>
ifB (a0 == 4) (
j7 ((a0 == 4, ()), (())) H) (
JOIN (fun (j9 : (Bool × Unit) × (Unit) -> Heap -> Prop) =>
ifB (a0 == 5) (
j9 ((a0 == 5, ()), (())) H) (
JOIN (fun (j11 : (Bool × Unit) × (Unit) -> Heap -> Prop) =>
ifB (a0 == 14) (
j11 ((a0 == 14, ()), (())) H) (
JOIN (fun (j13 : (Bool × Unit) × (Unit) -> Heap -> Prop) =>
ifB (a0 == 15) (
j13 ((a0 == 15, ()), (())) H) (
JOIN (fun (j15 : (Bool × Unit) × (Unit) -> Heap -> Prop) =>
ifB (a0 == 16) (
j15 ((a0 == 16, ()), (())) H) (
j15 ((a0 == 19, ()), (())) H)) fun (y16 : (Bool × Unit) × (Unit)) H8 =>
j13 ((y16.1.1, ()), (())) H8)) fun (y14 : (Bool × Unit) × (Unit)) H7 =>
j11 ((y14.1.1, ()), (())) H7)) fun (y12 : (Bool × Unit) × (Unit)) H6 =>
j9 ((y12.1.1, ()), (())) H6)) fun (y10 : (Bool × Unit) × (Unit)) H5 =>
j7 ((y10.1.1, ()), (())) H5)) fun (y8 : (Bool × Unit) × (Unit)) H4 =>
j5 ((y8.1.1, ()), (())) H4)) fun (y6 : (Bool × Unit) × (Unit)) H3 =>
j3 ((y6.1.1, ()), (())) H3)) fun (y4 : (Bool × Unit) × (Unit)) H2 =>
j1 ((y4.1.1, ()), (())) H2)) fun (y2 : (Bool × Unit) × (Unit)) H1 =>
JOIN (fun (j17 : (Bool × Bool × Bool × Bool × Bool × Unit) × (Unit) -> Heap -> Prop) =>
ifB y2.1.1 (
j17 ((true, false, false, false, false, ()), (())) H1) (
JOIN (fun (j19 : (Bool × Bool × Bool × Bool × Bool × Unit) × (Unit) -> Heap -> Prop) =>
ifB (a0 == 9) (
j19 ((true, false, false, true, false, ()), (())) H1) (
JOIN (fun (j21 : (Bool × Bool × Bool × Bool × Unit) × (Unit) -> Heap -> Prop) =>
ifB (a0 == 7) (
j21 ((true, false, false, true, ()), (())) H1) (
JOIN (fun (j23 : (Bool × Bool × Unit) × (Unit) -> Heap -> Prop) =>
ifB (a0 == 11) (
j23 ((true, false, ()), (())) H1) (
JOIN (fun (j25 : (Bool × Unit) × (Unit) -> Heap -> Prop) =>
ifB (a0 == 12) (
j25 ((a0 == 12, ()), (())) H1) (
j25 ((a0 == 13, ()), (())) H1)) fun (y26 : (Bool × Unit) × (Unit)) H13 =>
JOIN (fun (j27 : (Bool × Unit) × (Unit) -> Heap -> Prop) =>
ifB y26.1.1 (
j27 ((true, ()), (())) H13) (
j27 ((false, ()), (())) H13)) fun (y28 : (Bool × Unit) × (Unit)) H14 =>
j23 ((false, y28.1.1, ()), (())) H14)) fun (y24 : (Bool × Bool × Unit) × (Unit)) H12 =>
j21 ((false, y24.1.1, y24.1.2.1, false, ()), (())) H12)) fun (y22 : (Bool × Bool × Bool × Bool × Unit) × (Unit)) H11 =>
j19 ((y22.1.1, y22.1.2.1, y22.1.2.2.1, false, y22.1.2.2.2.1, ()), (())) H11)) fun (y20 : (Bool × Bool × Bool × Bool × Bool × Unit) × (Unit)) H10 =>
j17 ((y20.1.1, y20.1.2.1, y20.1.2.2.1, y20.1.2.2.2.1, y20.1.2.2.2.2.1, ()), (())) H10)) fun (y18 : (Bool × Bool × Bool × Bool × Bool × Unit) × (Unit)) H9 =>
JOIN (fun (j29 : (Bool × Bool × Bool × Bool × Bool × Unit) × (Unit) -> Heap -> Prop) =>
ifB y18.1.2.1 (
ifB y18.1.2.2.1 (
j29 ((y18.1.1, true, true, y18.1.2.2.2.1, y18.1.2.2.2.2.1, ()), (())) H9) (
j29 ((y18.1.1, true, a1 == 10, y18.1.2.2.2.1, y18.1.2.2.2.2.1, ()), (())) H9)) (
ifB y18.1.2.2.1 (
j29 ((y18.1.1, a1 == 9, true, y18.1.2.2.2.1, y18.1.2.2.2.2.1, ()), (())) H9) (
j29 ((y18.1.1, a1 == 9, a1 == 10, y18.1.2.2.2.1, y18.1.2.2.2.2.1, ()), (())) H9))) fun (y30 : (Bool × Bool × Bool × Bool × Bool × Unit) × (Unit)) H15 =>
Q (y30.1.1, y30.1.2.1, y30.1.2.2.1, y30.1.2.2.2.1, y30.1.2.2.2.2.1, ()) H15
def h_effect_Uses : Hnt := (.seq .leaf (.seq (.seq .leaf (.blk none (.seq (.seq .leaf (.cond (some ⟨[(10, T_bool)], [], [12, 13, 14, 15, 16, 17, 18, 19]⟩) .leaf (.seq .leaf (.cond (some ⟨[(10, T_bool)], [], [13, 14, 15, 16, 17, 18, 19]⟩) .leaf (.seq .leaf (.cond (some ⟨[(10, T_bool)], [], [14, 15, 16, 17, 18, 19]⟩) .leaf (.seq .leaf (.cond (some ⟨[(10, T_bool)], [], [15, 16, 17, 18, 19]⟩) .leaf (.seq .leaf (.cond (some ⟨[(10, T_bool)], [], [16, 17, 18, 19]⟩) .leaf (.seq .leaf (.cond (some ⟨[(10, T_bool)], [], [17, 18, 19]⟩) .leaf (.seq .leaf (.cond (some ⟨[(10, T_bool)], [], [18, 19]⟩) .leaf (.seq .leaf (.cond (some ⟨[(10, T_bool)], [], [19]⟩) .leaf .leaf)))))))))))))))) (.cond (some ⟨[(4, T_bool), (5, T_bool), (6, T_bool), (7, T_bool), (8, T_bool)], [], [20, 21, 22, 23, 24, 25, 26, 27, 28]⟩) .leaf (.seq .leaf (.cond (some ⟨[(4, T_bool), (5, T_bool), (6, T_bool), (7, T_bool), (8, T_bool)], [], [22, 23, 24, 25, 26, 27, 28]⟩) .leaf (.seq .leaf (.cond (some ⟨[(4, T_bool), (5, T_bool), (6, T_bool), (8, T_bool)], [], [24, 25, 26, 27, 28]⟩) .leaf (.seq .leaf (.cond (some ⟨[(5, T_bool), (6, T_bool)], [], [26, 27, 28]⟩) .leaf (.seq (.seq .leaf (.cond (some ⟨[(26, T_bool)], [], [28]⟩) .leaf .leaf)) (.cond (some ⟨[(6, T_bool)], [], []⟩) .leaf .leaf)))))))))))) (.seq (.reg ⟨[(4, T_bool), (5, T_bool), (6, T_bool), (7, T_bool), (8, T_bool)], [], [29, 30, 31, 32, 33, 34, 35, 36, 37, 38, 39, 40, 41]⟩) .leaf)))
theorem e_effect_Uses (a0 : Int) (a1 : Int) (H : Heap) (Q : Bool × Bool × Bool × Bool × Bool × Unit -> Heap -> Prop) : S_effect_Uses a0 a1 H Q = cFn C [] Tryz.f162.ntmps Tryz.f162.results.toList [T_bool, T_bool, T_bool, T_bool, T_bool] (bodyOf Tryz.f162) h_effect_Uses [(.int .u8 a0), (.int .u8 a1)] H Q := by kernel_rfl
theorem c_effect_Uses {a0 : Int} {a1 : Int} {H : Heap} {Q : Bool × Bool × Bool × Bool × Bool × Unit -> Heap -> Prop} (h : S_effect_Uses a0 a1 H Q) : CALL P [T_bool, T_bool, T_bool, T_bool, T_bool] n_effect_Uses [(.int .u8 a0), (.int .u8 a1)] H Q := call_print hE Tryz.func162 rfl (by kernel_rfl) (e_effect_Uses a0 a1 H Q) h
def S_effect_bounds (a0 : Int) (H : Heap) (Q : Int × Int × Bool × Unit -> Heap -> Prop) : Prop :=
JOIN (fun (j1 : (Bool × Unit) × (Unit) -> Heap -> Prop) =>
ifB (a0 == 9) (
j1 ((a0 == 9, ()), (())) H) (
j1 ((a0 == 15, ()), (())) H)) fun (y2 : (Bool × Unit) × (Unit)) H1 =>
ifB y2.1.1 (
Q ((-99), 99, false, ()) H1) (
ifB (a0 == 5) (
Q ((-9), 9, false, ()) H1) (
ifB (a0 == 14) (
Q (0, 99, true, ()) H1) (
Q (1, 99, false, ()) H1)))
def h_effect_bounds : Hnt := (.seq .leaf (.seq (.seq .leaf (.blk none (.seq (.seq .leaf (.cond (some ⟨[(6, T_bool)], [], [8]⟩) .leaf .leaf)) .leaf))) .leaf))
theorem e_effect_bounds (a0 : Int) (H : Heap) (Q : Int × Int × Bool × Unit -> Heap -> Prop) : S_effect_bounds a0 H Q = cFn C [] Tryz.f163.ntmps Tryz.f163.results.toList [(T_int .i64), (T_int .i64), T_bool] (bodyOf Tryz.f163) h_effect_bounds [(.int .u8 a0)] H Q := by kernel_rfl
theorem c_effect_bounds {a0 : Int} {H : Heap} {Q : Int × Int × Bool × Unit -> Heap -> Prop} (h : S_effect_bounds a0 H Q) : CALL P [(T_int .i64), (T_int .i64), T_bool] n_effect_bounds [(.int .u8 a0)] H Q := call_print hE Tryz.func163 rfl (by kernel_rfl) (e_effect_bounds a0 H Q) h
def S_effect_wanted (a0 : Int) (a1 : Int) (H : Heap) (Q : Bool × Unit -> Heap -> Prop) : Prop :=
ifB (a0 == 5) (
CALL P [T_bool] n_effect_standing [(.int .u8 a1)] H fun (x1 : Bool × Unit) H1 =>
Q (x1.1, ()) H1) (
ifB (a0 == 6) (
CALL P [T_bool] n_effect_swapping [(.int .u8 a1)] H fun (x2 : Bool × Unit) H2 =>
Q (x2.1, ()) H2) (
CALL P [T_bool] n_effect_event [(.int .u8 a1)] H fun (x3 : Bool × Unit) H3 =>
Q (x3.1, ()) H3))
def h_effect_wanted : Hnt := .leaf
theorem e_effect_wanted (a0 : Int) (a1 : Int) (H : Heap) (Q : Bool × Unit -> Heap -> Prop) : S_effect_wanted a0 a1 H Q = cFn C [] Tryz.f164.ntmps Tryz.f164.results.toList [T_bool] (bodyOf Tryz.f164) h_effect_wanted [(.int .u8 a0), (.int .u8 a1)] H Q := by kernel_rfl
theorem c_effect_wanted {a0 : Int} {a1 : Int} {H : Heap} {Q : Bool × Unit -> Heap -> Prop} (h : S_effect_wanted a0 a1 H Q) : CALL P [T_bool] n_effect_wanted [(.int .u8 a0), (.int .u8 a1)] H Q := call_print hE Tryz.func164 rfl (by kernel_rfl) (e_effect_wanted a0 a1 H Q) h
def S_effect_about (a0 : G_api_Part) (H : Heap) (Q : Bool × Unit -> Heap -> Prop) : Prop :=
JOIN (fun (j1 : (Bool × Unit) × (Unit) -> Heap -> Prop) =>
ifB (a0.Whom == 1) (
j1 ((true, ()), (())) H) (
j1 ((a0.Whom == 2, ()), (())) H)) fun (y2 : (Bool × Unit) × (Unit)) H1 =>
CALL P [T_bool] n_effect_standing [(.int .u8 a0.Verb)] H1 fun (x3 : Bool × Unit) H2 =>
ifB x3.1 (
JOIN (fun (j4 : (Bool × Unit) × (Unit) -> Heap -> Prop) =>
ifB (!y2.1.1) (
j4 ((a0.Whom != 3, ()), (())) H2) (
j4 ((false, ()), (())) H2)) fun (y5 : (Bool × Unit) × (Unit)) H3 =>
Q (y5.1.1, ()) H3) (
CALL P [T_bool] n_effect_swapping [(.int .u8 a0.Verb)] H2 fun (x6 : Bool × Unit) H4 =>
ifB x6.1 (
Q (a0.Whom != 3, ()) H4) (
ifB (a0.Whom == 3) (
Q (a0.When == 1, ()) H4) (
JOIN (fun (j7 : (Bool × Unit) × (Unit) -> Heap -> Prop) =>
ifB (!y2.1.1) (
j7 ((true, ()), (())) H4) (
ifB (a0.Verb != 6) (
ifB (a0.Verb != 8) (
j7 ((a0.Verb != 9, ()), (())) H4) (
j7 ((false, ()), (())) H4)) (
j7 ((false, ()), (())) H4))) fun (y8 : (Bool × Unit) × (Unit)) H5 =>
Q (y8.1.1, ()) H5)))
def h_effect_about : Hnt := (.seq .leaf (.seq (.reg ⟨[(3, T_bool)], [], [4, 5, 6, 7, 8, 9, 10, 11]⟩) (.seq (.blk none (.seq .leaf (.cond none (.seq (.reg ⟨[(2, T_bool)], [], [16, 17, 18, 19, 20, 21, 22]⟩) .leaf) .leaf))) (.seq (.reg ⟨[(2, T_bool)], [], [37, 38, 39, 40, 41, 42, 43, 44, 45, 46, 47, 48, 49, 50, 51, 52, 53]⟩) .leaf))))
theorem e_effect_about (a0 : G_api_Part) (H : Heap) (Q : Bool × Unit -> Heap -> Prop) : S_effect_about a0 H Q = cFn C [1] Tryz.f165.ntmps Tryz.f165.results.toList [T_bool] (bodyOf Tryz.f165) h_effect_about [(T_G_api_Part.enc a0)] H Q := by kernel_rfl
theorem c_effect_about {a0 : G_api_Part} {H : Heap} {Q : Bool × Unit -> Heap -> Prop} (h : S_effect_about a0 H Q) : CALL P [T_bool] n_effect_about [(T_G_api_Part.enc a0)] H Q := call_print hE Tryz.func165 rfl (by kernel_rfl) (e_effect_about a0 H Q) h
def S_effect_within_int (a0 : Int) (a1 : Bool) (a2 : Int) (a3 : Int) (H : Heap) (Q : Bool × Unit -> Heap -> Prop) : Prop :=
ifB (!a1) (
Q (a0 == 0, ()) H) (
JOIN (fun (j1 : (Bool × Unit) × (Unit) -> Heap -> Prop) =>
ifB (decide (a0 ≥ a2)) (
j1 ((decide (a0 ≤ a3), ()), (())) H) (
j1 ((false, ()), (())) H)) fun (y2 : (Bool × Unit) × (Unit)) H1 =>
Q (y2.1.1, ()) H1)
def h_effect_within_int : Hnt := (.seq .leaf (.seq .leaf (.seq (.reg ⟨[(8, T_bool)], [], [13, 14, 15, 16, 17, 18, 19, 20]⟩) .leaf)))
theorem e_effect_within_int (a0 : Int) (a1 : Bool) (a2 : Int) (a3 : Int) (H : Heap) (Q : Bool × Unit -> Heap -> Prop) : S_effect_within_int a0 a1 a2 a3 H Q = cFn C [] Tryz.f166.ntmps Tryz.f166.results.toList [T_bool] (bodyOf Tryz.f166) h_effect_within_int [(.int .i64 a0), (.bool a1), (.int .i64 a2), (.int .i64 a3)] H Q := by kernel_rfl
theorem c_effect_within_int {a0 : Int} {a1 : Bool} {a2 : Int} {a3 : Int} {H : Heap} {Q : Bool × Unit -> Heap -> Prop} (h : S_effect_within_int a0 a1 a2 a3 H Q) : CALL P [T_bool] n_effect_within_int [(.int .i64 a0), (.bool a1), (.int .i64 a2), (.int .i64 a3)] H Q := call_print hE Tryz.func166 rfl (by kernel_rfl) (e_effect_within_int a0 a1 a2 a3 H Q) h
def S_effect_within_api_Suit (a0 : Int) (a1 : Bool) (a2 : Int) (a3 : Int) (H : Heap) (Q : Bool × Unit -> Heap -> Prop) : Prop :=
ifB (!a1) (
Q (a0 == 0, ()) H) (
JOIN (fun (j1 : (Bool × Unit) × (Unit) -> Heap -> Prop) =>
ifB (decide (a0 ≥ a2)) (
j1 ((decide (a0 ≤ a3), ()), (())) H) (
j1 ((false, ()), (())) H)) fun (y2 : (Bool × Unit) × (Unit)) H1 =>
Q (y2.1.1, ()) H1)
def h_effect_within_api_Suit : Hnt := (.seq .leaf (.seq .leaf (.seq (.reg ⟨[(8, T_bool)], [], [13, 14, 15, 16, 17, 18, 19, 20]⟩) .leaf)))
theorem e_effect_within_api_Suit (a0 : Int) (a1 : Bool) (a2 : Int) (a3 : Int) (H : Heap) (Q : Bool × Unit -> Heap -> Prop) : S_effect_within_api_Suit a0 a1 a2 a3 H Q = cFn C [] Tryz.f167.ntmps Tryz.f167.results.toList [T_bool] (bodyOf Tryz.f167) h_effect_within_api_Suit [(.int .u8 a0), (.bool a1), (.int .u8 a2), (.int .u8 a3)] H Q := by kernel_rfl
theorem c_effect_within_api_Suit {a0 : Int} {a1 : Bool} {a2 : Int} {a3 : Int} {H : Heap} {Q : Bool × Unit -> Heap -> Prop} (h : S_effect_within_api_Suit a0 a1 a2 a3 H Q) : CALL P [T_bool] n_effect_within_api_Suit [(.int .u8 a0), (.bool a1), (.int .u8 a2), (.int .u8 a3)] H Q := call_print hE Tryz.func167 rfl (by kernel_rfl) (e_effect_within_api_Suit a0 a1 a2 a3 H Q) h
def S_effect_within_api_Trait (a0 : Int) (a1 : Bool) (a2 : Int) (a3 : Int) (H : Heap) (Q : Bool × Unit -> Heap -> Prop) : Prop :=
ifB (!a1) (
Q (a0 == 0, ()) H) (
JOIN (fun (j1 : (Bool × Unit) × (Unit) -> Heap -> Prop) =>
ifB (decide (a0 ≥ a2)) (
j1 ((decide (a0 ≤ a3), ()), (())) H) (
j1 ((false, ()), (())) H)) fun (y2 : (Bool × Unit) × (Unit)) H1 =>
Q (y2.1.1, ()) H1)
def h_effect_within_api_Trait : Hnt := (.seq .leaf (.seq .leaf (.seq (.reg ⟨[(8, T_bool)], [], [13, 14, 15, 16, 17, 18, 19, 20]⟩) .leaf)))
theorem e_effect_within_api_Trait (a0 : Int) (a1 : Bool) (a2 : Int) (a3 : Int) (H : Heap) (Q : Bool × Unit -> Heap -> Prop) : S_effect_within_api_Trait a0 a1 a2 a3 H Q = cFn C [] Tryz.f168.ntmps Tryz.f168.results.toList [T_bool] (bodyOf Tryz.f168) h_effect_within_api_Trait [(.int .u8 a0), (.bool a1), (.int .u8 a2), (.int .u8 a3)] H Q := by kernel_rfl
theorem c_effect_within_api_Trait {a0 : Int} {a1 : Bool} {a2 : Int} {a3 : Int} {H : Heap} {Q : Bool × Unit -> Heap -> Prop} (h : S_effect_within_api_Trait a0 a1 a2 a3 H Q) : CALL P [T_bool] n_effect_within_api_Trait [(.int .u8 a0), (.bool a1), (.int .u8 a2), (.int .u8 a3)] H Q := call_print hE Tryz.func168 rfl (by kernel_rfl) (e_effect_within_api_Trait a0 a1 a2 a3 H Q) h
def S_effect_within_api_Mark (a0 : Int) (a1 : Bool) (a2 : Int) (a3 : Int) (H : Heap) (Q : Bool × Unit -> Heap -> Prop) : Prop :=
ifB (!a1) (
Q (a0 == 0, ()) H) (
JOIN (fun (j1 : (Bool × Unit) × (Unit) -> Heap -> Prop) =>
ifB (decide (a0 ≥ a2)) (
j1 ((decide (a0 ≤ a3), ()), (())) H) (
j1 ((false, ()), (())) H)) fun (y2 : (Bool × Unit) × (Unit)) H1 =>
Q (y2.1.1, ()) H1)
def h_effect_within_api_Mark : Hnt := (.seq .leaf (.seq .leaf (.seq (.reg ⟨[(8, T_bool)], [], [13, 14, 15, 16, 17, 18, 19, 20]⟩) .leaf)))
theorem e_effect_within_api_Mark (a0 : Int) (a1 : Bool) (a2 : Int) (a3 : Int) (H : Heap) (Q : Bool × Unit -> Heap -> Prop) : S_effect_within_api_Mark a0 a1 a2 a3 H Q = cFn C [] Tryz.f169.ntmps Tryz.f169.results.toList [T_bool] (bodyOf Tryz.f169) h_effect_within_api_Mark [(.int .u8 a0), (.bool a1), (.int .u8 a2), (.int .u8 a3)] H Q := by kernel_rfl
theorem c_effect_within_api_Mark {a0 : Int} {a1 : Bool} {a2 : Int} {a3 : Int} {H : Heap} {Q : Bool × Unit -> Heap -> Prop} (h : S_effect_within_api_Mark a0 a1 a2 a3 H Q) : CALL P [T_bool] n_effect_within_api_Mark [(.int .u8 a0), (.bool a1), (.int .u8 a2), (.int .u8 a3)] H Q := call_print hE Tryz.func169 rfl (by kernel_rfl) (e_effect_within_api_Mark a0 a1 a2 a3 H Q) h
def S_effect_name (a0 : ByteArray) (H : Heap) (Q : Bool × Unit -> Heap -> Prop) : Prop :=
JOIN (fun (j1 : (Bool × Unit) × (Unit) -> Heap -> Prop) =>
GENV (T_int .i64) (aLen E 9 (.string a0) H) fun (x3 : Int) =>
ifB (decide (x3 ≥ 1)) (
GENV (T_int .i64) (aLen E 9 (.string a0) H) fun (x4 : Int) =>
ifB (decide (x4 ≤ 20)) (
GENV (T_int .u8) (aIndex E 9 (.string a0) (.int .i64 0)) fun (x5 : Int) =>
ifB (x5 != 45) (
CALL P [T_str] n_strings_Trim [(.string a0), (.string (ByteArray.mk #[97, 98, 99, 100, 101, 102, 103, 104, 105, 106, 107, 108, 109, 110, 111, 112, 113, 114, 115, 116, 117, 118, 119, 120, 121, 122, 45]))] H fun (x6 : ByteArray × Unit) H2 =>
j1 ((x6.1.toList == (ByteArray.mk #[]).toList, ()), (())) H2) (
j1 ((false, ()), (())) H)) (
j1 ((false, ()), (())) H)) (
j1 ((false, ()), (())) H)) fun (y2 : (Bool × Unit) × (Unit)) H1 =>
Q (y2.1.1, ()) H1
def h_effect_name : Hnt := (.seq .leaf (.seq (.reg ⟨[(2, T_bool)], [], [3, 4, 5, 6, 7, 8, 9, 10, 11, 12, 13, 14, 15, 16, 17, 18, 19, 20]⟩) .leaf))
theorem e_effect_name (a0 : ByteArray) (H : Heap) (Q : Bool × Unit -> Heap -> Prop) : S_effect_name a0 H Q = cFn C [] Tryz.f170.ntmps Tryz.f170.results.toList [T_bool] (bodyOf Tryz.f170) h_effect_name [(.string a0)] H Q := by kernel_rfl
theorem c_effect_name {a0 : ByteArray} {H : Heap} {Q : Bool × Unit -> Heap -> Prop} (h : S_effect_name a0 H Q) : CALL P [T_bool] n_effect_name [(.string a0)] H Q := call_print hE Tryz.func170 rfl (by kernel_rfl) (e_effect_name a0 H Q) h
def S_ref05_Uses (a0 : Int) (a1 : Int) (H : Heap) (Q : Bool × Bool × Bool × Bool × Bool × Unit -> Heap -> Prop) : Prop :=
CALL P [(T_int .i64), (T_int .i64)] n_ref05_counts [(.int .u8 a0)] H fun (x1 : Int × Int × Unit) H1 =>
JOIN (fun (j2 : (Bool × Bool × Bool × Bool × Bool × Unit) × (Unit) -> Heap -> Prop) =>
ifB (a0 == 11) (
ifB (a0 == 12) (
j2 ((decide (x1.2.1 > 0), true, true, a0 == 9, a0 == 7, ()), (())) H1) (
ifB (a0 == 13) (
j2 ((decide (x1.2.1 > 0), true, true, a0 == 9, a0 == 7, ()), (())) H1) (
j2 ((decide (x1.2.1 > 0), true, a1 == 10, a0 == 9, a0 == 7, ()), (())) H1))) (
ifB (a0 == 12) (
j2 ((decide (x1.2.1 > 0), a1 == 9, true, a0 == 9, a0 == 7, ()), (())) H1) (
ifB (a0 == 13) (
j2 ((decide (x1.2.1 > 0), a1 == 9, true, a0 == 9, a0 == 7, ()), (())) H1) (
j2 ((decide (x1.2.1 > 0), a1 == 9, a1 == 10, a0 == 9, a0 == 7, ()), (())) H1)))) fun (y3 : (Bool × Bool × Bool × Bool × Bool × Unit) × (Unit)) H2 =>
Q (y3.1.1, y3.1.2.1, y3.1.2.2.1, y3.1.2.2.2.1, y3.1.2.2.2.2.1, ()) H2
def h_ref05_Uses : Hnt := (.seq .leaf (.seq .leaf (.seq (.reg ⟨[(4, T_bool), (5, T_bool), (6, T_bool), (7, T_bool), (8, T_bool)], [], [16, 17, 18, 19, 20, 21, 22, 23, 24, 25, 26, 27, 28, 29, 30, 31, 32, 33, 34, 35, 36, 37]⟩) .leaf)))
theorem e_ref05_Uses (a0 : Int) (a1 : Int) (H : Heap) (Q : Bool × Bool × Bool × Bool × Bool × Unit -> Heap -> Prop) : S_ref05_Uses a0 a1 H Q = cFn C [] Tryz.f171.ntmps Tryz.f171.results.toList [T_bool, T_bool, T_bool, T_bool, T_bool] (bodyOf Tryz.f171) h_ref05_Uses [(.int .u8 a0), (.int .u8 a1)] H Q := by kernel_rfl
theorem c_ref05_Uses {a0 : Int} {a1 : Int} {H : Heap} {Q : Bool × Bool × Bool × Bool × Bool × Unit -> Heap -> Prop} (h : S_ref05_Uses a0 a1 H Q) : CALL P [T_bool, T_bool, T_bool, T_bool, T_bool] n_ref05_Uses [(.int .u8 a0), (.int .u8 a1)] H Q := call_print hE Tryz.func171 rfl (by kernel_rfl) (e_ref05_Uses a0 a1 H Q) h
def S_ref05_kind (a0 : Int) (H : Heap) (Q : Int × Unit -> Heap -> Prop) : Prop :=
JOIN (fun (j1 : (Bool × Unit) × (Unit) -> Heap -> Prop) =>
ifB (decide (a0 ≥ 1)) (
j1 ((decide (a0 ≤ 9), ()), (())) H) (
j1 ((false, ()), (())) H)) fun (y2 : (Bool × Unit) × (Unit)) H1 =>
ifB y2.1.1 (
Q (1, ()) H1) (
JOIN (fun (j3 : (Bool × Unit) × (Unit) -> Heap -> Prop) =>
ifB (decide (a0 ≥ 10)) (
j3 ((decide (a0 ≤ 15), ()), (())) H1) (
j3 ((false, ()), (())) H1)) fun (y4 : (Bool × Unit) × (Unit)) H2 =>
ifB y4.1.1 (
Q (2, ()) H2) (
JOIN (fun (j5 : (Bool × Unit) × (Unit) -> Heap -> Prop) =>
ifB (decide (a0 ≥ 16)) (
j5 ((decide (a0 ≤ 19), ()), (())) H2) (
j5 ((false, ()), (())) H2)) fun (y6 : (Bool × Unit) × (Unit)) H3 =>
ifB y6.1.1 (
Q (3, ()) H3) (
Q (0, ()) H3)))
def h_ref05_kind : Hnt := (.seq .leaf (.seq (.blk none (.seq (.reg ⟨[(3, T_bool)], [], [4, 5, 6, 7, 8, 9]⟩) (.cond none .leaf (.seq (.reg ⟨[(10, T_bool)], [], [11, 12, 13, 14, 15, 16]⟩) (.cond none .leaf (.seq (.reg ⟨[(17, T_bool)], [], [18, 19, 20, 21, 22, 23]⟩) .leaf)))))) .leaf))
theorem e_ref05_kind (a0 : Int) (H : Heap) (Q : Int × Unit -> Heap -> Prop) : S_ref05_kind a0 H Q = cFn C [] Tryz.f172.ntmps Tryz.f172.results.toList [(T_int .i64)] (bodyOf Tryz.f172) h_ref05_kind [(.int .u8 a0)] H Q := by kernel_rfl
theorem c_ref05_kind {a0 : Int} {H : Heap} {Q : Int × Unit -> Heap -> Prop} (h : S_ref05_kind a0 H Q) : CALL P [(T_int .i64)] n_ref05_kind [(.int .u8 a0)] H Q := call_print hE Tryz.func172 rfl (by kernel_rfl) (e_ref05_kind a0 H Q) h
def S_ref05_wants (a0 : Int) (H : Heap) (Q : Int × Unit -> Heap -> Prop) : Prop :=
JOIN (fun (j1 : (Bool × Unit) × (Unit) -> Heap -> Prop) =>
ifB (decide (a0 ≥ 1)) (
j1 ((decide (a0 ≤ 4), ()), (())) H) (
j1 ((false, ()), (())) H)) fun (y2 : (Bool × Unit) × (Unit)) H1 =>
ifB y2.1.1 (
Q (1, ()) H1) (
ifB (a0 == 5) (
Q (2, ()) H1) (
ifB (a0 == 6) (
Q (3, ()) H1) (
Q (0, ()) H1)))
def h_ref05_wants : Hnt := (.seq .leaf (.seq (.blk none (.seq (.reg ⟨[(3, T_bool)], [], [4, 5, 6, 7, 8, 9]⟩) .leaf)) .leaf))
theorem e_ref05_wants (a0 : Int) (H : Heap) (Q : Int × Unit -> Heap -> Prop) : S_ref05_wants a0 H Q = cFn C [] Tryz.f173.ntmps Tryz.f173.results.toList [(T_int .i64)] (bodyOf Tryz.f173) h_ref05_wants [(.int .u8 a0)] H Q := by kernel_rfl
theorem c_ref05_wants {a0 : Int} {H : Heap} {Q : Int × Unit -> Heap -> Prop} (h : S_ref05_wants a0 H Q) : CALL P [(T_int .i64)] n_ref05_wants [(.int .u8 a0)] H Q := call_print hE Tryz.func173 rfl (by kernel_rfl) (e_ref05_wants a0 H Q) h
def S_ref05_about (a0 : G_api_Part) (H : Heap) (Q : Bool × Unit -> Heap -> Prop) : Prop :=
JOIN (fun (j1 : (Bool × Unit) × (Unit) -> Heap -> Prop) =>
ifB (a0.Whom == 1) (
j1 ((true, ()), (())) H) (
j1 ((a0.Whom == 2, ()), (())) H)) fun (y2 : (Bool × Unit) × (Unit)) H1 =>
CALL P [(T_int .i64)] n_ref05_kind [(.int .u8 a0.Verb)] H1 fun (x3 : Int × Unit) H2 =>
ifB (x3.1 == 1) (
JOIN (fun (j4 : (Bool × Unit) × (Unit) -> Heap -> Prop) =>
ifB y2.1.1 (
ifB (a0.Verb == 6) (
j4 ((true, ()), (())) H2) (
ifB (a0.Verb == 8) (
j4 ((true, ()), (())) H2) (
j4 ((a0.Verb == 9, ()), (())) H2))) (
j4 ((false, ()), (())) H2)) fun (y5 : (Bool × Unit) × (Unit)) H3 =>
ifB y5.1.1 (
Q (false, ()) H3) (
JOIN (fun (j6 : (Bool × Unit) × (Unit) -> Heap -> Prop) =>
ifB (a0.Whom != 3) (
j6 ((true, ()), (())) H3) (
j6 ((a0.When == 1, ()), (())) H3)) fun (y7 : (Bool × Unit) × (Unit)) H4 =>
Q (y7.1.1, ()) H4)) (
ifB (x3.1 == 2) (
JOIN (fun (j8 : (Bool × Unit) × (Unit) -> Heap -> Prop) =>
ifB (!y2.1.1) (
j8 ((a0.Whom != 3, ()), (())) H2) (
j8 ((false, ()), (())) H2)) fun (y9 : (Bool × Unit) × (Unit)) H5 =>
Q (y9.1.1, ()) H5) (
Q (a0.Whom != 3, ()) H2))
def h_ref05_about : Hnt := (.seq .leaf (.seq (.reg ⟨[(3, T_bool)], [], [4, 5, 6, 7, 8, 9, 10, 11]⟩) (.seq (.seq .leaf (.blk none (.seq .leaf (.cond none (.seq (.seq (.reg ⟨[(32, T_bool)], [], [17, 18, 19, 20, 21, 22, 23, 24, 25, 26, 27, 28, 29, 30, 31]⟩) .leaf) (.seq (.reg ⟨[(2, T_bool)], [], [33, 34, 35, 36, 37, 38, 39, 40]⟩) .leaf)) (.seq .leaf (.cond none (.seq (.reg ⟨[(2, T_bool)], [], [43, 44, 45, 46, 47, 48, 49]⟩) .leaf) .leaf)))))) .leaf)))
theorem e_ref05_about (a0 : G_api_Part) (H : Heap) (Q : Bool × Unit -> Heap -> Prop) : S_ref05_about a0 H Q = cFn C [1] Tryz.f174.ntmps Tryz.f174.results.toList [T_bool] (bodyOf Tryz.f174) h_ref05_about [(T_G_api_Part.enc a0)] H Q := by kernel_rfl
theorem c_ref05_about {a0 : G_api_Part} {H : Heap} {Q : Bool × Unit -> Heap -> Prop} (h : S_ref05_about a0 H Q) : CALL P [T_bool] n_ref05_about [(T_G_api_Part.enc a0)] H Q := call_print hE Tryz.func174 rfl (by kernel_rfl) (e_ref05_about a0 H Q) h
def S_ref05_counted (a0 : G_api_Part) (H : Heap) (Q : Bool × Unit -> Heap -> Prop) : Prop :=
CALL P [(T_int .i64), (T_int .i64)] n_ref05_counts [(.int .u8 a0.Verb)] H fun (x1 : Int × Int × Unit) H1 =>
JOIN (fun (j2 : (Bool × Unit) × (Unit) -> Heap -> Prop) =>
ifB (decide (a0.Count ≥ x1.1)) (
ifB (decide (a0.Count ≤ x1.2.1)) (
ifB (decide (x1.1 ≥ 0)) (
j2 ((true, ()), (())) H1) (
j2 ((a0.Count != 0, ()), (())) H1)) (
j2 ((false, ()), (())) H1)) (
j2 ((false, ()), (())) H1)) fun (y3 : (Bool × Unit) × (Unit)) H2 =>
Q (y3.1.1, ()) H2
def h_ref05_counted : Hnt := (.seq .leaf (.seq .leaf (.seq (.reg ⟨[(2, T_bool)], [], [11, 12, 13, 14, 15, 16, 17, 18, 19, 20, 21, 22, 23, 24, 25, 26, 27, 28, 29]⟩) .leaf)))
theorem e_ref05_counted (a0 : G_api_Part) (H : Heap) (Q : Bool × Unit -> Heap -> Prop) : S_ref05_counted a0 H Q = cFn C [1] Tryz.f175.ntmps Tryz.f175.results.toList [T_bool] (bodyOf Tryz.f175) h_ref05_counted [(T_G_api_Part.enc a0)] H Q := by kernel_rfl
theorem c_ref05_counted {a0 : G_api_Part} {H : Heap} {Q : Bool × Unit -> Heap -> Prop} (h : S_ref05_counted a0 H Q) : CALL P [T_bool] n_ref05_counted [(T_G_api_Part.enc a0)] H Q := call_print hE Tryz.func175 rfl (by kernel_rfl) (e_ref05_counted a0 H Q) h
def S_ref05_within (a0 : Bool) (a1 : Int) (a2 : Int) (H : Heap) (Q : Bool × Unit -> Heap -> Prop) : Prop :=
ifB (!a0) (
Q (a1 == 0, ()) H) (
JOIN (fun (j1 : (Bool × Unit) × (Unit) -> Heap -> Prop) =>
ifB (decide (a1 ≥ 1)) (
j1 ((decide (a1 ≤ a2), ()), (())) H) (
j1 ((false, ()), (())) H)) fun (y2 : (Bool × Unit) × (Unit)) H1 =>
Q (y2.1.1, ()) H1)
def h_ref05_within : Hnt := (.seq .leaf (.seq .leaf (.seq (.reg ⟨[(6, T_bool)], [], [11, 12, 13, 14, 15, 16, 17]⟩) .leaf)))
theorem e_ref05_within (a0 : Bool) (a1 : Int) (a2 : Int) (H : Heap) (Q : Bool × Unit -> Heap -> Prop) : S_ref05_within a0 a1 a2 H Q = cFn C [] Tryz.f176.ntmps Tryz.f176.results.toList [T_bool] (bodyOf Tryz.f176) h_ref05_within [(.bool a0), (.int .i64 a1), (.int .i64 a2)] H Q := by kernel_rfl
theorem c_ref05_within {a0 : Bool} {a1 : Int} {a2 : Int} {H : Heap} {Q : Bool × Unit -> Heap -> Prop} (h : S_ref05_within a0 a1 a2 H Q) : CALL P [T_bool] n_ref05_within [(.bool a0), (.int .i64 a1), (.int .i64 a2)] H Q := call_print hE Tryz.func176 rfl (by kernel_rfl) (e_ref05_within a0 a1 a2 H Q) h
def S_ref05_Name (a0 : ByteArray) (H : Heap) (Q : Bool × Unit -> Heap -> Prop) : Prop :=
JOIN (fun (j1 : (Bool × Unit) × (Unit) -> Heap -> Prop) =>
GENV (T_int .i64) (aLen E 9 (.string a0) H) fun (x3 : Int) =>
ifB (decide (x3 < 1)) (
j1 ((true, ()), (())) H) (
GENV (T_int .i64) (aLen E 9 (.string a0) H) fun (x4 : Int) =>
ifB (decide (x4 > 20)) (
j1 ((true, ()), (())) H) (
GENV (T_int .u8) (aIndex E 9 (.string a0) (.int .i64 0)) fun (x5 : Int) =>
j1 ((x5 == 45, ()), (())) H))) fun (y2 : (Bool × Unit) × (Unit)) H1 =>
ifB y2.1.1 (
Q (false, ()) H1) (
JOIN (fun (j6 : (Unit) × (Unit) -> Heap -> Prop) =>
LOOP (fun (r8 : (Int × Unit) × (Unit) -> Heap -> Prop) (s9 : (Int × Unit) × (Unit)) H3 =>
GENV (T_int .i64) (aLen E 9 (.string a0) H3) fun (x10 : Int) =>
ifB (decide (s9.1.1 < x10)) (
JOIN (fun (j11 : (Bool × Unit) × (Unit) -> Heap -> Prop) =>
GENV (T_int .u8) (aIndex E 9 (.string a0) (.int .i64 s9.1.1)) fun (x13 : Int) =>
ifB (decide (x13 < 97)) (
GENV (T_int .u8) (aIndex E 9 (.string a0) (.int .i64 s9.1.1)) fun (x14 : Int) =>
j11 ((x14 != 45, ()), (())) H3) (
GENV (T_int .u8) (aIndex E 9 (.string a0) (.int .i64 s9.1.1)) fun (x15 : Int) =>
ifB (decide (x15 > 122)) (
GENV (T_int .u8) (aIndex E 9 (.string a0) (.int .i64 s9.1.1)) fun (x16 : Int) =>
j11 ((x16 != 45, ()), (())) H3) (
j11 ((false, ()), (())) H3))) fun (y12 : (Bool × Unit) × (Unit)) H4 =>
ifB y12.1.1 (
Q (false, ()) H4) (
r8 ((IntKind.wrap .i64 (s9.1.1 + 1), ()), (())) H4)) (
j6 ((()), (())) H3)) ((0, ()), (())) H1) fun (y7 : (Unit) × (Unit)) H2 =>
Q (true, ()) H2)
def h_ref05_Name : Hnt := (.seq .leaf (.seq (.seq (.reg ⟨[(16, T_bool)], [], [4, 5, 6, 7, 8, 9, 10, 11, 12, 13, 14, 15]⟩) .leaf) (.seq (.seq .leaf (.blk (some ⟨[], [], [2, 3, 17, 18, 19, 20, 21, 22, 23, 24, 25, 26, 27, 28, 29, 30, 31, 32, 33, 34, 35, 36, 37, 38]⟩) (.loop ⟨[(3, (T_int .i64))], [], [2, 17, 18, 19, 20, 21, 22, 23, 24, 25, 26, 27, 28, 29, 30, 31, 32, 33, 34, 35, 36, 37, 38]⟩ (.seq .leaf (.seq (.blk none (.seq (.reg ⟨[(38, T_bool)], [], [23, 24, 25, 26, 27, 28, 29, 30, 31, 32, 33, 34, 35, 36, 37]⟩) .leaf)) .leaf))))) .leaf)))
theorem e_ref05_Name (a0 : ByteArray) (H : Heap) (Q : Bool × Unit -> Heap -> Prop) : S_ref05_Name a0 H Q = cFn C [] Tryz.f177.ntmps Tryz.f177.results.toList [T_bool] (bodyOf Tryz.f177) h_ref05_Name [(.string a0)] H Q := by kernel_rfl
theorem c_ref05_Name {a0 : ByteArray} {H : Heap} {Q : Bool × Unit -> Heap -> Prop} (h : S_ref05_Name a0 H Q) : CALL P [T_bool] n_ref05_Name [(.string a0)] H Q := call_print hE Tryz.func177 rfl (by kernel_rfl) (e_ref05_Name a0 H Q) h
def S_effect_standing (a0 : Int) (H : Heap) (Q : Bool × Unit -> Heap -> Prop) : Prop :=
JOIN (fun (j1 : (Bool × Unit) × (Unit) -> Heap -> Prop) =>
ifB (decide (a0 ≥ 10)) (
j1 ((decide (a0 ≤ 15), ()), (())) H) (
j1 ((false, ()), (())) H)) fun (y2 : (Bool × Unit) × (Unit)) H1 =>
Q (y2.1.1, ()) H1
def h_effect_standing : Hnt := (.seq .leaf (.seq (.reg ⟨[(2, T_bool)], [], [3, 4, 5, 6, 7, 8]⟩) .leaf))
theorem e_effect_standing (a0 : Int) (H : Heap) (Q : Bool × Unit -> Heap -> Prop) : S_effect_standing a0 H Q = cFn C [] Tryz.f192.ntmps Tryz.f192.results.toList [T_bool] (bodyOf Tryz.f192) h_effect_standing [(.int .u8 a0)] H Q := by kernel_rfl
theorem c_effect_standing {a0 : Int} {H : Heap} {Q : Bool × Unit -> Heap -> Prop} (h : S_effect_standing a0 H Q) : CALL P [T_bool] n_effect_standing [(.int .u8 a0)] H Q := call_print hE Tryz.func192 rfl (by kernel_rfl) (e_effect_standing a0 H Q) h
def S_effect_swapping (a0 : Int) (H : Heap) (Q : Bool × Unit -> Heap -> Prop) : Prop :=
JOIN (fun (j1 : (Bool × Unit) × (Unit) -> Heap -> Prop) =>
ifB (decide (a0 ≥ 16)) (
j1 ((decide (a0 ≤ 19), ()), (())) H) (
j1 ((false, ()), (())) H)) fun (y2 : (Bool × Unit) × (Unit)) H1 =>
Q (y2.1.1, ()) H1
def h_effect_swapping : Hnt := (.seq .leaf (.seq (.reg ⟨[(2, T_bool)], [], [3, 4, 5, 6, 7, 8]⟩) .leaf))
theorem e_effect_swapping (a0 : Int) (H : Heap) (Q : Bool × Unit -> Heap -> Prop) : S_effect_swapping a0 H Q = cFn C [] Tryz.f193.ntmps Tryz.f193.results.toList [T_bool] (bodyOf Tryz.f193) h_effect_swapping [(.int .u8 a0)] H Q := by kernel_rfl
theorem c_effect_swapping {a0 : Int} {H : Heap} {Q : Bool × Unit -> Heap -> Prop} (h : S_effect_swapping a0 H Q) : CALL P [T_bool] n_effect_swapping [(.int .u8 a0)] H Q := call_print hE Tryz.func193 rfl (by kernel_rfl) (e_effect_swapping a0 H Q) h
def S_effect_event (a0 : Int) (H : Heap) (Q : Bool × Unit -> Heap -> Prop) : Prop :=
JOIN (fun (j1 : (Bool × Unit) × (Unit) -> Heap -> Prop) =>
ifB (decide (a0 ≥ 1)) (
j1 ((decide (a0 ≤ 9), ()), (())) H) (
j1 ((false, ()), (())) H)) fun (y2 : (Bool × Unit) × (Unit)) H1 =>
Q (y2.1.1, ()) H1
def h_effect_event : Hnt := (.seq .leaf (.seq (.reg ⟨[(2, T_bool)], [], [3, 4, 5, 6, 7, 8]⟩) .leaf))
theorem e_effect_event (a0 : Int) (H : Heap) (Q : Bool × Unit -> Heap -> Prop) : S_effect_event a0 H Q = cFn C [] Tryz.f194.ntmps Tryz.f194.results.toList [T_bool] (bodyOf Tryz.f194) h_effect_event [(.int .u8 a0)] H Q := by kernel_rfl
theorem c_effect_event {a0 : Int} {H : Heap} {Q : Bool × Unit -> Heap -> Prop} (h : S_effect_event a0 H Q) : CALL P [T_bool] n_effect_event [(.int .u8 a0)] H Q := call_print hE Tryz.func194 rfl (by kernel_rfl) (e_effect_event a0 H Q) h
def S_ref05_counts (a0 : Int) (H : Heap) (Q : Int × Int × Unit -> Heap -> Prop) : Prop :=
JOIN (fun (j1 : (Bool × Unit) × (Unit) -> Heap -> Prop) =>
ifB (a0 == 1) (
j1 ((a0 == 1, ()), (())) H) (
JOIN (fun (j3 : (Bool × Unit) × (Unit) -> Heap -> Prop) =>
ifB (a0 == 2) (
j3 ((a0 == 2, ()), (())) H) (
JOIN (fun (j5 : (Bool × Unit) × (Unit) -> Heap -> Prop) =>
ifB (a0 == 3) (
j5 ((a0 == 3, ()), (())) H) (
JOIN (fun (j7 : (Bool × Unit) × (Unit) -> Heap -> Prop) =>
ifB (a0 == 4) (
j7 ((a0 == 4, ()), (())) H) (
JOIN (fun (j9 : (Bool × Unit) × (Unit) -> Heap -> Prop) =>
ifB (a0 == 7) (
j9 ((a0 == 7, ()), (())) H) (
JOIN (fun (j11 : (Bool × Unit) × (Unit) -> Heap -> Prop) =>
ifB (a0 == 16) (
j11 ((a0 == 16, ()), (())) H) (
j11 ((a0 == 19, ()), (())) H)) fun (y12 : (Bool × Unit) × (Unit)) H6 =>
j9 ((y12.1.1, ()), (())) H6)) fun (y10 : (Bool × Unit) × (Unit)) H5 =>
j7 ((y10.1.1, ()), (())) H5)) fun (y8 : (Bool × Unit) × (Unit)) H4 =>
j5 ((y8.1.1, ()), (())) H4)) fun (y6 : (Bool × Unit) × (Unit)) H3 =>
j3 ((y6.1.1, ()), (())) H3)) fun (y4 : (Bool × Unit) × (Unit)) H2 =>
j1 ((y4.1.1, ()), (())) H2)) fun (y2 : (Bool × Unit) × (Unit)) H1 =>
ifB y2.1.1 (
Q (1, 99, ()) H1) (
JOIN (fun (j13 : (Bool × Unit) × (Unit) -> Heap -> Prop) =>
ifB (a0 == 9) (
j13 ((a0 == 9, ()), (())) H1) (
j13 ((a0 == 15, ()), (())) H1)) fun (y14 : (Bool × Unit) × (Unit)) H7 =>
ifB y14.1.1 (
Q ((-99), 99, ()) H7) (
ifB (a0 == 5) (
Q ((-9), 9, ()) H7) (
ifB (a0 == 14) (
Q (0, 99, ()) H7) (
Q (0, 0, ()) H7))))
def h_ref05_counts : Hnt := (.seq .leaf (.seq (.seq .leaf (.blk none (.seq (.seq .leaf (.cond (some ⟨[(5, T_bool)], [], [7, 8, 9, 10, 11, 12]⟩) .leaf (.seq .leaf (.cond (some ⟨[(5, T_bool)], [], [8, 9, 10, 11, 12]⟩) .leaf (.seq .leaf (.cond (some ⟨[(5, T_bool)], [], [9, 10, 11, 12]⟩) .leaf (.seq .leaf (.cond (some ⟨[(5, T_bool)], [], [10, 11, 12]⟩) .leaf (.seq .leaf (.cond (some ⟨[(5, T_bool)], [], [11, 12]⟩) .leaf (.seq .leaf (.cond (some ⟨[(5, T_bool)], [], [12]⟩) .leaf .leaf)))))))))))) (.cond none .leaf (.seq (.seq .leaf (.cond (some ⟨[(13, T_bool)], [], [15]⟩) .leaf .leaf)) .leaf))))) .leaf))
theorem e_ref05_counts (a0 : Int) (H : Heap) (Q : Int × Int × Unit -> Heap -> Prop) : S_ref05_counts a0 H Q = cFn C [] Tryz.f195.ntmps Tryz.f195.results.toList [(T_int .i64), (T_int .i64)] (bodyOf Tryz.f195) h_ref05_counts [(.int .u8 a0)] H Q := by kernel_rfl
theorem c_ref05_counts {a0 : Int} {H : Heap} {Q : Int × Int × Unit -> Heap -> Prop} (h : S_ref05_counts a0 H Q) : CALL P [(T_int .i64), (T_int .i64)] n_ref05_counts [(.int .u8 a0)] H Q := call_print hE Tryz.func195 rfl (by kernel_rfl) (e_ref05_counts a0 H Q) h
end Zv
end Go.Proofs.YtolekmhhkopooaaGreatDoor
end
section
namespace Go.Proofs.YtolekmhhkopooaaGreatDoor.Zq
open Go.Proofs Go.RowKit
theorem Stp.ofBelow {M : Mp} {H : Heap} {w W : World} (h : HR M H w) (b : Below w.heap.size w W) (hd : w.drawn ≤ W.drawn) : Stp M H w M H W := by
 have hh : ∀ j, j < w.heap.size -> W.heap[j]? = w.heap[j]? := b.block
 refine ⟨.refl M, ⟨h.len, fun b e k hb hk => (h.blk b e k hb hk).same fun hlv => hh _ (h.blk_lt hb ?_), h.sep⟩, b.os, b.output, b.tape, b.size, hd, fun c hc _ => hh c hc, fun b e hb hw _ => ⟨b, e, hb, hw, rfl⟩, fun _ h => ⟨h, rfl⟩, fun b e hb hw _ => ⟨b, e, hb, hw, rfl⟩⟩
 unfold liveB; rw [hk]; cases k <;> first | exact hlv | trivial
section
open Zv
abbrev alph : ByteArray := ByteArray.mk #[97, 98, 99, 100, 101, 102, 103, 104, 105, 106, 107, 108, 109, 110, 111, 112, 113, 114, 115, 116, 117, 118, 119, 120, 121, 122, 45]
theorem trim_c {H : Heap} {s : ByteArray} (h0 : 0 < s.size) (hs : s.size ≤ 9223372036854775807) {Q : ByteArray × Unit -> Heap -> Prop} (hq : Q (⟨(Lib.trimS s.data.toList alph.data.toList).toArray⟩, ()) H) : CALL P [T_str] n_strings_Trim [.string s, .string alph] H Q := by
 have hfn : ∃ fn, P.funcs[n_strings_Trim]? = some fn ∧ fn.body.isSome = true ∧ (fn.name == "runtime.NumGoroutine") = false := ⟨_, lays160.f160, by kernel_rfl, by kernel_rfl⟩
 refine ⟨hfn, fun n M w args' hr hv => ?_⟩
 obtain ⟨v1, vs1, rfl, h1, hv1⟩ := hv.of_cons
 obtain ⟨v2, vs2, rfl, h2, hv2⟩ := hv1.of_cons
 have := hv2.of_nil; subst this
 have := h1.of_string; subst this
 have := h2.of_string; subst this
 have h116 : (P.info? (lays160_ren.t 116)).map (fun i => (i.zero, i.size)) = some (some (.agg (Array.replicate 256 (.bool false))), 256) := by kernel_rfl
 refine callsIn_wide.2 ((Any.strings_Trim_set lays160 (zero_of_info h116).1 (zero_of_info h116).2 s alph w (by decide) h0 hs (by decide) (ascii_of_all (by decide))).mono ?_)
 rintro en w' ⟨rfl, q, rfl⟩
 exact ⟨.string _, _, M, H, rfl, Stp.ofBelow hr (by have b := ((Below.refl w.heap.size w).alloc (Nat.le_refl _) (.cells (Lib.setCells alph.data.toList) (lays160_ren.t 116))).alloc (by show w.heap.size ≤ (w.heap.push _).size; simp) (.cells (Lib.setCells alph.data.toList) (lays160_ren.t 116)); exact ⟨b.os, b.tape, b.output, b.size, b.block⟩) (by show w.drawn ≤ w.drawn + q; omega), .string _, _, rfl, hq⟩
theorem alph_c : ∀ b : UInt8, alph.data.toList.contains b = nmB b := fun b => by
 have h : ∀ n : Fin 256, alph.data.toList.contains (UInt8.ofFin n) = nmB (UInt8.ofFin n) := by decide +kernel
 exact h b.toFin
theorem dropWhile_nil {α : Type} {p : α -> Bool} : ∀ {l : List α}, l.dropWhile p = [] ↔ l.all p = true
 | [] => by simp
 | a :: l => by
  rw [List.dropWhile_cons, List.all_cons]
  split
  ·rename_i e; rw [e, dropWhile_nil]; simp
  ·rename_i e; simp [e]
theorem trimS_nil (l : List UInt8) : Lib.trimS l alph.data.toList = [] ↔ l.all nmB = true := by
 have e : (fun b => alph.data.toList.contains b) = nmB := funext alph_c
 unfold Lib.trimS Lib.trimLeftS Lib.trimRightS
 rw [e, dropWhile_nil]
 constructor
 ·intro h
  cases hd : l.reverse.dropWhile nmB with
  | nil =>
   rw [dropWhile_nil, List.all_reverse] at hd; exact hd
  | cons x r =>
   have hx := dropWhile_head hd
   rw [hd, List.all_eq_true] at h
   have := h x (by simp)
   rw [this] at hx; cases hx
 ·intro h
  have : l.reverse.dropWhile nmB = [] := by rw [dropWhile_nil, List.all_reverse]; exact h
  rw [this]; rfl
theorem size_len (s : ByteArray) : s.size = s.data.toList.length := by show s.data.size = _; rw [Array.length_toList]
theorem str_len {H : Heap} {s : ByteArray} {k : Int -> Prop} (hk : k (s.data.toList.length : Int)) : GENV (T_int .i64) (aLen E 9 (.string s) H) k := by
 rw [← size_len] at hk
 exact ⟨_, rfl, hk⟩
theorem str_at {s : ByteArray} {i : Int} {n : Nat} (hi : i = n) {b : UInt8} (h : s.data.toList[n]? = some b) {k : Int -> Prop} (hk : k (b.toNat : Int)) : GENV (T_int .u8) (aIndex E 9 (.string s) (.int .i64 i)) k := by
 refine ⟨(b.toNat : Int), ?_, hk⟩
 show aIndex E 9 (.string s) (.int .i64 i) = some (.int .u8 b.toNat)
 have hn := (List.getElem?_eq_some_iff.1 h).1
 have h1 : s[n]? = some b := by
  rw [ByteArray.getElem?_lt' s n (by rw [size_len]; exact hn)]
  rw [List.getElem?_eq_getElem hn] at h
  exact h
 obtain ⟨ti, hti, hk⟩ : ∃ ti, E.ty 9 = some ti ∧ ti.k = .string := ⟨_, rfl, rfl⟩
 subst hi
 unfold aIndex
 simp only [hti, hk, Option.bind_some]
 rw [if_pos (by omega), Int.toNat_natCast, h1]
end
end Go.Proofs.YtolekmhhkopooaaGreatDoor.Zq
end
section
namespace Go.Proofs.YtolekmhhkopooaaGreatDoor.Zq
open Zv
section
theorem ifD {c : Prop} [Decidable c] {a b : Prop} (h1 : c -> a) (h2 : ¬ c -> b) : ifB (decide c) a b := ifB_of (fun e => h1 (of_decide_eq_true e)) (fun e => h2 (of_decide_eq_false e))
theorem ifE {x y : Int} {a b : Prop} (h1 : x = y -> a) (h2 : x ≠ y -> b) : ifB (x == y) a b := ifB_of (fun e => h1 (by simpa using e)) (fun e => h2 (by simpa using e))
theorem ifN {x y : Int} {a b : Prop} (h1 : x ≠ y -> a) (h2 : x = y -> b) : ifB (x != y) a b := ifB_of (fun e => h1 (by simpa using e)) (fun e => h2 (by simpa using e))
theorem ifQ {c : Prop} [Decidable c] {a b : Prop} (h1 : ¬ c -> a) (h2 : c -> b) : ifB (!decide c) a b := ifB_of (fun e => h1 (by simpa using e)) (fun e => h2 (by simpa using e))
theorem JD {H : Heap} {A : ((Bool × Unit) × Unit -> Heap -> Prop) -> Prop} {B : (Bool × Unit) × Unit -> Heap -> Prop} (c : Prop) [Decidable c] (hA : ∀ j : (Bool × Unit) × Unit -> Heap -> Prop, (∀ r : Bool, (r = true ↔ c) -> j ((r, ()), ()) H) -> A j) (hB : B ((decide c, ()), ()) H) : JOIN A B :=
 hA _ fun r hr => by
  have : r = decide c := by rw [Bool.eq_iff_iff, hr]; simp
  rw [this]; exact hB
variable {H : Heap}
theorem Qd {R : Type} {Q : R -> Prop} {x y : R} (h : Q x) (e : x = y) : Q y := e ▸ h
theorem standing_c {v : Int} {Q : Bool × Unit -> Heap -> Prop} (hq : Q (decide (10 ≤ v ∧ v ≤ 15), ()) H) : CALL P [T_bool] n_effect_standing [.int .u8 v] H Q := by
 apply c_effect_standing
 unfold S_effect_standing
 exact JD (H := H) (10 ≤ v ∧ v ≤ 15) (fun j hj => ifD (fun h => hj _ (by simp; omega)) (fun h => hj _ (by simp; omega))) hq
theorem event_c {v : Int} {Q : Bool × Unit -> Heap -> Prop} (hq : Q (decide (1 ≤ v ∧ v ≤ 9), ()) H) : CALL P [T_bool] n_effect_event [.int .u8 v] H Q := by
 apply c_effect_event
 unfold S_effect_event
 exact JD (H := H) (1 ≤ v ∧ v ≤ 9) (fun j hj => ifD (fun h => hj _ (by simp; omega)) (fun h => hj _ (by simp; omega))) hq
theorem swapping_c {v : Int} {Q : Bool × Unit -> Heap -> Prop} (hq : Q (decide (16 ≤ v ∧ v ≤ 19), ()) H) : CALL P [T_bool] n_effect_swapping [.int .u8 v] H Q := by
 apply c_effect_swapping
 unfold S_effect_swapping
 exact JD (H := H) (16 ≤ v ∧ v ≤ 19) (fun j hj => ifD (fun h => hj _ (by simp; omega)) (fun h => hj _ (by simp; omega))) hq
theorem kindV_1 {v : Int} : kindV v = 1 ↔ 1 ≤ v ∧ v ≤ 9 := by
 unfold kindV
 repeat' split
 all_goals (simp; try omega)
theorem kindV_2 {v : Int} : kindV v = 2 ↔ 10 ≤ v ∧ v ≤ 15 := by
 unfold kindV
 repeat' split
 all_goals (simp; try omega)
theorem kindV_3 {v : Int} : kindV v = 3 ↔ 16 ≤ v ∧ v ≤ 19 := by
 unfold kindV
 repeat' split
 all_goals (simp; try omega)
theorem wanted_c {w v : Int} (hw : 1 ≤ w ∧ w ≤ 6) {Q : Bool × Unit -> Heap -> Prop} (hq : Q (decide (kindV v = wantW w), ()) H) : CALL P [T_bool] n_effect_wanted [.int .u8 w, .int .u8 v] H Q := by
 apply c_effect_wanted
 unfold S_effect_wanted
 refine ifE (fun h => standing_c (Qd (Q := fun r => Q r H) hq ?_)) (fun h => ifE (fun h2 => swapping_c (Qd (Q := fun r => Q r H) hq ?_)) (fun h2 => event_c (Qd (Q := fun r => Q r H) hq ?_)))
 ·have : wantW w = 2 := by unfold wantW; rw [if_neg (by omega), if_pos h]
  simp only [this, kindV_2]
 ·have : wantW w = 3 := by unfold wantW; rw [if_neg (by omega), if_neg h, if_pos h2]
  simp only [this, kindV_3]
 ·have : wantW w = 1 := by unfold wantW; rw [if_pos (by omega)]
  simp only [this, kindV_1]
theorem uses_c {v w : Int} {Q : Bool × Bool × Bool × Bool × Bool × Unit -> Heap -> Prop} (hq : Q (decide (cU v), decide (sU v w), decide (tU v w), decide (v = 9), decide (v = 7), ()) H) : CALL P [T_bool, T_bool, T_bool, T_bool, T_bool] n_effect_Uses [.int .u8 v, .int .u8 w] H Q := by
 apply c_effect_Uses
 unfold S_effect_Uses
 refine JD (H := H) (v = 1 ∨ v = 2 ∨ v = 3 ∨ v = 4 ∨ v = 5 ∨ v = 14 ∨ v = 15 ∨ v = 16 ∨ v = 19) (fun j hj => ?_) ?_
 ·refine ifE (fun h => hj _ (by simp; omega)) (fun h1 => JOIN_of (ifE (fun h => hj _ (by simp; omega)) (fun h2 => JOIN_of (ifE (fun h => hj _ (by simp; omega)) (fun h3 => JOIN_of (ifE (fun h => hj _ (by simp; omega)) (fun h4 => JOIN_of (ifE (fun h => hj _ (by simp; omega)) (fun h5 => JOIN_of (ifE (fun h => hj _ (by simp; omega)) (fun h6 => JOIN_of (ifE (fun h => hj _ (by simp; omega)) (fun h7 => JOIN_of (ifE (fun h => hj _ (by simp; omega)) (fun h8 => hj _ (by simp; omega))))))))))))))))
 ·refine JOIN_to ((decide (cU v), decide (v = 11), decide (v = 12 ∨ v = 13), decide (v = 9), decide (v = 7), ()), ()) H (fun j hj => ?_) ?_
  ·have fin : ∀ a b c d e : Bool, (a = true ↔ cU v) -> (b = true ↔ v = 11) -> (c = true ↔ v = 12 ∨ v = 13) -> (d = true ↔ v = 9) -> (e = true ↔ v = 7) -> j ((a, b, c, d, e, ()), ()) H := fun a b c d e h1 h2 h3 h4 h5 => by
    have e1 : a = decide (cU v) := by rw [Bool.eq_iff_iff, h1]; simp
    have e2 : b = decide (v = 11) := by rw [Bool.eq_iff_iff, h2]; simp
    have e3 : c = decide (v = 12 ∨ v = 13) := by rw [Bool.eq_iff_iff, h3]; simp
    have e4 : d = decide (v = 9) := by rw [Bool.eq_iff_iff, h4]; simp
    have e5 : e = decide (v = 7) := by rw [Bool.eq_iff_iff, h5]; simp
    rw [e1, e2, e3, e4, e5]; exact hj
   refine ifD (fun h => fin _ _ _ _ _ (by simp [cU]; omega) (by simp; omega) (by simp; omega) (by simp; omega) (by simp; omega)) (fun h => JOIN_of (ifE (fun h9 => fin _ _ _ _ _ (by simp [cU]; omega) (by simp; omega) (by simp; omega) (by simp; omega) (by simp; omega)) (fun h9 => JOIN_of (ifE (fun h7 => fin _ _ _ _ _ (by simp [cU]; omega) (by simp; omega) (by simp; omega) (by simp; omega) (by simp; omega)) (fun h7 => JOIN_of (ifE (fun h11 => fin _ _ _ _ _ (by simp [cU]; omega) (by simp; omega) (by simp; omega) (by simp; omega) (by simp; omega)) (fun h11 => ?_)))))))
   refine JD (H := H) (v = 12 ∨ v = 13) (fun j hj => ifE (fun h => hj _ (by simp; omega)) (fun h => hj _ (by simp; omega))) (JOIN_of (ifD (fun h => fin _ _ _ _ _ (by simp [cU]; omega) (by simp; omega) (by simp; omega) (by simp; omega) (by simp; omega)) (fun h => fin _ _ _ _ _ (by simp [cU]; omega) (by simp; omega) (by simp; omega) (by simp; omega) (by simp; omega))))
  ·have fin : ∀ b c : Bool, (b = true ↔ sU v w) -> (c = true ↔ tU v w) -> Q (decide (cU v), b, c, decide (v = 9), decide (v = 7), ()) H := fun b c h1 h2 => by
    have e1 : b = decide (sU v w) := by rw [Bool.eq_iff_iff, h1]; simp
    have e2 : c = decide (tU v w) := by rw [Bool.eq_iff_iff, h2]; simp
    rw [e1, e2]; exact hq
   exact JOIN_of (ifD (fun h => ifD (fun h2 => fin _ _ (by simp [sU]; omega) (by simp [tU]; omega)) (fun h2 => fin _ _ (by simp [sU]; omega) (by simp [tU]; omega))) (fun h => ifD (fun h2 => fin _ _ (by simp [sU]; omega) (by simp [tU]; omega)) (fun h2 => fin _ _ (by simp [sU]; omega) (by simp [tU]; omega))))
theorem bounds_c {v : Int} {Q : Int × Int × Bool × Unit -> Heap -> Prop} (hq : Q (lowV v, highV v, decide (v = 14), ()) H) : CALL P [T_int .i64, T_int .i64, T_bool] n_effect_bounds [.int .u8 v] H Q := by
 apply c_effect_bounds
 unfold S_effect_bounds
 refine JD (H := H) (v = 9 ∨ v = 15) (fun j hj => ifE (fun h => hj _ (by simp; omega)) (fun h => hj _ (by simp; omega))) (ifD (fun h => Qd (Q := fun r => Q r H) hq ?_) (fun h => ifE (fun h2 => Qd (Q := fun r => Q r H) hq ?_) (fun h2 => ifE (fun h3 => Qd (Q := fun r => Q r H) hq ?_) (fun h3 => Qd (Q := fun r => Q r H) hq ?_))))
 ·unfold lowV highV; rw [if_pos h, if_neg (by omega)]; simp; omega
 ·unfold lowV highV; rw [if_neg h, if_pos h2, if_pos h2]; simp; omega
 ·unfold lowV highV; rw [if_neg h, if_neg h2, if_pos h3, if_neg h2]; simp; omega
 ·unfold lowV highV; rw [if_neg h, if_neg h2, if_neg h3, if_neg h2]; simp; omega
theorem about_c {p : Pt} {Q : Bool × Unit -> Heap -> Prop} (hk : 1 ≤ p.Verb ∧ p.Verb ≤ 19) (hq : ∀ r : Bool, (r = true ↔ okAbout p) -> Q (r, ()) H) : CALL P [T_bool] n_effect_about [T_G_api_Part.enc p] H Q := by
 apply c_effect_about
 unfold S_effect_about
 refine JD (H := H) (p.Whom = 1 ∨ p.Whom = 2) (fun j hj => ifE (fun h => hj _ (by simp; omega)) (fun h => hj _ (by simp; omega))) (standing_c (ifD (fun h1 => ?_) (fun h1 => swapping_c (ifD (fun h2 => hq _ ?_) (fun h2 => ifE (fun h3 => hq _ ?_) (fun h3 => ?_))))))
 ·have k1 : kindV p.Verb ≠ 1 := fun e => by have := kindV_1.1 e; omega
  have k2 : kindV p.Verb = 2 := kindV_2.2 h1
  refine JD (H := H) (¬ (p.Whom = 1 ∨ p.Whom = 2) ∧ p.Whom ≠ 3) (fun j hj => ifQ (fun h => hj _ (by simp; omega)) (fun h => hj _ (by simp; omega))) (hq _ ?_)
  unfold okAbout
  rw [if_neg k1, if_pos k2, decide_eq_true_eq]
 ·have k1 : kindV p.Verb ≠ 1 := fun e => by have := kindV_1.1 e; omega
  have k2 : kindV p.Verb ≠ 2 := fun e => by have := kindV_2.1 e; omega
  unfold okAbout
  rw [if_neg k1, if_neg k2]; simp
 ·have k1 : kindV p.Verb = 1 := kindV_1.2 (by omega)
  unfold okAbout
  rw [if_pos k1, if_pos h3]; simp
 ·have k1 : kindV p.Verb = 1 := kindV_1.2 (by omega)
  refine JD (H := H) (¬ ((p.Whom = 1 ∨ p.Whom = 2) ∧ (p.Verb = 6 ∨ p.Verb = 8 ∨ p.Verb = 9))) (fun j hj => ifQ (fun h => hj _ (by simp; omega)) (fun h => ifN (fun h6 => ifN (fun h8 => hj _ (by simp; omega)) (fun h8 => hj _ (by simp; omega))) (fun h6 => hj _ (by simp; omega)))) (hq _ ?_)
  unfold okAbout
  rw [if_pos k1, if_neg h3, decide_eq_true_eq]
theorem pwithin_c {u : Prop} [Decidable u] {x lo hi : Int} {Q : Bool × Unit -> Heap -> Prop} (hq : Q (decide (if u then lo ≤ x ∧ x ≤ hi else x = 0), ()) H) :
  ifB (!decide u) (Q (x == 0, ()) H) (JOIN (fun (j1 : (Bool × Unit) × (Unit) -> Heap -> Prop) => ifB (decide (x ≥ lo)) (j1 ((decide (x ≤ hi), ()), (())) H) (j1 ((false, ()), (())) H)) fun (y2 : (Bool × Unit) × (Unit)) H1 => Q (y2.1.1, ()) H1) := by
 refine ifQ (fun h => Qd (Q := fun r => Q r H) hq ?_) (fun h => JD (H := H) (lo ≤ x ∧ x ≤ hi) (fun j hj => ifD (fun h => hj _ (by simp; omega)) (fun h => hj _ (by simp; omega))) (Qd (Q := fun r => Q r H) hq ?_))
 ·simp only [if_neg h]; congr 1
 ·simp only [if_pos h]
theorem nmB_iff {b : UInt8} : nmB b = true ↔ b.toNat = 45 ∨ 97 ≤ b.toNat ∧ b.toNat ≤ 122 := by
 unfold nmB
 simp only [Bool.or_eq_true, Bool.and_eq_true, decide_eq_true_eq, beq_iff_eq, UInt8.le_iff_toNat_le]
 constructor
 ·rintro (rfl | h)
  ·exact .inl rfl
  ·exact .inr h
 ·rintro (h | h)
  ·exact .inl (UInt8.toNat_inj.1 h)
  ·exact .inr h
instance (s : ByteArray) : Decidable (okNm s) := by unfold okNm; infer_instance
theorem okNm_cons {s : ByteArray} {b : UInt8} {r : List UInt8} (h : s.data.toList = b :: r) (h20 : s.data.toList.length ≤ 20) : okNm s ↔ b.toNat ≠ 45 ∧ s.data.toList.all nmB = true := by
 unfold okNm
 rw [h] at h20 ⊢
 simp only [List.length_cons, List.head?_cons, ne_eq, Option.some.injEq] at h20 ⊢
 have : b = 45 ↔ b.toNat = 45 := ⟨fun e => by rw [e]; rfl, fun e => UInt8.toNat_inj.1 e⟩
 rw [this]
 constructor
 ·exact fun q => q.2.2
 ·exact fun q => ⟨by omega, h20, q⟩
theorem tl_empty : (ByteArray.mk #[]).toList = [] := ByteArray.toList_mk []
theorem named_g {s : ByteArray} (hs : s.size ≤ 9223372036854775807) {b : UInt8} {r : List UInt8} (h : s.data.toList = b :: r) (h20 : s.data.toList.length ≤ 20) {j : (Bool × Unit) × Unit -> Heap -> Prop} (hj : ∀ r : Bool, (r = true ↔ okNm s) -> j ((r, ()), ()) H) :
  GENV (T_int .u8) (aIndex E 9 (.string s) (.int .i64 0)) fun (x5 : Int) => ifB (x5 != 45) (CALL P [T_str] n_strings_Trim [(.string s), (.string alph)] H fun (x6 : ByteArray × Unit) H2 => j ((x6.1.toList == (ByteArray.mk #[]).toList, ()), (())) H2) (j ((false, ()), (())) H) := by
 refine str_at (n := 0) rfl (b := b) (by rw [h]; rfl) (ifN (fun h3 => trim_c (by rw [size_len, h]; simp) hs (hj _ ?_)) (fun h3 => hj _ ?_))
 ·rw [okNm_cons h h20, tl_empty, ByteArray.toList_mk, beq_iff_eq, trimS_nil]
  exact ⟨fun q => ⟨by omega, q⟩, fun q => q.2⟩
 ·rw [okNm_cons h h20]
  simp; omega
theorem ename_c {s : ByteArray} (hs : s.size ≤ 9223372036854775807) {Q : Bool × Unit -> Heap -> Prop} (hq : Q (decide (okNm s), ()) H) : CALL P [T_bool] n_effect_name [.string s] H Q := by
 apply c_effect_name
 unfold S_effect_name
 refine JD (H := H) (okNm s) (fun j hj => str_len (ifD (fun h1 => str_len (ifD (fun h2 => ?_) (fun h2 => hj _ ?_))) (fun h1 => hj _ ?_))) hq
 ·cases hl : s.data.toList with
  | nil => rw [hl] at h1; simp at h1
  | cons b r => exact named_g hs hl (by omega) hj
 ·simp only [Bool.false_eq_true, false_iff]; exact fun q => by have := q.2.1; omega
 ·simp only [Bool.false_eq_true, false_iff]; exact fun q => by have := q.1; omega
theorem cnamed_c {s : ByteArray} (hs : s.size ≤ 9223372036854775807) {Q : Bool × Unit -> Heap -> Prop} (hq : Q (decide (okNm s), ()) H) : CALL P [T_bool] n_card_named [.string s] H Q := by
 apply c_card_named
 unfold S_card_named
 refine JD (H := H) (okNm s) (fun j hj => str_len (ifD (fun h1 => str_len (ifD (fun h2 => ?_) (fun h2 => hj _ ?_))) (fun h1 => hj _ ?_))) hq
 ·cases hl : s.data.toList with
  | nil => rw [hl] at h1; simp at h1
  | cons b r => exact named_g hs hl (by omega) hj
 ·simp only [Bool.false_eq_true, false_iff]; exact fun q => by have := q.2.1; omega
 ·simp only [Bool.false_eq_true, false_iff]; exact fun q => by have := q.1; omega
theorem sign_loop {L : List UInt8} {F : ((Int × Unit) × Unit -> Heap -> Prop) -> (Int × Unit) × Unit -> Heap -> Prop} {Qf Qt : Prop}
  (hF : ∀ (G : (Int × Unit) × Unit -> Heap -> Prop) (n : Nat), (∀ b, L[n]? = some b -> (nmB b = true -> G (((n : Int) + 1, ()), ()) H) -> (nmB b = false -> Qf) -> F G (((n : Int), ()), ()) H) ∧ (n = L.length -> Qt -> F G (((n : Int), ()), ()) H))
  (ht : L.all nmB = true -> Qt) (hf : L.all nmB = false -> Qf) : LOOP F ((0, ()), ()) H := by
 refine loop_of (fun (t : (Int × Unit) × Unit) H' => H' = H ∧ ∃ n : Nat, t.1.1 = n ∧ n ≤ L.length ∧ (L.take n).all nmB = true) (fun t => L.length - t.1.1.toNat) ?_ ⟨rfl, 0, rfl, Nat.zero_le _, by simp⟩
 rintro G ⟨⟨i, _⟩, _⟩ H' ⟨rfl, n, hi, hn, ha⟩ hG
 simp only at hi; subst hi
 dsimp only at hG
 obtain ⟨k1, k2⟩ := hF G n
 by_cases e : n = L.length
 ·exact k2 e (ht (by rw [e, List.take_length] at ha; exact ha))
 ·have hlt : n < L.length := by omega
  refine k1 _ (List.getElem?_eq_getElem hlt) (fun hb => hG _ _ ⟨rfl, n + 1, by simp, hlt, ?_⟩ (by simp; omega)) (fun hb => hf ?_)
  ·rw [List.take_succ_eq_append_getElem hlt, List.all_append, ha]; simp [hb]
  ·rw [List.all_eq_false]; exact ⟨_, List.getElem_mem hlt, by simp [hb]⟩
theorem get_at {s : ByteArray} {n : Nat} {b : UInt8} (h : s.data.toList[n]? = some b) : s.get! n = b := by
 have hn := (List.getElem?_eq_some_iff.1 h).1
 rw [List.getElem?_eq_getElem hn] at h
 have hn' : n < s.data.size := by rw [← Array.length_toList]; exact hn
 show s.data[n]! = b
 rw [getElem!_pos s.data n hn']
 exact Option.some.inj h
theorem dec_ascii {s : ByteArray} {n : Nat} (h : (s.get! n).toNat < 128) : Utf8.decode s n = ((s.get! n).toNat, 1) := by
 unfold Utf8.decode
 simp [h]
theorem dec_other {s : ByteArray} {n : Nat} (h : 128 ≤ (s.get! n).toNat) : 128 ≤ (Utf8.decode s n).1 := by
 unfold Utf8.decode
 simp only [Nat.add_zero]
 rw [if_neg (by omega)]
 repeat' split
 all_goals first | (simp only [Utf8.runeError]; omega) | skip
 all_goals (rename_i h1; first | (simp only; omega) | (simp only [Bool.and_eq_true, decide_eq_true_eq] at h1; simp only; omega))
theorem next_iter {H : Heap} {s : ByteArray} {pos : Nat} (h : pos < s.size) : aNext (.pointer (some ⟨H.length, 0, none⟩)) (H ++ [.iter s pos]) = some (.tuple #[.bool true, .int .i64 pos, .int .i32 (Utf8.decode s pos).1], H ++ [.iter s (pos + (Utf8.decode s pos).2)]) := by
 unfold aNext nextOf
 simp [h]
theorem next_end {H : Heap} {s : ByteArray} {pos : Nat} (h : ¬ pos < s.size) : aNext (.pointer (some ⟨H.length, 0, none⟩)) (H ++ [.iter s pos]) = some (.tuple #[.bool false], H ++ [.iter s pos]) := by
 unfold aNext nextOf
 simp [h]
theorem loop_ofH {S : Type} {F : (S -> Heap -> Prop) -> S -> Heap -> Prop} (I : S -> Heap -> Prop) (μ : S -> Heap -> Nat) (hF : ∀ (G : S -> Heap -> Prop) s H, I s H -> (∀ s' H', I s' H' -> μ s' H' < μ s H -> G s' H') -> F G s H) {s : S} {H : Heap} (h : I s H) : LOOP F s H := by
 refine ⟨μ s H + 1, ?_⟩
 have : ∀ n s H, μ s H < n -> I s H -> itP F n s H := by
  intro n
  induction n with
  | zero => intro s H h; omega
  | succ n ih => intro s H hm hi; exact hF _ s H hi fun s' H' h1 h2 => ih s' H' (by omega) h1
 exact this _ s H (by omega) h
def iterP (H : Heap) (b : Nat) : Nat := match H[b]? with | some (.iter _ pos) => pos | _ => 0
theorem iterP_app (H : Heap) (s : ByteArray) (pos : Nat) : iterP (H ++ [.iter s pos]) H.length = pos := by unfold iterP; simp
theorem bname_c {s : ByteArray} {Q : Bool × Unit -> Heap -> Prop} (hq : ∀ H', Frs [] H H' -> Q (decide (okNm s), ()) H') : CALL P [T_bool] n_book_name [.string s] H Q := by
 apply c_book_name
 unfold S_book_name
 have no : ∀ H', Frs [] H H' -> ¬ okNm s -> Q (false, ()) H' := fun H' f hn => by have := hq H' f; rwa [decide_eq_false hn] at this
 refine JD (H := H) (s.data.toList.length = 0 ∨ 20 < s.data.toList.length ∨ s.data.toList.head? = some 45) (fun j hj => str_len (ifE (fun h1 => hj _ ?_) (fun h1 => str_len (ifD (fun h2 => hj _ ?_) (fun h2 => ?_))))) (ifD (fun hbad => no H (.refl _ _) fun q => ?_) (fun hgood => ?_))
 ·simp only [true_iff]; exact .inl (by omega)
 ·simp only [true_iff]; exact .inr (.inl (by omega))
 ·cases hl : s.data.toList with
  | nil => rw [hl] at h1; simp at h1
  | cons b r =>
   refine str_at (n := 0) rfl (b := b) (by rw [hl]; rfl) (hj _ ?_)
   have h45 : b = 45 ↔ b.toNat = 45 := ⟨fun e => by rw [e]; rfl, fun e => UInt8.toNat_inj.1 e⟩
   rw [hl] at h2 ⊢
   simp only [List.length_cons, List.head?_cons, Option.some.injEq, h45, beq_iff_eq] at h2 ⊢
   constructor
   ·intro q; right; right; omega
   ·rintro (q | q | q) <;> omega
 ·rcases hbad with e | e | e
  ·have := q.1; omega
  ·have := q.2.1; omega
  ·exact q.2.2.1 e
 ·have h45 : s.data.toList.head? ≠ some 45 := fun e => hgood (.inr (.inr e))
  have hl1 : ¬ s.data.toList.length = 0 := fun e => hgood (.inl e)
  have hl2 : ¬ 20 < s.data.toList.length := fun e => hgood (.inr (.inl e))
  have fx : ∀ pos, Frs [] H (H ++ [.iter s pos]) := fun pos => Frs.app _ _ _
  refine ⟨_, _, rfl, JOIN_of ?_⟩
  refine loop_ofH (fun (_ : Unit × Unit) H' => ∃ pos : Nat, H' = H ++ [.iter s pos] ∧ pos ≤ s.data.toList.length ∧ (s.data.toList.take pos).all nmB = true) (fun _ H' => s.data.toList.length - iterP H' H.length) ?_ ⟨0, rfl, Nat.zero_le _, by simp⟩
  rintro G ⟨_, _⟩ H' ⟨pos, rfl, hp, ha⟩ hG
  by_cases hlt : pos < s.data.toList.length
  ·have hx : s.data.toList[pos]? = some (s.data.toList[pos]) := List.getElem?_eq_getElem hlt
   generalize s.data.toList[pos] = b at hx
   have hb := get_at hx
   have tk : s.data.toList.take (pos + 1) = s.data.toList.take pos ++ [b] := by
    rw [List.take_succ_eq_append_getElem hlt]
    rw [List.getElem?_eq_getElem hlt] at hx
    rw [Option.some.inj hx]
   refine .inl ⟨_, _, _, next_iter (by rw [size_len]; exact hlt), ?_⟩
   have bad : ∀ H2, Frs [] H H2 -> nmB b = false -> Q (false, ()) H2 := fun H2 f hn => no H2 f fun q => by
    have := List.all_eq_true.1 q.2.2.2 b (List.mem_of_getElem? hx)
    rw [hn] at this; cases this
   by_cases hA : b.toNat < 128
   ·have hd := dec_ascii (s := s) (n := pos) (by rw [hb]; exact hA)
    rw [hb] at hd
    rw [hd]
    dsimp only
    refine JD (H := H ++ [.iter s (pos + 1)]) (¬ nmB b = true) (fun j hj => ifN (fun h1 => ifD (fun h2 => hj _ ?_) (fun h2 => hj _ ?_)) (fun h1 => hj _ ?_)) (ifD (fun h => bad _ (fx _) (by simpa using h)) (fun h => ?_))
    ·rw [nmB_iff]; simp; omega
    ·rw [nmB_iff]; simp; omega
    ·rw [nmB_iff]; simp; omega
    ·have h : nmB b = true := by simpa using h
     refine hG _ _ ⟨pos + 1, rfl, hlt, by rw [tk, List.all_append, ha]; simp [h]⟩ ?_
     rw [iterP_app, iterP_app]; omega
   ·have hd := dec_other (s := s) (n := pos) (by rw [hb]; omega)
    have hn : nmB b = false := by
     cases h : nmB b with
     | false => rfl
     | true => have := nmB_iff.1 h; omega
    generalize Utf8.decode s pos = d at hd
    refine JD (H := H ++ [.iter s (pos + d.2)]) True (fun j hj => ifN (fun h1 => ifD (fun h2 => hj _ (by simp)) (fun h2 => hj _ (by simp; omega))) (fun h1 => by omega)) (ifB_t (by simp) (bad _ (fx _) hn))
  ·have he : pos = s.data.toList.length := by omega
   subst he
   rw [List.take_length] at ha
   refine .inr ⟨_, next_end (by rw [size_len]; exact hlt), ?_⟩
   have := hq _ (fx s.data.toList.length)
   rwa [decide_eq_true (show okNm s from ⟨by omega, by omega, h45, ha⟩)] at this
theorem okNm_iff {s : ByteArray} : okNm s ↔ ¬ (s.data.toList.length < 1 ∨ 20 < s.data.toList.length ∨ s.data.toList.head? = some 45) ∧ s.data.toList.all nmB = true := by
 unfold okNm
 constructor
 ·exact fun q => ⟨by rintro (h | h | h) <;> first | omega | exact q.2.2.1 h, q.2.2.2⟩
 ·exact fun q => ⟨by omega, by omega, fun h => q.1 (.inr (.inr h)), q.2⟩
theorem head45 {b : UInt8} : b = 45 ↔ b.toNat = 45 := ⟨fun e => by rw [e]; rfl, fun e => UInt8.toNat_inj.1 e⟩
theorem r5name_c {s : ByteArray} {Q : Bool × Unit -> Heap -> Prop} (hq : Q (decide (okNm s), ()) H) : CALL P [T_bool] n_ref05_Name [.string s] H Q := by
 apply c_ref05_Name
 unfold S_ref05_Name
 have no : ¬ okNm s -> Q (false, ()) H := fun hn => by rwa [decide_eq_false hn] at hq
 refine JD (H := H) (s.data.toList.length < 1 ∨ 20 < s.data.toList.length ∨ s.data.toList.head? = some 45) (fun j hj => str_len (ifD (fun h1 => hj _ ?_) (fun h1 => str_len (ifD (fun h2 => hj _ ?_) (fun h2 => ?_))))) (ifD (fun hbad => no fun q => (okNm_iff.1 q).1 hbad) (fun hgood => JOIN_of ?_))
 ·simp only [true_iff]; exact .inl (by omega)
 ·simp only [true_iff]; exact .inr (.inl (by omega))
 ·cases hl : s.data.toList with
  | nil => rw [hl] at h1; simp at h1
  | cons b r =>
   refine str_at (n := 0) rfl (b := b) (by rw [hl]; rfl) (hj _ ?_)
   rw [hl] at h2 ⊢
   simp only [List.length_cons, List.head?_cons, Option.some.injEq, head45, beq_iff_eq] at h2 ⊢
   constructor
   ·intro q; right; right; omega
   ·rintro (q | q | q) <;> omega
 ·refine sign_loop (L := s.data.toList) (Qf := Q (false, ()) H) (Qt := Q (true, ()) H) (fun G n => ⟨fun b hx k1 k2 => ?_, fun e k => str_len (ifB_f (decide_eq_false (by simp only; omega)) k)⟩) (fun ha => by rwa [decide_eq_true (okNm_iff.2 ⟨hgood, ha⟩)] at hq) (fun ha => no fun q => by have := (okNm_iff.1 q).2; rw [ha] at this; cases this)
  have hlt := (List.getElem?_eq_some_iff.1 hx).1
  refine str_len (ifB_t (decide_eq_true (by simp only; omega)) ?_)
  refine JD (H := H) (¬ nmB b = true) (fun j hj => str_at rfl hx (ifD (fun h1 => str_at rfl hx (hj _ ?_)) (fun h1 => str_at rfl hx (ifD (fun h2 => str_at rfl hx (hj _ ?_)) (fun h2 => hj _ ?_))))) (ifD (fun h => k2 (by simpa using h)) (fun h => ?_))
  ·rw [nmB_iff]; simp; omega
  ·rw [nmB_iff]; simp; omega
  ·rw [nmB_iff]; simp; omega
  ·dsimp only
   rw [i64w (by omega) (by omega)]
   exact k1 (by simpa using h)
theorem r6name_c {s : ByteArray} {Q : Bool × Unit -> Heap -> Prop} (hq : Q (decide (okNm s), ()) H) : CALL P [T_bool] n_ref06_NameMay [.string s] H Q := by
 apply c_ref06_NameMay
 unfold S_ref06_NameMay
 have no : ¬ okNm s -> Q (false, ()) H := fun hn => by rwa [decide_eq_false hn] at hq
 refine JD (H := H) (s.data.toList.length < 1 ∨ 20 < s.data.toList.length ∨ s.data.toList.head? = some 45) (fun j hj => str_len (ifD (fun h1 => hj _ ?_) (fun h1 => str_len (ifD (fun h2 => hj _ ?_) (fun h2 => ?_))))) (ifD (fun hbad => no fun q => (okNm_iff.1 q).1 hbad) (fun hgood => JOIN_of ?_))
 ·simp only [true_iff]; exact .inl (by omega)
 ·simp only [true_iff]; exact .inr (.inl (by omega))
 ·cases hl : s.data.toList with
  | nil => rw [hl] at h1; simp at h1
  | cons b r =>
   refine str_at (n := 0) rfl (b := b) (by rw [hl]; rfl) (hj _ ?_)
   rw [hl] at h2 ⊢
   simp only [List.length_cons, List.head?_cons, Option.some.injEq, head45, beq_iff_eq] at h2 ⊢
   constructor
   ·intro q; right; right; omega
   ·rintro (q | q | q) <;> omega
 ·refine sign_loop (L := s.data.toList) (Qf := Q (false, ()) H) (Qt := Q (true, ()) H) (fun G n => ⟨fun b hx k1 k2 => ?_, fun e k => str_len (ifB_f (decide_eq_false (by simp only; omega)) k)⟩) (fun ha => by rwa [decide_eq_true (okNm_iff.2 ⟨hgood, ha⟩)] at hq) (fun ha => no fun q => by have := (okNm_iff.1 q).2; rw [ha] at this; cases this)
  have hlt := (List.getElem?_eq_some_iff.1 hx).1
  refine str_len (ifB_t (decide_eq_true (by simp only; omega)) ?_)
  refine JD (H := H) (¬ nmB b = true) (fun j hj => str_at rfl hx (ifN (fun h1 => str_at rfl hx (ifD (fun h2 => hj _ ?_) (fun h2 => str_at rfl hx (hj _ ?_)))) (fun h1 => hj _ ?_))) (ifD (fun h => k2 (by simpa using h)) (fun h => ?_))
  ·rw [nmB_iff]; simp; omega
  ·rw [nmB_iff]; simp; omega
  ·rw [nmB_iff]; simp; omega
  ·dsimp only
   rw [i64w (by omega) (by omega)]
   exact k1 (by simpa using h)
theorem r7name_c {s : ByteArray} {Q : Bool × Unit -> Heap -> Prop} (hq : Q (decide (okNm s), ()) H) : CALL P [T_bool] n_ref07_Name [.string s] H Q := by
 apply c_ref07_Name
 unfold S_ref07_Name
 have no : ¬ okNm s -> Q (false, ()) H := fun hn => by rwa [decide_eq_false hn] at hq
 refine JD (H := H) (s.data.toList.length < 1 ∨ 20 < s.data.toList.length ∨ ∃ b, s.data.toList.head? = some b ∧ (b.toNat < 97 ∨ 122 < b.toNat)) (fun j hj => str_len (ifD (fun h1 => hj _ ?_) (fun h1 => str_len (ifD (fun h2 => hj _ ?_) (fun h2 => ?_))))) (ifD (fun hbad => no fun q => ?_) (fun hgood => JOIN_of ?_))
 ·simp only [true_iff]; exact .inl (by omega)
 ·simp only [true_iff]; exact .inr (.inl (by omega))
 ·cases hl : s.data.toList with
  | nil => rw [hl] at h1; simp at h1
  | cons b r =>
   rw [hl] at h2 h1
   have key : (1 + r.length < 1 ∨ 20 < 1 + r.length ∨ ∃ b', (b :: r).head? = some b' ∧ (b'.toNat < 97 ∨ 122 < b'.toNat)) ↔ (b.toNat < 97 ∨ 122 < b.toNat) := by
    simp only [List.length_cons] at h2
    constructor
    ·rintro (q | q | ⟨b', e, q⟩)
     ·omega
     ·omega
     ·cases e; exact q
    ·exact fun q => .inr (.inr ⟨b, rfl, q⟩)
   refine str_at (n := 0) rfl (b := b) (by rw [hl]; rfl) (ifD (fun h3 => hj _ ?_) (fun h3 => str_at (n := 0) rfl (b := b) (by rw [hl]; rfl) (hj _ ?_)))
   ·rw [hl, List.length_cons, Nat.add_comm, key]; simp; omega
   ·rw [hl, List.length_cons, Nat.add_comm, key]; simp; omega
 ·obtain ⟨q1, q2⟩ := okNm_iff.1 q
  rcases hbad with e | e | ⟨b, e, h⟩
  ·exact q1 (.inl e)
  ·exact q1 (.inr (.inl e))
  ·have hb : nmB b = true := List.all_eq_true.1 q2 b (List.mem_of_mem_head? e)
   have h45 : b ≠ 45 := fun e2 => q1 (.inr (.inr (by rw [e, e2])))
   have := nmB_iff.1 hb
   have := mt head45.2 h45
   omega
 ·have hgood' : ¬ (s.data.toList.length < 1 ∨ 20 < s.data.toList.length ∨ s.data.toList.head? = some 45) := by
   rintro (e | e | e)
   ·exact hgood (.inl e)
   ·exact hgood (.inr (.inl e))
   ·exact hgood (.inr (.inr ⟨45, e, .inl (by decide)⟩))
  refine sign_loop (L := s.data.toList) (Qf := Q (false, ()) H) (Qt := Q (true, ()) H) (fun G n => ⟨fun b hx k1 k2 => ?_, fun e k => str_len (ifB_f (decide_eq_false (by simp only; omega)) k)⟩) (fun ha => by rwa [decide_eq_true (okNm_iff.2 ⟨hgood', ha⟩)] at hq) (fun ha => no fun q => by have := (okNm_iff.1 q).2; rw [ha] at this; cases this)
  have hlt := (List.getElem?_eq_some_iff.1 hx).1
  refine str_len (ifB_t (decide_eq_true (by simp only; omega)) ?_)
  refine JD (H := H) (¬ nmB b = true) (fun j hj => str_at rfl hx (ifD (fun h1 => str_at rfl hx (hj _ ?_)) (fun h1 => str_at rfl hx (ifD (fun h2 => str_at rfl hx (hj _ ?_)) (fun h2 => hj _ ?_))))) (ifD (fun h => k2 (by simpa using h)) (fun h => ?_))
  ·rw [nmB_iff]; simp; omega
  ·rw [nmB_iff]; simp; omega
  ·rw [nmB_iff]; simp; omega
  ·dsimp only
   rw [i64w (by omega) (by omega)]
   exact k1 (by simpa using h)
end
end Go.Proofs.YtolekmhhkopooaaGreatDoor.Zq
end
