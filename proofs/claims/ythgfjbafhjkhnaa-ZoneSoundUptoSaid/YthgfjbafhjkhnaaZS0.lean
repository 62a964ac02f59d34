/- Printed by gen2.py: what the functions come to. -/
import Derived.Test.YthgfjbafhjkhnaaZT
import Derived.KernelRfl
namespace Go.Proofs.Ythgfjbafhjkhnaa
open Go Zq
namespace Zv
set_option maxRecDepth 100000
set_option linter.unusedVariables false
def S_law17_ZoneSound (a0 : Sl) (a1 : Sl) (a2 : Sl) (H : Heap) (Q : Bool × Unit → Heap → Prop) : Prop :=
CALL P [T_bool] n_law17_lives [] H fun (x1 : Bool × Unit) H1 =>
ifB (!x1.1) (
Q (false, ()) H1) (
CALL P [T_ptr, (T_int .i64)] n_zone_New [a0.v, a1.v] H1 fun (x2 : (Option Addr) × Int × Unit) H2 =>
JOIN (fun (j3 : (Bool × Unit) × (Unit) → Heap → Prop) =>
ifB (x2.2.1 != 0) (
j3 ((true, ()), (())) H2) (
ifB (decide ((IntKind.wrap .i64 ((a0.len : Int) + (a1.len : Int))) > 100)) (
j3 ((true, ()), (())) H2) (
j3 ((decide ((a2.len : Int) > 60), ()), (())) H2))) fun (y4 : (Bool × Unit) × (Unit)) H3 =>
ifB y4.1.1 (
JOIN (fun (j5 : (Bool × Unit) × (Unit) → Heap → Prop) =>
ifB (x2.2.1 == 0) (
j5 ((true, ()), (())) H3) (
j5 ((x2.1.isNone, ()), (())) H3)) fun (y6 : (Bool × Unit) × (Unit)) H4 =>
Q (y6.1.1, ()) H4) (
JOIN (fun (j7 : (Unit) × (Unit) → Heap → Prop) =>
LOOP (fun (r9 : (Int × Unit) × (Unit) → Heap → Prop) (s10 : (Int × Unit) × (Unit)) H6 =>
ifB (decide (s10.1.1 < (a2.len : Int))) (
CALL P [T_G_law17_World] n_law17_whole [(.pointer x2.1)] H6 fun (x11 : G_law17_World × Unit) H7 =>
IDX a2.p a2.len s10.1.1 16 fun b12 o13 =>
LD T_G_law17_Op H7 b12 o13 fun (x14 : G_law17_Op) =>
CALL P [T_bool] n_law17_do [(.pointer x2.1), (T_G_law17_Op.enc x14)] H7 fun (x15 : Bool × Unit) H8 =>
CALL P [T_bool] n_law17_placed [(.pointer x2.1)] H8 fun (x16 : Bool × Unit) H9 =>
JOIN (fun (j17 : (Bool × Unit) × (Unit) → Heap → Prop) =>
ifB (!x16.1) (
j17 ((true, ()), (())) H9) (
ifB (!x15.1) (
CALL P [T_G_law17_World] n_law17_whole [(.pointer x2.1)] H9 fun (x19 : G_law17_World × Unit) H11 =>
REQ ((some (.agg #[(.slice x11.1.Things.p x11.1.Things.len x11.1.Things.cap), (.slice x11.1.Decks.1.p x11.1.Decks.1.len x11.1.Decks.1.cap), (.slice x11.1.Decks.2.p x11.1.Decks.2.len x11.1.Decks.2.cap), (.slice x11.1.Hands.1.p x11.1.Hands.1.len x11.1.Hands.1.cap), (.slice x11.1.Hands.2.p x11.1.Hands.2.len x11.1.Hands.2.cap), (.int .i64 x11.1.Stamp)]) : Option Value) = some (.agg #[(.slice x11.1.Things.p x11.1.Things.len x11.1.Things.cap), (.slice x11.1.Decks.1.p x11.1.Decks.1.len x11.1.Decks.1.cap), (.slice x11.1.Decks.2.p x11.1.Decks.2.len x11.1.Decks.2.cap), (.slice x11.1.Hands.1.p x11.1.Hands.1.len x11.1.Hands.1.cap), (.slice x11.1.Hands.2.p x11.1.Hands.2.len x11.1.Hands.2.cap), (.int .i64 x11.1.Stamp)])) (
CALL P [T_bool] n_law17_sameWorld [(T_G_law17_World.enc x11.1), (T_G_law17_World.enc x19.1)] H11 fun (x20 : Bool × Unit) H12 =>
j17 ((!x20.1, ()), (())) H12)) (
j17 ((false, ()), (())) H9))) fun (y18 : (Bool × Unit) × (Unit)) H10 =>
ifB y18.1.1 (
Q (false, ()) H10) (
r9 ((IntKind.wrap .i64 (s10.1.1 + 1), ()), (())) H10)) (
j7 ((()), (())) H6)) ((0, ()), (())) H3) fun (y8 : (Unit) × (Unit)) H5 =>
CALL P [T_G_law17_World] n_law17_whole [(.pointer x2.1)] H5 fun (x21 : G_law17_World × Unit) H13 =>
CALL P [T_ptr, (T_int .i64)] n_zone_From [x21.1.Things.v, (T_arr2_T_sl.enc x21.1.Decks), (T_arr2_T_sl.enc x21.1.Hands), (.int .i64 x21.1.Stamp)] H13 fun (x22 : (Option Addr) × Int × Unit) H14 =>
JOIN (fun (j23 : (Bool × Unit) × (Unit) → Heap → Prop) =>
ifB (x22.2.1 != 0) (
j23 ((true, ()), (())) H14) (
ifB x22.1.isNone (
j23 ((true, ()), (())) H14) (
CALL P [T_G_law17_World] n_law17_whole [(.pointer x22.1)] H14 fun (x25 : G_law17_World × Unit) H16 =>
REQ ((some (.agg #[(.slice x21.1.Things.p x21.1.Things.len x21.1.Things.cap), (.slice x21.1.Decks.1.p x21.1.Decks.1.len x21.1.Decks.1.cap), (.slice x21.1.Decks.2.p x21.1.Decks.2.len x21.1.Decks.2.cap), (.slice x21.1.Hands.1.p x21.1.Hands.1.len x21.1.Hands.1.cap), (.slice x21.1.Hands.2.p x21.1.Hands.2.len x21.1.Hands.2.cap), (.int .i64 x21.1.Stamp)]) : Option Value) = some (.agg #[(.slice x21.1.Things.p x21.1.Things.len x21.1.Things.cap), (.slice x21.1.Decks.1.p x21.1.Decks.1.len x21.1.Decks.1.cap), (.slice x21.1.Decks.2.p x21.1.Decks.2.len x21.1.Decks.2.cap), (.slice x21.1.Hands.1.p x21.1.Hands.1.len x21.1.Hands.1.cap), (.slice x21.1.Hands.2.p x21.1.Hands.2.len x21.1.Hands.2.cap), (.int .i64 x21.1.Stamp)])) (
CALL P [T_bool] n_law17_sameWorld [(T_G_law17_World.enc x21.1), (T_G_law17_World.enc x25.1)] H16 fun (x26 : Bool × Unit) H17 =>
j23 ((!x26.1, ()), (())) H17)))) fun (y24 : (Bool × Unit) × (Unit)) H15 =>
ifB y24.1.1 (
Q (false, ()) H15) (
JOIN (fun (j27 : (Unit) × (Unit) → Heap → Prop) =>
LOOP (fun (r29 : (Int × Unit) × (Unit) → Heap → Prop) (s30 : (Int × Unit) × (Unit)) H19 =>
ifB (decide (s30.1.1 < (a2.len : Int))) (
IDX a2.p a2.len s30.1.1 16 fun b31 o32 =>
LD T_G_law17_Op H19 b31 o32 fun (x33 : G_law17_Op) =>
IDX a2.p a2.len s30.1.1 16 fun b34 o35 =>
LD T_G_law17_Op H19 b34 o35 fun (x36 : G_law17_Op) =>
CALL P [T_bool] n_law17_do [(.pointer x2.1), (T_G_law17_Op.enc x33)] H19 fun (x37 : Bool × Unit) H20 =>
LD T_G_law17_Op H20 b34 o35 fun (x38 : G_law17_Op) =>
REQ (T_G_law17_Op.enc x38 = (T_G_law17_Op.enc x36)) (
CALL P [T_bool] n_law17_do [(.pointer x22.1), (T_G_law17_Op.enc x36)] H20 fun (x39 : Bool × Unit) H21 =>
ifB (!(x37.1 == x39.1)) (
Q (false, ()) H21) (
r29 ((IntKind.wrap .i64 (s30.1.1 + 1), ()), (())) H21))) (
j27 ((()), (())) H19)) ((0, ()), (())) H15) fun (y28 : (Unit) × (Unit)) H18 =>
CALL P [T_G_law17_World] n_law17_whole [(.pointer x2.1)] H18 fun (x40 : G_law17_World × Unit) H22 =>
CALL P [T_G_law17_World] n_law17_whole [(.pointer x22.1)] H22 fun (x41 : G_law17_World × Unit) H23 =>
CALL P [T_bool] n_law17_sameWorld [(T_G_law17_World.enc x40.1), (T_G_law17_World.enc x41.1)] H23 fun (x42 : Bool × Unit) H24 =>
Q (x42.1, ()) H24)))
def h_law17_ZoneSound : Hnt := (.seq .leaf (.seq .leaf (.seq .leaf (.seq (.seq (.reg ⟨[(38, T_bool)], [], [24, 25, 26, 27, 28, 29, 30, 31, 32, 33, 34, 35, 36, 37]⟩) (.cond none (.seq (.reg ⟨[(6, T_bool)], [], [39, 40, 41, 42, 43, 44]⟩) .leaf) .leaf)) (.seq (.seq .leaf (.blk (some ⟨[], [], [6, 9, 10, 11, 12, 45, 46, 47, 48, 49, 50, 51, 52, 53, 54, 55, 56, 57, 58, 59, 60, 61, 62, 63, 64, 65, 66, 67, 68, 69, 70, 71, 72, 73]⟩) (.loop ⟨[(9, (T_int .i64))], [], [6, 10, 11, 12, 45, 46, 47, 48, 49, 50, 51, 52, 53, 54, 55, 56, 57, 58, 59, 60, 61, 62, 63, 64, 65, 66, 67, 68, 69, 70, 71, 72, 73]⟩ (.seq .leaf (.seq (.blk none (.seq .leaf (.seq .leaf (.seq .leaf (.seq (.reg ⟨[(73, T_bool)], [], [61, 62, 63, 64, 65, 66, 67, 68, 69, 70, 71, 72]⟩) .leaf))))) .leaf))))) (.seq .leaf (.seq .leaf (.seq (.seq (.reg ⟨[(100, T_bool)], [], [88, 89, 90, 91, 92, 93, 94, 95, 96, 97, 98, 99]⟩) .leaf) (.seq (.seq .leaf (.blk (some ⟨[], [], [6, 15, 101, 102, 103, 104, 105, 106, 107, 108, 109, 110, 111, 112, 113, 114, 115, 116, 117, 118, 119]⟩) (.loop ⟨[(15, (T_int .i64))], [], [6, 101, 102, 103, 104, 105, 106, 107, 108, 109, 110, 111, 112, 113, 114, 115, 116, 117, 118, 119]⟩ .leaf))) .leaf)))))))))
theorem e_law17_ZoneSound (a0 : Sl) (a1 : Sl) (a2 : Sl) (H : Heap) (Q : Bool × Unit → Heap → Prop) : S_law17_ZoneSound a0 a1 a2 H Q = cFn C [10, 13] Try.f3.ntmps Try.f3.results.toList [T_bool] (bodyOf Try.f3) h_law17_ZoneSound [a0.v, a1.v, a2.v] H Q := by kernel_rfl
theorem c_law17_ZoneSound {a0 : Sl} {a1 : Sl} {a2 : Sl} {H : Heap} {Q : Bool × Unit → Heap → Prop} (h : S_law17_ZoneSound a0 a1 a2 H Q) : CALL P [T_bool] n_law17_ZoneSound [a0.v, a1.v, a2.v] H Q := call_print hE Try.func3 rfl (by kernel_rfl) (e_law17_ZoneSound a0 a1 a2 H Q) h

def S_law17_lives  (H : Heap) (Q : Bool × Unit → Heap → Prop) : Prop :=
NEW H [(.int .i64 7), (.int .i64 8), (.int .i64 9)] 1 fun H1 =>
NEW H1 [(.int .i64 5)] 1 fun H2 =>
CALL P [T_ptr, (T_int .i64)] n_zone_New [((Sl.mk (some ⟨H.length, 0, none⟩) 3 3)).v, ((Sl.mk (some ⟨H1.length, 0, none⟩) 1 1)).v] H2 fun (x1 : (Option Addr) × Int × Unit) H3 =>
JOIN (fun (j2 : (Bool × Unit) × (Unit) → Heap → Prop) =>
ifB (x1.2.1 == 0) (
ifB (!x1.1.isNone) (
CALL P [T_sl] n_zone_Zones_Deck [(.pointer x1.1), (.int .i64 0)] H3 fun (x4 : Sl × Unit) H5 =>
NEW H5 [(.int .i64 1), (.int .i64 2), (.int .i64 3)] 1 fun H6 =>
CALL P [T_bool] n_kit_SameInts [x4.1.v, ((Sl.mk (some ⟨H5.length, 0, none⟩) 3 3)).v] H6 fun (x5 : Bool × Unit) H7 =>
ifB x5.1 (
CALL P [(T_int .i64)] n_zone_Zones_Move [(.pointer x1.1), (.int .i64 2), (.int .u8 4)] H7 fun (x6 : Int × Unit) H8 =>
ifB (x6.1 == 0) (
CALL P [T_sl] n_zone_Zones_Table [(.pointer x1.1)] H8 fun (x7 : Sl × Unit) H9 =>
NEW H9 [(.int .i64 2)] 1 fun H10 =>
CALL P [T_bool] n_kit_SameInts [x7.1.v, ((Sl.mk (some ⟨H9.length, 0, none⟩) 1 1)).v] H10 fun (x8 : Bool × Unit) H11 =>
ifB x8.1 (
CALL P [(T_int .i64)] n_zone_Zones_Stamp [(.pointer x1.1)] H11 fun (x9 : Int × Unit) H12 =>
j2 ((x9.1 == 2, ()), (())) H12) (
j2 ((false, ()), (())) H11)) (
j2 ((false, ()), (())) H8)) (
j2 ((false, ()), (())) H7)) (
j2 ((false, ()), (())) H3)) (
j2 ((false, ()), (())) H3)) fun (y3 : (Bool × Unit) × (Unit)) H4 =>
Q (y3.1.1, ()) H4
def h_law17_lives : Hnt := (.seq .leaf (.seq .leaf (.seq (.reg ⟨[(0, T_bool)], [], [9, 10, 11, 12, 13, 14, 15, 16, 17, 18, 19, 20, 21, 22, 23, 24, 25, 26, 27, 28, 29, 30, 31, 32, 33, 34, 35, 36]⟩) .leaf)))
theorem e_law17_lives  (H : Heap) (Q : Bool × Unit → Heap → Prop) : S_law17_lives  H Q = cFn C [] Try.f4.ntmps Try.f4.results.toList [T_bool] (bodyOf Try.f4) h_law17_lives [] H Q := by kernel_rfl
theorem c_law17_lives {H : Heap} {Q : Bool × Unit → Heap → Prop} (h : S_law17_lives H Q) : CALL P [T_bool] n_law17_lives [] H Q := call_print hE Try.func4 rfl (by kernel_rfl) (e_law17_lives H Q) h

def S_zone_New (a0 : Sl) (a1 : Sl) (H : Heap) (Q : (Option Addr) × Int × Unit → Heap → Prop) : Prop :=
JOIN (fun (j1 : (Bool × Unit) × (Unit) → Heap → Prop) =>
ifB (decide ((a0.len : Int) > 2048)) (
j1 ((true, ()), (())) H) (
ifB (decide ((a1.len : Int) > 2048)) (
j1 ((true, ()), (())) H) (
j1 ((decide ((IntKind.wrap .i64 ((a0.len : Int) + (a1.len : Int))) > 2048), ()), (())) H))) fun (y2 : (Bool × Unit) × (Unit)) H1 =>
ifB y2.1.1 (
Q (none, 3, ()) H1) (
NEW H1 [(.slice none 0 0), (.slice none 0 0), (.slice none 0 0), (.slice none 0 0), (.slice none 0 0), (.int .i64 1)] 6 fun H2 =>
JOIN (fun (j3 : (Unit) × (Unit) → Heap → Prop) =>
LOOP (fun (r5 : (Int × Unit) × (Unit) → Heap → Prop) (s6 : (Int × Unit) × (Unit)) H4 =>
ifB (decide (s6.1.1 < 2)) (
JOIN (fun (j7 : (Unit) × (Unit) → Heap → Prop) =>
GENV T_sl (aIndex E 30 (.agg #[(.slice a0.p a0.len a0.cap), (.slice a1.p a1.len a1.cap)]) (.int .i64 s6.1.1)) fun (x9 : Sl) =>
JOIN (fun (j10 : (Unit) × (Unit) → Heap → Prop) =>
LOOP (fun (r12 : (Int × Unit) × (Unit) → Heap → Prop) (s13 : (Int × Unit) × (Unit)) H7 =>
ifB (decide (s13.1.1 < (x9.len : Int))) (
IDX x9.p x9.len s13.1.1 1 fun b14 o15 =>
LD (T_int .i64) H7 b14 o15 fun (x16 : Int) =>
ifB (decide (x16 < 1)) (
Q (none, 2, ()) H7) (
LD T_sl H7 H1.length 0 fun (x17 : Sl) =>
APP T_sl (lenV x17.v + 1) (aAppE E [29, 29] x17.v 1 [(.int .i64 x16), (.int .i64 s6.1.1), (.int .u8 1), (.int .i64 0), (.int .i64 0), (.int .i64 0), (.int .i64 0), (.int .i64 0), (.int .i64 0), (.int .i64 0), (.bool false)] H7) fun (x18 : Sl) H8 =>
ST H8 H1.length 0 [(.slice x18.p x18.len x18.cap)] fun H9 =>
IDXA 2 s6.1.1 (
LD T_sl H9 H1.length (1 + s6.1.1.toNat * 1) fun (x19 : Sl) =>
LD T_sl H9 H1.length 0 fun (x20 : Sl) =>
LD T_sl H9 H1.length (1 + s6.1.1.toNat * 1) fun (x21 : Sl) =>
REQ (T_sl.enc x21 = x19.v) (
APP T_sl (lenV x19.v + 1) (aAppE E [22, 22] x19.v 1 [(.int .i64 (x20.len : Int))] H9) fun (x22 : Sl) H10 =>
IDXA 2 s6.1.1 (
ST H10 H1.length (1 + s6.1.1.toNat * 1) [(.slice x22.p x22.len x22.cap)] fun H11 =>
r12 ((IntKind.wrap .i64 (s13.1.1 + 1), ()), (())) H11))))) (
j10 ((()), (())) H7)) ((0, ()), (())) H4) fun (y11 : (Unit) × (Unit)) H6 =>
j7 ((()), (())) H6) fun (y8 : (Unit) × (Unit)) H5 =>
r5 ((IntKind.wrap .i64 (s6.1.1 + 1), ()), (())) H5) (
j3 ((()), (())) H4)) ((0, ()), (())) H2) fun (y4 : (Unit) × (Unit)) H3 =>
Q ((some ⟨H1.length, 0, none⟩), 0, ()) H3)
def h_zone_New : Hnt := (.seq .leaf (.seq (.seq (.reg ⟨[(26, T_bool)], [], [11, 12, 13, 14, 15, 16, 17, 18, 19, 20, 21, 22, 23, 24, 25]⟩) .leaf) (.seq .leaf (.seq (.seq .leaf (.blk (some ⟨[], [], [4, 5, 7, 8, 10, 32, 33, 34, 35, 36, 37, 38, 39, 40, 41, 42, 43, 44, 45, 46, 47, 48, 49, 50, 51, 52, 53, 54, 55, 56, 57, 58, 59, 60, 61, 62, 63, 64, 65, 66, 67, 68, 69, 70, 71, 72, 73, 74, 75]⟩) (.loop ⟨[(32, (T_int .i64))], [], [4, 5, 7, 8, 10, 33, 34, 35, 36, 37, 38, 39, 40, 41, 42, 43, 44, 45, 46, 47, 48, 49, 50, 51, 52, 53, 54, 55, 56, 57, 58, 59, 60, 61, 62, 63, 64, 65, 66, 67, 68, 69, 70, 71, 72, 73, 74, 75]⟩ (.seq .leaf (.seq .leaf (.seq (.blk (some ⟨[], [], [4, 5, 7, 8, 10, 34, 35, 36, 37, 38, 39, 40, 41, 42, 43, 44, 45, 46, 47, 48, 49, 50, 51, 52, 53, 54, 55, 56, 57, 58, 59, 60, 61, 62, 63, 64, 65, 66, 67, 68, 69, 70, 71, 72, 73, 74]⟩) (.seq .leaf (.seq .leaf (.blk (some ⟨[], [], [4, 5, 10, 38, 39, 40, 41, 42, 43, 44, 45, 46, 47, 48, 49, 50, 51, 52, 53, 54, 55, 56, 57, 58, 59, 60, 61, 62, 63, 64, 65, 66, 67, 68, 69, 70, 71, 72, 73, 74]⟩) (.loop ⟨[(38, (T_int .i64))], [], [4, 5, 10, 39, 40, 41, 42, 43, 44, 45, 46, 47, 48, 49, 50, 51, 52, 53, 54, 55, 56, 57, 58, 59, 60, 61, 62, 63, 64, 65, 66, 67, 68, 69, 70, 71, 72, 73, 74]⟩ .leaf))))) .leaf)))))) .leaf))))
theorem e_zone_New (a0 : Sl) (a1 : Sl) (H : Heap) (Q : (Option Addr) × Int × Unit → Heap → Prop) : S_zone_New a0 a1 H Q = cFn C [52, 69] Try.f5.ntmps Try.f5.results.toList [T_ptr, (T_int .i64)] (bodyOf Try.f5) h_zone_New [a0.v, a1.v] H Q := by kernel_rfl
theorem c_zone_New {a0 : Sl} {a1 : Sl} {H : Heap} {Q : (Option Addr) × Int × Unit → Heap → Prop} (h : S_zone_New a0 a1 H Q) : CALL P [T_ptr, (T_int .i64)] n_zone_New [a0.v, a1.v] H Q := call_print hE Try.func5 rfl (by kernel_rfl) (e_zone_New a0 a1 H Q) h

def S_law17_whole (a0 : Option Addr) (H : Heap) (Q : G_law17_World × Unit → Heap → Prop) : Prop :=
CALL P [T_sl] n_zone_Zones_Things [(.pointer a0)] H fun (x1 : Sl × Unit) H1 =>
CALL P [(T_int .i64)] n_zone_Zones_Stamp [(.pointer a0)] H1 fun (x2 : Int × Unit) H2 =>
NEW H2 [(.slice none 0 0), (.slice none 0 0), (.slice none 0 0), (.slice none 0 0), (.slice none 0 0), (.int .i64 0)] 6 fun H3 =>
ST H3 H2.length 0 [(.slice x1.1.p x1.1.len x1.1.cap), (.slice none 0 0), (.slice none 0 0), (.slice none 0 0), (.slice none 0 0), (.int .i64 x2.1)] fun H4 =>
JOIN (fun (j3 : (Unit) × (Unit) → Heap → Prop) =>
LOOP (fun (r5 : (Int × Unit) × (Unit) → Heap → Prop) (s6 : (Int × Unit) × (Unit)) H6 =>
ifB (decide (s6.1.1 < 2)) (
CALL P [T_sl] n_zone_Zones_Deck [(.pointer a0), (.int .i64 s6.1.1)] H6 fun (x7 : Sl × Unit) H7 =>
IDXA 2 s6.1.1 (
CALL P [T_sl] n_zone_Zones_Hand [(.pointer a0), (.int .i64 s6.1.1)] H7 fun (x8 : Sl × Unit) H8 =>
ST H8 H2.length (1 + s6.1.1.toNat * 1) [(.slice x7.1.p x7.1.len x7.1.cap)] fun H9 =>
IDXA 2 s6.1.1 (
ST H9 H2.length (3 + s6.1.1.toNat * 1) [(.slice x8.1.p x8.1.len x8.1.cap)] fun H10 =>
r5 ((IntKind.wrap .i64 (s6.1.1 + 1), ()), (())) H10))) (
j3 ((()), (())) H6)) ((0, ()), (())) H4) fun (y4 : (Unit) × (Unit)) H5 =>
LD T_G_law17_World H5 H2.length 0 fun (x9 : G_law17_World) =>
Q (x9, ()) H5
def h_law17_whole : Hnt := (.seq .leaf (.seq .leaf (.seq (.seq .leaf (.blk (some ⟨[], [], [4, 10, 11, 12, 13, 14, 15, 16, 17, 18, 19, 20, 21, 22, 23, 24, 25]⟩) (.loop ⟨[(4, (T_int .i64))], [], [10, 11, 12, 13, 14, 15, 16, 17, 18, 19, 20, 21, 22, 23, 24, 25]⟩ .leaf))) .leaf)))
theorem e_law17_whole (a0 : Option Addr) (H : Heap) (Q : G_law17_World × Unit → Heap → Prop) : S_law17_whole a0 H Q = cFn C [2] Try.f6.ntmps Try.f6.results.toList [T_G_law17_World] (bodyOf Try.f6) h_law17_whole [(.pointer a0)] H Q := by kernel_rfl
theorem c_law17_whole {a0 : Option Addr} {H : Heap} {Q : G_law17_World × Unit → Heap → Prop} (h : S_law17_whole a0 H Q) : CALL P [T_G_law17_World] n_law17_whole [(.pointer a0)] H Q := call_print hE Try.func6 rfl (by kernel_rfl) (e_law17_whole a0 H Q) h

def S_law17_do (a0 : Option Addr) (a1 : G_law17_Op) (H : Heap) (Q : Bool × Unit → Heap → Prop) : Prop :=
ifB (a1.Call == 0) (
CALL P [(T_int .i64)] n_zone_Zones_Move [(.pointer a0), (.int .i64 a1.N), (.int .u8 a1.To)] H fun (x1 : Int × Unit) H1 =>
Q (x1.1 == 0, ()) H1) (
ifB (a1.Call == 1) (
CALL P [(T_int .i64), (T_int .i64)] n_zone_Zones_Make [(.pointer a0), (.int .i64 a1.N), (.int .i64 a1.Owner)] H fun (x2 : Int × Int × Unit) H2 =>
Q (x2.2.1 == 0, ()) H2) (
ifB (a1.Call == 2) (
CALL P [(T_int .i64)] n_zone_Zones_Write [(.pointer a0), (.int .i64 a1.N), (T_G_api_Thing.enc a1.T)] H fun (x3 : Int × Unit) H3 =>
Q (x3.1 == 0, ()) H3) (
ifB (a1.Call == 3) (
CALL P [(T_int .i64)] n_zone_Zones_Arrange [(.pointer a0), (.int .i64 a1.Owner), a1.L.v] H fun (x4 : Int × Unit) H4 =>
Q (x4.1 == 0, ()) H4) (
Q (false, ()) H))))
def h_law17_do : Hnt := .leaf
theorem e_law17_do (a0 : Option Addr) (a1 : G_law17_Op) (H : Heap) (Q : Bool × Unit → Heap → Prop) : S_law17_do a0 a1 H Q = cFn C [3] Try.f7.ntmps Try.f7.results.toList [T_bool] (bodyOf Try.f7) h_law17_do [(.pointer a0), (T_G_law17_Op.enc a1)] H Q := by kernel_rfl
theorem c_law17_do {a0 : Option Addr} {a1 : G_law17_Op} {H : Heap} {Q : Bool × Unit → Heap → Prop} (h : S_law17_do a0 a1 H Q) : CALL P [T_bool] n_law17_do [(.pointer a0), (T_G_law17_Op.enc a1)] H Q := call_print hE Try.func7 rfl (by kernel_rfl) (e_law17_do a0 a1 H Q) h

def S_law17_placed (a0 : Option Addr) (H : Heap) (Q : Bool × Unit → Heap → Prop) : Prop :=
CALL P [T_sl] n_zone_Zones_Table [(.pointer a0)] H fun (x1 : Sl × Unit) H1 =>
NEW H1 [(.int .i64 0), (.int .i64 0)] 2 fun H2 =>
ST H2 H1.length 0 [(.int .i64 0), (.int .i64 0)] fun H3 =>
JOIN (fun (j2 : (Unit) × (Unit) → Heap → Prop) =>
LOOP (fun (r4 : (Int × Int × Unit) × (Unit) → Heap → Prop) (s5 : (Int × Int × Unit) × (Unit)) H5 =>
ifB (decide (s5.1.2.1 < (x1.1.len : Int))) (
IDX x1.1.p x1.1.len s5.1.2.1 1 fun b6 o7 =>
LD (T_int .i64) H5 b6 o7 fun (x8 : Int) =>
CALL P [T_G_api_Thing, (T_int .i64)] n_zone_Zones_Thing [(.pointer a0), (.int .i64 x8)] H5 fun (x9 : G_api_Thing × Int × Unit) H6 =>
JOIN (fun (j10 : (Bool × Unit) × (Unit) → Heap → Prop) =>
ifB (x9.2.1 != 0) (
j10 ((true, ()), (())) H6) (
ifB (x9.1.Place != 4) (
j10 ((true, ()), (())) H6) (
ifB (decide (x9.1.Stamp ≤ s5.1.1)) (
j10 ((true, ()), (())) H6) (
CALL P [(T_int .i64)] n_zone_Zones_Stamp [(.pointer a0)] H6 fun (x12 : Int × Unit) H8 =>
REQ ((some (.int .i64 x9.1.Stamp) : Option Value) = some (.int .i64 x9.1.Stamp)) (
j10 ((decide (x9.1.Stamp ≥ x12.1), ()), (())) H8))))) fun (y11 : (Bool × Unit) × (Unit)) H7 =>
ifB y11.1.1 (
Q (false, ()) H7) (
IDXA 2 x9.1.Owner (
LD (T_int .i64) H7 H1.length (0 + x9.1.Owner.toNat * 1) fun (x13 : Int) =>
IDXA 2 x9.1.Owner (
ST H7 H1.length (0 + x9.1.Owner.toNat * 1) [(.int .i64 (IntKind.wrap .i64 (x13 + 1)))] fun H9 =>
r4 ((x9.1.Stamp, IntKind.wrap .i64 (s5.1.2.1 + 1), ()), (())) H9)))) (
j2 ((()), (())) H5)) ((0, 0, ()), (())) H3) fun (y3 : (Unit) × (Unit)) H4 =>
JOIN (fun (j14 : (Unit) × (Unit) → Heap → Prop) =>
LOOP (fun (r16 : (Int × Unit) × (Unit) → Heap → Prop) (s17 : (Int × Unit) × (Unit)) H11 =>
CALL P [(T_int .i64)] n_zone_Zones_Len [(.pointer a0)] H11 fun (x18 : Int × Unit) H12 =>
ifB (decide (s17.1.1 ≤ x18.1)) (
CALL P [T_G_api_Thing, (T_int .i64)] n_zone_Zones_Thing [(.pointer a0), (.int .i64 s17.1.1)] H12 fun (x19 : G_api_Thing × Int × Unit) H13 =>
JOIN (fun (j20 : (Bool × Unit) × (Unit) → Heap → Prop) =>
ifB (x19.2.1 != 0) (
j20 ((true, ()), (())) H13) (
ifB (decide (x19.1.Owner < 0)) (
j20 ((true, ()), (())) H13) (
j20 ((decide (x19.1.Owner > 1), ()), (())) H13))) fun (y21 : (Bool × Unit) × (Unit)) H14 =>
ifB y21.1.1 (
Q (false, ()) H14) (
CALL P [T_sl] n_zone_Zones_Deck [(.pointer a0), (.int .i64 x19.1.Owner)] H14 fun (x22 : Sl × Unit) H15 =>
REQ ((some (.int .i64 x19.1.Owner) : Option Value) = some (.int .i64 x19.1.Owner)) (
REQ ((some (.int .i64 x19.1.Owner) : Option Value) = some (.int .i64 x19.1.Owner)) (
REQ ((some (.int .i64 x19.1.Owner) : Option Value) = some (.int .i64 x19.1.Owner)) (
NEW H15 [(.slice x22.1.p x22.1.len x22.1.cap)] 1 fun H16 =>
REQ ((some (.int .i64 x19.1.Owner) : Option Value) = some (.int .i64 x19.1.Owner)) (
REQ ((some (.int .i64 x19.1.Owner) : Option Value) = some (.int .i64 x19.1.Owner)) (
REQ ((some (.int .i64 x19.1.Owner) : Option Value) = some (.int .i64 x19.1.Owner)) (
CALL P [(T_int .i64)] n_law17_count [(.int .i64 s17.1.1), ((Sl.mk (some ⟨H15.length, 0, none⟩) 1 1)).v] H16 fun (x23 : Int × Unit) H17 =>
REQ ((some (.int .i64 x19.1.Owner) : Option Value) = some (.int .i64 x19.1.Owner)) (
REQ ((some (.int .i64 x19.1.Owner) : Option Value) = some (.int .i64 x19.1.Owner)) (
REQ ((some (.int .i64 x19.1.Owner) : Option Value) = some (.int .i64 x19.1.Owner)) (
CALL P [T_sl] n_zone_Zones_Hand [(.pointer a0), (.int .i64 x19.1.Owner)] H17 fun (x24 : Sl × Unit) H18 =>
REQ ((some (.int .i64 x19.1.Owner) : Option Value) = some (.int .i64 x19.1.Owner)) (
REQ ((some (.int .i64 x19.1.Owner) : Option Value) = some (.int .i64 x19.1.Owner)) (
NEW H18 [(.slice x24.1.p x24.1.len x24.1.cap)] 1 fun H19 =>
REQ ((some (.int .i64 x19.1.Owner) : Option Value) = some (.int .i64 x19.1.Owner)) (
REQ ((some (.int .i64 x19.1.Owner) : Option Value) = some (.int .i64 x19.1.Owner)) (
CALL P [(T_int .i64)] n_law17_count [(.int .i64 s17.1.1), ((Sl.mk (some ⟨H18.length, 0, none⟩) 1 1)).v] H19 fun (x25 : Int × Unit) H20 =>
REQ ((some (.int .i64 x19.1.Owner) : Option Value) = some (.int .i64 x19.1.Owner)) (
REQ ((some (.int .i64 x19.1.Owner) : Option Value) = some (.int .i64 x19.1.Owner)) (
CALL P [T_sl] n_zone_Zones_Deck [(.pointer a0), (.int .i64 (IntKind.wrap .i64 (1 - x19.1.Owner)))] H20 fun (x26 : Sl × Unit) H21 =>
REQ ((some (.int .i64 x19.1.Owner) : Option Value) = some (.int .i64 x19.1.Owner)) (
CALL P [T_sl] n_zone_Zones_Hand [(.pointer a0), (.int .i64 (IntKind.wrap .i64 (1 - x19.1.Owner)))] H21 fun (x27 : Sl × Unit) H22 =>
NEW H22 [(.slice x26.1.p x26.1.len x26.1.cap), (.slice x27.1.p x27.1.len x27.1.cap)] 1 fun H23 =>
CALL P [(T_int .i64)] n_law17_count [(.int .i64 s17.1.1), ((Sl.mk (some ⟨H22.length, 0, none⟩) 2 2)).v] H23 fun (x28 : Int × Unit) H24 =>
JOIN (fun (j29 : (Bool × Unit) × (Unit) → Heap → Prop) =>
ifB (x28.1 != 0) (
j29 ((true, ()), (())) H24) (
ifB (!((x23.1 == 1) == (x19.1.Place == 1))) (
j29 ((true, ()), (())) H24) (
ifB (!((x25.1 == 1) == (x19.1.Place == 2))) (
j29 ((true, ()), (())) H24) (
NEW H24 [(.slice x1.1.p x1.1.len x1.1.cap)] 1 fun H26 =>
REQ ((some (.int .u8 x19.1.Place) : Option Value) = some (.int .u8 x19.1.Place)) (
CALL P [(T_int .i64)] n_law17_count [(.int .i64 s17.1.1), ((Sl.mk (some ⟨H24.length, 0, none⟩) 1 1)).v] H26 fun (x31 : Int × Unit) H27 =>
REQ ((some (.int .u8 x19.1.Place) : Option Value) = some (.int .u8 x19.1.Place)) (
ifB (!((x31.1 == 1) == (x19.1.Place == 4))) (
j29 ((true, ()), (())) H27) (
NEW H27 [(.slice x1.1.p x1.1.len x1.1.cap)] 1 fun H28 =>
CALL P [(T_int .i64)] n_law17_count [(.int .i64 s17.1.1), ((Sl.mk (some ⟨H27.length, 0, none⟩) 1 1)).v] H28 fun (x32 : Int × Unit) H29 =>
j29 ((decide ((IntKind.wrap .i64 ((IntKind.wrap .i64 (x23.1 + x25.1)) + x32.1)) > 1), ()), (())) H29))))))) fun (y30 : (Bool × Unit) × (Unit)) H25 =>
ifB y30.1.1 (
Q (false, ()) H25) (
JOIN (fun (j33 : (Bool × Unit) × (Unit) → Heap → Prop) =>
ifB (x19.1.Place != 4) (
j33 ((!((x19.1.Card == x19.1.Card) && ((x19.1.Owner == x19.1.Owner) && ((x19.1.Place == x19.1.Place) && ((x19.1.Stamp == 0) && ((x19.1.Hurt == 0) && (((x19.1.Marks.1 == 0) && ((x19.1.Marks.2.1 == 0) && ((x19.1.Marks.2.2.1 == 0) && ((x19.1.Marks.2.2.2 == 0) && true)))) && ((x19.1.Done == 0) && ((x19.1.Fresh == false) && true)))))))), ()), (())) H25) (
j33 ((false, ()), (())) H25)) fun (y34 : (Bool × Unit) × (Unit)) H30 =>
ifB y34.1.1 (
Q (false, ()) H30) (
r16 ((IntKind.wrap .i64 (s17.1.1 + 1), ()), (())) H30)))))))))))))))))))) (
j14 ((()), (())) H12)) ((1, ()), (())) H4) fun (y15 : (Unit) × (Unit)) H10 =>
JOIN (fun (j35 : (Bool × Unit) × (Unit) → Heap → Prop) =>
CALL P [T_sl] n_zone_Zones_Hand [(.pointer a0), (.int .i64 0)] H10 fun (x37 : Sl × Unit) H32 =>
ifB (decide ((x37.1.len : Int) ≤ 10)) (
CALL P [T_sl] n_zone_Zones_Hand [(.pointer a0), (.int .i64 1)] H32 fun (x38 : Sl × Unit) H33 =>
ifB (decide ((x38.1.len : Int) ≤ 10)) (
IDXA 2 0 (
LD (T_int .i64) H33 H1.length (0 + (0 : Int).toNat * 1) fun (x39 : Int) =>
ifB (decide (x39 ≤ 8)) (
IDXA 2 1 (
LD (T_int .i64) H33 H1.length (0 + (1 : Int).toNat * 1) fun (x40 : Int) =>
j35 ((decide (x40 ≤ 8), ()), (())) H33)) (
j35 ((false, ()), (())) H33))) (
j35 ((false, ()), (())) H33)) (
j35 ((false, ()), (())) H32)) fun (y36 : (Bool × Unit) × (Unit)) H31 =>
Q (y36.1.1, ()) H31
def h_law17_placed : Hnt := (.seq .leaf (.seq .leaf (.seq .leaf (.seq .leaf (.seq (.seq .leaf (.blk (some ⟨[], [], [2, 5, 6, 7, 8, 18, 19, 20, 21, 22, 23, 24, 25, 26, 27, 28, 29, 30, 31, 32, 33, 34, 35, 36, 37, 38, 39, 40, 41, 42, 43, 44, 45, 46, 47, 48, 49, 50, 51, 52, 53, 54, 55, 56, 57, 58, 59, 60]⟩) (.loop ⟨[(5, (T_int .i64)), (6, (T_int .i64))], [], [2, 7, 8, 18, 19, 20, 21, 22, 23, 24, 25, 26, 27, 28, 29, 30, 31, 32, 33, 34, 35, 36, 37, 38, 39, 40, 41, 42, 43, 44, 45, 46, 47, 48, 49, 50, 51, 52, 53, 54, 55, 56, 57, 58, 59, 60]⟩ (.seq .leaf (.seq (.blk none (.seq .leaf (.seq (.seq (.reg ⟨[(52, T_bool)], [], [33, 34, 35, 36, 37, 38, 39, 40, 41, 42, 43, 44, 45, 46, 47, 48, 49, 50, 51]⟩) .leaf) .leaf))) .leaf))))) (.seq (.seq .leaf (.blk (some ⟨[], [], [2, 9, 10, 11, 12, 13, 14, 61, 62, 63, 64, 65, 66, 67, 68, 69, 70, 71, 72, 73, 74, 75, 76, 77, 78, 79, 80, 81, 82, 83, 84, 85, 86, 87, 88, 89, 90, 91, 92, 93, 94, 95, 96, 97, 98, 99, 100, 101, 102, 103, 104, 105, 106, 107, 108, 109, 110, 111, 112, 113, 114, 115, 116, 117, 118, 119, 120, 121, 122, 123, 124, 125, 126, 127, 128, 129, 130, 131, 132, 133, 134, 135, 136, 137, 138, 139, 140, 141, 142, 143, 144, 145, 146, 147, 148, 149, 150, 151, 152, 153, 154, 155, 156, 157, 158, 159, 160, 161, 162, 163, 164, 165]⟩) (.loop ⟨[(9, (T_int .i64))], [], [2, 10, 11, 12, 13, 14, 61, 62, 63, 64, 65, 66, 67, 68, 69, 70, 71, 72, 73, 74, 75, 76, 77, 78, 79, 80, 81, 82, 83, 84, 85, 86, 87, 88, 89, 90, 91, 92, 93, 94, 95, 96, 97, 98, 99, 100, 101, 102, 103, 104, 105, 106, 107, 108, 109, 110, 111, 112, 113, 114, 115, 116, 117, 118, 119, 120, 121, 122, 123, 124, 125, 126, 127, 128, 129, 130, 131, 132, 133, 134, 135, 136, 137, 138, 139, 140, 141, 142, 143, 144, 145, 146, 147, 148, 149, 150, 151, 152, 153, 154, 155, 156, 157, 158, 159, 160, 161, 162, 163, 164, 165]⟩ (.seq .leaf (.seq (.blk none (.seq .leaf (.seq (.seq (.reg ⟨[(84, T_bool)], [], [73, 74, 75, 76, 77, 78, 79, 80, 81, 82, 83]⟩) .leaf) (.seq .leaf (.seq (.seq (.reg ⟨[(151, T_bool)], [], [112, 113, 114, 115, 116, 117, 118, 119, 120, 121, 122, 123, 124, 125, 126, 127, 128, 129, 130, 131, 132, 133, 134, 135, 136, 137, 138, 139, 140, 141, 142, 143, 144, 145, 146, 147, 148, 149, 150]⟩) .leaf) (.seq (.reg ⟨[(165, T_bool)], [], [152, 153, 154, 155, 156, 157, 158, 159, 160, 161, 162, 163, 164]⟩) .leaf)))))) .leaf))))) (.seq (.reg ⟨[(2, T_bool)], [], [166, 167, 168, 169, 170, 171, 172, 173, 174, 175, 176, 177, 178, 179, 180, 181, 182, 183, 184, 185]⟩) .leaf)))))))
theorem e_law17_placed (a0 : Option Addr) (H : Heap) (Q : Bool × Unit → Heap → Prop) : S_law17_placed a0 H Q = cFn C [7, 10] Try.f8.ntmps Try.f8.results.toList [T_bool] (bodyOf Try.f8) h_law17_placed [(.pointer a0)] H Q := by kernel_rfl
theorem c_law17_placed {a0 : Option Addr} {H : Heap} {Q : Bool × Unit → Heap → Prop} (h : S_law17_placed a0 H Q) : CALL P [T_bool] n_law17_placed [(.pointer a0)] H Q := call_print hE Try.func8 rfl (by kernel_rfl) (e_law17_placed a0 H Q) h

def S_law17_sameWorld (a0 : G_law17_World) (a1 : G_law17_World) (H : Heap) (Q : Bool × Unit → Heap → Prop) : Prop :=
NEW H [(.slice a0.Things.p a0.Things.len a0.Things.cap), (.slice a0.Decks.1.p a0.Decks.1.len a0.Decks.1.cap), (.slice a0.Decks.2.p a0.Decks.2.len a0.Decks.2.cap), (.slice a0.Hands.1.p a0.Hands.1.len a0.Hands.1.cap), (.slice a0.Hands.2.p a0.Hands.2.len a0.Hands.2.cap), (.int .i64 a0.Stamp)] 6 fun H1 =>
NEW H1 [(.slice a1.Things.p a1.Things.len a1.Things.cap), (.slice a1.Decks.1.p a1.Decks.1.len a1.Decks.1.cap), (.slice a1.Decks.2.p a1.Decks.2.len a1.Decks.2.cap), (.slice a1.Hands.1.p a1.Hands.1.len a1.Hands.1.cap), (.slice a1.Hands.2.p a1.Hands.2.len a1.Hands.2.cap), (.int .i64 a1.Stamp)] 6 fun H2 =>
JOIN (fun (j1 : (Bool × Unit) × (Unit) → Heap → Prop) =>
LD T_sl H2 H.length 0 fun (x3 : Sl) =>
LD T_sl H2 H1.length 0 fun (x4 : Sl) =>
CALL P [T_bool] n_kit_SameThings [x3.v, x4.v] H2 fun (x5 : Bool × Unit) H4 =>
ifB (!x5.1) (
j1 ((true, ()), (())) H4) (
LD (T_int .i64) H4 H.length 5 fun (x6 : Int) =>
LD (T_int .i64) H4 H1.length 5 fun (x7 : Int) =>
j1 ((x6 != x7, ()), (())) H4)) fun (y2 : (Bool × Unit) × (Unit)) H3 =>
ifB y2.1.1 (
Q (false, ()) H3) (
JOIN (fun (j8 : (Unit) × (Unit) → Heap → Prop) =>
LOOP (fun (r10 : (Int × Unit) × (Unit) → Heap → Prop) (s11 : (Int × Unit) × (Unit)) H6 =>
ifB (decide (s11.1.1 < 2)) (
JOIN (fun (j12 : (Bool × Unit) × (Unit) → Heap → Prop) =>
IDXA 2 s11.1.1 (
LD T_sl H6 H.length (1 + s11.1.1.toNat * 1) fun (x14 : Sl) =>
IDXA 2 s11.1.1 (
LD T_sl H6 H1.length (1 + s11.1.1.toNat * 1) fun (x15 : Sl) =>
CALL P [T_bool] n_kit_SameInts [x14.v, x15.v] H6 fun (x16 : Bool × Unit) H8 =>
ifB (!x16.1) (
j12 ((true, ()), (())) H8) (
IDXA 2 s11.1.1 (
LD T_sl H8 H.length (3 + s11.1.1.toNat * 1) fun (x17 : Sl) =>
IDXA 2 s11.1.1 (
LD T_sl H8 H1.length (3 + s11.1.1.toNat * 1) fun (x18 : Sl) =>
CALL P [T_bool] n_kit_SameInts [x17.v, x18.v] H8 fun (x19 : Bool × Unit) H9 =>
j12 ((!x19.1, ()), (())) H9)))))) fun (y13 : (Bool × Unit) × (Unit)) H7 =>
ifB y13.1.1 (
Q (false, ()) H7) (
r10 ((IntKind.wrap .i64 (s11.1.1 + 1), ()), (())) H7)) (
j8 ((()), (())) H6)) ((0, ()), (())) H3) fun (y9 : (Unit) × (Unit)) H5 =>
Q (true, ()) H5)
def h_law17_sameWorld : Hnt := (.seq .leaf (.seq (.seq (.reg ⟨[(18, T_bool)], [], [6, 7, 8, 9, 10, 11, 12, 13, 14, 15, 16, 17]⟩) .leaf) (.seq (.seq .leaf (.blk (some ⟨[], [], [4, 5, 19, 20, 21, 22, 23, 24, 25, 26, 27, 28, 29, 30, 31, 32, 33, 34, 35, 36, 37, 38, 39, 40, 41, 42, 43, 44]⟩) (.loop ⟨[(5, (T_int .i64))], [], [4, 19, 20, 21, 22, 23, 24, 25, 26, 27, 28, 29, 30, 31, 32, 33, 34, 35, 36, 37, 38, 39, 40, 41, 42, 43, 44]⟩ (.seq .leaf (.seq (.blk none (.seq (.reg ⟨[(44, T_bool)], [], [23, 24, 25, 26, 27, 28, 29, 30, 31, 32, 33, 34, 35, 36, 37, 38, 39, 40, 41, 42, 43]⟩) .leaf)) .leaf))))) .leaf)))
theorem e_law17_sameWorld (a0 : G_law17_World) (a1 : G_law17_World) (H : Heap) (Q : Bool × Unit → Heap → Prop) : S_law17_sameWorld a0 a1 H Q = cFn C [] Try.f9.ntmps Try.f9.results.toList [T_bool] (bodyOf Try.f9) h_law17_sameWorld [(T_G_law17_World.enc a0), (T_G_law17_World.enc a1)] H Q := by kernel_rfl
theorem c_law17_sameWorld {a0 : G_law17_World} {a1 : G_law17_World} {H : Heap} {Q : Bool × Unit → Heap → Prop} (h : S_law17_sameWorld a0 a1 H Q) : CALL P [T_bool] n_law17_sameWorld [(T_G_law17_World.enc a0), (T_G_law17_World.enc a1)] H Q := call_print hE Try.func9 rfl (by kernel_rfl) (e_law17_sameWorld a0 a1 H Q) h

def S_zone_From (a0 : Sl) (a1 : Sl × Sl) (a2 : Sl × Sl) (a3 : Int) (H : Heap) (Q : (Option Addr) × Int × Unit → Heap → Prop) : Prop :=
NEW H [(.slice a1.1.p a1.1.len a1.1.cap), (.slice a1.2.p a1.2.len a1.2.cap)] 2 fun H1 =>
NEW H1 [(.slice a2.1.p a2.1.len a2.1.cap), (.slice a2.2.p a2.2.len a2.2.cap)] 2 fun H2 =>
JOIN (fun (j1 : (Bool × Unit) × (Unit) → Heap → Prop) =>
LOOP (fun (r3 : (Bool × Int × Unit) × (Unit) → Heap → Prop) (s4 : (Bool × Int × Unit) × (Unit)) H4 =>
ifB (decide (s4.1.2.1 < 2)) (
JOIN (fun (j5 : (Bool × Unit) × (Unit) → Heap → Prop) =>
ifB s4.1.1 (
j5 ((true, ()), (())) H4) (
IDXA 2 s4.1.2.1 (
LD T_sl H4 H.length (0 + s4.1.2.1.toNat * 1) fun (x7 : Sl) =>
ifB (decide ((x7.len : Int) > 2048)) (
j5 ((true, ()), (())) H4) (
IDXA 2 s4.1.2.1 (
LD T_sl H4 H1.length (0 + s4.1.2.1.toNat * 1) fun (x8 : Sl) =>
j5 ((decide ((x8.len : Int) > 2048), ()), (())) H4))))) fun (y6 : (Bool × Unit) × (Unit)) H5 =>
r3 ((y6.1.1, IntKind.wrap .i64 (s4.1.2.1 + 1), ()), (())) H5) (
j1 ((s4.1.1, ()), (())) H4)) ((decide ((a0.len : Int) > 2048), 0, ()), (())) H2) fun (y2 : (Bool × Unit) × (Unit)) H3 =>
ifB y2.1.1 (
Q (none, 3, ()) H3) (
CALL P [T_sl] n_slices_Clone_api_Thing_api_Thing [a0.v] H3 fun (x9 : Sl × Unit) H6 =>
NEW H6 [(.slice x9.1.p x9.1.len x9.1.cap), (.slice none 0 0), (.slice none 0 0), (.slice none 0 0), (.slice none 0 0), (.int .i64 a3)] 6 fun H7 =>
JOIN (fun (j10 : (Unit) × (Unit) → Heap → Prop) =>
LOOP (fun (r12 : (Int × Unit) × (Unit) → Heap → Prop) (s13 : (Int × Unit) × (Unit)) H9 =>
ifB (decide (s13.1.1 < 2)) (
IDXA 2 s13.1.1 (
LD T_sl H9 H.length (0 + s13.1.1.toNat * 1) fun (x14 : Sl) =>
IDXA 2 s13.1.1 (
LD T_sl H9 H1.length (0 + s13.1.1.toNat * 1) fun (x15 : Sl) =>
CALL P [T_sl] n_slices_Clone_int_int [x14.v] H9 fun (x16 : Sl × Unit) H10 =>
LD T_sl H10 H1.length (0 + s13.1.1.toNat * 1) fun (x17 : Sl) =>
REQ (T_sl.enc x17 = x15.v) (
CALL P [T_sl] n_slices_Clone_int_int [x15.v] H10 fun (x18 : Sl × Unit) H11 =>
IDXA 2 s13.1.1 (
ST H11 H6.length (1 + s13.1.1.toNat * 1) [(.slice x16.1.p x16.1.len x16.1.cap)] fun H12 =>
IDXA 2 s13.1.1 (
ST H12 H6.length (3 + s13.1.1.toNat * 1) [(.slice x18.1.p x18.1.len x18.1.cap)] fun H13 =>
r12 ((IntKind.wrap .i64 (s13.1.1 + 1), ()), (())) H13)))))) (
j10 ((()), (())) H9)) ((0, ()), (())) H7) fun (y11 : (Unit) × (Unit)) H8 =>
CALL P [T_bool] n_zone_Zones_sound [(.pointer (some ⟨H6.length, 0, none⟩))] H8 fun (x19 : Bool × Unit) H14 =>
ifB (!x19.1) (
Q (none, 2, ()) H14) (
Q ((some ⟨H6.length, 0, none⟩), 0, ()) H14))
def h_zone_From : Hnt := (.seq .leaf (.seq .leaf (.seq (.seq .leaf (.blk (some ⟨[(10, T_bool)], [], [11, 17, 18, 19, 20, 21, 22, 23, 24, 25, 26, 27, 28, 29, 30, 31, 32, 33, 34, 35]⟩) (.loop ⟨[(10, T_bool), (17, (T_int .i64))], [], [11, 18, 19, 20, 21, 22, 23, 24, 25, 26, 27, 28, 29, 30, 31, 32, 33, 34, 35]⟩ (.seq .leaf (.seq .leaf (.seq (.blk none (.seq .leaf (.reg ⟨[(10, T_bool)], [], [20, 21, 22, 23, 24, 25, 26, 27, 28, 29, 30, 31, 32, 33, 34]⟩))) .leaf)))))) (.seq .leaf (.seq .leaf (.seq (.seq .leaf (.blk (some ⟨[], [], [13, 42, 43, 44, 45, 46, 47, 48, 49, 50, 51, 52, 53, 54, 55, 56, 57, 58, 59, 60, 61, 62, 63]⟩) (.loop ⟨[(42, (T_int .i64))], [], [13, 43, 44, 45, 46, 47, 48, 49, 50, 51, 52, 53, 54, 55, 56, 57, 58, 59, 60, 61, 62, 63]⟩ .leaf))) .leaf))))))
theorem e_zone_From (a0 : Sl) (a1 : Sl × Sl) (a2 : Sl × Sl) (a3 : Int) (H : Heap) (Q : (Option Addr) × Int × Unit → Heap → Prop) : S_zone_From a0 a1 a2 a3 H Q = cFn C [] Try.f10.ntmps Try.f10.results.toList [T_ptr, (T_int .i64)] (bodyOf Try.f10) h_zone_From [a0.v, (T_arr2_T_sl.enc a1), (T_arr2_T_sl.enc a2), (.int .i64 a3)] H Q := by kernel_rfl
theorem c_zone_From {a0 : Sl} {a1 : Sl × Sl} {a2 : Sl × Sl} {a3 : Int} {H : Heap} {Q : (Option Addr) × Int × Unit → Heap → Prop} (h : S_zone_From a0 a1 a2 a3 H Q) : CALL P [T_ptr, (T_int .i64)] n_zone_From [a0.v, (T_arr2_T_sl.enc a1), (T_arr2_T_sl.enc a2), (.int .i64 a3)] H Q := call_print hE Try.func10 rfl (by kernel_rfl) (e_zone_From a0 a1 a2 a3 H Q) h

def S_kit_SameInts (a0 : Sl) (a1 : Sl) (H : Heap) (Q : Bool × Unit → Heap → Prop) : Prop :=
ifB ((a0.len : Int) != (a1.len : Int)) (
Q (false, ()) H) (
JOIN (fun (j1 : (Unit) × (Unit) → Heap → Prop) =>
LOOP (fun (r3 : (Int × Unit) × (Unit) → Heap → Prop) (s4 : (Int × Unit) × (Unit)) H2 =>
ifB (decide (s4.1.1 < (a0.len : Int))) (
IDX a0.p a0.len s4.1.1 1 fun b5 o6 =>
LD (T_int .i64) H2 b5 o6 fun (x7 : Int) =>
IDX a1.p a1.len s4.1.1 1 fun b8 o9 =>
LD (T_int .i64) H2 b8 o9 fun (x10 : Int) =>
ifB (x7 != x10) (
Q (false, ()) H2) (
r3 ((IntKind.wrap .i64 (s4.1.1 + 1), ()), (())) H2)) (
j1 ((()), (())) H2)) ((0, ()), (())) H) fun (y2 : (Unit) × (Unit)) H1 =>
Q (true, ()) H1)
def h_kit_SameInts : Hnt := (.seq .leaf (.seq .leaf (.seq (.seq .leaf (.blk (some ⟨[], [], [4, 5, 11, 12, 13, 14, 15, 16, 17, 18, 19, 20, 21, 22, 23, 24, 25]⟩) (.loop ⟨[(5, (T_int .i64))], [], [4, 11, 12, 13, 14, 15, 16, 17, 18, 19, 20, 21, 22, 23, 24, 25]⟩ .leaf))) .leaf)))
theorem e_kit_SameInts (a0 : Sl) (a1 : Sl) (H : Heap) (Q : Bool × Unit → Heap → Prop) : S_kit_SameInts a0 a1 H Q = cFn C [] Try.f11.ntmps Try.f11.results.toList [T_bool] (bodyOf Try.f11) h_kit_SameInts [a0.v, a1.v] H Q := by kernel_rfl
theorem c_kit_SameInts {a0 : Sl} {a1 : Sl} {H : Heap} {Q : Bool × Unit → Heap → Prop} (h : S_kit_SameInts a0 a1 H Q) : CALL P [T_bool] n_kit_SameInts [a0.v, a1.v] H Q := call_print hE Try.func11 rfl (by kernel_rfl) (e_kit_SameInts a0 a1 H Q) h

def S_zone_Zones_Deck (a0 : Option Addr) (a1 : Int) (H : Heap) (Q : Sl × Unit → Heap → Prop) : Prop :=
CALL P [T_sl] n_zone_Zones_In [(.pointer a0), (.int .i64 a1), (.int .u8 1)] H fun (x1 : Sl × Unit) H1 =>
Q (x1.1, ()) H1
def h_zone_Zones_Deck : Hnt := .leaf
theorem e_zone_Zones_Deck (a0 : Option Addr) (a1 : Int) (H : Heap) (Q : Sl × Unit → Heap → Prop) : S_zone_Zones_Deck a0 a1 H Q = cFn C [] Try.f12.ntmps Try.f12.results.toList [T_sl] (bodyOf Try.f12) h_zone_Zones_Deck [(.pointer a0), (.int .i64 a1)] H Q := by kernel_rfl
theorem c_zone_Zones_Deck {a0 : Option Addr} {a1 : Int} {H : Heap} {Q : Sl × Unit → Heap → Prop} (h : S_zone_Zones_Deck a0 a1 H Q) : CALL P [T_sl] n_zone_Zones_Deck [(.pointer a0), (.int .i64 a1)] H Q := call_print hE Try.func12 rfl (by kernel_rfl) (e_zone_Zones_Deck a0 a1 H Q) h

def S_zone_Zones_Move (a0 : Option Addr) (a1 : Int) (a2 : Int) (H : Heap) (Q : Int × Unit → Heap → Prop) : Prop :=
CALL P [T_G_api_Thing, (T_int .i64)] n_zone_Zones_Thing [(.pointer a0), (.int .i64 a1)] H fun (x1 : G_api_Thing × Int × Unit) H1 =>
ifB (x1.2.1 != 0) (
Q (x1.2.1, ()) H1) (
JOIN (fun (j2 : (Bool × Unit) × (Unit) → Heap → Prop) =>
ifB (decide (a2 < 1)) (
j2 ((true, ()), (())) H1) (
j2 ((decide (a2 > 5), ()), (())) H1)) fun (y3 : (Bool × Unit) × (Unit)) H2 =>
ifB y3.1.1 (
Q (2, ()) H2) (
JOIN (fun (j4 : (Bool × Unit) × (Unit) → Heap → Prop) =>
ifB (a2 == 2) (
ifB (x1.1.Place != 2) (
NIL a0 fun b6 o7 =>
IDXA 2 x1.1.Owner (
LD T_sl H2 b6 (o7 + 3 + x1.1.Owner.toNat * 1) fun (x8 : Sl) =>
j4 ((decide ((x8.len : Int) ≥ 10), ()), (())) H2)) (
j4 ((false, ()), (())) H2)) (
j4 ((false, ()), (())) H2)) fun (y5 : (Bool × Unit) × (Unit)) H3 =>
ifB y5.1.1 (
Q (14, ()) H3) (
JOIN (fun (j9 : (Bool × Unit) × (Unit) → Heap → Prop) =>
ifB (a2 == 4) (
NIL a0 fun b11 o12 =>
LD (T_int .i64) H3 b11 (o12 + 5) fun (x13 : Int) =>
ifB (decide (x13 ≥ 1099511627776)) (
j9 ((true, ()), (())) H3) (
ifB (x1.1.Place != 4) (
CALL P [(T_int .i64)] n_zone_Zones_owned [(.pointer a0), (.int .i64 x1.1.Owner)] H3 fun (x14 : Int × Unit) H5 =>
j9 ((decide (x14.1 ≥ 8), ()), (())) H5) (
j9 ((false, ()), (())) H3))) (
j9 ((false, ()), (())) H3)) fun (y10 : (Bool × Unit) × (Unit)) H4 =>
ifB y10.1.1 (
Q (14, ()) H4) (
CALL P [] n_zone_Zones_come [(.pointer a0), (.int .i64 a1), (.int .u8 a2)] H4 fun (x15 : Unit) H6 =>
Q (0, ()) H6))))
def h_zone_Zones_Move : Hnt := (.seq .leaf (.seq .leaf (.seq (.blk none (.seq .leaf (.cond none .leaf (.seq (.reg ⟨[(19, T_bool)], [], [20, 21, 22, 23, 24, 25]⟩) (.cond none .leaf (.seq (.reg ⟨[(26, T_bool)], [], [27, 28, 29, 30, 31, 32, 33, 34, 35, 36, 37, 38, 39, 40, 41, 42, 43, 44]⟩) (.cond none .leaf (.seq (.reg ⟨[(45, T_bool)], [], [46, 47, 48, 49, 50, 51, 52, 53, 54, 55, 56, 57, 58, 59, 60, 61, 62, 63, 64, 65, 66]⟩) .leaf)))))))) .leaf)))
theorem e_zone_Zones_Move (a0 : Option Addr) (a1 : Int) (a2 : Int) (H : Heap) (Q : Int × Unit → Heap → Prop) : S_zone_Zones_Move a0 a1 a2 H Q = cFn C [7] Try.f13.ntmps Try.f13.results.toList [(T_int .i64)] (bodyOf Try.f13) h_zone_Zones_Move [(.pointer a0), (.int .i64 a1), (.int .u8 a2)] H Q := by kernel_rfl
theorem c_zone_Zones_Move {a0 : Option Addr} {a1 : Int} {a2 : Int} {H : Heap} {Q : Int × Unit → Heap → Prop} (h : S_zone_Zones_Move a0 a1 a2 H Q) : CALL P [(T_int .i64)] n_zone_Zones_Move [(.pointer a0), (.int .i64 a1), (.int .u8 a2)] H Q := call_print hE Try.func13 rfl (by kernel_rfl) (e_zone_Zones_Move a0 a1 a2 H Q) h

def S_zone_Zones_Table (a0 : Option Addr) (H : Heap) (Q : Sl × Unit → Heap → Prop) : Prop :=
NEW H [(.pointer a0)] 1 fun H1 =>
LD T_ptr H1 H.length 0 fun (x1 : Option Addr) =>
CALL P [T_bool] n_zone_Zones_is [(.pointer x1)] H1 fun (x2 : Bool × Unit) H2 =>
ifB (!x2.1) (
Q ((Sl.mk none 0 0), ()) H2) (
LD T_ptr H2 H.length 0 fun (x3 : Option Addr) =>
NIL x3 fun b4 o5 =>
LD T_sl H2 b4 (o5 + 0) fun (x6 : Sl) =>
JOIN (fun (j7 : (Sl × Unit) × (Unit) → Heap → Prop) =>
LOOP (fun (r9 : (Sl × Int × Unit) × (Unit) → Heap → Prop) (s10 : (Sl × Int × Unit) × (Unit)) H4 =>
ifB (decide (s10.1.2.1 < (x6.len : Int))) (
IDX x6.p x6.len s10.1.2.1 11 fun b11 o12 =>
LD T_G_api_Thing H4 b11 o12 fun (x13 : G_api_Thing) =>
JOIN (fun (j14 : (Sl × Unit) × (Unit) → Heap → Prop) =>
ifB (x13.Place == 4) (
APP T_sl (lenV s10.1.1.v + 1) (aAppE E [22, 22] s10.1.1.v 1 [(.int .i64 (IntKind.wrap .i64 (s10.1.2.1 + 1)))] H4) fun (x16 : Sl) H6 =>
j14 ((x16, ()), (())) H6) (
j14 ((s10.1.1, ()), (())) H4)) fun (y15 : (Sl × Unit) × (Unit)) H5 =>
r9 ((y15.1.1, IntKind.wrap .i64 (s10.1.2.1 + 1), ()), (())) H5) (
j7 ((s10.1.1, ()), (())) H4)) (((Sl.mk none 0 0), 0, ()), (())) H2) fun (y8 : (Sl × Unit) × (Unit)) H3 =>
CALL P [] n_slices_SortFunc_int_int [y8.1.1.v, (.func (.func n_zone_Zones_Table_1) #[] #[(.pointer (some ⟨H.length, 0, none⟩))])] H3 fun (x17 : Unit) H7 =>
Q (y8.1.1, ()) H7)
def h_zone_Zones_Table : Hnt := (.seq .leaf (.seq .leaf (.seq .leaf (.seq (.seq .leaf (.blk (some ⟨[(3, T_sl)], [], [4, 5, 14, 15, 16, 17, 18, 19, 20, 21, 22, 23, 24, 25, 26, 27]⟩) (.loop ⟨[(3, T_sl), (14, (T_int .i64))], [], [4, 5, 15, 16, 17, 18, 19, 20, 21, 22, 23, 24, 25, 26, 27]⟩ (.seq .leaf (.seq .leaf (.seq (.blk none (.seq .leaf (.seq .leaf (.cond (some ⟨[(3, T_sl)], [], [22, 23, 24, 25, 26]⟩) .leaf .leaf)))) .leaf)))))) .leaf))))
theorem e_zone_Zones_Table (a0 : Option Addr) (H : Heap) (Q : Sl × Unit → Heap → Prop) : S_zone_Zones_Table a0 H Q = cFn C [5, 25] Try.f14.ntmps Try.f14.results.toList [T_sl] (bodyOf Try.f14) h_zone_Zones_Table [(.pointer a0)] H Q := by kernel_rfl
theorem c_zone_Zones_Table {a0 : Option Addr} {H : Heap} {Q : Sl × Unit → Heap → Prop} (h : S_zone_Zones_Table a0 H Q) : CALL P [T_sl] n_zone_Zones_Table [(.pointer a0)] H Q := call_print hE Try.func14 rfl (by kernel_rfl) (e_zone_Zones_Table a0 H Q) h

def S_zone_Zones_Stamp (a0 : Option Addr) (H : Heap) (Q : Int × Unit → Heap → Prop) : Prop :=
CALL P [T_bool] n_zone_Zones_is [(.pointer a0)] H fun (x1 : Bool × Unit) H1 =>
ifB (!x1.1) (
Q (0, ()) H1) (
NIL a0 fun b2 o3 =>
LD (T_int .i64) H1 b2 (o3 + 5) fun (x4 : Int) =>
Q (x4, ()) H1)
def h_zone_Zones_Stamp : Hnt := .leaf
theorem e_zone_Zones_Stamp (a0 : Option Addr) (H : Heap) (Q : Int × Unit → Heap → Prop) : S_zone_Zones_Stamp a0 H Q = cFn C [] Try.f15.ntmps Try.f15.results.toList [(T_int .i64)] (bodyOf Try.f15) h_zone_Zones_Stamp [(.pointer a0)] H Q := by kernel_rfl
theorem c_zone_Zones_Stamp {a0 : Option Addr} {H : Heap} {Q : Int × Unit → Heap → Prop} (h : S_zone_Zones_Stamp a0 H Q) : CALL P [(T_int .i64)] n_zone_Zones_Stamp [(.pointer a0)] H Q := call_print hE Try.func15 rfl (by kernel_rfl) (e_zone_Zones_Stamp a0 H Q) h

def S_zone_Zones_Things (a0 : Option Addr) (H : Heap) (Q : Sl × Unit → Heap → Prop) : Prop :=
CALL P [T_bool] n_zone_Zones_is [(.pointer a0)] H fun (x1 : Bool × Unit) H1 =>
ifB (!x1.1) (
Q ((Sl.mk none 0 0), ()) H1) (
NIL a0 fun b2 o3 =>
LD T_sl H1 b2 (o3 + 0) fun (x4 : Sl) =>
CALL P [T_sl] n_zone_told_api_Thing [x4.v] H1 fun (x5 : Sl × Unit) H2 =>
Q (x5.1, ()) H2)
def h_zone_Zones_Things : Hnt := .leaf
theorem e_zone_Zones_Things (a0 : Option Addr) (H : Heap) (Q : Sl × Unit → Heap → Prop) : S_zone_Zones_Things a0 H Q = cFn C [] Try.f16.ntmps Try.f16.results.toList [T_sl] (bodyOf Try.f16) h_zone_Zones_Things [(.pointer a0)] H Q := by kernel_rfl
theorem c_zone_Zones_Things {a0 : Option Addr} {H : Heap} {Q : Sl × Unit → Heap → Prop} (h : S_zone_Zones_Things a0 H Q) : CALL P [T_sl] n_zone_Zones_Things [(.pointer a0)] H Q := call_print hE Try.func16 rfl (by kernel_rfl) (e_zone_Zones_Things a0 H Q) h

def S_zone_Zones_Hand (a0 : Option Addr) (a1 : Int) (H : Heap) (Q : Sl × Unit → Heap → Prop) : Prop :=
CALL P [T_sl] n_zone_Zones_In [(.pointer a0), (.int .i64 a1), (.int .u8 2)] H fun (x1 : Sl × Unit) H1 =>
Q (x1.1, ()) H1
def h_zone_Zones_Hand : Hnt := .leaf
theorem e_zone_Zones_Hand (a0 : Option Addr) (a1 : Int) (H : Heap) (Q : Sl × Unit → Heap → Prop) : S_zone_Zones_Hand a0 a1 H Q = cFn C [] Try.f17.ntmps Try.f17.results.toList [T_sl] (bodyOf Try.f17) h_zone_Zones_Hand [(.pointer a0), (.int .i64 a1)] H Q := by kernel_rfl
theorem c_zone_Zones_Hand {a0 : Option Addr} {a1 : Int} {H : Heap} {Q : Sl × Unit → Heap → Prop} (h : S_zone_Zones_Hand a0 a1 H Q) : CALL P [T_sl] n_zone_Zones_Hand [(.pointer a0), (.int .i64 a1)] H Q := call_print hE Try.func17 rfl (by kernel_rfl) (e_zone_Zones_Hand a0 a1 H Q) h

def S_zone_Zones_Make (a0 : Option Addr) (a1 : Int) (a2 : Int) (H : Heap) (Q : Int × Int × Unit → Heap → Prop) : Prop :=
CALL P [T_bool] n_zone_Zones_is [(.pointer a0)] H fun (x1 : Bool × Unit) H1 =>
ifB (!x1.1) (
Q (0, 1, ()) H1) (
JOIN (fun (j2 : (Bool × Unit) × (Unit) → Heap → Prop) =>
ifB (decide (a1 < 1)) (
j2 ((true, ()), (())) H1) (
CALL P [T_bool] n_zone_player [(.int .i64 a2)] H1 fun (x4 : Bool × Unit) H3 =>
j2 ((!x4.1, ()), (())) H3)) fun (y3 : (Bool × Unit) × (Unit)) H2 =>
ifB y3.1.1 (
Q (0, 2, ()) H2) (
JOIN (fun (j5 : (Bool × Unit) × (Unit) → Heap → Prop) =>
NIL a0 fun b7 o8 =>
LD T_sl H2 b7 (o8 + 0) fun (x9 : Sl) =>
ifB (decide ((x9.len : Int) ≥ 2048)) (
j5 ((true, ()), (())) H2) (
CALL P [(T_int .i64)] n_zone_Zones_owned [(.pointer a0), (.int .i64 a2)] H2 fun (x10 : Int × Unit) H5 =>
ifB (decide (x10.1 ≥ 8)) (
j5 ((true, ()), (())) H5) (
NIL a0 fun b11 o12 =>
LD (T_int .i64) H5 b11 (o12 + 5) fun (x13 : Int) =>
j5 ((decide (x13 ≥ 1099511627776), ()), (())) H5))) fun (y6 : (Bool × Unit) × (Unit)) H4 =>
ifB y6.1.1 (
Q (0, 14, ()) H4) (
NIL a0 fun b14 o15 =>
LD T_sl H4 b14 (o15 + 0) fun (x16 : Sl) =>
APP T_sl (lenV x16.v + 1) (aAppE E [29, 29] x16.v 1 [(.int .i64 a1), (.int .i64 a2), (.int .u8 0), (.int .i64 0), (.int .i64 0), (.int .i64 0), (.int .i64 0), (.int .i64 0), (.int .i64 0), (.int .i64 0), (.bool false)] H4) fun (x17 : Sl) H6 =>
NIL a0 fun b18 o19 =>
ST H6 b18 (o19 + 0) [(.slice x17.p x17.len x17.cap)] fun H7 =>
NIL a0 fun b20 o21 =>
LD T_sl H7 b20 (o21 + 0) fun (x22 : Sl) =>
CALL P [] n_zone_Zones_come [(.pointer a0), (.int .i64 (x22.len : Int)), (.int .u8 4)] H7 fun (x23 : Unit) H8 =>
NIL a0 fun b24 o25 =>
LD T_sl H8 b24 (o25 + 0) fun (x26 : Sl) =>
Q ((x26.len : Int), 0, ()) H8)))
def h_zone_Zones_Make : Hnt := (.seq .leaf (.seq (.blk none (.seq .leaf (.cond none .leaf (.seq (.reg ⟨[(12, T_bool)], [], [13, 14, 15, 16, 17, 18, 19]⟩) (.cond none .leaf (.seq (.reg ⟨[(20, T_bool)], [], [21, 22, 23, 24, 25, 26, 27, 28, 29, 30, 31, 32, 33, 34, 35, 36, 37, 38, 39]⟩) .leaf)))))) .leaf))
theorem e_zone_Zones_Make (a0 : Option Addr) (a1 : Int) (a2 : Int) (H : Heap) (Q : Int × Int × Unit → Heap → Prop) : S_zone_Zones_Make a0 a1 a2 H Q = cFn C [48] Try.f18.ntmps Try.f18.results.toList [(T_int .i64), (T_int .i64)] (bodyOf Try.f18) h_zone_Zones_Make [(.pointer a0), (.int .i64 a1), (.int .i64 a2)] H Q := by kernel_rfl
theorem c_zone_Zones_Make {a0 : Option Addr} {a1 : Int} {a2 : Int} {H : Heap} {Q : Int × Int × Unit → Heap → Prop} (h : S_zone_Zones_Make a0 a1 a2 H Q) : CALL P [(T_int .i64), (T_int .i64)] n_zone_Zones_Make [(.pointer a0), (.int .i64 a1), (.int .i64 a2)] H Q := call_print hE Try.func18 rfl (by kernel_rfl) (e_zone_Zones_Make a0 a1 a2 H Q) h

def S_zone_Zones_Write (a0 : Option Addr) (a1 : Int) (a2 : G_api_Thing) (H : Heap) (Q : Int × Unit → Heap → Prop) : Prop :=
CALL P [T_G_api_Thing, (T_int .i64)] n_zone_Zones_Thing [(.pointer a0), (.int .i64 a1)] H fun (x1 : G_api_Thing × Int × Unit) H1 =>
ifB (x1.2.1 != 0) (
Q (x1.2.1, ()) H1) (
JOIN (fun (j2 : (Bool × Unit) × (Unit) → Heap → Prop) =>
ifB (x1.1.Place != 4) (
j2 ((true, ()), (())) H1) (
ifB (a2.Card != x1.1.Card) (
j2 ((true, ()), (())) H1) (
ifB (a2.Owner != x1.1.Owner) (
j2 ((true, ()), (())) H1) (
ifB (a2.Place != x1.1.Place) (
j2 ((true, ()), (())) H1) (
ifB (a2.Stamp != x1.1.Stamp) (
j2 ((true, ()), (())) H1) (
ifB (decide (a2.Hurt < 0)) (
j2 ((true, ()), (())) H1) (
ifB (decide (a2.Done < 0)) (
j2 ((true, ()), (())) H1) (
CALL P [T_bool] n_zone_marks [(T_arr4_T_int_i64.enc a2.Marks)] H1 fun (x4 : Bool × Unit) H3 =>
j2 ((!x4.1, ()), (())) H3)))))))) fun (y3 : (Bool × Unit) × (Unit)) H2 =>
ifB y3.1.1 (
Q (2, ()) H2) (
NIL a0 fun b5 o6 =>
LD T_sl H2 b5 (o6 + 0) fun (x7 : Sl) =>
IDX x7.p x7.len (IntKind.wrap .i64 (a1 - 1)) 11 fun b8 o9 =>
ST H2 b8 o9 (T_G_api_Thing.cells a2) fun H4 =>
Q (0, ()) H4))
def h_zone_Zones_Write : Hnt := (.seq .leaf (.seq .leaf (.seq .leaf (.seq (.seq (.reg ⟨[(64, T_bool)], [], [18, 19, 20, 21, 22, 23, 24, 25, 26, 27, 28, 29, 30, 31, 32, 33, 34, 35, 36, 37, 38, 39, 40, 41, 42, 43, 44, 45, 46, 47, 48, 49, 50, 51, 52, 53, 54, 55, 56, 57, 58, 59, 60, 61, 62, 63]⟩) .leaf) .leaf))))
theorem e_zone_Zones_Write (a0 : Option Addr) (a1 : Int) (a2 : G_api_Thing) (H : Heap) (Q : Int × Unit → Heap → Prop) : S_zone_Zones_Write a0 a1 a2 H Q = cFn C [5, 7] Try.f19.ntmps Try.f19.results.toList [(T_int .i64)] (bodyOf Try.f19) h_zone_Zones_Write [(.pointer a0), (.int .i64 a1), (T_G_api_Thing.enc a2)] H Q := by kernel_rfl
theorem c_zone_Zones_Write {a0 : Option Addr} {a1 : Int} {a2 : G_api_Thing} {H : Heap} {Q : Int × Unit → Heap → Prop} (h : S_zone_Zones_Write a0 a1 a2 H Q) : CALL P [(T_int .i64)] n_zone_Zones_Write [(.pointer a0), (.int .i64 a1), (T_G_api_Thing.enc a2)] H Q := call_print hE Try.func19 rfl (by kernel_rfl) (e_zone_Zones_Write a0 a1 a2 H Q) h

def S_zone_Zones_Arrange (a0 : Option Addr) (a1 : Int) (a2 : Sl) (H : Heap) (Q : Int × Unit → Heap → Prop) : Prop :=
CALL P [T_bool] n_zone_Zones_is [(.pointer a0)] H fun (x1 : Bool × Unit) H1 =>
ifB (!x1.1) (
Q (1, ()) H1) (
CALL P [T_bool] n_zone_player [(.int .i64 a1)] H1 fun (x2 : Bool × Unit) H2 =>
ifB (!x2.1) (
Q (2, ()) H2) (
NIL a0 fun b3 o4 =>
IDXA 2 a1 (
LD T_sl H2 b3 (o4 + 1 + a1.toNat * 1) fun (x5 : Sl) =>
CALL P [T_any] n_slices_Values_int_int [a2.v] H2 fun (x6 : Value × Unit) H3 =>
LD T_sl H3 b3 (o4 + 1 + a1.toNat * 1) fun (x7 : Sl) =>
REQ (T_sl.enc x7 = x5.v) (
CALL P [T_sl] n_slices_Sorted_int [x6.1] H3 fun (x8 : Sl × Unit) H4 =>
LD T_sl H4 b3 (o4 + 1 + a1.toNat * 1) fun (x9 : Sl) =>
REQ (T_sl.enc x9 = x5.v) (
CALL P [T_any] n_slices_Values_int_int [x5.v] H4 fun (x10 : Value × Unit) H5 =>
CALL P [T_sl] n_slices_Sorted_int [x10.1] H5 fun (x11 : Sl × Unit) H6 =>
CALL P [T_bool] n_slices_Equal_int_int [x8.1.v, x11.1.v] H6 fun (x12 : Bool × Unit) H7 =>
ifB (!x12.1) (
Q (2, ()) H7) (
NIL a0 fun b13 o14 =>
CALL P [T_sl] n_slices_Clone_int_int [a2.v] H7 fun (x15 : Sl × Unit) H8 =>
IDXA 2 a1 (
ST H8 b13 (o14 + 1 + a1.toNat * 1) [(.slice x15.1.p x15.1.len x15.1.cap)] fun H9 =>
Q (0, ()) H9)))))))
def h_zone_Zones_Arrange : Hnt := .leaf
theorem e_zone_Zones_Arrange (a0 : Option Addr) (a1 : Int) (a2 : Sl) (H : Heap) (Q : Int × Unit → Heap → Prop) : S_zone_Zones_Arrange a0 a1 a2 H Q = cFn C [] Try.f20.ntmps Try.f20.results.toList [(T_int .i64)] (bodyOf Try.f20) h_zone_Zones_Arrange [(.pointer a0), (.int .i64 a1), a2.v] H Q := by kernel_rfl
theorem c_zone_Zones_Arrange {a0 : Option Addr} {a1 : Int} {a2 : Sl} {H : Heap} {Q : Int × Unit → Heap → Prop} (h : S_zone_Zones_Arrange a0 a1 a2 H Q) : CALL P [(T_int .i64)] n_zone_Zones_Arrange [(.pointer a0), (.int .i64 a1), a2.v] H Q := call_print hE Try.func20 rfl (by kernel_rfl) (e_zone_Zones_Arrange a0 a1 a2 H Q) h

def S_zone_Zones_Thing (a0 : Option Addr) (a1 : Int) (H : Heap) (Q : G_api_Thing × Int × Unit → Heap → Prop) : Prop :=
CALL P [T_bool] n_zone_Zones_is [(.pointer a0)] H fun (x1 : Bool × Unit) H1 =>
ifB (!x1.1) (
Q ((G_api_Thing.mk 0 0 0 0 0 (0, 0, 0, 0) 0 false), 1, ()) H1) (
JOIN (fun (j2 : (Bool × Unit) × (Unit) → Heap → Prop) =>
ifB (decide (a1 < 1)) (
j2 ((true, ()), (())) H1) (
NIL a0 fun b4 o5 =>
LD T_sl H1 b4 (o5 + 0) fun (x6 : Sl) =>
j2 ((decide (a1 > (x6.len : Int)), ()), (())) H1)) fun (y3 : (Bool × Unit) × (Unit)) H2 =>
ifB y3.1.1 (
Q ((G_api_Thing.mk 0 0 0 0 0 (0, 0, 0, 0) 0 false), 6, ()) H2) (
NIL a0 fun b7 o8 =>
LD T_sl H2 b7 (o8 + 0) fun (x9 : Sl) =>
IDX x9.p x9.len (IntKind.wrap .i64 (a1 - 1)) 11 fun b10 o11 =>
LD T_G_api_Thing H2 b10 o11 fun (x12 : G_api_Thing) =>
Q (x12, 0, ()) H2))
def h_zone_Zones_Thing : Hnt := (.seq .leaf (.seq (.blk none (.seq .leaf (.cond none .leaf (.seq (.reg ⟨[(11, T_bool)], [], [12, 13, 14, 15, 16, 17, 18, 19, 20, 21, 22]⟩) .leaf)))) .leaf))
theorem e_zone_Zones_Thing (a0 : Option Addr) (a1 : Int) (H : Heap) (Q : G_api_Thing × Int × Unit → Heap → Prop) : S_zone_Zones_Thing a0 a1 H Q = cFn C [4] Try.f21.ntmps Try.f21.results.toList [T_G_api_Thing, (T_int .i64)] (bodyOf Try.f21) h_zone_Zones_Thing [(.pointer a0), (.int .i64 a1)] H Q := by kernel_rfl
theorem c_zone_Zones_Thing {a0 : Option Addr} {a1 : Int} {H : Heap} {Q : G_api_Thing × Int × Unit → Heap → Prop} (h : S_zone_Zones_Thing a0 a1 H Q) : CALL P [T_G_api_Thing, (T_int .i64)] n_zone_Zones_Thing [(.pointer a0), (.int .i64 a1)] H Q := call_print hE Try.func21 rfl (by kernel_rfl) (e_zone_Zones_Thing a0 a1 H Q) h

def S_zone_Zones_Len (a0 : Option Addr) (H : Heap) (Q : Int × Unit → Heap → Prop) : Prop :=
CALL P [T_bool] n_zone_Zones_is [(.pointer a0)] H fun (x1 : Bool × Unit) H1 =>
ifB (!x1.1) (
Q (0, ()) H1) (
NIL a0 fun b2 o3 =>
LD T_sl H1 b2 (o3 + 0) fun (x4 : Sl) =>
Q ((x4.len : Int), ()) H1)
def h_zone_Zones_Len : Hnt := .leaf
theorem e_zone_Zones_Len (a0 : Option Addr) (H : Heap) (Q : Int × Unit → Heap → Prop) : S_zone_Zones_Len a0 H Q = cFn C [] Try.f22.ntmps Try.f22.results.toList [(T_int .i64)] (bodyOf Try.f22) h_zone_Zones_Len [(.pointer a0)] H Q := by kernel_rfl
theorem c_zone_Zones_Len {a0 : Option Addr} {H : Heap} {Q : Int × Unit → Heap → Prop} (h : S_zone_Zones_Len a0 H Q) : CALL P [(T_int .i64)] n_zone_Zones_Len [(.pointer a0)] H Q := call_print hE Try.func22 rfl (by kernel_rfl) (e_zone_Zones_Len a0 H Q) h

def S_law17_count (a0 : Int) (a1 : Sl) (H : Heap) (Q : Int × Unit → Heap → Prop) : Prop :=
JOIN (fun (j1 : (Int × Unit) × (Unit) → Heap → Prop) =>
LOOP (fun (r3 : (Int × Int × Unit) × (Unit) → Heap → Prop) (s4 : (Int × Int × Unit) × (Unit)) H2 =>
ifB (decide (s4.1.2.1 < (a1.len : Int))) (
JOIN (fun (j5 : (Int × Unit) × (Unit) → Heap → Prop) =>
JOIN (fun (j7 : (Int × Unit) × (Unit) → Heap → Prop) =>
LOOP (fun (r9 : (Int × Int × Unit) × (Unit) → Heap → Prop) (s10 : (Int × Int × Unit) × (Unit)) H5 =>
IDX a1.p a1.len s4.1.2.1 1 fun b11 o12 =>
LD T_sl H5 b11 o12 fun (x13 : Sl) =>
ifB (decide (s10.1.2.1 < (x13.len : Int))) (
IDX a1.p a1.len s4.1.2.1 1 fun b14 o15 =>
LD T_sl H5 b14 o15 fun (x16 : Sl) =>
IDX x16.p x16.len s10.1.2.1 1 fun b17 o18 =>
LD (T_int .i64) H5 b17 o18 fun (x19 : Int) =>
JOIN (fun (j20 : (Int × Unit) × (Unit) → Heap → Prop) =>
ifB (x19 == a0) (
j20 ((IntKind.wrap .i64 (s10.1.1 + 1), ()), (())) H5) (
j20 ((s10.1.1, ()), (())) H5)) fun (y21 : (Int × Unit) × (Unit)) H6 =>
r9 ((y21.1.1, IntKind.wrap .i64 (s10.1.2.1 + 1), ()), (())) H6) (
j7 ((s10.1.1, ()), (())) H5)) ((s4.1.1, 0, ()), (())) H2) fun (y8 : (Int × Unit) × (Unit)) H4 =>
j5 ((y8.1.1, ()), (())) H4) fun (y6 : (Int × Unit) × (Unit)) H3 =>
r3 ((y6.1.1, IntKind.wrap .i64 (s4.1.2.1 + 1), ()), (())) H3) (
j1 ((s4.1.1, ()), (())) H2)) ((0, 0, ()), (())) H) fun (y2 : (Int × Unit) × (Unit)) H1 =>
Q (y2.1.1, ()) H1
def h_law17_count : Hnt := (.seq .leaf (.seq .leaf (.seq (.seq .leaf (.blk (some ⟨[(5, (T_int .i64))], [], [6, 7, 8, 9, 10, 11, 12, 13, 14, 15, 16, 17, 18, 19, 20, 21, 22, 23, 24, 25, 26, 27, 28, 29, 30, 31, 32, 33]⟩) (.loop ⟨[(5, (T_int .i64)), (6, (T_int .i64))], [], [7, 8, 9, 10, 11, 12, 13, 14, 15, 16, 17, 18, 19, 20, 21, 22, 23, 24, 25, 26, 27, 28, 29, 30, 31, 32, 33]⟩ (.seq .leaf (.seq (.blk (some ⟨[(5, (T_int .i64))], [], [7, 14, 15, 16, 17, 18, 19, 20, 21, 22, 23, 24, 25, 26, 27, 28, 29, 30, 31, 32, 33]⟩) (.seq .leaf (.blk (some ⟨[(5, (T_int .i64))], [], [7, 14, 15, 16, 17, 18, 19, 20, 21, 22, 23, 24, 25, 26, 27, 28, 29, 30, 31, 32, 33]⟩) (.loop ⟨[(5, (T_int .i64)), (7, (T_int .i64))], [], [14, 15, 16, 17, 18, 19, 20, 21, 22, 23, 24, 25, 26, 27, 28, 29, 30, 31, 32, 33]⟩ (.seq .leaf (.seq (.blk none (.seq .leaf (.cond (some ⟨[(5, (T_int .i64))], [], [32, 33]⟩) .leaf .leaf))) .leaf)))))) .leaf))))) .leaf)))
theorem e_law17_count (a0 : Int) (a1 : Sl) (H : Heap) (Q : Int × Unit → Heap → Prop) : S_law17_count a0 a1 H Q = cFn C [] Try.f23.ntmps Try.f23.results.toList [(T_int .i64)] (bodyOf Try.f23) h_law17_count [(.int .i64 a0), a1.v] H Q := by kernel_rfl
theorem c_law17_count {a0 : Int} {a1 : Sl} {H : Heap} {Q : Int × Unit → Heap → Prop} (h : S_law17_count a0 a1 H Q) : CALL P [(T_int .i64)] n_law17_count [(.int .i64 a0), a1.v] H Q := call_print hE Try.func23 rfl (by kernel_rfl) (e_law17_count a0 a1 H Q) h

def S_kit_SameThings (a0 : Sl) (a1 : Sl) (H : Heap) (Q : Bool × Unit → Heap → Prop) : Prop :=
ifB ((a0.len : Int) != (a1.len : Int)) (
Q (false, ()) H) (
JOIN (fun (j1 : (Unit) × (Unit) → Heap → Prop) =>
LOOP (fun (r3 : (Int × Unit) × (Unit) → Heap → Prop) (s4 : (Int × Unit) × (Unit)) H2 =>
ifB (decide (s4.1.1 < (a0.len : Int))) (
IDX a0.p a0.len s4.1.1 11 fun b5 o6 =>
LD T_G_api_Thing H2 b5 o6 fun (x7 : G_api_Thing) =>
IDX a1.p a1.len s4.1.1 11 fun b8 o9 =>
LD T_G_api_Thing H2 b8 o9 fun (x10 : G_api_Thing) =>
ifB (!((x7.Card == x10.Card) && ((x7.Owner == x10.Owner) && ((x7.Place == x10.Place) && ((x7.Stamp == x10.Stamp) && ((x7.Hurt == x10.Hurt) && (((x7.Marks.1 == x10.Marks.1) && ((x7.Marks.2.1 == x10.Marks.2.1) && ((x7.Marks.2.2.1 == x10.Marks.2.2.1) && ((x7.Marks.2.2.2 == x10.Marks.2.2.2) && true)))) && ((x7.Done == x10.Done) && ((x7.Fresh == x10.Fresh) && true))))))))) (
Q (false, ()) H2) (
r3 ((IntKind.wrap .i64 (s4.1.1 + 1), ()), (())) H2)) (
j1 ((()), (())) H2)) ((0, ()), (())) H) fun (y2 : (Unit) × (Unit)) H1 =>
Q (true, ()) H1)
def h_kit_SameThings : Hnt := (.seq .leaf (.seq .leaf (.seq (.seq .leaf (.blk (some ⟨[], [], [4, 5, 11, 12, 13, 14, 15, 16, 17, 18, 19, 20, 21, 22, 23, 24, 25]⟩) (.loop ⟨[(5, (T_int .i64))], [], [4, 11, 12, 13, 14, 15, 16, 17, 18, 19, 20, 21, 22, 23, 24, 25]⟩ .leaf))) .leaf)))
theorem e_kit_SameThings (a0 : Sl) (a1 : Sl) (H : Heap) (Q : Bool × Unit → Heap → Prop) : S_kit_SameThings a0 a1 H Q = cFn C [] Try.f24.ntmps Try.f24.results.toList [T_bool] (bodyOf Try.f24) h_kit_SameThings [a0.v, a1.v] H Q := by kernel_rfl
theorem c_kit_SameThings {a0 : Sl} {a1 : Sl} {H : Heap} {Q : Bool × Unit → Heap → Prop} (h : S_kit_SameThings a0 a1 H Q) : CALL P [T_bool] n_kit_SameThings [a0.v, a1.v] H Q := call_print hE Try.func24 rfl (by kernel_rfl) (e_kit_SameThings a0 a1 H Q) h

def S_slices_Clone_api_Thing_api_Thing (a0 : Sl) (H : Heap) (Q : Sl × Unit → Heap → Prop) : Prop :=
ifB a0.p.isNone (
Q ((Sl.mk none 0 0), ()) H) (
NEW H [] 11 fun H1 =>
APP T_sl (lenV ((Sl.mk (some ⟨H.length, 0, none⟩) 0 0)).v + (lenX a0.v).getD 0) (aAppendE E [29, 29] ((Sl.mk (some ⟨H.length, 0, none⟩) 0 0)).v a0.v H1) fun (x1 : Sl) H2 =>
Q (x1, ()) H2)
def h_slices_Clone_api_Thing_api_Thing : Hnt := .leaf
theorem e_slices_Clone_api_Thing_api_Thing (a0 : Sl) (H : Heap) (Q : Sl × Unit → Heap → Prop) : S_slices_Clone_api_Thing_api_Thing a0 H Q = cFn C [] Try.f25.ntmps Try.f25.results.toList [T_sl] (bodyOf Try.f25) h_slices_Clone_api_Thing_api_Thing [a0.v] H Q := by kernel_rfl
theorem c_slices_Clone_api_Thing_api_Thing {a0 : Sl} {H : Heap} {Q : Sl × Unit → Heap → Prop} (h : S_slices_Clone_api_Thing_api_Thing a0 H Q) : CALL P [T_sl] n_slices_Clone_api_Thing_api_Thing [a0.v] H Q := call_print hE Try.func25 rfl (by kernel_rfl) (e_slices_Clone_api_Thing_api_Thing a0 H Q) h

def S_slices_Clone_int_int (a0 : Sl) (H : Heap) (Q : Sl × Unit → Heap → Prop) : Prop :=
ifB a0.p.isNone (
Q ((Sl.mk none 0 0), ()) H) (
NEW H [] 1 fun H1 =>
APP T_sl (lenV ((Sl.mk (some ⟨H.length, 0, none⟩) 0 0)).v + (lenX a0.v).getD 0) (aAppendE E [22, 22] ((Sl.mk (some ⟨H.length, 0, none⟩) 0 0)).v a0.v H1) fun (x1 : Sl) H2 =>
Q (x1, ()) H2)
def h_slices_Clone_int_int : Hnt := .leaf
theorem e_slices_Clone_int_int (a0 : Sl) (H : Heap) (Q : Sl × Unit → Heap → Prop) : S_slices_Clone_int_int a0 H Q = cFn C [] Try.f26.ntmps Try.f26.results.toList [T_sl] (bodyOf Try.f26) h_slices_Clone_int_int [a0.v] H Q := by kernel_rfl
theorem c_slices_Clone_int_int {a0 : Sl} {H : Heap} {Q : Sl × Unit → Heap → Prop} (h : S_slices_Clone_int_int a0 H Q) : CALL P [T_sl] n_slices_Clone_int_int [a0.v] H Q := call_print hE Try.func26 rfl (by kernel_rfl) (e_slices_Clone_int_int a0 H Q) h

def S_zone_Zones_sound (a0 : Option Addr) (H : Heap) (Q : Bool × Unit → Heap → Prop) : Prop :=
JOIN (fun (j1 : (Bool × Unit) × (Unit) → Heap → Prop) =>
NIL a0 fun b3 o4 =>
LD (T_int .i64) H b3 (o4 + 5) fun (x5 : Int) =>
ifB (decide (x5 < 1)) (
j1 ((true, ()), (())) H) (
NIL a0 fun b6 o7 =>
LD (T_int .i64) H b6 (o7 + 5) fun (x8 : Int) =>
j1 ((decide (x8 > 1099511627776), ()), (())) H)) fun (y2 : (Bool × Unit) × (Unit)) H1 =>
ifB y2.1.1 (
Q (false, ()) H1) (
NEWM H1 fun H2 =>
NEW H2 [(.int .i64 0), (.int .i64 0)] 2 fun H3 =>
ST H3 H2.length 0 [(.int .i64 0), (.int .i64 0)] fun H4 =>
NIL a0 fun b9 o10 =>
LD T_sl H4 b9 (o10 + 0) fun (x11 : Sl) =>
JOIN (fun (j12 : (Int × Unit) × (Unit) → Heap → Prop) =>
LOOP (fun (r14 : (Int × Int × Unit) × (Unit) → Heap → Prop) (s15 : (Int × Int × Unit) × (Unit)) H6 =>
ifB (decide (s15.1.2.1 < (x11.len : Int))) (
IDX x11.p x11.len s15.1.2.1 11 fun b16 o17 =>
LD T_G_api_Thing H6 b16 o17 fun (x18 : G_api_Thing) =>
CALL P [T_bool] n_zone_Zones_thing [(.pointer a0), (T_G_api_Thing.enc x18)] H6 fun (x19 : Bool × Unit) H7 =>
ifB (!x19.1) (
Q (false, ()) H7) (
JOIN (fun (j20 : (Int × Unit) × (Unit) → Heap → Prop) =>
ifB (x18.Place == 4) (
GENV (T_int .i64) (aLookup E 76 (.map (some H1.length)) (.int .i64 x18.Stamp) false H7) fun (x22 : Int) =>
GENH (aMapUpdate E 76 (.map (some H1.length)) (.int .i64 x18.Stamp) (.int .i64 (IntKind.wrap .i64 (x22 + 1))) H7) fun H9 =>
IDXA 2 x18.Owner (
LD (T_int .i64) H9 H2.length (0 + x18.Owner.toNat * 1) fun (x23 : Int) =>
IDXA 2 x18.Owner (
ST H9 H2.length (0 + x18.Owner.toNat * 1) [(.int .i64 (IntKind.wrap .i64 (x23 + 1)))] fun H10 =>
JOIN (fun (j24 : (Bool × Unit) × (Unit) → Heap → Prop) =>
GENV (T_int .i64) (aLookup E 76 (.map (some H1.length)) (.int .i64 x18.Stamp) false H10) fun (x26 : Int) =>
ifB (decide (x26 > 1)) (
j24 ((true, ()), (())) H10) (
IDXA 2 x18.Owner (
LD (T_int .i64) H10 H2.length (0 + x18.Owner.toNat * 1) fun (x27 : Int) =>
j24 ((decide (x27 > 8), ()), (())) H10))) fun (y25 : (Bool × Unit) × (Unit)) H11 =>
ifB y25.1.1 (
Q (false, ()) H11) (
j20 ((s15.1.1, ()), (())) H11)))) (
JOIN (fun (j28 : (Bool × Unit) × (Unit) → Heap → Prop) =>
ifB (x18.Place == 1) (
j28 ((x18.Place == 1, ()), (())) H7) (
j28 ((x18.Place == 2, ()), (())) H7)) fun (y29 : (Bool × Unit) × (Unit)) H12 =>
JOIN (fun (j30 : (Int × Unit) × (Unit) → Heap → Prop) =>
ifB y29.1.1 (
j30 ((IntKind.wrap .i64 (s15.1.1 + 1), ()), (())) H12) (
j30 ((s15.1.1, ()), (())) H12)) fun (y31 : (Int × Unit) × (Unit)) H13 =>
j20 ((y31.1.1, ()), (())) H13)) fun (y21 : (Int × Unit) × (Unit)) H8 =>
r14 ((y21.1.1, IntKind.wrap .i64 (s15.1.2.1 + 1), ()), (())) H8)) (
j12 ((s15.1.1, ()), (())) H6)) ((0, 0, ()), (())) H4) fun (y13 : (Int × Unit) × (Unit)) H5 =>
NEWM H5 fun H14 =>
JOIN (fun (j32 : (Unit) × (Unit) → Heap → Prop) =>
LOOP (fun (r34 : (Int × Unit) × (Unit) → Heap → Prop) (s35 : (Int × Unit) × (Unit)) H16 =>
ifB (decide (s35.1.1 < 2)) (
JOIN (fun (j36 : (Unit) × (Unit) → Heap → Prop) =>
NIL a0 fun b38 o39 =>
IDXA 2 s35.1.1 (
LD T_sl H16 b38 (o39 + 3 + s35.1.1.toNat * 1) fun (x40 : Sl) =>
ifB (decide ((x40.len : Int) > 10)) (
Q (false, ()) H16) (
NIL a0 fun b41 o42 =>
IDXA 2 s35.1.1 (
LD T_sl H16 b41 (o42 + 1 + s35.1.1.toNat * 1) fun (x43 : Sl) =>
NIL a0 fun b44 o45 =>
IDXA 2 s35.1.1 (
LD T_sl H16 b44 (o45 + 3 + s35.1.1.toNat * 1) fun (x46 : Sl) =>
JOIN (fun (j47 : (Unit) × (Unit) → Heap → Prop) =>
LOOP (fun (r49 : (Int × Unit) × (Unit) → Heap → Prop) (s50 : (Int × Unit) × (Unit)) H19 =>
ifB (decide (s50.1.1 < 2)) (
JOIN (fun (j51 : (Unit) × (Unit) → Heap → Prop) =>
GENV T_sl (aIndex E 30 (.agg #[(.slice x43.p x43.len x43.cap), (.slice x46.p x46.len x46.cap)]) (.int .i64 s50.1.1)) fun (x53 : Sl) =>
JOIN (fun (j54 : (Unit) × (Unit) → Heap → Prop) =>
LOOP (fun (r56 : (Int × Unit) × (Unit) → Heap → Prop) (s57 : (Int × Unit) × (Unit)) H22 =>
ifB (decide (s57.1.1 < (x53.len : Int))) (
IDX x53.p x53.len s57.1.1 1 fun b58 o59 =>
LD (T_int .i64) H22 b58 o59 fun (x60 : Int) =>
JOIN (fun (j61 : (Bool × Unit) × (Unit) → Heap → Prop) =>
ifB (decide (x60 < 1)) (
j61 ((true, ()), (())) H22) (
NIL a0 fun b63 o64 =>
LD T_sl H22 b63 (o64 + 0) fun (x65 : Sl) =>
ifB (decide (x60 > (x65.len : Int))) (
j61 ((true, ()), (())) H22) (
GENV (T_int .i64) (aLookup E 76 (.map (some H5.length)) (.int .i64 x60) false H22) fun (x66 : Int) =>
ifB (decide (x66 > 0)) (
j61 ((true, ()), (())) H22) (
NIL a0 fun b67 o68 =>
LD T_sl H22 b67 (o68 + 0) fun (x69 : Sl) =>
IDX x69.p x69.len (IntKind.wrap .i64 (x60 - 1)) 11 fun b70 o71 =>
LD (T_int .i64) H22 b70 (o71 + 1) fun (x72 : Int) =>
ifB (x72 != s35.1.1) (
j61 ((true, ()), (())) H22) (
NIL a0 fun b73 o74 =>
LD T_sl H22 b73 (o74 + 0) fun (x75 : Sl) =>
IDX x75.p x75.len (IntKind.wrap .i64 (x60 - 1)) 11 fun b76 o77 =>
LD (T_int .u8) H22 b76 (o77 + 2) fun (x78 : Int) =>
j61 ((x78 != (IntKind.wrap .u8 (1 + (IntKind.wrap .u8 s50.1.1))), ()), (())) H22))))) fun (y62 : (Bool × Unit) × (Unit)) H23 =>
ifB y62.1.1 (
Q (false, ()) H23) (
GENV (T_int .i64) (aLookup E 76 (.map (some H5.length)) (.int .i64 x60) false H23) fun (x79 : Int) =>
GENH (aMapUpdate E 76 (.map (some H5.length)) (.int .i64 x60) (.int .i64 (IntKind.wrap .i64 (x79 + 1))) H23) fun H24 =>
r56 ((IntKind.wrap .i64 (s57.1.1 + 1), ()), (())) H24)) (
j54 ((()), (())) H22)) ((0, ()), (())) H19) fun (y55 : (Unit) × (Unit)) H21 =>
j51 ((()), (())) H21) fun (y52 : (Unit) × (Unit)) H20 =>
r49 ((IntKind.wrap .i64 (s50.1.1 + 1), ()), (())) H20) (
j47 ((()), (())) H19)) ((0, ()), (())) H16) fun (y48 : (Unit) × (Unit)) H18 =>
j36 ((()), (())) H18))))) fun (y37 : (Unit) × (Unit)) H17 =>
r34 ((IntKind.wrap .i64 (s35.1.1 + 1), ()), (())) H17) (
j32 ((()), (())) H16)) ((0, ()), (())) H14) fun (y33 : (Unit) × (Unit)) H15 =>
GENV (T_int .i64) (aLen E 76 (.map (some H5.length)) H15) fun (x80 : Int) =>
Q (x80 == y13.1.1, ()) H15)
def h_zone_Zones_sound : Hnt := (.seq .leaf (.seq (.seq (.reg ⟨[(25, T_bool)], [], [14, 15, 16, 17, 18, 19, 20, 21, 22, 23, 24]⟩) .leaf) (.seq .leaf (.seq .leaf (.seq .leaf (.seq (.seq .leaf (.blk (some ⟨[(5, (T_int .i64))], [], [2, 7, 33, 34, 35, 36, 37, 38, 39, 40, 41, 42, 43, 44, 45, 46, 47, 48, 49, 50, 51, 52, 53, 54, 55, 56, 57, 58, 59, 60, 61, 62, 63, 64, 65, 66, 67, 68, 69, 70, 71, 72, 73]⟩) (.loop ⟨[(5, (T_int .i64)), (33, (T_int .i64))], [], [2, 7, 34, 35, 36, 37, 38, 39, 40, 41, 42, 43, 44, 45, 46, 47, 48, 49, 50, 51, 52, 53, 54, 55, 56, 57, 58, 59, 60, 61, 62, 63, 64, 65, 66, 67, 68, 69, 70, 71, 72, 73]⟩ (.seq .leaf (.seq .leaf (.seq (.blk none (.seq .leaf (.seq .leaf (.seq .leaf (.blk none (.seq .leaf (.cond (some ⟨[(5, (T_int .i64))], [], [2, 45, 46, 47, 48, 49, 50, 51, 52, 53, 54, 55, 56, 57, 58, 59, 60, 61, 62, 63, 64, 65, 66, 67, 68, 69, 70, 71, 72]⟩) (.seq .leaf (.seq .leaf (.seq (.reg ⟨[(67, T_bool)], [], [56, 57, 58, 59, 60, 61, 62, 63, 64, 65, 66]⟩) .leaf))) (.seq (.seq .leaf (.cond (some ⟨[(68, T_bool)], [], [70]⟩) .leaf .leaf)) (.cond (some ⟨[(5, (T_int .i64))], [], [71, 72]⟩) .leaf .leaf))))))))) .leaf)))))) (.seq .leaf (.seq (.seq .leaf (.blk (some ⟨[], [], [2, 9, 10, 11, 13, 75, 76, 77, 78, 79, 80, 81, 82, 83, 84, 85, 86, 87, 88, 89, 90, 91, 92, 93, 94, 95, 96, 97, 98, 99, 100, 101, 102, 103, 104, 105, 106, 107, 108, 109, 110, 111, 112, 113, 114, 115, 116, 117, 118, 119, 120, 121, 122, 123, 124, 125, 126, 127, 128, 129, 130, 131, 132, 133, 134, 135, 136, 137, 138, 139, 140, 141, 142, 143, 144, 145, 146, 147, 148, 149, 150, 151, 152, 153, 154, 155, 156, 157, 158, 159, 160]⟩) (.loop ⟨[(75, (T_int .i64))], [], [2, 9, 10, 11, 13, 76, 77, 78, 79, 80, 81, 82, 83, 84, 85, 86, 87, 88, 89, 90, 91, 92, 93, 94, 95, 96, 97, 98, 99, 100, 101, 102, 103, 104, 105, 106, 107, 108, 109, 110, 111, 112, 113, 114, 115, 116, 117, 118, 119, 120, 121, 122, 123, 124, 125, 126, 127, 128, 129, 130, 131, 132, 133, 134, 135, 136, 137, 138, 139, 140, 141, 142, 143, 144, 145, 146, 147, 148, 149, 150, 151, 152, 153, 154, 155, 156, 157, 158, 159, 160]⟩ (.seq .leaf (.seq .leaf (.seq (.blk (some ⟨[], [], [2, 9, 10, 11, 13, 77, 78, 79, 80, 81, 82, 83, 84, 85, 86, 87, 88, 89, 90, 91, 92, 93, 94, 95, 96, 97, 98, 99, 100, 101, 102, 103, 104, 105, 106, 107, 108, 109, 110, 111, 112, 113, 114, 115, 116, 117, 118, 119, 120, 121, 122, 123, 124, 125, 126, 127, 128, 129, 130, 131, 132, 133, 134, 135, 136, 137, 138, 139, 140, 141, 142, 143, 144, 145, 146, 147, 148, 149, 150, 151, 152, 153, 154, 155, 156, 157, 158, 159]⟩) (.seq .leaf (.seq .leaf (.seq .leaf (.blk (some ⟨[], [], [2, 10, 11, 13, 99, 100, 101, 102, 103, 104, 105, 106, 107, 108, 109, 110, 111, 112, 113, 114, 115, 116, 117, 118, 119, 120, 121, 122, 123, 124, 125, 126, 127, 128, 129, 130, 131, 132, 133, 134, 135, 136, 137, 138, 139, 140, 141, 142, 143, 144, 145, 146, 147, 148, 149, 150, 151, 152, 153, 154, 155, 156, 157, 158, 159]⟩) (.loop ⟨[(99, (T_int .i64))], [], [2, 10, 11, 13, 100, 101, 102, 103, 104, 105, 106, 107, 108, 109, 110, 111, 112, 113, 114, 115, 116, 117, 118, 119, 120, 121, 122, 123, 124, 125, 126, 127, 128, 129, 130, 131, 132, 133, 134, 135, 136, 137, 138, 139, 140, 141, 142, 143, 144, 145, 146, 147, 148, 149, 150, 151, 152, 153, 154, 155, 156, 157, 158, 159]⟩ (.seq .leaf (.seq .leaf (.seq (.blk (some ⟨[], [], [2, 10, 11, 13, 101, 102, 103, 104, 105, 106, 107, 108, 109, 110, 111, 112, 113, 114, 115, 116, 117, 118, 119, 120, 121, 122, 123, 124, 125, 126, 127, 128, 129, 130, 131, 132, 133, 134, 135, 136, 137, 138, 139, 140, 141, 142, 143, 144, 145, 146, 147, 148, 149, 150, 151, 152, 153, 154, 155, 156, 157, 158]⟩) (.seq .leaf (.seq .leaf (.blk (some ⟨[], [], [2, 13, 105, 106, 107, 108, 109, 110, 111, 112, 113, 114, 115, 116, 117, 118, 119, 120, 121, 122, 123, 124, 125, 126, 127, 128, 129, 130, 131, 132, 133, 134, 135, 136, 137, 138, 139, 140, 141, 142, 143, 144, 145, 146, 147, 148, 149, 150, 151, 152, 153, 154, 155, 156, 157, 158]⟩) (.loop ⟨[(105, (T_int .i64))], [], [2, 13, 106, 107, 108, 109, 110, 111, 112, 113, 114, 115, 116, 117, 118, 119, 120, 121, 122, 123, 124, 125, 126, 127, 128, 129, 130, 131, 132, 133, 134, 135, 136, 137, 138, 139, 140, 141, 142, 143, 144, 145, 146, 147, 148, 149, 150, 151, 152, 153, 154, 155, 156, 157, 158]⟩ (.seq .leaf (.seq .leaf (.seq (.blk none (.seq .leaf (.seq (.seq (.reg ⟨[(153, T_bool)], [], [109, 110, 111, 112, 113, 114, 115, 116, 117, 118, 119, 120, 121, 122, 123, 124, 125, 126, 127, 128, 129, 130, 131, 132, 133, 134, 135, 136, 137, 138, 139, 140, 141, 142, 143, 144, 145, 146, 147, 148, 149, 150, 151, 152]⟩) .leaf) .leaf))) .leaf)))))))) .leaf))))))))) .leaf)))))) .leaf))))))))
theorem e_zone_Zones_sound (a0 : Option Addr) (H : Heap) (Q : Bool × Unit → Heap → Prop) : S_zone_Zones_sound a0 H Q = cFn C [7] Try.f27.ntmps Try.f27.results.toList [T_bool] (bodyOf Try.f27) h_zone_Zones_sound [(.pointer a0)] H Q := by kernel_rfl
theorem c_zone_Zones_sound {a0 : Option Addr} {H : Heap} {Q : Bool × Unit → Heap → Prop} (h : S_zone_Zones_sound a0 H Q) : CALL P [T_bool] n_zone_Zones_sound [(.pointer a0)] H Q := call_print hE Try.func27 rfl (by kernel_rfl) (e_zone_Zones_sound a0 H Q) h

def S_zone_Zones_In (a0 : Option Addr) (a1 : Int) (a2 : Int) (H : Heap) (Q : Sl × Unit → Heap → Prop) : Prop :=
JOIN (fun (j1 : (Bool × Unit) × (Unit) → Heap → Prop) =>
CALL P [T_bool] n_zone_Zones_is [(.pointer a0)] H fun (x3 : Bool × Unit) H2 =>
ifB (!x3.1) (
j1 ((true, ()), (())) H2) (
CALL P [T_bool] n_zone_player [(.int .i64 a1)] H2 fun (x4 : Bool × Unit) H3 =>
j1 ((!x4.1, ()), (())) H3)) fun (y2 : (Bool × Unit) × (Unit)) H1 =>
ifB y2.1.1 (
Q ((Sl.mk none 0 0), ()) H1) (
CALL P [T_ptr] n_zone_Zones_list [(.pointer a0), (.int .i64 a1), (.int .u8 a2)] H1 fun (x5 : (Option Addr) × Unit) H4 =>
ifB (!x5.1.isNone) (
NIL x5.1 fun b6 o7 =>
LD T_sl H4 b6 o7 fun (x8 : Sl) =>
CALL P [T_sl] n_zone_told_int [x8.v] H4 fun (x9 : Sl × Unit) H5 =>
Q (x9.1, ()) H5) (
ifB (a2 == 4) (
CALL P [T_sl] n_zone_Zones_Table [(.pointer a0)] H4 fun (x10 : Sl × Unit) H6 =>
JOIN (fun (j11 : (Sl × Unit) × (Unit) → Heap → Prop) =>
LOOP (fun (r13 : (Sl × Int × Unit) × (Unit) → Heap → Prop) (s14 : (Sl × Int × Unit) × (Unit)) H8 =>
ifB (decide (s14.1.2.1 < (x10.1.len : Int))) (
IDX x10.1.p x10.1.len s14.1.2.1 1 fun b15 o16 =>
LD (T_int .i64) H8 b15 o16 fun (x17 : Int) =>
NIL a0 fun b18 o19 =>
LD T_sl H8 b18 (o19 + 0) fun (x20 : Sl) =>
IDX x20.p x20.len (IntKind.wrap .i64 (x17 - 1)) 11 fun b21 o22 =>
LD (T_int .i64) H8 b21 (o22 + 1) fun (x23 : Int) =>
JOIN (fun (j24 : (Sl × Unit) × (Unit) → Heap → Prop) =>
ifB (x23 == a1) (
APP T_sl (lenV s14.1.1.v + 1) (aAppE E [22, 22] s14.1.1.v 1 [(.int .i64 x17)] H8) fun (x26 : Sl) H10 =>
j24 ((x26, ()), (())) H10) (
j24 ((s14.1.1, ()), (())) H8)) fun (y25 : (Sl × Unit) × (Unit)) H9 =>
r13 ((y25.1.1, IntKind.wrap .i64 (s14.1.2.1 + 1), ()), (())) H9) (
j11 ((s14.1.1, ()), (())) H8)) (((Sl.mk none 0 0), 0, ()), (())) H6) fun (y12 : (Sl × Unit) × (Unit)) H7 =>
Q (y12.1.1, ()) H7) (
NIL a0 fun b27 o28 =>
LD T_sl H4 b27 (o28 + 0) fun (x29 : Sl) =>
JOIN (fun (j30 : (Sl × Unit) × (Unit) → Heap → Prop) =>
LOOP (fun (r32 : (Sl × Int × Unit) × (Unit) → Heap → Prop) (s33 : (Sl × Int × Unit) × (Unit)) H12 =>
ifB (decide (s33.1.2.1 < (x29.len : Int))) (
IDX x29.p x29.len s33.1.2.1 11 fun b34 o35 =>
LD T_G_api_Thing H12 b34 o35 fun (x36 : G_api_Thing) =>
JOIN (fun (j37 : (Bool × Unit) × (Unit) → Heap → Prop) =>
ifB (x36.Owner == a1) (
j37 ((x36.Place == a2, ()), (())) H12) (
j37 ((false, ()), (())) H12)) fun (y38 : (Bool × Unit) × (Unit)) H13 =>
JOIN (fun (j39 : (Sl × Unit) × (Unit) → Heap → Prop) =>
ifB y38.1.1 (
APP T_sl (lenV s33.1.1.v + 1) (aAppE E [22, 22] s33.1.1.v 1 [(.int .i64 (IntKind.wrap .i64 (s33.1.2.1 + 1)))] H13) fun (x41 : Sl) H15 =>
j39 ((x41, ()), (())) H15) (
j39 ((s33.1.1, ()), (())) H13)) fun (y40 : (Sl × Unit) × (Unit)) H14 =>
r32 ((y40.1.1, IntKind.wrap .i64 (s33.1.2.1 + 1), ()), (())) H14) (
j30 ((s33.1.1, ()), (())) H12)) (((Sl.mk none 0 0), 0, ()), (())) H4) fun (y31 : (Sl × Unit) × (Unit)) H11 =>
Q (y31.1.1, ()) H11)))
def h_zone_Zones_In : Hnt := (.seq .leaf (.seq (.seq (.reg ⟨[(20, T_bool)], [], [13, 14, 15, 16, 17, 18, 19]⟩) .leaf) (.seq .leaf (.seq .leaf (.seq (.seq .leaf (.cond none (.seq (.seq .leaf (.blk (some ⟨[(8, T_sl)], [], [10, 36, 37, 38, 39, 40, 41, 42, 43, 44, 45, 46, 47, 48, 49, 50, 51, 52, 53, 54, 55]⟩) (.loop ⟨[(8, T_sl), (36, (T_int .i64))], [], [10, 37, 38, 39, 40, 41, 42, 43, 44, 45, 46, 47, 48, 49, 50, 51, 52, 53, 54, 55]⟩ (.seq .leaf (.seq .leaf (.seq (.blk none (.seq .leaf (.seq .leaf (.cond (some ⟨[(8, T_sl)], [], [51, 52, 53, 54]⟩) .leaf .leaf)))) .leaf)))))) .leaf) .leaf)) (.seq (.seq .leaf (.blk (some ⟨[(8, T_sl)], [], [11, 12, 62, 63, 64, 65, 66, 67, 68, 69, 70, 71, 72, 73, 74, 75, 76, 77, 78, 79, 80, 81, 82]⟩) (.loop ⟨[(8, T_sl), (62, (T_int .i64))], [], [11, 12, 63, 64, 65, 66, 67, 68, 69, 70, 71, 72, 73, 74, 75, 76, 77, 78, 79, 80, 81, 82]⟩ (.seq .leaf (.seq .leaf (.seq (.blk none (.seq .leaf (.seq (.reg ⟨[(76, T_bool)], [], [67, 68, 69, 70, 71, 72, 73, 74, 75]⟩) (.cond (some ⟨[(8, T_sl)], [], [77, 78, 79, 80, 81]⟩) .leaf .leaf)))) .leaf)))))) .leaf))))))
theorem e_zone_Zones_In (a0 : Option Addr) (a1 : Int) (a2 : Int) (H : Heap) (Q : Sl × Unit → Heap → Prop) : S_zone_Zones_In a0 a1 a2 H Q = cFn C [12, 53, 80] Try.f28.ntmps Try.f28.results.toList [T_sl] (bodyOf Try.f28) h_zone_Zones_In [(.pointer a0), (.int .i64 a1), (.int .u8 a2)] H Q := by kernel_rfl
theorem c_zone_Zones_In {a0 : Option Addr} {a1 : Int} {a2 : Int} {H : Heap} {Q : Sl × Unit → Heap → Prop} (h : S_zone_Zones_In a0 a1 a2 H Q) : CALL P [T_sl] n_zone_Zones_In [(.pointer a0), (.int .i64 a1), (.int .u8 a2)] H Q := call_print hE Try.func28 rfl (by kernel_rfl) (e_zone_Zones_In a0 a1 a2 H Q) h

def S_zone_Zones_owned (a0 : Option Addr) (a1 : Int) (H : Heap) (Q : Int × Unit → Heap → Prop) : Prop :=
NIL a0 fun b1 o2 =>
LD T_sl H b1 (o2 + 0) fun (x3 : Sl) =>
JOIN (fun (j4 : (Int × Unit) × (Unit) → Heap → Prop) =>
LOOP (fun (r6 : (Int × Int × Unit) × (Unit) → Heap → Prop) (s7 : (Int × Int × Unit) × (Unit)) H2 =>
ifB (decide (s7.1.2.1 < (x3.len : Int))) (
IDX x3.p x3.len s7.1.2.1 11 fun b8 o9 =>
LD T_G_api_Thing H2 b8 o9 fun (x10 : G_api_Thing) =>
JOIN (fun (j11 : (Bool × Unit) × (Unit) → Heap → Prop) =>
ifB (x10.Place == 4) (
j11 ((x10.Owner == a1, ()), (())) H2) (
j11 ((false, ()), (())) H2)) fun (y12 : (Bool × Unit) × (Unit)) H3 =>
JOIN (fun (j13 : (Int × Unit) × (Unit) → Heap → Prop) =>
ifB y12.1.1 (
j13 ((IntKind.wrap .i64 (s7.1.1 + 1), ()), (())) H3) (
j13 ((s7.1.1, ()), (())) H3)) fun (y14 : (Int × Unit) × (Unit)) H4 =>
r6 ((y14.1.1, IntKind.wrap .i64 (s7.1.2.1 + 1), ()), (())) H4) (
j4 ((s7.1.1, ()), (())) H2)) ((0, 0, ()), (())) H) fun (y5 : (Int × Unit) × (Unit)) H1 =>
Q (y5.1.1, ()) H1
def h_zone_Zones_owned : Hnt := (.seq .leaf (.seq .leaf (.seq (.seq .leaf (.blk (some ⟨[(5, (T_int .i64))], [], [7, 13, 14, 15, 16, 17, 18, 19, 20, 21, 22, 23, 24, 25, 26, 27, 28]⟩) (.loop ⟨[(5, (T_int .i64)), (13, (T_int .i64))], [], [7, 14, 15, 16, 17, 18, 19, 20, 21, 22, 23, 24, 25, 26, 27, 28]⟩ (.seq .leaf (.seq .leaf (.seq (.blk none (.seq .leaf (.seq (.reg ⟨[(25, T_bool)], [], [17, 18, 19, 20, 21, 22, 23, 24]⟩) (.cond (some ⟨[(5, (T_int .i64))], [], [26, 27]⟩) .leaf .leaf)))) .leaf)))))) .leaf)))
theorem e_zone_Zones_owned (a0 : Option Addr) (a1 : Int) (H : Heap) (Q : Int × Unit → Heap → Prop) : S_zone_Zones_owned a0 a1 H Q = cFn C [7] Try.f29.ntmps Try.f29.results.toList [(T_int .i64)] (bodyOf Try.f29) h_zone_Zones_owned [(.pointer a0), (.int .i64 a1)] H Q := by kernel_rfl
theorem c_zone_Zones_owned {a0 : Option Addr} {a1 : Int} {H : Heap} {Q : Int × Unit → Heap → Prop} (h : S_zone_Zones_owned a0 a1 H Q) : CALL P [(T_int .i64)] n_zone_Zones_owned [(.pointer a0), (.int .i64 a1)] H Q := call_print hE Try.func29 rfl (by kernel_rfl) (e_zone_Zones_owned a0 a1 H Q) h

def S_zone_Zones_come (a0 : Option Addr) (a1 : Int) (a2 : Int) (H : Heap) (Q : Unit → Heap → Prop) : Prop :=
NIL a0 fun b1 o2 =>
LD T_sl H b1 (o2 + 0) fun (x3 : Sl) =>
IDX x3.p x3.len (IntKind.wrap .i64 (a1 - 1)) 11 fun b4 o5 =>
LD (T_int .i64) H b4 (o5 + 1) fun (x6 : Int) =>
LD (T_int .u8) H b4 (o5 + 2) fun (x7 : Int) =>
CALL P [T_ptr] n_zone_Zones_list [(.pointer a0), (.int .i64 x6), (.int .u8 x7)] H fun (x8 : (Option Addr) × Unit) H1 =>
JOIN (fun (j9 : (Unit) × (Unit) → Heap → Prop) =>
ifB (!x8.1.isNone) (
NIL x8.1 fun b11 o12 =>
LD T_sl H1 b11 o12 fun (x13 : Sl) =>
CALL P [(T_int .i64)] n_slices_Index_int_int [x13.v, (.int .i64 a1)] H1 fun (x14 : Int × Unit) H3 =>
JOIN (fun (j15 : (Unit) × (Unit) → Heap → Prop) =>
ifB (decide (x14.1 ≥ 0)) (
NIL x8.1 fun b17 o18 =>
LD T_sl H3 b17 o18 fun (x19 : Sl) =>
GENV T_sl (aSlice E 22 x19.v none (some (.int .i64 x14.1)) (some (.int .i64 x14.1)) H3) fun (x20 : Sl) =>
NIL x8.1 fun b21 o22 =>
LD T_sl H3 b21 o22 fun (x23 : Sl) =>
GENV T_sl (aSlice E 22 x23.v (some (.int .i64 (IntKind.wrap .i64 (x14.1 + 1)))) none none H3) fun (x24 : Sl) =>
APP T_sl (lenV x20.v + (lenX x24.v).getD 0) (aAppendE E [22, 22] x20.v x24.v H3) fun (x25 : Sl) H5 =>
NIL x8.1 fun b26 o27 =>
ST H5 b26 o27 [(.slice x25.p x25.len x25.cap)] fun H6 =>
j15 ((()), (())) H6) (
j15 ((()), (())) H3)) fun (y16 : (Unit) × (Unit)) H4 =>
j9 ((()), (())) H4) (
j9 ((()), (())) H1)) fun (y10 : (Unit) × (Unit)) H2 =>
ST H2 b4 (o5 + 2) [(.int .u8 a2)] fun H7 =>
LD T_G_api_Thing H7 b4 o5 fun (x28 : G_api_Thing) =>
CALL P [T_G_api_Thing] n_zone_home [(T_G_api_Thing.enc x28)] H7 fun (x29 : G_api_Thing × Unit) H8 =>
ST H8 b4 o5 (T_G_api_Thing.cells x29.1) fun H9 =>
LD (T_int .i64) H9 b4 (o5 + 1) fun (x30 : Int) =>
CALL P [T_ptr] n_zone_Zones_list [(.pointer a0), (.int .i64 x30), (.int .u8 a2)] H9 fun (x31 : (Option Addr) × Unit) H10 =>
JOIN (fun (j32 : (Unit) × (Unit) → Heap → Prop) =>
ifB (!x31.1.isNone) (
NIL x31.1 fun b34 o35 =>
LD T_sl H10 b34 o35 fun (x36 : Sl) =>
APP T_sl (lenV x36.v + 1) (aAppE E [22, 22] x36.v 1 [(.int .i64 a1)] H10) fun (x37 : Sl) H12 =>
NIL x31.1 fun b38 o39 =>
ST H12 b38 o39 [(.slice x37.p x37.len x37.cap)] fun H13 =>
j32 ((()), (())) H13) (
j32 ((()), (())) H10)) fun (y33 : (Unit) × (Unit)) H11 =>
JOIN (fun (j40 : (Unit) × (Unit) → Heap → Prop) =>
ifB (a2 == 4) (
NIL a0 fun b42 o43 =>
LD (T_int .i64) H11 b42 (o43 + 5) fun (x44 : Int) =>
ST H11 b4 (o5 + 3) [(.int .i64 x44)] fun H15 =>
ST H15 b4 (o5 + 10) [(.bool true)] fun H16 =>
NIL a0 fun b45 o46 =>
LD (T_int .i64) H16 b45 (o46 + 5) fun (x47 : Int) =>
NIL a0 fun b48 o49 =>
ST H16 b48 (o49 + 5) [(.int .i64 (IntKind.wrap .i64 (x47 + 1)))] fun H17 =>
j40 ((()), (())) H17) (
j40 ((()), (())) H11)) fun (y41 : (Unit) × (Unit)) H14 =>
Q (()) H14
def h_zone_Zones_come : Hnt := (.seq .leaf (.seq (.seq .leaf (.seq .leaf (.cond (some ⟨[], [], [8, 29, 30, 31, 32, 33, 34, 35, 36, 37, 38, 39, 40, 41, 42, 43, 44, 45, 46, 47, 48, 49, 50]⟩) (.seq .leaf (.seq .leaf (.cond (some ⟨[], [], [36, 37, 38, 39, 40, 41, 42, 43, 44, 45, 46, 47, 48, 49, 50]⟩) .leaf .leaf))) .leaf))) (.seq .leaf (.seq .leaf (.seq (.seq .leaf (.seq .leaf (.cond (some ⟨[], [], [70, 71, 72, 73, 74, 75, 76, 77]⟩) .leaf .leaf))) (.seq .leaf (.cond (some ⟨[], [], [80, 81, 82, 83, 84, 85, 86, 87, 88, 89, 90, 91, 92, 93, 94, 95, 96]⟩) .leaf .leaf)))))))
theorem e_zone_Zones_come (a0 : Option Addr) (a1 : Int) (a2 : Int) (H : Heap) (Q : Unit → Heap → Prop) : S_zone_Zones_come a0 a1 a2 H Q = cFn C [75] Try.f30.ntmps Try.f30.results.toList [] (bodyOf Try.f30) h_zone_Zones_come [(.pointer a0), (.int .i64 a1), (.int .u8 a2)] H Q := by kernel_rfl
theorem c_zone_Zones_come {a0 : Option Addr} {a1 : Int} {a2 : Int} {H : Heap} {Q : Unit → Heap → Prop} (h : S_zone_Zones_come a0 a1 a2 H Q) : CALL P [] n_zone_Zones_come [(.pointer a0), (.int .i64 a1), (.int .u8 a2)] H Q := call_print hE Try.func30 rfl (by kernel_rfl) (e_zone_Zones_come a0 a1 a2 H Q) h

def S_zone_Zones_is (a0 : Option Addr) (H : Heap) (Q : Bool × Unit → Heap → Prop) : Prop :=
JOIN (fun (j1 : (Bool × Unit) × (Unit) → Heap → Prop) =>
ifB (!a0.isNone) (
NIL a0 fun b3 o4 =>
LD (T_int .i64) H b3 (o4 + 5) fun (x5 : Int) =>
j1 ((decide (x5 > 0), ()), (())) H) (
j1 ((false, ()), (())) H)) fun (y2 : (Bool × Unit) × (Unit)) H1 =>
Q (y2.1.1, ()) H1
def h_zone_Zones_is : Hnt := (.seq .leaf (.seq (.reg ⟨[(2, T_bool)], [], [3, 4, 5, 6, 7, 8, 9, 10, 11]⟩) .leaf))
theorem e_zone_Zones_is (a0 : Option Addr) (H : Heap) (Q : Bool × Unit → Heap → Prop) : S_zone_Zones_is a0 H Q = cFn C [] Try.f31.ntmps Try.f31.results.toList [T_bool] (bodyOf Try.f31) h_zone_Zones_is [(.pointer a0)] H Q := by kernel_rfl
theorem c_zone_Zones_is {a0 : Option Addr} {H : Heap} {Q : Bool × Unit → Heap → Prop} (h : S_zone_Zones_is a0 H Q) : CALL P [T_bool] n_zone_Zones_is [(.pointer a0)] H Q := call_print hE Try.func31 rfl (by kernel_rfl) (e_zone_Zones_is a0 H Q) h

def S_slices_SortFunc_int_int (a0 : Sl) (a1 : Value) (H : Heap) (Q : Unit → Heap → Prop) : Prop :=
CALL P [(T_int .i64)] n_math_bits_Len [(.int .u64 (IntKind.wrap .u64 (a0.len : Int)))] H fun (x1 : Int × Unit) H1 =>
CALL P [] n_slices_pdqsortCmpFunc_int [a0.v, (.int .i64 0), (.int .i64 (a0.len : Int)), (.int .i64 x1.1), a1] H1 fun (x2 : Unit) H2 =>
Q (()) H2
def h_slices_SortFunc_int_int : Hnt := .leaf
theorem e_slices_SortFunc_int_int (a0 : Sl) (a1 : Value) (H : Heap) (Q : Unit → Heap → Prop) : S_slices_SortFunc_int_int a0 a1 H Q = cFn C [] Try.f32.ntmps Try.f32.results.toList [] (bodyOf Try.f32) h_slices_SortFunc_int_int [a0.v, a1] H Q := by kernel_rfl
theorem c_slices_SortFunc_int_int {a0 : Sl} {a1 : Value} {H : Heap} {Q : Unit → Heap → Prop} (h : S_slices_SortFunc_int_int a0 a1 H Q) : CALL P [] n_slices_SortFunc_int_int [a0.v, a1] H Q := call_print hE Try.func32 rfl (by kernel_rfl) (e_slices_SortFunc_int_int a0 a1 H Q) h

def S_zone_Zones_Table_1 (a0 : Int) (a1 : Int) (c0 : Nat × Nat) (H : Heap) (Q : Int × Unit → Heap → Prop) : Prop :=
LD T_ptr H c0.1 c0.2 fun (x1 : Option Addr) =>
NIL x1 fun b2 o3 =>
LD T_sl H b2 (o3 + 0) fun (x4 : Sl) =>
IDX x4.p x4.len (IntKind.wrap .i64 (a0 - 1)) 11 fun b5 o6 =>
LD (T_int .i64) H b5 (o6 + 3) fun (x7 : Int) =>
LD T_ptr H c0.1 c0.2 fun (x8 : Option Addr) =>
NIL x8 fun b9 o10 =>
LD T_sl H b9 (o10 + 0) fun (x11 : Sl) =>
IDX x11.p x11.len (IntKind.wrap .i64 (a1 - 1)) 11 fun b12 o13 =>
LD (T_int .i64) H b12 (o13 + 3) fun (x14 : Int) =>
Q (IntKind.wrap .i64 (x7 - x14), ()) H
def h_zone_Zones_Table_1 : Hnt := .leaf
theorem e_zone_Zones_Table_1 (a0 : Int) (a1 : Int) (c0 : Nat × Nat) (H : Heap) (Q : Int × Unit → Heap → Prop) : S_zone_Zones_Table_1 a0 a1 c0 H Q = cFn C [] Try.f33.ntmps Try.f33.results.toList [(T_int .i64)] (bodyOf Try.f33) h_zone_Zones_Table_1 [(.int .i64 a0), (.int .i64 a1), (.pointer (some ⟨c0.1, c0.2, none⟩))] H Q := by kernel_rfl
theorem c_zone_Zones_Table_1 {a0 : Int} {a1 : Int} {c0 : Nat × Nat} {H : Heap} {Q : Int × Unit → Heap → Prop} (h : S_zone_Zones_Table_1 a0 a1 c0 H Q) : CALL P [(T_int .i64)] n_zone_Zones_Table_1 [(.int .i64 a0), (.int .i64 a1), (.pointer (some ⟨c0.1, c0.2, none⟩))] H Q := call_print hE Try.func33 rfl (by kernel_rfl) (e_zone_Zones_Table_1 a0 a1 c0 H Q) h

def S_zone_told_api_Thing (a0 : Sl) (H : Heap) (Q : Sl × Unit → Heap → Prop) : Prop :=
NEW H [] 11 fun H1 =>
APP T_sl (lenV ((Sl.mk (some ⟨H.length, 0, none⟩) 0 0)).v + (lenX a0.v).getD 0) (aAppendE E [29, 29] ((Sl.mk (some ⟨H.length, 0, none⟩) 0 0)).v a0.v H1) fun (x1 : Sl) H2 =>
Q (x1, ()) H2
def h_zone_told_api_Thing : Hnt := .leaf
theorem e_zone_told_api_Thing (a0 : Sl) (H : Heap) (Q : Sl × Unit → Heap → Prop) : S_zone_told_api_Thing a0 H Q = cFn C [] Try.f34.ntmps Try.f34.results.toList [T_sl] (bodyOf Try.f34) h_zone_told_api_Thing [a0.v] H Q := by kernel_rfl
theorem c_zone_told_api_Thing {a0 : Sl} {H : Heap} {Q : Sl × Unit → Heap → Prop} (h : S_zone_told_api_Thing a0 H Q) : CALL P [T_sl] n_zone_told_api_Thing [a0.v] H Q := call_print hE Try.func34 rfl (by kernel_rfl) (e_zone_told_api_Thing a0 H Q) h

def S_zone_player (a0 : Int) (H : Heap) (Q : Bool × Unit → Heap → Prop) : Prop :=
JOIN (fun (j1 : (Bool × Unit) × (Unit) → Heap → Prop) =>
ifB (a0 == 0) (
j1 ((true, ()), (())) H) (
j1 ((a0 == 1, ()), (())) H)) fun (y2 : (Bool × Unit) × (Unit)) H1 =>
Q (y2.1.1, ()) H1
def h_zone_player : Hnt := (.seq .leaf (.seq (.reg ⟨[(2, T_bool)], [], [3, 4, 5, 6, 7, 8]⟩) .leaf))
theorem e_zone_player (a0 : Int) (H : Heap) (Q : Bool × Unit → Heap → Prop) : S_zone_player a0 H Q = cFn C [] Try.f35.ntmps Try.f35.results.toList [T_bool] (bodyOf Try.f35) h_zone_player [(.int .i64 a0)] H Q := by kernel_rfl
theorem c_zone_player {a0 : Int} {H : Heap} {Q : Bool × Unit → Heap → Prop} (h : S_zone_player a0 H Q) : CALL P [T_bool] n_zone_player [(.int .i64 a0)] H Q := call_print hE Try.func35 rfl (by kernel_rfl) (e_zone_player a0 H Q) h

def S_zone_marks (a0 : Int × Int × Int × Int) (H : Heap) (Q : Bool × Unit → Heap → Prop) : Prop :=
JOIN (fun (j1 : (Unit) × (Unit) → Heap → Prop) =>
LOOP (fun (r3 : (Int × Unit) × (Unit) → Heap → Prop) (s4 : (Int × Unit) × (Unit)) H2 =>
ifB (decide (s4.1.1 < 4)) (
GENV (T_int .i64) (aIndex E 36 (.agg #[(.int .i64 a0.1), (.int .i64 a0.2.1), (.int .i64 a0.2.2.1), (.int .i64 a0.2.2.2)]) (.int .i64 s4.1.1)) fun (x5 : Int) =>
JOIN (fun (j6 : (Bool × Unit) × (Unit) → Heap → Prop) =>
ifB (decide (x5 < 0)) (
j6 ((true, ()), (())) H2) (
j6 ((decide (x5 > 99), ()), (())) H2)) fun (y7 : (Bool × Unit) × (Unit)) H3 =>
ifB y7.1.1 (
Q (false, ()) H3) (
r3 ((IntKind.wrap .i64 (s4.1.1 + 1), ()), (())) H3)) (
j1 ((()), (())) H2)) ((0, ()), (())) H) fun (y2 : (Unit) × (Unit)) H1 =>
Q (true, ()) H1
def h_zone_marks : Hnt := (.seq .leaf (.seq (.seq .leaf (.blk (some ⟨[], [], [2, 4, 6, 7, 8, 9, 10, 11, 12, 13, 14, 15]⟩) (.loop ⟨[(6, (T_int .i64))], [], [2, 4, 7, 8, 9, 10, 11, 12, 13, 14, 15]⟩ (.seq .leaf (.seq .leaf (.seq (.blk none (.seq .leaf (.seq (.reg ⟨[(14, T_bool)], [], [9, 10, 11, 12, 13]⟩) .leaf))) .leaf)))))) .leaf))
theorem e_zone_marks (a0 : Int × Int × Int × Int) (H : Heap) (Q : Bool × Unit → Heap → Prop) : S_zone_marks a0 H Q = cFn C [1] Try.f36.ntmps Try.f36.results.toList [T_bool] (bodyOf Try.f36) h_zone_marks [(T_arr4_T_int_i64.enc a0)] H Q := by kernel_rfl
theorem c_zone_marks {a0 : Int × Int × Int × Int} {H : Heap} {Q : Bool × Unit → Heap → Prop} (h : S_zone_marks a0 H Q) : CALL P [T_bool] n_zone_marks [(T_arr4_T_int_i64.enc a0)] H Q := call_print hE Try.func36 rfl (by kernel_rfl) (e_zone_marks a0 H Q) h

def S_slices_Sorted_int (a0 : Value) (H : Heap) (Q : Sl × Unit → Heap → Prop) : Prop :=
CALL P [T_sl] n_slices_Collect_int [a0] H fun (x1 : Sl × Unit) H1 =>
CALL P [] n_slices_Sort_int_int [x1.1.v] H1 fun (x2 : Unit) H2 =>
Q (x1.1, ()) H2
def h_slices_Sorted_int : Hnt := .leaf
theorem e_slices_Sorted_int (a0 : Value) (H : Heap) (Q : Sl × Unit → Heap → Prop) : S_slices_Sorted_int a0 H Q = cFn C [] Try.f37.ntmps Try.f37.results.toList [T_sl] (bodyOf Try.f37) h_slices_Sorted_int [a0] H Q := by kernel_rfl
theorem c_slices_Sorted_int {a0 : Value} {H : Heap} {Q : Sl × Unit → Heap → Prop} (h : S_slices_Sorted_int a0 H Q) : CALL P [T_sl] n_slices_Sorted_int [a0] H Q := call_print hE Try.func37 rfl (by kernel_rfl) (e_slices_Sorted_int a0 H Q) h

def S_slices_Values_int_int (a0 : Sl) (H : Heap) (Q : Value × Unit → Heap → Prop) : Prop :=
NEW H [(.slice a0.p a0.len a0.cap)] 1 fun H1 =>
Q ((.func (.func n_slices_Values_int_int_1) #[] #[(.pointer (some ⟨H.length, 0, none⟩))]), ()) H1
def h_slices_Values_int_int : Hnt := .leaf
theorem e_slices_Values_int_int (a0 : Sl) (H : Heap) (Q : Value × Unit → Heap → Prop) : S_slices_Values_int_int a0 H Q = cFn C [] Try.f38.ntmps Try.f38.results.toList [T_any] (bodyOf Try.f38) h_slices_Values_int_int [a0.v] H Q := by kernel_rfl
theorem c_slices_Values_int_int {a0 : Sl} {H : Heap} {Q : Value × Unit → Heap → Prop} (h : S_slices_Values_int_int a0 H Q) : CALL P [T_any] n_slices_Values_int_int [a0.v] H Q := call_print hE Try.func38 rfl (by kernel_rfl) (e_slices_Values_int_int a0 H Q) h

def S_slices_Equal_int_int (a0 : Sl) (a1 : Sl) (H : Heap) (Q : Bool × Unit → Heap → Prop) : Prop :=
ifB ((a0.len : Int) != (a1.len : Int)) (
Q (false, ()) H) (
JOIN (fun (j1 : (Unit) × (Unit) → Heap → Prop) =>
LOOP (fun (r3 : (Int × Unit) × (Unit) → Heap → Prop) (s4 : (Int × Unit) × (Unit)) H2 =>
ifB (decide (s4.1.1 < (a0.len : Int))) (
IDX a0.p a0.len s4.1.1 1 fun b5 o6 =>
LD (T_int .i64) H2 b5 o6 fun (x7 : Int) =>
IDX a1.p a1.len s4.1.1 1 fun b8 o9 =>
LD (T_int .i64) H2 b8 o9 fun (x10 : Int) =>
ifB (x7 != x10) (
Q (false, ()) H2) (
r3 ((IntKind.wrap .i64 (s4.1.1 + 1), ()), (())) H2)) (
j1 ((()), (())) H2)) ((0, ()), (())) H) fun (y2 : (Unit) × (Unit)) H1 =>
Q (true, ()) H1)
def h_slices_Equal_int_int : Hnt := (.seq .leaf (.seq .leaf (.seq (.seq .leaf (.blk (some ⟨[], [], [4, 5, 13, 14, 15, 16, 17, 18, 19, 20, 21, 22, 23, 24, 25]⟩) (.loop ⟨[(13, (T_int .i64))], [], [4, 5, 14, 15, 16, 17, 18, 19, 20, 21, 22, 23, 24, 25]⟩ .leaf))) .leaf)))
theorem e_slices_Equal_int_int (a0 : Sl) (a1 : Sl) (H : Heap) (Q : Bool × Unit → Heap → Prop) : S_slices_Equal_int_int a0 a1 H Q = cFn C [] Try.f39.ntmps Try.f39.results.toList [T_bool] (bodyOf Try.f39) h_slices_Equal_int_int [a0.v, a1.v] H Q := by kernel_rfl
theorem c_slices_Equal_int_int {a0 : Sl} {a1 : Sl} {H : Heap} {Q : Bool × Unit → Heap → Prop} (h : S_slices_Equal_int_int a0 a1 H Q) : CALL P [T_bool] n_slices_Equal_int_int [a0.v, a1.v] H Q := call_print hE Try.func39 rfl (by kernel_rfl) (e_slices_Equal_int_int a0 a1 H Q) h

def S_zone_Zones_thing (a0 : Option Addr) (a1 : G_api_Thing) (H : Heap) (Q : Bool × Unit → Heap → Prop) : Prop :=
JOIN (fun (j1 : (Bool × Unit) × (Unit) → Heap → Prop) =>
ifB (decide (a1.Card < 1)) (
j1 ((true, ()), (())) H) (
CALL P [T_bool] n_zone_player [(.int .i64 a1.Owner)] H fun (x3 : Bool × Unit) H2 =>
ifB (!x3.1) (
j1 ((true, ()), (())) H2) (
ifB (decide (a1.Place < 1)) (
j1 ((true, ()), (())) H2) (
j1 ((decide (a1.Place > 5), ()), (())) H2)))) fun (y2 : (Bool × Unit) × (Unit)) H1 =>
ifB y2.1.1 (
Q (false, ()) H1) (
ifB (a1.Place != 4) (
CALL P [T_G_api_Thing] n_zone_home [(T_G_api_Thing.enc a1)] H1 fun (x4 : G_api_Thing × Unit) H3 =>
REQ ((some (.agg #[(.int .i64 a1.Card), (.int .i64 a1.Owner), (.int .u8 a1.Place), (.int .i64 a1.Stamp), (.int .i64 a1.Hurt), (.int .i64 a1.Marks.1), (.int .i64 a1.Marks.2.1), (.int .i64 a1.Marks.2.2.1), (.int .i64 a1.Marks.2.2.2), (.int .i64 a1.Done), (.bool a1.Fresh)]) : Option Value) = some (.agg #[(.int .i64 a1.Card), (.int .i64 a1.Owner), (.int .u8 a1.Place), (.int .i64 a1.Stamp), (.int .i64 a1.Hurt), (.int .i64 a1.Marks.1), (.int .i64 a1.Marks.2.1), (.int .i64 a1.Marks.2.2.1), (.int .i64 a1.Marks.2.2.2), (.int .i64 a1.Done), (.bool a1.Fresh)])) (
Q (((a1.Card == x4.1.Card) && ((a1.Owner == x4.1.Owner) && ((a1.Place == x4.1.Place) && ((a1.Stamp == x4.1.Stamp) && ((a1.Hurt == x4.1.Hurt) && (((a1.Marks.1 == x4.1.Marks.1) && ((a1.Marks.2.1 == x4.1.Marks.2.1) && ((a1.Marks.2.2.1 == x4.1.Marks.2.2.1) && ((a1.Marks.2.2.2 == x4.1.Marks.2.2.2) && true)))) && ((a1.Done == x4.1.Done) && ((a1.Fresh == x4.1.Fresh) && true)))))))), ()) H3)) (
JOIN (fun (j5 : (Bool × Unit) × (Unit) → Heap → Prop) =>
ifB (decide (a1.Stamp ≥ 1)) (
NIL a0 fun b7 o8 =>
LD (T_int .i64) H1 b7 (o8 + 5) fun (x9 : Int) =>
ifB (decide (a1.Stamp < x9)) (
ifB (decide (a1.Hurt ≥ 0)) (
ifB (decide (a1.Done ≥ 0)) (
CALL P [T_bool] n_zone_marks [(T_arr4_T_int_i64.enc a1.Marks)] H1 fun (x10 : Bool × Unit) H5 =>
j5 ((x10.1, ()), (())) H5) (
j5 ((false, ()), (())) H1)) (
j5 ((false, ()), (())) H1)) (
j5 ((false, ()), (())) H1)) (
j5 ((false, ()), (())) H1)) fun (y6 : (Bool × Unit) × (Unit)) H4 =>
Q (y6.1.1, ()) H4))
def h_zone_Zones_thing : Hnt := (.seq .leaf (.seq (.seq (.reg ⟨[(23, T_bool)], [], [5, 6, 7, 8, 9, 10, 11, 12, 13, 14, 15, 16, 17, 18, 19, 20, 21, 22]⟩) .leaf) (.seq .leaf (.seq (.reg ⟨[(4, T_bool)], [], [31, 32, 33, 34, 35, 36, 37, 38, 39, 40, 41, 42, 43, 44, 45, 46, 47, 48, 49, 50, 51, 52, 53, 54, 55, 56, 57]⟩) .leaf))))
theorem e_zone_Zones_thing (a0 : Option Addr) (a1 : G_api_Thing) (H : Heap) (Q : Bool × Unit → Heap → Prop) : S_zone_Zones_thing a0 a1 H Q = cFn C [3] Try.f40.ntmps Try.f40.results.toList [T_bool] (bodyOf Try.f40) h_zone_Zones_thing [(.pointer a0), (T_G_api_Thing.enc a1)] H Q := by kernel_rfl
theorem c_zone_Zones_thing {a0 : Option Addr} {a1 : G_api_Thing} {H : Heap} {Q : Bool × Unit → Heap → Prop} (h : S_zone_Zones_thing a0 a1 H Q) : CALL P [T_bool] n_zone_Zones_thing [(.pointer a0), (T_G_api_Thing.enc a1)] H Q := call_print hE Try.func40 rfl (by kernel_rfl) (e_zone_Zones_thing a0 a1 H Q) h

def S_zone_Zones_list (a0 : Option Addr) (a1 : Int) (a2 : Int) (H : Heap) (Q : (Option Addr) × Unit → Heap → Prop) : Prop :=
ifB (a2 == 1) (
NIL a0 fun b1 o2 =>
IDXA 2 a1 (
Q ((some ⟨b1, o2 + 1 + a1.toNat * 1, none⟩), ()) H)) (
ifB (a2 == 2) (
NIL a0 fun b3 o4 =>
IDXA 2 a1 (
Q ((some ⟨b3, o4 + 3 + a1.toNat * 1, none⟩), ()) H)) (
Q (none, ()) H))
def h_zone_Zones_list : Hnt := .leaf
theorem e_zone_Zones_list (a0 : Option Addr) (a1 : Int) (a2 : Int) (H : Heap) (Q : (Option Addr) × Unit → Heap → Prop) : S_zone_Zones_list a0 a1 a2 H Q = cFn C [] Try.f41.ntmps Try.f41.results.toList [T_ptr] (bodyOf Try.f41) h_zone_Zones_list [(.pointer a0), (.int .i64 a1), (.int .u8 a2)] H Q := by kernel_rfl
theorem c_zone_Zones_list {a0 : Option Addr} {a1 : Int} {a2 : Int} {H : Heap} {Q : (Option Addr) × Unit → Heap → Prop} (h : S_zone_Zones_list a0 a1 a2 H Q) : CALL P [T_ptr] n_zone_Zones_list [(.pointer a0), (.int .i64 a1), (.int .u8 a2)] H Q := call_print hE Try.func41 rfl (by kernel_rfl) (e_zone_Zones_list a0 a1 a2 H Q) h

def S_zone_told_int (a0 : Sl) (H : Heap) (Q : Sl × Unit → Heap → Prop) : Prop :=
NEW H [] 1 fun H1 =>
APP T_sl (lenV ((Sl.mk (some ⟨H.length, 0, none⟩) 0 0)).v + (lenX a0.v).getD 0) (aAppendE E [22, 22] ((Sl.mk (some ⟨H.length, 0, none⟩) 0 0)).v a0.v H1) fun (x1 : Sl) H2 =>
Q (x1, ()) H2
def h_zone_told_int : Hnt := .leaf
theorem e_zone_told_int (a0 : Sl) (H : Heap) (Q : Sl × Unit → Heap → Prop) : S_zone_told_int a0 H Q = cFn C [] Try.f42.ntmps Try.f42.results.toList [T_sl] (bodyOf Try.f42) h_zone_told_int [a0.v] H Q := by kernel_rfl
theorem c_zone_told_int {a0 : Sl} {H : Heap} {Q : Sl × Unit → Heap → Prop} (h : S_zone_told_int a0 H Q) : CALL P [T_sl] n_zone_told_int [a0.v] H Q := call_print hE Try.func42 rfl (by kernel_rfl) (e_zone_told_int a0 H Q) h

def S_slices_Index_int_int (a0 : Sl) (a1 : Int) (H : Heap) (Q : Int × Unit → Heap → Prop) : Prop :=
JOIN (fun (j1 : (Unit) × (Unit) → Heap → Prop) =>
LOOP (fun (r3 : (Int × Unit) × (Unit) → Heap → Prop) (s4 : (Int × Unit) × (Unit)) H2 =>
ifB (decide (s4.1.1 < (a0.len : Int))) (
IDX a0.p a0.len s4.1.1 1 fun b5 o6 =>
LD (T_int .i64) H2 b5 o6 fun (x7 : Int) =>
ifB (a1 == x7) (
Q (s4.1.1, ()) H2) (
r3 ((IntKind.wrap .i64 (s4.1.1 + 1), ()), (())) H2)) (
j1 ((()), (())) H2)) ((0, ()), (())) H) fun (y2 : (Unit) × (Unit)) H1 =>
Q ((-1), ()) H1
def h_slices_Index_int_int : Hnt := (.seq .leaf (.seq (.seq .leaf (.blk (some ⟨[], [], [4, 5, 8, 9, 10, 11, 12, 13, 14, 15, 16, 17, 18]⟩) (.loop ⟨[(8, (T_int .i64))], [], [4, 5, 9, 10, 11, 12, 13, 14, 15, 16, 17, 18]⟩ .leaf))) .leaf))
theorem e_slices_Index_int_int (a0 : Sl) (a1 : Int) (H : Heap) (Q : Int × Unit → Heap → Prop) : S_slices_Index_int_int a0 a1 H Q = cFn C [] Try.f43.ntmps Try.f43.results.toList [(T_int .i64)] (bodyOf Try.f43) h_slices_Index_int_int [a0.v, (.int .i64 a1)] H Q := by kernel_rfl
theorem c_slices_Index_int_int {a0 : Sl} {a1 : Int} {H : Heap} {Q : Int × Unit → Heap → Prop} (h : S_slices_Index_int_int a0 a1 H Q) : CALL P [(T_int .i64)] n_slices_Index_int_int [a0.v, (.int .i64 a1)] H Q := call_print hE Try.func43 rfl (by kernel_rfl) (e_slices_Index_int_int a0 a1 H Q) h

def S_zone_home (a0 : G_api_Thing) (H : Heap) (Q : G_api_Thing × Unit → Heap → Prop) : Prop :=
Q ((G_api_Thing.mk a0.Card a0.Owner a0.Place 0 0 (0, 0, 0, 0) 0 false), ()) H
def h_zone_home : Hnt := .leaf
theorem e_zone_home (a0 : G_api_Thing) (H : Heap) (Q : G_api_Thing × Unit → Heap → Prop) : S_zone_home a0 H Q = cFn C [1, 2] Try.f44.ntmps Try.f44.results.toList [T_G_api_Thing] (bodyOf Try.f44) h_zone_home [(T_G_api_Thing.enc a0)] H Q := by kernel_rfl
theorem c_zone_home {a0 : G_api_Thing} {H : Heap} {Q : G_api_Thing × Unit → Heap → Prop} (h : S_zone_home a0 H Q) : CALL P [T_G_api_Thing] n_zone_home [(T_G_api_Thing.enc a0)] H Q := call_print hE Try.func44 rfl (by kernel_rfl) (e_zone_home a0 H Q) h

def S_slices_Collect_int (a0 : Value) (H : Heap) (Q : Sl × Unit → Heap → Prop) : Prop :=
CALL P [T_sl] n_slices_AppendSeq_int_int [((Sl.mk none 0 0)).v, a0] H fun (x1 : Sl × Unit) H1 =>
Q (x1.1, ()) H1
def h_slices_Collect_int : Hnt := .leaf
theorem e_slices_Collect_int (a0 : Value) (H : Heap) (Q : Sl × Unit → Heap → Prop) : S_slices_Collect_int a0 H Q = cFn C [] Try.f47.ntmps Try.f47.results.toList [T_sl] (bodyOf Try.f47) h_slices_Collect_int [a0] H Q := by kernel_rfl
theorem c_slices_Collect_int {a0 : Value} {H : Heap} {Q : Sl × Unit → Heap → Prop} (h : S_slices_Collect_int a0 H Q) : CALL P [T_sl] n_slices_Collect_int [a0] H Q := call_print hE Try.func47 rfl (by kernel_rfl) (e_slices_Collect_int a0 H Q) h

def S_slices_Sort_int_int (a0 : Sl) (H : Heap) (Q : Unit → Heap → Prop) : Prop :=
CALL P [(T_int .i64)] n_math_bits_Len [(.int .u64 (IntKind.wrap .u64 (a0.len : Int)))] H fun (x1 : Int × Unit) H1 =>
CALL P [] n_slices_pdqsortOrdered_int [a0.v, (.int .i64 0), (.int .i64 (a0.len : Int)), (.int .i64 x1.1)] H1 fun (x2 : Unit) H2 =>
Q (()) H2
def h_slices_Sort_int_int : Hnt := .leaf
theorem e_slices_Sort_int_int (a0 : Sl) (H : Heap) (Q : Unit → Heap → Prop) : S_slices_Sort_int_int a0 H Q = cFn C [] Try.f48.ntmps Try.f48.results.toList [] (bodyOf Try.f48) h_slices_Sort_int_int [a0.v] H Q := by kernel_rfl
theorem c_slices_Sort_int_int {a0 : Sl} {H : Heap} {Q : Unit → Heap → Prop} (h : S_slices_Sort_int_int a0 H Q) : CALL P [] n_slices_Sort_int_int [a0.v] H Q := call_print hE Try.func48 rfl (by kernel_rfl) (e_slices_Sort_int_int a0 H Q) h

def S_slices_Values_int_int_1 (a0 : Value) (c0 : Nat × Nat) (H : Heap) (Q : Unit → Heap → Prop) : Prop :=
LD T_sl H c0.1 c0.2 fun (x1 : Sl) =>
JOIN (fun (j2 : (Unit) × (Unit) → Heap → Prop) =>
LOOP (fun (r4 : (Int × Unit) × (Unit) → Heap → Prop) (s5 : (Int × Unit) × (Unit)) H2 =>
ifB (decide (s5.1.1 < (x1.len : Int))) (
IDX x1.p x1.len s5.1.1 1 fun b6 o7 =>
LD (T_int .i64) H2 b6 o7 fun (x8 : Int) =>
CALLV P [T_bool] a0 [(.int .i64 x8)] H2 fun (x9 : Bool × Unit) H3 =>
ifB (!x9.1) (
Q (()) H3) (
r4 ((IntKind.wrap .i64 (s5.1.1 + 1), ()), (())) H3)) (
j2 ((()), (())) H2)) ((0, ()), (())) H) fun (y3 : (Unit) × (Unit)) H1 =>
Q (()) H1
def h_slices_Values_int_int_1 : Hnt := (.seq .leaf (.blk (some ⟨[], [], [4, 7, 8, 9, 10, 11, 12, 13, 14, 15]⟩) (.loop ⟨[(7, (T_int .i64))], [], [4, 8, 9, 10, 11, 12, 13, 14, 15]⟩ .leaf)))
theorem e_slices_Values_int_int_1 (a0 : Value) (c0 : Nat × Nat) (H : Heap) (Q : Unit → Heap → Prop) : S_slices_Values_int_int_1 a0 c0 H Q = cFn C [] Try.f49.ntmps Try.f49.results.toList [] (bodyOf Try.f49) h_slices_Values_int_int_1 [a0, (.pointer (some ⟨c0.1, c0.2, none⟩))] H Q := by kernel_rfl
theorem c_slices_Values_int_int_1 {a0 : Value} {c0 : Nat × Nat} {H : Heap} {Q : Unit → Heap → Prop} (h : S_slices_Values_int_int_1 a0 c0 H Q) : CALL P [] n_slices_Values_int_int_1 [a0, (.pointer (some ⟨c0.1, c0.2, none⟩))] H Q := call_print hE Try.func49 rfl (by kernel_rfl) (e_slices_Values_int_int_1 a0 c0 H Q) h

def S_slices_AppendSeq_int_int (a0 : Sl) (a1 : Value) (H : Heap) (Q : Sl × Unit → Heap → Prop) : Prop :=
NEW H [(.slice a0.p a0.len a0.cap)] 1 fun H1 =>
JOIN (fun (j1 : (Unit) × (Unit) → Heap → Prop) =>
RFV P [(T_int .i64)] a1 H1 (fun lb3 (x4 : Int × Unit) H3 k5 =>
REQ (H3[H1.length]? = some (lb3 .ready none)) (
LD T_sl (H3.set H1.length (lb3 .busy none)) H.length 0 fun (x7 : Sl) =>
APP T_sl (lenV x7.v + 1) (aAppE E [22, 22] x7.v 1 [(.int .i64 x4.1)] (H3.set H1.length (lb3 .busy none))) fun (x8 : Sl) H5 =>
ST H5 H.length 0 [(.slice x8.p x8.len x8.cap)] fun H6 =>
k5 .normal H6)) fun (e6 : Ex) H4 =>
(e6 = .normal ∧ (
j1 ((()), (())) H4)) ∨ (
False)) fun (y2 : (Unit) × (Unit)) H2 =>
LD T_sl H2 H.length 0 fun (x9 : Sl) =>
Q (x9, ()) H2
def h_slices_AppendSeq_int_int : Hnt := (.seq .leaf (.seq (.seq .leaf (.blk (some ⟨[], [], [5, 8, 9, 10, 11]⟩) (.blk (some ⟨[(7, (T_int .i64))], [], []⟩) .leaf))) .leaf))
theorem e_slices_AppendSeq_int_int (a0 : Sl) (a1 : Value) (H : Heap) (Q : Sl × Unit → Heap → Prop) : S_slices_AppendSeq_int_int a0 a1 H Q = cFn C [10] Try.f60.ntmps Try.f60.results.toList [T_sl] (bodyOf Try.f60) h_slices_AppendSeq_int_int [a0.v, a1] H Q := by kernel_rfl
theorem c_slices_AppendSeq_int_int {a0 : Sl} {a1 : Value} {H : Heap} {Q : Sl × Unit → Heap → Prop} (h : S_slices_AppendSeq_int_int a0 a1 H Q) : CALL P [T_sl] n_slices_AppendSeq_int_int [a0.v, a1] H Q := call_print hE Try.func60 rfl (by kernel_rfl) (e_slices_AppendSeq_int_int a0 a1 H Q) h

def S_cmp_Less_int (a0 : Int) (a1 : Int) (H : Heap) (Q : Bool × Unit → Heap → Prop) : Prop :=
JOIN (fun (j1 : (Bool × Unit) × (Unit) → Heap → Prop) =>
CALL P [T_bool] n_cmp_isNaN_int [(.int .i64 a0)] H fun (x3 : Bool × Unit) H2 =>
ifB x3.1 (
CALL P [T_bool] n_cmp_isNaN_int [(.int .i64 a1)] H2 fun (x4 : Bool × Unit) H3 =>
ifB (!x4.1) (
j1 ((true, ()), (())) H3) (
j1 ((decide (a0 < a1), ()), (())) H3)) (
j1 ((decide (a0 < a1), ()), (())) H2)) fun (y2 : (Bool × Unit) × (Unit)) H1 =>
Q (y2.1.1, ()) H1
def h_cmp_Less_int : Hnt := (.seq .leaf (.seq (.reg ⟨[(4, T_bool)], [], [5, 6, 7, 8, 9, 10, 11, 12, 13, 14, 15, 16]⟩) .leaf))
theorem e_cmp_Less_int (a0 : Int) (a1 : Int) (H : Heap) (Q : Bool × Unit → Heap → Prop) : S_cmp_Less_int a0 a1 H Q = cFn C [] Try.f73.ntmps Try.f73.results.toList [T_bool] (bodyOf Try.f73) h_cmp_Less_int [(.int .i64 a0), (.int .i64 a1)] H Q := by kernel_rfl
theorem c_cmp_Less_int {a0 : Int} {a1 : Int} {H : Heap} {Q : Bool × Unit → Heap → Prop} (h : S_cmp_Less_int a0 a1 H Q) : CALL P [T_bool] n_cmp_Less_int [(.int .i64 a0), (.int .i64 a1)] H Q := call_print hE Try.func73 rfl (by kernel_rfl) (e_cmp_Less_int a0 a1 H Q) h

def S_cmp_isNaN_int (a0 : Int) (H : Heap) (Q : Bool × Unit → Heap → Prop) : Prop :=
Q (a0 != a0, ()) H
def h_cmp_isNaN_int : Hnt := .leaf
theorem e_cmp_isNaN_int (a0 : Int) (H : Heap) (Q : Bool × Unit → Heap → Prop) : S_cmp_isNaN_int a0 H Q = cFn C [] Try.f80.ntmps Try.f80.results.toList [T_bool] (bodyOf Try.f80) h_cmp_isNaN_int [(.int .i64 a0)] H Q := by kernel_rfl
theorem c_cmp_isNaN_int {a0 : Int} {H : Heap} {Q : Bool × Unit → Heap → Prop} (h : S_cmp_isNaN_int a0 H Q) : CALL P [T_bool] n_cmp_isNaN_int [(.int .i64 a0)] H Q := call_print hE Try.func80 rfl (by kernel_rfl) (e_cmp_isNaN_int a0 H Q) h
end Zv
end Go.Proofs.Ythgfjbafhjkhnaa
