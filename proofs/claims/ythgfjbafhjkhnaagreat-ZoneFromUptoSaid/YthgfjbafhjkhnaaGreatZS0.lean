/- Printed by gen2.py: what the functions come to. -/
import Derived.Test.YthgfjbafhjkhnaaGreatZT
import Derived.KernelRfl
namespace Go.Proofs.YthgfjbafhjkhnaaGreat
open Go Zq
namespace Zv
set_option maxRecDepth 100000
set_option linter.unusedVariables false
def S_law17_ZoneCalls (a0 : Sl) (a1 : Sl) (a2 : Sl) (H : Heap) (Q : Bool × Unit → Heap → Prop) : Prop :=
CALL P [T_bool] n_law17_lives [] H fun (x1 : Bool × Unit) H1 =>
ifB (!x1.1) (
Q (false, ()) H1) (
JOIN (fun (j2 : (Bool × Unit) × (Unit) → Heap → Prop) =>
ifB (decide ((IntKind.wrap .i64 ((a0.len : Int) + (a1.len : Int))) > 300)) (
ifB (decide ((IntKind.wrap .i64 ((a0.len : Int) + (a1.len : Int))) ≤ 2048)) (
j2 ((true, ()), (())) H1) (
j2 ((decide ((a2.len : Int) > 60), ()), (())) H1)) (
j2 ((decide ((a2.len : Int) > 60), ()), (())) H1)) fun (y3 : (Bool × Unit) × (Unit)) H2 =>
ifB y3.1.1 (
Q (true, ()) H2) (
CALL P [T_sl] n_kit_LentInts [a0.v] H2 fun (x4 : Sl × Unit) H3 =>
CALL P [T_sl] n_kit_LentInts [a1.v] H3 fun (x5 : Sl × Unit) H4 =>
GENV T_sl (aSlice E 22 x4.1.v none (some (.int .i64 (a0.len : Int))) none H4) fun (x6 : Sl) =>
GENV T_sl (aSlice E 22 x5.1.v none (some (.int .i64 (a1.len : Int))) none H4) fun (x7 : Sl) =>
CALL P [T_ptr, (T_int .i64)] n_zone_New [x6.v, x7.v] H4 fun (x8 : (Option Addr) × Int × Unit) H5 =>
CALL P [T_ptr, (T_int .i64)] n_ref17_New [a0.v, a1.v] H5 fun (x9 : (Option Addr) × Int × Unit) H6 =>
JOIN (fun (j10 : (Bool × Unit) × (Unit) → Heap → Prop) =>
ifB (x8.2.1 != x9.2.1) (
j10 ((true, ()), (())) H6) (
ifB (!(x8.1.isNone == x9.1.isNone)) (
j10 ((true, ()), (())) H6) (
CALL P [T_bool] n_kit_KeptInts [x4.1.v, a0.v] H6 fun (x12 : Bool × Unit) H8 =>
ifB (!x12.1) (
j10 ((true, ()), (())) H8) (
CALL P [T_bool] n_kit_KeptInts [x5.1.v, a1.v] H8 fun (x13 : Bool × Unit) H9 =>
j10 ((!x13.1, ()), (())) H9)))) fun (y11 : (Bool × Unit) × (Unit)) H7 =>
ifB y11.1.1 (
Q (false, ()) H7) (
CALL P [] n_kit_OverInts [x4.1.v] H7 fun (x14 : Unit) H10 =>
CALL P [] n_kit_OverInts [x5.1.v] H10 fun (x15 : Unit) H11 =>
ifB x9.1.isNone (
Q (true, ()) H11) (
JOIN (fun (j16 : (Unit) × (Unit) → Heap → Prop) =>
LOOP (fun (r18 : (Int × Unit) × (Unit) → Heap → Prop) (s19 : (Int × Unit) × (Unit)) H13 =>
ifB (decide (s19.1.1 < (a2.len : Int))) (
IDX a2.p a2.len s19.1.1 16 fun b20 o21 =>
LD T_G_law17_Op H13 b20 o21 fun (x22 : G_law17_Op) =>
CALL P [T_bool] n_law17_call [(.pointer x8.1), (.pointer x9.1), (T_G_law17_Op.enc x22)] H13 fun (x23 : Bool × Unit) H14 =>
JOIN (fun (j24 : (Bool × Unit) × (Unit) → Heap → Prop) =>
ifB (!x23.1) (
j24 ((true, ()), (())) H14) (
CALL P [(T_int .i64)] n_zone_Zones_Len [(.pointer x8.1)] H14 fun (x26 : Int × Unit) H16 =>
CALL P [(T_int .i64)] n_ref17_Zones_Len [(.pointer x9.1)] H16 fun (x27 : Int × Unit) H17 =>
ifB (x26.1 != x27.1) (
j24 ((true, ()), (())) H17) (
CALL P [(T_int .i64)] n_zone_Zones_Stamp [(.pointer x8.1)] H17 fun (x28 : Int × Unit) H18 =>
CALL P [(T_int .i64)] n_ref17_Zones_Stamp [(.pointer x9.1)] H18 fun (x29 : Int × Unit) H19 =>
j24 ((x28.1 != x29.1, ()), (())) H19))) fun (y25 : (Bool × Unit) × (Unit)) H15 =>
ifB y25.1.1 (
Q (false, ()) H15) (
r18 ((IntKind.wrap .i64 (s19.1.1 + 1), ()), (())) H15)) (
j16 ((()), (())) H13)) ((0, ()), (())) H11) fun (y17 : (Unit) × (Unit)) H12 =>
CALL P [T_bool] n_law17_alike [(.pointer x8.1), (.pointer x9.1)] H12 fun (x30 : Bool × Unit) H20 =>
Q (x30.1, ()) H20))))
def h_law17_ZoneCalls : Hnt := (.seq .leaf (.seq .leaf (.seq (.seq (.reg ⟨[(35, T_bool)], [], [17, 18, 19, 20, 21, 22, 23, 24, 25, 26, 27, 28, 29, 30, 31, 32, 33, 34]⟩) .leaf) (.seq .leaf (.seq .leaf (.seq .leaf (.seq (.seq (.reg ⟨[(79, T_bool)], [], [58, 59, 60, 61, 62, 63, 64, 65, 66, 67, 68, 69, 70, 71, 72, 73, 74, 75, 76, 77, 78]⟩) .leaf) (.seq .leaf (.seq .leaf (.seq .leaf (.seq (.seq .leaf (.blk (some ⟨[], [], [6, 13, 14, 86, 87, 88, 89, 90, 91, 92, 93, 94, 95, 96, 97, 98, 99, 100, 101, 102, 103, 104, 105, 106, 107, 108, 109, 110, 111, 112, 113, 114]⟩) (.loop ⟨[(13, (T_int .i64))], [], [6, 14, 86, 87, 88, 89, 90, 91, 92, 93, 94, 95, 96, 97, 98, 99, 100, 101, 102, 103, 104, 105, 106, 107, 108, 109, 110, 111, 112, 113, 114]⟩ (.seq .leaf (.seq (.blk none (.seq .leaf (.seq (.reg ⟨[(114, T_bool)], [], [99, 100, 101, 102, 103, 104, 105, 106, 107, 108, 109, 110, 111, 112, 113]⟩) .leaf))) .leaf))))) .leaf)))))))))))
theorem e_law17_ZoneCalls (a0 : Sl) (a1 : Sl) (a2 : Sl) (H : Heap) (Q : Bool × Unit → Heap → Prop) : S_law17_ZoneCalls a0 a1 a2 H Q = cFn C [] Tryz.f3.ntmps Tryz.f3.results.toList [T_bool] (bodyOf Tryz.f3) h_law17_ZoneCalls [a0.v, a1.v, a2.v] H Q := by kernel_rfl
theorem c_law17_ZoneCalls {a0 : Sl} {a1 : Sl} {a2 : Sl} {H : Heap} {Q : Bool × Unit → Heap → Prop} (h : S_law17_ZoneCalls a0 a1 a2 H Q) : CALL P [T_bool] n_law17_ZoneCalls [a0.v, a1.v, a2.v] H Q := call_print hE Tryz.func3 rfl (by kernel_rfl) (e_law17_ZoneCalls a0 a1 a2 H Q) h

def S_law17_ZoneFrom (a0 : G_law17_World) (a1 : Sl) (H : Heap) (Q : Bool × Unit → Heap → Prop) : Prop :=
NEW H [(.slice a0.Things.p a0.Things.len a0.Things.cap), (.slice a0.Decks.1.p a0.Decks.1.len a0.Decks.1.cap), (.slice a0.Decks.2.p a0.Decks.2.len a0.Decks.2.cap), (.slice a0.Hands.1.p a0.Hands.1.len a0.Hands.1.cap), (.slice a0.Hands.2.p a0.Hands.2.len a0.Hands.2.cap), (.int .i64 a0.Stamp)] 6 fun H1 =>
CALL P [T_bool] n_law17_lives [] H1 fun (x1 : Bool × Unit) H2 =>
ifB (!x1.1) (
Q (false, ()) H2) (
JOIN (fun (j2 : (Bool × Unit) × (Unit) → Heap → Prop) =>
LD T_sl H2 H.length 0 fun (x4 : Sl) =>
ifB (decide ((x4.len : Int) > 300)) (
LD T_sl H2 H.length 0 fun (x5 : Sl) =>
ifB (decide ((x5.len : Int) ≤ 2048)) (
j2 ((true, ()), (())) H2) (
j2 ((decide ((a1.len : Int) > 30), ()), (())) H2)) (
j2 ((decide ((a1.len : Int) > 30), ()), (())) H2)) fun (y3 : (Bool × Unit) × (Unit)) H3 =>
ifB y3.1.1 (
Q (true, ()) H3) (
JOIN (fun (j6 : (Unit) × (Unit) → Heap → Prop) =>
LOOP (fun (r8 : (Int × Unit) × (Unit) → Heap → Prop) (s9 : (Int × Unit) × (Unit)) H5 =>
ifB (decide (s9.1.1 < 2)) (
JOIN (fun (j10 : (Bool × Unit) × (Unit) → Heap → Prop) =>
IDXA 2 s9.1.1 (
LD T_sl H5 H.length (1 + s9.1.1.toNat * 1) fun (x12 : Sl) =>
ifB (decide ((x12.len : Int) > 300)) (
IDXA 2 s9.1.1 (
LD T_sl H5 H.length (1 + s9.1.1.toNat * 1) fun (x13 : Sl) =>
ifB (decide ((x13.len : Int) ≤ 2048)) (
j10 ((true, ()), (())) H5) (
IDXA 2 s9.1.1 (
LD T_sl H5 H.length (3 + s9.1.1.toNat * 1) fun (x14 : Sl) =>
ifB (decide ((x14.len : Int) > 300)) (
IDXA 2 s9.1.1 (
LD T_sl H5 H.length (3 + s9.1.1.toNat * 1) fun (x15 : Sl) =>
j10 ((decide ((x15.len : Int) ≤ 2048), ()), (())) H5)) (
j10 ((false, ()), (())) H5))))) (
IDXA 2 s9.1.1 (
LD T_sl H5 H.length (3 + s9.1.1.toNat * 1) fun (x16 : Sl) =>
ifB (decide ((x16.len : Int) > 300)) (
IDXA 2 s9.1.1 (
LD T_sl H5 H.length (3 + s9.1.1.toNat * 1) fun (x17 : Sl) =>
j10 ((decide ((x17.len : Int) ≤ 2048), ()), (())) H5)) (
j10 ((false, ()), (())) H5))))) fun (y11 : (Bool × Unit) × (Unit)) H6 =>
ifB y11.1.1 (
Q (true, ()) H6) (
r8 ((IntKind.wrap .i64 (s9.1.1 + 1), ()), (())) H6)) (
j6 ((()), (())) H5)) ((0, ()), (())) H3) fun (y7 : (Unit) × (Unit)) H4 =>
LD T_sl H4 H.length 0 fun (x18 : Sl) =>
CALL P [T_sl] n_kit_LentThings [x18.v] H4 fun (x19 : Sl × Unit) H7 =>
NEW H7 [(.slice none 0 0), (.slice none 0 0)] 2 fun H8 =>
NEW H8 [(.slice none 0 0), (.slice none 0 0)] 2 fun H9 =>
NEW H9 [(.slice none 0 0), (.slice none 0 0)] 2 fun H10 =>
NEW H10 [(.slice none 0 0), (.slice none 0 0)] 2 fun H11 =>
JOIN (fun (j20 : (Unit) × (Unit) → Heap → Prop) =>
LOOP (fun (r22 : (Int × Unit) × (Unit) → Heap → Prop) (s23 : (Int × Unit) × (Unit)) H13 =>
ifB (decide (s23.1.1 < 2)) (
IDXA 2 s23.1.1 (
LD T_sl H13 H.length (1 + s23.1.1.toNat * 1) fun (x24 : Sl) =>
IDXA 2 s23.1.1 (
LD T_sl H13 H.length (3 + s23.1.1.toNat * 1) fun (x25 : Sl) =>
CALL P [T_sl] n_kit_LentInts [x24.v] H13 fun (x26 : Sl × Unit) H14 =>
LD T_sl H14 H.length (3 + s23.1.1.toNat * 1) fun (x27 : Sl) =>
REQ (T_sl.enc x27 = x25.v) (
IDXA 2 s23.1.1 (
CALL P [T_sl] n_kit_LentInts [x25.v] H14 fun (x28 : Sl × Unit) H15 =>
ST H15 H9.length (0 + s23.1.1.toNat * 1) [(.slice x26.1.p x26.1.len x26.1.cap)] fun H16 =>
IDXA 2 s23.1.1 (
ST H16 H10.length (0 + s23.1.1.toNat * 1) [(.slice x28.1.p x28.1.len x28.1.cap)] fun H17 =>
IDXA 2 s23.1.1 (
LD T_sl H17 H9.length (0 + s23.1.1.toNat * 1) fun (x29 : Sl) =>
IDXA 2 s23.1.1 (
LD T_sl H17 H.length (1 + s23.1.1.toNat * 1) fun (x30 : Sl) =>
GENV T_sl (aSlice E 22 x29.v none (some (.int .i64 (x30.len : Int))) none H17) fun (x31 : Sl) =>
IDXA 2 s23.1.1 (
LD T_sl H17 H10.length (0 + s23.1.1.toNat * 1) fun (x32 : Sl) =>
IDXA 2 s23.1.1 (
LD T_sl H17 H.length (3 + s23.1.1.toNat * 1) fun (x33 : Sl) =>
GENV T_sl (aSlice E 22 x32.v none (some (.int .i64 (x33.len : Int))) none H17) fun (x34 : Sl) =>
IDXA 2 s23.1.1 (
ST H17 H7.length (0 + s23.1.1.toNat * 1) [(.slice x31.p x31.len x31.cap)] fun H18 =>
LD T_sl H18 H10.length (0 + s23.1.1.toNat * 1) fun (x35 : Sl) =>
REQ (T_sl.enc x35 = x32.v) (
LD T_sl H18 H.length (3 + s23.1.1.toNat * 1) fun (x36 : Sl) =>
REQ (T_sl.enc x36 = x33.v) (
REQ (aSlice E 22 x32.v none (some (.int .i64 (x33.len : Int))) none H18 = some (.slice x34.p x34.len x34.cap)) (
IDXA 2 s23.1.1 (
ST H18 H8.length (0 + s23.1.1.toNat * 1) [(.slice x34.p x34.len x34.cap)] fun H19 =>
r22 ((IntKind.wrap .i64 (s23.1.1 + 1), ()), (())) H19))))))))))))))) (
j20 ((()), (())) H13)) ((0, ()), (())) H11) fun (y21 : (Unit) × (Unit)) H12 =>
LD T_sl H12 H.length 0 fun (x37 : Sl) =>
GENV T_sl (aSlice E 45 x19.1.v none (some (.int .i64 (x37.len : Int))) none H12) fun (x38 : Sl) =>
LD T_arr2_T_sl H12 H7.length 0 fun (x39 : Sl × Sl) =>
LD T_arr2_T_sl H12 H8.length 0 fun (x40 : Sl × Sl) =>
LD (T_int .i64) H12 H.length 5 fun (x41 : Int) =>
CALL P [T_ptr, (T_int .i64)] n_zone_From [x38.v, (T_arr2_T_sl.enc x39), (T_arr2_T_sl.enc x40), (.int .i64 x41)] H12 fun (x42 : (Option Addr) × Int × Unit) H20 =>
LD T_sl H20 H.length 0 fun (x43 : Sl) =>
LD T_arr2_T_sl H20 H.length 1 fun (x44 : Sl × Sl) =>
LD T_arr2_T_sl H20 H.length 3 fun (x45 : Sl × Sl) =>
LD (T_int .i64) H20 H.length 5 fun (x46 : Int) =>
CALL P [T_ptr, (T_int .i64)] n_ref17_From [x43.v, (T_arr2_T_sl.enc x44), (T_arr2_T_sl.enc x45), (.int .i64 x46)] H20 fun (x47 : (Option Addr) × Int × Unit) H21 =>
JOIN (fun (j48 : (Bool × Unit) × (Unit) → Heap → Prop) =>
ifB (x42.2.1 != x47.2.1) (
j48 ((true, ()), (())) H21) (
ifB (!(x42.1.isNone == x47.1.isNone)) (
j48 ((true, ()), (())) H21) (
LD T_sl H21 H.length 0 fun (x50 : Sl) =>
CALL P [T_bool] n_kit_KeptThings [x19.1.v, x50.v] H21 fun (x51 : Bool × Unit) H23 =>
j48 ((!x51.1, ()), (())) H23))) fun (y49 : (Bool × Unit) × (Unit)) H22 =>
ifB y49.1.1 (
Q (false, ()) H22) (
JOIN (fun (j52 : (Unit) × (Unit) → Heap → Prop) =>
LOOP (fun (r54 : (Int × Unit) × (Unit) → Heap → Prop) (s55 : (Int × Unit) × (Unit)) H25 =>
ifB (decide (s55.1.1 < 2)) (
JOIN (fun (j56 : (Bool × Unit) × (Unit) → Heap → Prop) =>
IDXA 2 s55.1.1 (
LD T_sl H25 H9.length (0 + s55.1.1.toNat * 1) fun (x58 : Sl) =>
IDXA 2 s55.1.1 (
LD T_sl H25 H.length (1 + s55.1.1.toNat * 1) fun (x59 : Sl) =>
CALL P [T_bool] n_kit_KeptInts [x58.v, x59.v] H25 fun (x60 : Bool × Unit) H27 =>
ifB (!x60.1) (
j56 ((true, ()), (())) H27) (
IDXA 2 s55.1.1 (
LD T_sl H27 H10.length (0 + s55.1.1.toNat * 1) fun (x61 : Sl) =>
IDXA 2 s55.1.1 (
LD T_sl H27 H.length (3 + s55.1.1.toNat * 1) fun (x62 : Sl) =>
CALL P [T_bool] n_kit_KeptInts [x61.v, x62.v] H27 fun (x63 : Bool × Unit) H28 =>
j56 ((!x63.1, ()), (())) H28)))))) fun (y57 : (Bool × Unit) × (Unit)) H26 =>
ifB y57.1.1 (
Q (false, ()) H26) (
IDXA 2 s55.1.1 (
LD T_sl H26 H9.length (0 + s55.1.1.toNat * 1) fun (x64 : Sl) =>
CALL P [] n_kit_OverInts [x64.v] H26 fun (x65 : Unit) H29 =>
IDXA 2 s55.1.1 (
LD T_sl H29 H10.length (0 + s55.1.1.toNat * 1) fun (x66 : Sl) =>
CALL P [] n_kit_OverInts [x66.v] H29 fun (x67 : Unit) H30 =>
r54 ((IntKind.wrap .i64 (s55.1.1 + 1), ()), (())) H30)))) (
j52 ((()), (())) H25)) ((0, ()), (())) H22) fun (y53 : (Unit) × (Unit)) H24 =>
CALL P [] n_kit_OverThings [x19.1.v] H24 fun (x68 : Unit) H31 =>
ifB x47.1.isNone (
Q (true, ()) H31) (
JOIN (fun (j69 : (Unit) × (Unit) → Heap → Prop) =>
LOOP (fun (r71 : (Int × Unit) × (Unit) → Heap → Prop) (s72 : (Int × Unit) × (Unit)) H33 =>
ifB (decide (s72.1.1 < (a1.len : Int))) (
IDX a1.p a1.len s72.1.1 16 fun b73 o74 =>
LD T_G_law17_Op H33 b73 o74 fun (x75 : G_law17_Op) =>
CALL P [T_bool] n_law17_call [(.pointer x42.1), (.pointer x47.1), (T_G_law17_Op.enc x75)] H33 fun (x76 : Bool × Unit) H34 =>
ifB (!x76.1) (
Q (false, ()) H34) (
r71 ((IntKind.wrap .i64 (s72.1.1 + 1), ()), (())) H34)) (
j69 ((()), (())) H33)) ((0, ()), (())) H31) fun (y70 : (Unit) × (Unit)) H32 =>
CALL P [T_bool] n_law17_alike [(.pointer x42.1), (.pointer x47.1)] H32 fun (x77 : Bool × Unit) H35 =>
Q (x77.1, ()) H35))))
def h_law17_ZoneFrom : Hnt := (.seq .leaf (.seq .leaf (.seq (.seq (.reg ⟨[(35, T_bool)], [], [21, 22, 23, 24, 25, 26, 27, 28, 29, 30, 31, 32, 33, 34]⟩) .leaf) (.seq (.seq .leaf (.blk (some ⟨[], [], [4, 5, 36, 37, 38, 39, 40, 41, 42, 43, 44, 45, 46, 47, 48, 49, 50, 51, 52, 53, 54, 55, 56, 57, 58, 59, 60, 61, 62, 63, 64, 65, 66, 67, 68, 69]⟩) (.loop ⟨[(5, (T_int .i64))], [], [4, 36, 37, 38, 39, 40, 41, 42, 43, 44, 45, 46, 47, 48, 49, 50, 51, 52, 53, 54, 55, 56, 57, 58, 59, 60, 61, 62, 63, 64, 65, 66, 67, 68, 69]⟩ (.seq .leaf (.seq (.blk none (.seq (.reg ⟨[(69, T_bool)], [], [40, 41, 42, 43, 44, 45, 46, 47, 48, 49, 50, 51, 52, 53, 54, 55, 56, 57, 58, 59, 60, 61, 62, 63, 64, 65, 66, 67, 68]⟩) .leaf)) .leaf))))) (.seq .leaf (.seq .leaf (.seq .leaf (.seq (.seq .leaf (.blk (some ⟨[], [], [11, 73, 74, 75, 76, 77, 78, 79, 80, 81, 82, 83, 84, 85, 86, 87, 88, 89, 90, 91, 92, 93, 94, 95, 96, 97, 98, 99, 100, 101, 102, 103, 104, 105, 106, 107, 108, 109, 110, 111, 112]⟩) (.loop ⟨[(11, (T_int .i64))], [], [73, 74, 75, 76, 77, 78, 79, 80, 81, 82, 83, 84, 85, 86, 87, 88, 89, 90, 91, 92, 93, 94, 95, 96, 97, 98, 99, 100, 101, 102, 103, 104, 105, 106, 107, 108, 109, 110, 111, 112]⟩ .leaf))) (.seq .leaf (.seq .leaf (.seq (.seq (.reg ⟨[(154, T_bool)], [], [138, 139, 140, 141, 142, 143, 144, 145, 146, 147, 148, 149, 150, 151, 152, 153]⟩) .leaf) (.seq (.seq .leaf (.blk (some ⟨[], [], [4, 16, 155, 156, 157, 158, 159, 160, 161, 162, 163, 164, 165, 166, 167, 168, 169, 170, 171, 172, 173, 174, 175, 176, 177, 178, 179, 180, 181, 182, 183, 184, 185, 186]⟩) (.loop ⟨[(16, (T_int .i64))], [], [4, 155, 156, 157, 158, 159, 160, 161, 162, 163, 164, 165, 166, 167, 168, 169, 170, 171, 172, 173, 174, 175, 176, 177, 178, 179, 180, 181, 182, 183, 184, 185, 186]⟩ (.seq .leaf (.seq (.blk none (.seq (.seq (.reg ⟨[(178, T_bool)], [], [159, 160, 161, 162, 163, 164, 165, 166, 167, 168, 169, 170, 171, 172, 173, 174, 175, 176, 177]⟩) .leaf) .leaf)) .leaf))))) (.seq .leaf (.seq .leaf (.seq (.seq .leaf (.blk (some ⟨[], [], [4, 17, 18, 191, 192, 193, 194, 195, 196, 197, 198, 199, 200, 201, 202, 203, 204, 205]⟩) (.loop ⟨[(17, (T_int .i64))], [], [4, 18, 191, 192, 193, 194, 195, 196, 197, 198, 199, 200, 201, 202, 203, 204, 205]⟩ .leaf))) .leaf)))))))))))))))
theorem e_law17_ZoneFrom (a0 : G_law17_World) (a1 : Sl) (H : Heap) (Q : Bool × Unit → Heap → Prop) : S_law17_ZoneFrom a0 a1 H Q = cFn C [] Tryz.f4.ntmps Tryz.f4.results.toList [T_bool] (bodyOf Tryz.f4) h_law17_ZoneFrom [(T_G_law17_World.enc a0), a1.v] H Q := by kernel_rfl
theorem c_law17_ZoneFrom {a0 : G_law17_World} {a1 : Sl} {H : Heap} {Q : Bool × Unit → Heap → Prop} (h : S_law17_ZoneFrom a0 a1 H Q) : CALL P [T_bool] n_law17_ZoneFrom [(T_G_law17_World.enc a0), a1.v] H Q := call_print hE Tryz.func4 rfl (by kernel_rfl) (e_law17_ZoneFrom a0 a1 H Q) h

def S_law17_lives  (H : Heap) (Q : Bool × Unit → Heap → Prop) : Prop :=
NEW H [(.int .i64 7), (.int .i64 8), (.int .i64 9)] 1 fun H1 =>
NEW H1 [(.int .i64 5)] 1 fun H2 =>
CALL P [T_ptr, (T_int .i64)] n_zone_New [((Sl.mk (some ⟨H.length, 0, none⟩) 3 3)).v, ((Sl.mk (some ⟨H1.length, 0, none⟩) 1 1)).v] H2 fun (x1 : (Option Addr) × Int × Unit) H3 =>
JOIN (fun (j2 : (Bool × Unit) × (Unit) → Heap → Prop) =>
ifB (x1.2.1 == 0) (
ifB (!x1.1.isNone) (
CALL P [T_sl] n_zone_Zones_Deck [(.pointer x1.1), (.int .i64 0)] H3 fun (x4 : Sl × Unit) H5 =>
NEW H5 [(.int .i64 1), (.int .i64 2), (.int .i64 3)] 1 fun H6 =>
CALL P [T_bool] n_kit_SameInts [x4.1.v, ((Sl.mk (some ⟨H5.length, 0, none⟩) 3 3)).v] H6 fun (x5 : Bool × Unit) H7 =>
ifB x5.1 (
CALL P [(T_int .i64)] n_zone_Zones_Move [(.pointer x1.1), (.int .i64 2), (.int .u8 4)] H7 fun (x6 : Int × Unit) H8 =>
ifB (x6.1 == 0) (
CALL P [T_sl] n_zone_Zones_Table [(.pointer x1.1)] H8 fun (x7 : Sl × Unit) H9 =>
NEW H9 [(.int .i64 2)] 1 fun H10 =>
CALL P [T_bool] n_kit_SameInts [x7.1.v, ((Sl.mk (some ⟨H9.length, 0, none⟩) 1 1)).v] H10 fun (x8 : Bool × Unit) H11 =>
ifB x8.1 (
CALL P [(T_int .i64)] n_zone_Zones_Stamp [(.pointer x1.1)] H11 fun (x9 : Int × Unit) H12 =>
j2 ((x9.1 == 2, ()), (())) H12) (
j2 ((false, ()), (())) H11)) (
j2 ((false, ()), (())) H8)) (
j2 ((false, ()), (())) H7)) (
j2 ((false, ()), (())) H3)) (
j2 ((false, ()), (())) H3)) fun (y3 : (Bool × Unit) × (Unit)) H4 =>
Q (y3.1.1, ()) H4
def h_law17_lives : Hnt := (.seq .leaf (.seq .leaf (.seq (.reg ⟨[(0, T_bool)], [], [9, 10, 11, 12, 13, 14, 15, 16, 17, 18, 19, 20, 21, 22, 23, 24, 25, 26, 27, 28, 29, 30, 31, 32, 33, 34, 35, 36]⟩) .leaf)))
theorem e_law17_lives  (H : Heap) (Q : Bool × Unit → Heap → Prop) : S_law17_lives  H Q = cFn C [] Tryz.f5.ntmps Tryz.f5.results.toList [T_bool] (bodyOf Tryz.f5) h_law17_lives [] H Q := by kernel_rfl
theorem c_law17_lives {H : Heap} {Q : Bool × Unit → Heap → Prop} (h : S_law17_lives H Q) : CALL P [T_bool] n_law17_lives [] H Q := call_print hE Tryz.func5 rfl (by kernel_rfl) (e_law17_lives H Q) h

def S_kit_LentInts (a0 : Sl) (H : Heap) (Q : Sl × Unit → Heap → Prop) : Prop :=
GEN T_sl (aMakeSlice E 22 (.int .i64 0) (.int .i64 (IntKind.wrap .i64 ((a0.len : Int) + 2))) H) fun (x1 : Sl) H1 =>
APP T_sl (lenV x1.v + (lenX a0.v).getD 0) (aAppendE E [22, 22] x1.v a0.v H1) fun (x2 : Sl) H2 =>
APP T_sl (lenV x2.v + 2) (aAppE E [22, 22] x2.v 2 [(.int .i64 (-77)), (.int .i64 (-77))] H2) fun (x3 : Sl) H3 =>
Q (x3, ()) H3
def h_kit_LentInts : Hnt := .leaf
theorem e_kit_LentInts (a0 : Sl) (H : Heap) (Q : Sl × Unit → Heap → Prop) : S_kit_LentInts a0 H Q = cFn C [12] Tryz.f6.ntmps Tryz.f6.results.toList [T_sl] (bodyOf Tryz.f6) h_kit_LentInts [a0.v] H Q := by kernel_rfl
theorem c_kit_LentInts {a0 : Sl} {H : Heap} {Q : Sl × Unit → Heap → Prop} (h : S_kit_LentInts a0 H Q) : CALL P [T_sl] n_kit_LentInts [a0.v] H Q := call_print hE Tryz.func6 rfl (by kernel_rfl) (e_kit_LentInts a0 H Q) h

def S_zone_New (a0 : Sl) (a1 : Sl) (H : Heap) (Q : (Option Addr) × Int × Unit → Heap → Prop) : Prop :=
JOIN (fun (j1 : (Bool × Unit) × (Unit) → Heap → Prop) =>
ifB (decide ((a0.len : Int) > 2048)) (
j1 ((true, ()), (())) H) (
ifB (decide ((a1.len : Int) > 2048)) (
j1 ((true, ()), (())) H) (
j1 ((decide ((IntKind.wrap .i64 ((a0.len : Int) + (a1.len : Int))) > 2048), ()), (())) H))) fun (y2 : (Bool × Unit) × (Unit)) H1 =>
ifB y2.1.1 (
Q (none, 3, ()) H1) (
NEW H1 [(.slice none 0 0), (.slice none 0 0), (.slice none 0 0), (.slice none 0 0), (.slice none 0 0), (.int .i64 1)] 6 fun H2 =>
JOIN (fun (j3 : (Unit) × (Unit) → Heap → Prop) =>
LOOP (fun (r5 : (Int × Unit) × (Unit) → Heap → Prop) (s6 : (Int × Unit) × (Unit)) H4 =>
ifB (decide (s6.1.1 < 2)) (
JOIN (fun (j7 : (Unit) × (Unit) → Heap → Prop) =>
GENV T_sl (aIndex E 46 (.agg #[(.slice a0.p a0.len a0.cap), (.slice a1.p a1.len a1.cap)]) (.int .i64 s6.1.1)) fun (x9 : Sl) =>
JOIN (fun (j10 : (Unit) × (Unit) → Heap → Prop) =>
LOOP (fun (r12 : (Int × Unit) × (Unit) → Heap → Prop) (s13 : (Int × Unit) × (Unit)) H7 =>
ifB (decide (s13.1.1 < (x9.len : Int))) (
IDX x9.p x9.len s13.1.1 1 fun b14 o15 =>
LD (T_int .i64) H7 b14 o15 fun (x16 : Int) =>
ifB (decide (x16 < 1)) (
Q (none, 2, ()) H7) (
LD T_sl H7 H1.length 0 fun (x17 : Sl) =>
APP T_sl (lenV x17.v + 1) (aAppE E [45, 45] x17.v 1 [(.int .i64 x16), (.int .i64 s6.1.1), (.int .u8 1), (.int .i64 0), (.int .i64 0), (.int .i64 0), (.int .i64 0), (.int .i64 0), (.int .i64 0), (.int .i64 0), (.bool false)] H7) fun (x18 : Sl) H8 =>
ST H8 H1.length 0 [(.slice x18.p x18.len x18.cap)] fun H9 =>
IDXA 2 s6.1.1 (
LD T_sl H9 H1.length (1 + s6.1.1.toNat * 1) fun (x19 : Sl) =>
LD T_sl H9 H1.length 0 fun (x20 : Sl) =>
LD T_sl H9 H1.length (1 + s6.1.1.toNat * 1) fun (x21 : Sl) =>
REQ (T_sl.enc x21 = x19.v) (
APP T_sl (lenV x19.v + 1) (aAppE E [22, 22] x19.v 1 [(.int .i64 (x20.len : Int))] H9) fun (x22 : Sl) H10 =>
IDXA 2 s6.1.1 (
ST H10 H1.length (1 + s6.1.1.toNat * 1) [(.slice x22.p x22.len x22.cap)] fun H11 =>
r12 ((IntKind.wrap .i64 (s13.1.1 + 1), ()), (())) H11))))) (
j10 ((()), (())) H7)) ((0, ()), (())) H4) fun (y11 : (Unit) × (Unit)) H6 =>
j7 ((()), (())) H6) fun (y8 : (Unit) × (Unit)) H5 =>
r5 ((IntKind.wrap .i64 (s6.1.1 + 1), ()), (())) H5) (
j3 ((()), (())) H4)) ((0, ()), (())) H2) fun (y4 : (Unit) × (Unit)) H3 =>
Q ((some ⟨H1.length, 0, none⟩), 0, ()) H3)
def h_zone_New : Hnt := (.seq .leaf (.seq (.seq (.reg ⟨[(26, T_bool)], [], [11, 12, 13, 14, 15, 16, 17, 18, 19, 20, 21, 22, 23, 24, 25]⟩) .leaf) (.seq .leaf (.seq (.seq .leaf (.blk (some ⟨[], [], [4, 5, 7, 8, 10, 32, 33, 34, 35, 36, 37, 38, 39, 40, 41, 42, 43, 44, 45, 46, 47, 48, 49, 50, 51, 52, 53, 54, 55, 56, 57, 58, 59, 60, 61, 62, 63, 64, 65, 66, 67, 68, 69, 70, 71, 72, 73, 74, 75]⟩) (.loop ⟨[(32, (T_int .i64))], [], [4, 5, 7, 8, 10, 33, 34, 35, 36, 37, 38, 39, 40, 41, 42, 43, 44, 45, 46, 47, 48, 49, 50, 51, 52, 53, 54, 55, 56, 57, 58, 59, 60, 61, 62, 63, 64, 65, 66, 67, 68, 69, 70, 71, 72, 73, 74, 75]⟩ (.seq .leaf (.seq .leaf (.seq (.blk (some ⟨[], [], [4, 5, 7, 8, 10, 34, 35, 36, 37, 38, 39, 40, 41, 42, 43, 44, 45, 46, 47, 48, 49, 50, 51, 52, 53, 54, 55, 56, 57, 58, 59, 60, 61, 62, 63, 64, 65, 66, 67, 68, 69, 70, 71, 72, 73, 74]⟩) (.seq .leaf (.seq .leaf (.blk (some ⟨[], [], [4, 5, 10, 38, 39, 40, 41, 42, 43, 44, 45, 46, 47, 48, 49, 50, 51, 52, 53, 54, 55, 56, 57, 58, 59, 60, 61, 62, 63, 64, 65, 66, 67, 68, 69, 70, 71, 72, 73, 74]⟩) (.loop ⟨[(38, (T_int .i64))], [], [4, 5, 10, 39, 40, 41, 42, 43, 44, 45, 46, 47, 48, 49, 50, 51, 52, 53, 54, 55, 56, 57, 58, 59, 60, 61, 62, 63, 64, 65, 66, 67, 68, 69, 70, 71, 72, 73, 74]⟩ .leaf))))) .leaf)))))) .leaf))))
theorem e_zone_New (a0 : Sl) (a1 : Sl) (H : Heap) (Q : (Option Addr) × Int × Unit → Heap → Prop) : S_zone_New a0 a1 H Q = cFn C [52, 69] Tryz.f7.ntmps Tryz.f7.results.toList [T_ptr, (T_int .i64)] (bodyOf Tryz.f7) h_zone_New [a0.v, a1.v] H Q := by kernel_rfl
theorem c_zone_New {a0 : Sl} {a1 : Sl} {H : Heap} {Q : (Option Addr) × Int × Unit → Heap → Prop} (h : S_zone_New a0 a1 H Q) : CALL P [T_ptr, (T_int .i64)] n_zone_New [a0.v, a1.v] H Q := call_print hE Tryz.func7 rfl (by kernel_rfl) (e_zone_New a0 a1 H Q) h

def S_ref17_New (a0 : Sl) (a1 : Sl) (H : Heap) (Q : (Option Addr) × Int × Unit → Heap → Prop) : Prop :=
ifB (decide ((IntKind.wrap .i64 ((a0.len : Int) + (a1.len : Int))) > 2048)) (
Q (none, 3, ()) H) (
NEW H [(.slice none 0 0), (.slice none 0 0), (.slice none 0 0), (.slice none 0 0), (.slice none 0 0), (.int .i64 1), (.bool true)] 7 fun H1 =>
NEW H1 [(.slice none 0 0), (.slice none 0 0)] 2 fun H2 =>
ST H2 H1.length 0 [(.slice a0.p a0.len a0.cap), (.slice a1.p a1.len a1.cap)] fun H3 =>
JOIN (fun (j1 : (Unit) × (Unit) → Heap → Prop) =>
LOOP (fun (r3 : (Int × Unit) × (Unit) → Heap → Prop) (s4 : (Int × Unit) × (Unit)) H5 =>
ifB (decide (s4.1.1 < 2)) (
JOIN (fun (j5 : (Unit) × (Unit) → Heap → Prop) =>
JOIN (fun (j7 : (Unit) × (Unit) → Heap → Prop) =>
LOOP (fun (r9 : (Int × Unit) × (Unit) → Heap → Prop) (s10 : (Int × Unit) × (Unit)) H8 =>
IDXA 2 s4.1.1 (
LD T_sl H8 H1.length (0 + s4.1.1.toNat * 1) fun (x11 : Sl) =>
ifB (decide (s10.1.1 < (x11.len : Int))) (
IDXA 2 s4.1.1 (
LD T_sl H8 H1.length (0 + s4.1.1.toNat * 1) fun (x12 : Sl) =>
IDX x12.p x12.len s10.1.1 1 fun b13 o14 =>
LD (T_int .i64) H8 b13 o14 fun (x15 : Int) =>
ifB (decide (x15 < 1)) (
Q (none, 2, ()) H8) (
LD T_sl H8 H.length 0 fun (x16 : Sl) =>
IDXA 2 s4.1.1 (
LD T_sl H8 H1.length (0 + s4.1.1.toNat * 1) fun (x17 : Sl) =>
IDX x17.p x17.len s10.1.1 1 fun b18 o19 =>
LD (T_int .i64) H8 b18 o19 fun (x20 : Int) =>
LD T_sl H8 H.length 0 fun (x21 : Sl) =>
REQ (T_sl.enc x21 = x16.v) (
APP T_sl (lenV x16.v + 1) (aAppE E [45, 45] x16.v 1 [(.int .i64 x20), (.int .i64 s4.1.1), (.int .u8 1), (.int .i64 0), (.int .i64 0), (.int .i64 0), (.int .i64 0), (.int .i64 0), (.int .i64 0), (.int .i64 0), (.bool false)] H8) fun (x22 : Sl) H9 =>
ST H9 H.length 0 [(.slice x22.p x22.len x22.cap)] fun H10 =>
IDXA 2 s4.1.1 (
LD T_sl H10 H.length (1 + s4.1.1.toNat * 1) fun (x23 : Sl) =>
LD T_sl H10 H.length 0 fun (x24 : Sl) =>
LD T_sl H10 H.length (1 + s4.1.1.toNat * 1) fun (x25 : Sl) =>
REQ (T_sl.enc x25 = x23.v) (
APP T_sl (lenV x23.v + 1) (aAppE E [22, 22] x23.v 1 [(.int .i64 (x24.len : Int))] H10) fun (x26 : Sl) H11 =>
IDXA 2 s4.1.1 (
ST H11 H.length (1 + s4.1.1.toNat * 1) [(.slice x26.p x26.len x26.cap)] fun H12 =>
r9 ((IntKind.wrap .i64 (s10.1.1 + 1), ()), (())) H12)))))))) (
j7 ((()), (())) H8))) ((0, ()), (())) H5) fun (y8 : (Unit) × (Unit)) H7 =>
j5 ((()), (())) H7) fun (y6 : (Unit) × (Unit)) H6 =>
r3 ((IntKind.wrap .i64 (s4.1.1 + 1), ()), (())) H6) (
j1 ((()), (())) H5)) ((0, ()), (())) H3) fun (y2 : (Unit) × (Unit)) H4 =>
Q ((some ⟨H.length, 0, none⟩), 0, ()) H4)
def h_ref17_New : Hnt := (.seq .leaf (.seq .leaf (.seq .leaf (.seq .leaf (.seq (.seq .leaf (.blk (some ⟨[], [], [4, 5, 8, 9, 21, 22, 23, 24, 25, 26, 27, 28, 29, 30, 31, 32, 33, 34, 35, 36, 37, 38, 39, 40, 41, 42, 43, 44, 45, 46, 47, 48, 49, 50, 51, 52, 53, 54, 55, 56, 57, 58, 59, 60, 61, 62, 63, 64, 65, 66, 67, 68, 69, 70, 71, 72, 73, 74]⟩) (.loop ⟨[(8, (T_int .i64))], [], [4, 5, 9, 21, 22, 23, 24, 25, 26, 27, 28, 29, 30, 31, 32, 33, 34, 35, 36, 37, 38, 39, 40, 41, 42, 43, 44, 45, 46, 47, 48, 49, 50, 51, 52, 53, 54, 55, 56, 57, 58, 59, 60, 61, 62, 63, 64, 65, 66, 67, 68, 69, 70, 71, 72, 73, 74]⟩ (.seq .leaf (.seq (.blk (some ⟨[], [], [4, 5, 9, 25, 26, 27, 28, 29, 30, 31, 32, 33, 34, 35, 36, 37, 38, 39, 40, 41, 42, 43, 44, 45, 46, 47, 48, 49, 50, 51, 52, 53, 54, 55, 56, 57, 58, 59, 60, 61, 62, 63, 64, 65, 66, 67, 68, 69, 70, 71, 72, 73, 74]⟩) (.seq .leaf (.blk (some ⟨[], [], [4, 5, 9, 25, 26, 27, 28, 29, 30, 31, 32, 33, 34, 35, 36, 37, 38, 39, 40, 41, 42, 43, 44, 45, 46, 47, 48, 49, 50, 51, 52, 53, 54, 55, 56, 57, 58, 59, 60, 61, 62, 63, 64, 65, 66, 67, 68, 69, 70, 71, 72, 73, 74]⟩) (.loop ⟨[(9, (T_int .i64))], [], [4, 5, 25, 26, 27, 28, 29, 30, 31, 32, 33, 34, 35, 36, 37, 38, 39, 40, 41, 42, 43, 44, 45, 46, 47, 48, 49, 50, 51, 52, 53, 54, 55, 56, 57, 58, 59, 60, 61, 62, 63, 64, 65, 66, 67, 68, 69, 70, 71, 72, 73, 74]⟩ .leaf)))) .leaf))))) .leaf)))))
theorem e_ref17_New (a0 : Sl) (a1 : Sl) (H : Heap) (Q : (Option Addr) × Int × Unit → Heap → Prop) : S_ref17_New a0 a1 H Q = cFn C [53, 70] Tryz.f8.ntmps Tryz.f8.results.toList [T_ptr, (T_int .i64)] (bodyOf Tryz.f8) h_ref17_New [a0.v, a1.v] H Q := by kernel_rfl
theorem c_ref17_New {a0 : Sl} {a1 : Sl} {H : Heap} {Q : (Option Addr) × Int × Unit → Heap → Prop} (h : S_ref17_New a0 a1 H Q) : CALL P [T_ptr, (T_int .i64)] n_ref17_New [a0.v, a1.v] H Q := call_print hE Tryz.func8 rfl (by kernel_rfl) (e_ref17_New a0 a1 H Q) h

def S_kit_KeptInts (a0 : Sl) (a1 : Sl) (H : Heap) (Q : Bool × Unit → Heap → Prop) : Prop :=
CALL P [T_sl] n_kit_CopyInts [a1.v] H fun (x1 : Sl × Unit) H1 =>
APP T_sl (lenV x1.1.v + 2) (aAppE E [22, 22] x1.1.v 2 [(.int .i64 (-77)), (.int .i64 (-77))] H1) fun (x2 : Sl) H2 =>
CALL P [T_bool] n_kit_SameInts [a0.v, x2.v] H2 fun (x3 : Bool × Unit) H3 =>
Q (x3.1, ()) H3
def h_kit_KeptInts : Hnt := .leaf
theorem e_kit_KeptInts (a0 : Sl) (a1 : Sl) (H : Heap) (Q : Bool × Unit → Heap → Prop) : S_kit_KeptInts a0 a1 H Q = cFn C [8] Tryz.f9.ntmps Tryz.f9.results.toList [T_bool] (bodyOf Tryz.f9) h_kit_KeptInts [a0.v, a1.v] H Q := by kernel_rfl
theorem c_kit_KeptInts {a0 : Sl} {a1 : Sl} {H : Heap} {Q : Bool × Unit → Heap → Prop} (h : S_kit_KeptInts a0 a1 H Q) : CALL P [T_bool] n_kit_KeptInts [a0.v, a1.v] H Q := call_print hE Tryz.func9 rfl (by kernel_rfl) (e_kit_KeptInts a0 a1 H Q) h

def S_kit_OverInts (a0 : Sl) (H : Heap) (Q : Unit → Heap → Prop) : Prop :=
JOIN (fun (j1 : (Unit) × (Unit) → Heap → Prop) =>
LOOP (fun (r3 : (Int × Unit) × (Unit) → Heap → Prop) (s4 : (Int × Unit) × (Unit)) H2 =>
ifB (decide (s4.1.1 < (a0.len : Int))) (
IDX a0.p a0.len s4.1.1 1 fun b5 o6 =>
ST H2 b5 o6 [(.int .i64 (-99))] fun H3 =>
r3 ((IntKind.wrap .i64 (s4.1.1 + 1), ()), (())) H3) (
j1 ((()), (())) H2)) ((0, ()), (())) H) fun (y2 : (Unit) × (Unit)) H1 =>
Q (()) H1
def h_kit_OverInts : Hnt := (.seq .leaf (.blk (some ⟨[], [], [2, 3, 4, 5, 6, 7, 8, 9, 10, 11]⟩) (.loop ⟨[(2, (T_int .i64))], [], [3, 4, 5, 6, 7, 8, 9, 10, 11]⟩ .leaf)))
theorem e_kit_OverInts (a0 : Sl) (H : Heap) (Q : Unit → Heap → Prop) : S_kit_OverInts a0 H Q = cFn C [] Tryz.f10.ntmps Tryz.f10.results.toList [] (bodyOf Tryz.f10) h_kit_OverInts [a0.v] H Q := by kernel_rfl
theorem c_kit_OverInts {a0 : Sl} {H : Heap} {Q : Unit → Heap → Prop} (h : S_kit_OverInts a0 H Q) : CALL P [] n_kit_OverInts [a0.v] H Q := call_print hE Tryz.func10 rfl (by kernel_rfl) (e_kit_OverInts a0 H Q) h

def S_law17_call (a0 : Option Addr) (a1 : Option Addr) (a2 : G_law17_Op) (H : Heap) (Q : Bool × Unit → Heap → Prop) : Prop :=
ifB (a2.Call == 0) (
CALL P [(T_int .i64)] n_zone_Zones_Move [(.pointer a0), (.int .i64 a2.N), (.int .u8 a2.To)] H fun (x1 : Int × Unit) H1 =>
REQ ((some (.int .i64 a2.N) : Option Value) = some (.int .i64 a2.N)) (
REQ ((some (.int .u8 a2.To) : Option Value) = some (.int .u8 a2.To)) (
CALL P [(T_int .i64)] n_ref17_Zones_Move [(.pointer a1), (.int .i64 a2.N), (.int .u8 a2.To)] H1 fun (x2 : Int × Unit) H2 =>
Q (x1.1 == x2.1, ()) H2))) (
ifB (a2.Call == 1) (
CALL P [(T_int .i64), (T_int .i64)] n_zone_Zones_Make [(.pointer a0), (.int .i64 a2.N), (.int .i64 a2.Owner)] H fun (x3 : Int × Int × Unit) H3 =>
CALL P [(T_int .i64), (T_int .i64)] n_ref17_Zones_Make [(.pointer a1), (.int .i64 a2.N), (.int .i64 a2.Owner)] H3 fun (x4 : Int × Int × Unit) H4 =>
JOIN (fun (j5 : (Bool × Unit) × (Unit) → Heap → Prop) =>
ifB (x3.1 == x4.1) (
j5 ((x3.2.1 == x4.2.1, ()), (())) H4) (
j5 ((false, ()), (())) H4)) fun (y6 : (Bool × Unit) × (Unit)) H5 =>
Q (y6.1.1, ()) H5) (
ifB (a2.Call == 2) (
CALL P [(T_int .i64)] n_zone_Zones_Write [(.pointer a0), (.int .i64 a2.N), (T_G_api_Thing.enc a2.T)] H fun (x7 : Int × Unit) H6 =>
REQ ((some (.int .i64 a2.N) : Option Value) = some (.int .i64 a2.N)) (
REQ ((some (.agg #[(.int .i64 a2.T.Card), (.int .i64 a2.T.Owner), (.int .u8 a2.T.Place), (.int .i64 a2.T.Stamp), (.int .i64 a2.T.Hurt), (.int .i64 a2.T.Marks.1), (.int .i64 a2.T.Marks.2.1), (.int .i64 a2.T.Marks.2.2.1), (.int .i64 a2.T.Marks.2.2.2), (.int .i64 a2.T.Done), (.bool a2.T.Fresh)]) : Option Value) = some (.agg #[(.int .i64 a2.T.Card), (.int .i64 a2.T.Owner), (.int .u8 a2.T.Place), (.int .i64 a2.T.Stamp), (.int .i64 a2.T.Hurt), (.int .i64 a2.T.Marks.1), (.int .i64 a2.T.Marks.2.1), (.int .i64 a2.T.Marks.2.2.1), (.int .i64 a2.T.Marks.2.2.2), (.int .i64 a2.T.Done), (.bool a2.T.Fresh)])) (
CALL P [(T_int .i64)] n_ref17_Zones_Write [(.pointer a1), (.int .i64 a2.N), (T_G_api_Thing.enc a2.T)] H6 fun (x8 : Int × Unit) H7 =>
Q (x7.1 == x8.1, ()) H7))) (
ifB (a2.Call == 3) (
CALL P [T_sl] n_kit_LentInts [a2.L.v] H fun (x9 : Sl × Unit) H8 =>
GENV T_sl (aSlice E 22 x9.1.v none (some (.int .i64 (a2.L.len : Int))) none H8) fun (x10 : Sl) =>
CALL P [(T_int .i64)] n_zone_Zones_Arrange [(.pointer a0), (.int .i64 a2.Owner), x10.v] H8 fun (x11 : Int × Unit) H9 =>
CALL P [T_bool] n_kit_KeptInts [x9.1.v, a2.L.v] H9 fun (x12 : Bool × Unit) H10 =>
CALL P [] n_kit_OverInts [x9.1.v] H10 fun (x13 : Unit) H11 =>
JOIN (fun (j14 : (Bool × Unit) × (Unit) → Heap → Prop) =>
CALL P [(T_int .i64)] n_ref17_Zones_Arrange [(.pointer a1), (.int .i64 a2.Owner), a2.L.v] H11 fun (x16 : Int × Unit) H13 =>
ifB (x11.1 == x16.1) (
j14 ((x12.1, ()), (())) H13) (
j14 ((false, ()), (())) H13)) fun (y15 : (Bool × Unit) × (Unit)) H12 =>
Q (y15.1.1, ()) H12) (
ifB (a2.Call == 4) (
CALL P [T_G_api_Thing, (T_int .i64)] n_ref17_Zones_Thing [(.pointer a1), (.int .i64 a2.N)] H fun (x17 : G_api_Thing × Int × Unit) H14 =>
REQ ((some (.agg #[(.int .i64 a2.T.Marks.1), (.int .i64 a2.T.Marks.2.1), (.int .i64 a2.T.Marks.2.2.1), (.int .i64 a2.T.Marks.2.2.2)]) : Option Value) = some (.agg #[(.int .i64 a2.T.Marks.1), (.int .i64 a2.T.Marks.2.1), (.int .i64 a2.T.Marks.2.2.1), (.int .i64 a2.T.Marks.2.2.2)])) (
REQ ((some (.int .i64 a2.T.Done) : Option Value) = some (.int .i64 a2.T.Done)) (
REQ ((some (.bool a2.T.Fresh) : Option Value) = some (.bool a2.T.Fresh)) (
REQ ((some (.int .i64 a2.T.Done) : Option Value) = some (.int .i64 a2.T.Done)) (
REQ ((some (.bool a2.T.Fresh) : Option Value) = some (.bool a2.T.Fresh)) (
REQ ((some (.bool a2.T.Fresh) : Option Value) = some (.bool a2.T.Fresh)) (
CALL P [(T_int .i64)] n_zone_Zones_Write [(.pointer a0), (.int .i64 a2.N), (T_G_api_Thing.enc (G_api_Thing.mk x17.1.Card x17.1.Owner x17.1.Place x17.1.Stamp a2.T.Hurt a2.T.Marks a2.T.Done a2.T.Fresh))] H14 fun (x18 : Int × Unit) H15 =>
REQ ((some (.int .i64 a2.N) : Option Value) = some (.int .i64 a2.N)) (
REQ ((some (.agg #[(.int .i64 x17.1.Card), (.int .i64 x17.1.Owner), (.int .u8 x17.1.Place), (.int .i64 x17.1.Stamp), (.int .i64 a2.T.Hurt), (.int .i64 a2.T.Marks.1), (.int .i64 a2.T.Marks.2.1), (.int .i64 a2.T.Marks.2.2.1), (.int .i64 a2.T.Marks.2.2.2), (.int .i64 a2.T.Done), (.bool a2.T.Fresh)]) : Option Value) = some (.agg #[(.int .i64 x17.1.Card), (.int .i64 x17.1.Owner), (.int .u8 x17.1.Place), (.int .i64 x17.1.Stamp), (.int .i64 a2.T.Hurt), (.int .i64 a2.T.Marks.1), (.int .i64 a2.T.Marks.2.1), (.int .i64 a2.T.Marks.2.2.1), (.int .i64 a2.T.Marks.2.2.2), (.int .i64 a2.T.Done), (.bool a2.T.Fresh)])) (
CALL P [(T_int .i64)] n_ref17_Zones_Write [(.pointer a1), (.int .i64 a2.N), (T_G_api_Thing.enc (G_api_Thing.mk x17.1.Card x17.1.Owner x17.1.Place x17.1.Stamp a2.T.Hurt a2.T.Marks a2.T.Done a2.T.Fresh))] H15 fun (x19 : Int × Unit) H16 =>
Q (x18.1 == x19.1, ()) H16))))))))) (
Q (true, ()) H)))))
def h_law17_call : Hnt := (.seq .leaf (.seq (.seq .leaf (.blk none (.seq .leaf (.cond none .leaf (.seq .leaf (.cond none (.seq .leaf (.seq .leaf (.seq (.reg ⟨[(6, T_bool)], [], [53, 54, 55, 56, 57, 58, 59, 60]⟩) .leaf))) (.seq .leaf (.cond none .leaf (.seq .leaf (.cond none (.seq .leaf (.seq .leaf (.seq .leaf (.seq .leaf (.seq (.reg ⟨[(6, T_bool)], [], [96, 97, 98, 99, 100, 101, 102, 103, 104, 105, 106]⟩) .leaf))))) .leaf)))))))))) .leaf))
theorem e_law17_call (a0 : Option Addr) (a1 : Option Addr) (a2 : G_law17_Op) (H : Heap) (Q : Bool × Unit → Heap → Prop) : S_law17_call a0 a1 a2 H Q = cFn C [5, 14] Tryz.f11.ntmps Tryz.f11.results.toList [T_bool] (bodyOf Tryz.f11) h_law17_call [(.pointer a0), (.pointer a1), (T_G_law17_Op.enc a2)] H Q := by kernel_rfl
theorem c_law17_call {a0 : Option Addr} {a1 : Option Addr} {a2 : G_law17_Op} {H : Heap} {Q : Bool × Unit → Heap → Prop} (h : S_law17_call a0 a1 a2 H Q) : CALL P [T_bool] n_law17_call [(.pointer a0), (.pointer a1), (T_G_law17_Op.enc a2)] H Q := call_print hE Tryz.func11 rfl (by kernel_rfl) (e_law17_call a0 a1 a2 H Q) h

def S_zone_Zones_Len (a0 : Option Addr) (H : Heap) (Q : Int × Unit → Heap → Prop) : Prop :=
CALL P [T_bool] n_zone_Zones_is [(.pointer a0)] H fun (x1 : Bool × Unit) H1 =>
ifB (!x1.1) (
Q (0, ()) H1) (
NIL a0 fun b2 o3 =>
LD T_sl H1 b2 (o3 + 0) fun (x4 : Sl) =>
Q ((x4.len : Int), ()) H1)
def h_zone_Zones_Len : Hnt := .leaf
theorem e_zone_Zones_Len (a0 : Option Addr) (H : Heap) (Q : Int × Unit → Heap → Prop) : S_zone_Zones_Len a0 H Q = cFn C [] Tryz.f12.ntmps Tryz.f12.results.toList [(T_int .i64)] (bodyOf Tryz.f12) h_zone_Zones_Len [(.pointer a0)] H Q := by kernel_rfl
theorem c_zone_Zones_Len {a0 : Option Addr} {H : Heap} {Q : Int × Unit → Heap → Prop} (h : S_zone_Zones_Len a0 H Q) : CALL P [(T_int .i64)] n_zone_Zones_Len [(.pointer a0)] H Q := call_print hE Tryz.func12 rfl (by kernel_rfl) (e_zone_Zones_Len a0 H Q) h

def S_ref17_Zones_Len (a0 : Option Addr) (H : Heap) (Q : Int × Unit → Heap → Prop) : Prop :=
CALL P [T_bool] n_ref17_Zones_none [(.pointer a0)] H fun (x1 : Bool × Unit) H1 =>
ifB x1.1 (
Q (0, ()) H1) (
NIL a0 fun b2 o3 =>
LD T_sl H1 b2 (o3 + 0) fun (x4 : Sl) =>
Q ((x4.len : Int), ()) H1)
def h_ref17_Zones_Len : Hnt := .leaf
theorem e_ref17_Zones_Len (a0 : Option Addr) (H : Heap) (Q : Int × Unit → Heap → Prop) : S_ref17_Zones_Len a0 H Q = cFn C [] Tryz.f13.ntmps Tryz.f13.results.toList [(T_int .i64)] (bodyOf Tryz.f13) h_ref17_Zones_Len [(.pointer a0)] H Q := by kernel_rfl
theorem c_ref17_Zones_Len {a0 : Option Addr} {H : Heap} {Q : Int × Unit → Heap → Prop} (h : S_ref17_Zones_Len a0 H Q) : CALL P [(T_int .i64)] n_ref17_Zones_Len [(.pointer a0)] H Q := call_print hE Tryz.func13 rfl (by kernel_rfl) (e_ref17_Zones_Len a0 H Q) h

def S_zone_Zones_Stamp (a0 : Option Addr) (H : Heap) (Q : Int × Unit → Heap → Prop) : Prop :=
CALL P [T_bool] n_zone_Zones_is [(.pointer a0)] H fun (x1 : Bool × Unit) H1 =>
ifB (!x1.1) (
Q (0, ()) H1) (
NIL a0 fun b2 o3 =>
LD (T_int .i64) H1 b2 (o3 + 5) fun (x4 : Int) =>
Q (x4, ()) H1)
def h_zone_Zones_Stamp : Hnt := .leaf
theorem e_zone_Zones_Stamp (a0 : Option Addr) (H : Heap) (Q : Int × Unit → Heap → Prop) : S_zone_Zones_Stamp a0 H Q = cFn C [] Tryz.f14.ntmps Tryz.f14.results.toList [(T_int .i64)] (bodyOf Tryz.f14) h_zone_Zones_Stamp [(.pointer a0)] H Q := by kernel_rfl
theorem c_zone_Zones_Stamp {a0 : Option Addr} {H : Heap} {Q : Int × Unit → Heap → Prop} (h : S_zone_Zones_Stamp a0 H Q) : CALL P [(T_int .i64)] n_zone_Zones_Stamp [(.pointer a0)] H Q := call_print hE Tryz.func14 rfl (by kernel_rfl) (e_zone_Zones_Stamp a0 H Q) h

def S_ref17_Zones_Stamp (a0 : Option Addr) (H : Heap) (Q : Int × Unit → Heap → Prop) : Prop :=
CALL P [T_bool] n_ref17_Zones_none [(.pointer a0)] H fun (x1 : Bool × Unit) H1 =>
ifB x1.1 (
Q (0, ()) H1) (
NIL a0 fun b2 o3 =>
LD (T_int .i64) H1 b2 (o3 + 5) fun (x4 : Int) =>
Q (x4, ()) H1)
def h_ref17_Zones_Stamp : Hnt := .leaf
theorem e_ref17_Zones_Stamp (a0 : Option Addr) (H : Heap) (Q : Int × Unit → Heap → Prop) : S_ref17_Zones_Stamp a0 H Q = cFn C [] Tryz.f15.ntmps Tryz.f15.results.toList [(T_int .i64)] (bodyOf Tryz.f15) h_ref17_Zones_Stamp [(.pointer a0)] H Q := by kernel_rfl
theorem c_ref17_Zones_Stamp {a0 : Option Addr} {H : Heap} {Q : Int × Unit → Heap → Prop} (h : S_ref17_Zones_Stamp a0 H Q) : CALL P [(T_int .i64)] n_ref17_Zones_Stamp [(.pointer a0)] H Q := call_print hE Tryz.func15 rfl (by kernel_rfl) (e_ref17_Zones_Stamp a0 H Q) h

def S_law17_alike (a0 : Option Addr) (a1 : Option Addr) (H : Heap) (Q : Bool × Unit → Heap → Prop) : Prop :=
JOIN (fun (j1 : (Bool × Unit) × (Unit) → Heap → Prop) =>
CALL P [(T_int .i64)] n_zone_Zones_Len [(.pointer a0)] H fun (x3 : Int × Unit) H2 =>
CALL P [(T_int .i64)] n_ref17_Zones_Len [(.pointer a1)] H2 fun (x4 : Int × Unit) H3 =>
ifB (x3.1 != x4.1) (
j1 ((true, ()), (())) H3) (
CALL P [(T_int .i64)] n_zone_Zones_Stamp [(.pointer a0)] H3 fun (x5 : Int × Unit) H4 =>
CALL P [(T_int .i64)] n_ref17_Zones_Stamp [(.pointer a1)] H4 fun (x6 : Int × Unit) H5 =>
j1 ((x5.1 != x6.1, ()), (())) H5)) fun (y2 : (Bool × Unit) × (Unit)) H1 =>
ifB y2.1.1 (
Q (false, ()) H1) (
CALL P [T_sl] n_zone_Zones_Table [(.pointer a0)] H1 fun (x7 : Sl × Unit) H6 =>
CALL P [T_sl] n_zone_Zones_Table [(.pointer a0)] H6 fun (x8 : Sl × Unit) H7 =>
APP T_sl (lenV ((Sl.mk none 0 0)).v + 2) (aAppE E [68, 68] ((Sl.mk none 0 0)).v 2 [(.slice x7.1.p x7.1.len x7.1.cap), (.slice x8.1.p x8.1.len x8.1.cap)] H7) fun (x9 : Sl) H8 =>
IDX x9.p x9.len 0 1 fun b10 o11 =>
LD T_sl H8 b10 o11 fun (x12 : Sl) =>
CALL P [T_sl] n_ref17_Zones_Table [(.pointer a1)] H8 fun (x13 : Sl × Unit) H9 =>
LD T_sl H9 b10 o11 fun (x14 : Sl) =>
REQ (T_sl.enc x14 = x12.v) (
CALL P [T_bool] n_kit_SameInts [x12.v, x13.1.v] H9 fun (x15 : Bool × Unit) H10 =>
ifB (!x15.1) (
Q (false, ()) H10) (
JOIN (fun (j16 : (Sl × Unit) × (Unit) → Heap → Prop) =>
LOOP (fun (r18 : (Sl × Int × Unit) × (Unit) → Heap → Prop) (s19 : (Sl × Int × Unit) × (Unit)) H12 =>
ifB (decide (s19.1.2.1 ≤ 2)) (
JOIN (fun (j20 : (Sl × Unit) × (Unit) → Heap → Prop) =>
CALL P [T_sl] n_zone_Zones_Deck [(.pointer a0), (.int .i64 s19.1.2.1)] H12 fun (x22 : Sl × Unit) H14 =>
CALL P [T_sl] n_zone_Zones_Hand [(.pointer a0), (.int .i64 s19.1.2.1)] H14 fun (x23 : Sl × Unit) H15 =>
JOIN (fun (j24 : (Bool × Unit) × (Unit) → Heap → Prop) =>
CALL P [T_sl] n_ref17_Zones_Deck [(.pointer a1), (.int .i64 s19.1.2.1)] H15 fun (x26 : Sl × Unit) H17 =>
CALL P [T_bool] n_kit_SameInts [x22.1.v, x26.1.v] H17 fun (x27 : Bool × Unit) H18 =>
ifB (!x27.1) (
j24 ((true, ()), (())) H18) (
CALL P [T_sl] n_ref17_Zones_Hand [(.pointer a1), (.int .i64 s19.1.2.1)] H18 fun (x28 : Sl × Unit) H19 =>
CALL P [T_bool] n_kit_SameInts [x23.1.v, x28.1.v] H19 fun (x29 : Bool × Unit) H20 =>
j24 ((!x29.1, ()), (())) H20)) fun (y25 : (Bool × Unit) × (Unit)) H16 =>
ifB y25.1.1 (
Q (false, ()) H16) (
APP T_sl (lenV s19.1.1.v + 2) (aAppE E [68, 68] s19.1.1.v 2 [(.slice x22.1.p x22.1.len x22.1.cap), (.slice x23.1.p x23.1.len x23.1.cap)] H16) fun (x30 : Sl) H21 =>
JOIN (fun (j31 : (Sl × Unit) × (Unit) → Heap → Prop) =>
LOOP (fun (r33 : (Sl × Int × Unit) × (Unit) → Heap → Prop) (s34 : (Sl × Int × Unit) × (Unit)) H23 =>
ifB (decide (s34.1.2.1 ≤ 6)) (
CALL P [T_sl] n_zone_Zones_In [(.pointer a0), (.int .i64 s19.1.2.1), (.int .u8 (IntKind.wrap .u8 s34.1.2.1))] H23 fun (x35 : Sl × Unit) H24 =>
CALL P [T_sl] n_ref17_Zones_In [(.pointer a1), (.int .i64 s19.1.2.1), (.int .u8 (IntKind.wrap .u8 s34.1.2.1))] H24 fun (x36 : Sl × Unit) H25 =>
CALL P [T_bool] n_kit_SameInts [x35.1.v, x36.1.v] H25 fun (x37 : Bool × Unit) H26 =>
ifB (!x37.1) (
Q (false, ()) H26) (
APP T_sl (lenV s34.1.1.v + 1) (aAppE E [68, 68] s34.1.1.v 1 [(.slice x35.1.p x35.1.len x35.1.cap)] H26) fun (x38 : Sl) H27 =>
r33 ((x38, IntKind.wrap .i64 (s34.1.2.1 + 1), ()), (())) H27)) (
j31 ((s34.1.1, ()), (())) H23)) ((x30, 0, ()), (())) H21) fun (y32 : (Sl × Unit) × (Unit)) H22 =>
j20 ((y32.1.1, ()), (())) H22)) fun (y21 : (Sl × Unit) × (Unit)) H13 =>
r18 ((y21.1.1, IntKind.wrap .i64 (s19.1.2.1 + 1), ()), (())) H13) (
j16 ((s19.1.1, ()), (())) H12)) ((x9, (-1), ()), (())) H10) fun (y17 : (Sl × Unit) × (Unit)) H11 =>
CALL P [T_sl] n_zone_Zones_Things [(.pointer a0)] H11 fun (x39 : Sl × Unit) H28 =>
CALL P [T_sl] n_zone_Zones_Things [(.pointer a0)] H28 fun (x40 : Sl × Unit) H29 =>
CALL P [T_sl] n_ref17_Zones_Things [(.pointer a1)] H29 fun (x41 : Sl × Unit) H30 =>
CALL P [T_bool] n_kit_SameThings [x39.1.v, x41.1.v] H30 fun (x42 : Bool × Unit) H31 =>
ifB (!x42.1) (
Q (false, ()) H31) (
JOIN (fun (j43 : (Unit) × (Unit) → Heap → Prop) =>
LOOP (fun (r45 : (Int × Unit) × (Unit) → Heap → Prop) (s46 : (Int × Unit) × (Unit)) H33 =>
JOIN (fun (j47 : (Bool × Unit) × (Unit) → Heap → Prop) =>
CALL P [(T_int .i64)] n_zone_Zones_Len [(.pointer a0)] H33 fun (x49 : Int × Unit) H35 =>
ifB (decide (s46.1.1 ≤ (IntKind.wrap .i64 (x49.1 + 1)))) (
j47 ((decide (s46.1.1 < 200), ()), (())) H35) (
j47 ((false, ()), (())) H35)) fun (y48 : (Bool × Unit) × (Unit)) H34 =>
ifB y48.1.1 (
CALL P [T_G_api_Thing, (T_int .i64)] n_zone_Zones_Thing [(.pointer a0), (.int .i64 s46.1.1)] H34 fun (x50 : G_api_Thing × Int × Unit) H36 =>
CALL P [T_G_api_Thing, (T_int .i64)] n_ref17_Zones_Thing [(.pointer a1), (.int .i64 s46.1.1)] H36 fun (x51 : G_api_Thing × Int × Unit) H37 =>
JOIN (fun (j52 : (Bool × Unit) × (Unit) → Heap → Prop) =>
ifB (!((x50.1.Card == x51.1.Card) && ((x50.1.Owner == x51.1.Owner) && ((x50.1.Place == x51.1.Place) && ((x50.1.Stamp == x51.1.Stamp) && ((x50.1.Hurt == x51.1.Hurt) && (((x50.1.Marks.1 == x51.1.Marks.1) && ((x50.1.Marks.2.1 == x51.1.Marks.2.1) && ((x50.1.Marks.2.2.1 == x51.1.Marks.2.2.1) && ((x50.1.Marks.2.2.2 == x51.1.Marks.2.2.2) && true)))) && ((x50.1.Done == x51.1.Done) && ((x50.1.Fresh == x51.1.Fresh) && true))))))))) (
j52 ((true, ()), (())) H37) (
j52 ((x50.2.1 != x51.2.1, ()), (())) H37)) fun (y53 : (Bool × Unit) × (Unit)) H38 =>
ifB y53.1.1 (
Q (false, ()) H38) (
r45 ((IntKind.wrap .i64 (s46.1.1 + 1), ()), (())) H38)) (
j43 ((()), (())) H34)) (((-1), ()), (())) H31) fun (y44 : (Unit) × (Unit)) H32 =>
JOIN (fun (j54 : (Bool × Unit) × (Unit) → Heap → Prop) =>
CALL P [T_bool] n_kit_ApartInts [y17.1.1.v] H32 fun (x56 : Bool × Unit) H40 =>
ifB x56.1 (
NEW H40 [(.slice x39.1.p x39.1.len x39.1.cap), (.slice x40.1.p x40.1.len x40.1.cap)] 1 fun H41 =>
CALL P [T_bool] n_kit_ApartThings [((Sl.mk (some ⟨H40.length, 0, none⟩) 2 2)).v] H41 fun (x57 : Bool × Unit) H42 =>
ifB x57.1 (
CALL P [T_sl] n_zone_Zones_Things [(.pointer a0)] H42 fun (x58 : Sl × Unit) H43 =>
CALL P [T_sl] n_ref17_Zones_Things [(.pointer a1)] H43 fun (x59 : Sl × Unit) H44 =>
CALL P [T_bool] n_kit_SameThings [x58.1.v, x59.1.v] H44 fun (x60 : Bool × Unit) H45 =>
ifB x60.1 (
CALL P [T_sl] n_zone_Zones_Table [(.pointer a0)] H45 fun (x61 : Sl × Unit) H46 =>
CALL P [T_sl] n_ref17_Zones_Table [(.pointer a1)] H46 fun (x62 : Sl × Unit) H47 =>
CALL P [T_bool] n_kit_SameInts [x61.1.v, x62.1.v] H47 fun (x63 : Bool × Unit) H48 =>
j54 ((x63.1, ()), (())) H48) (
j54 ((false, ()), (())) H45)) (
j54 ((false, ()), (())) H42)) (
j54 ((false, ()), (())) H40)) fun (y55 : (Bool × Unit) × (Unit)) H39 =>
Q (y55.1.1, ()) H39))))
def h_law17_alike : Hnt := (.seq .leaf (.seq (.seq (.reg ⟨[(29, T_bool)], [], [18, 19, 20, 21, 22, 23, 24, 25, 26, 27, 28]⟩) .leaf) (.seq .leaf (.seq .leaf (.seq .leaf (.seq (.seq .leaf (.blk (some ⟨[(5, T_sl)], [], [4, 6, 7, 8, 9, 10, 44, 45, 46, 47, 48, 49, 50, 51, 52, 53, 54, 55, 56, 57, 58, 59, 60, 61, 62, 63, 64, 65, 66, 67, 68, 69, 70, 71, 72, 73, 74, 75, 76, 77, 78, 79, 80, 81, 82, 83, 84, 85, 86, 87, 88, 89, 90, 91, 92, 93]⟩) (.loop ⟨[(5, T_sl), (6, (T_int .i64))], [], [4, 7, 8, 9, 10, 44, 45, 46, 47, 48, 49, 50, 51, 52, 53, 54, 55, 56, 57, 58, 59, 60, 61, 62, 63, 64, 65, 66, 67, 68, 69, 70, 71, 72, 73, 74, 75, 76, 77, 78, 79, 80, 81, 82, 83, 84, 85, 86, 87, 88, 89, 90, 91, 92, 93]⟩ (.seq .leaf (.seq (.blk (some ⟨[(5, T_sl)], [], [4, 7, 8, 9, 10, 48, 49, 50, 51, 52, 53, 54, 55, 56, 57, 58, 59, 60, 61, 62, 63, 64, 65, 66, 67, 68, 69, 70, 71, 72, 73, 74, 75, 76, 77, 78, 79, 80, 81, 82, 83, 84, 85, 86, 87, 88, 89, 90, 91, 92, 93]⟩) (.seq .leaf (.seq (.seq (.reg ⟨[(67, T_bool)], [], [54, 55, 56, 57, 58, 59, 60, 61, 62, 63, 64, 65, 66]⟩) .leaf) (.seq .leaf (.seq .leaf (.blk (some ⟨[(5, T_sl)], [], [4, 9, 10, 73, 74, 75, 76, 77, 78, 79, 80, 81, 82, 83, 84, 85, 86, 87, 88, 89, 90, 91, 92, 93]⟩) (.loop ⟨[(5, T_sl), (9, (T_int .i64))], [], [4, 10, 73, 74, 75, 76, 77, 78, 79, 80, 81, 82, 83, 84, 85, 86, 87, 88, 89, 90, 91, 92, 93]⟩ .leaf))))))) .leaf))))) (.seq .leaf (.seq .leaf (.seq (.seq .leaf (.blk (some ⟨[], [], [4, 13, 14, 15, 16, 17, 103, 104, 105, 106, 107, 108, 109, 110, 111, 112, 113, 114, 115, 116, 117, 118, 119, 120, 121, 122, 123, 124, 125, 126, 127, 128, 129, 130, 131, 132, 133]⟩) (.loop ⟨[(13, (T_int .i64))], [], [4, 14, 15, 16, 17, 103, 104, 105, 106, 107, 108, 109, 110, 111, 112, 113, 114, 115, 116, 117, 118, 119, 120, 121, 122, 123, 124, 125, 126, 127, 128, 129, 130, 131, 132, 133]⟩ (.seq (.seq (.reg ⟨[(111, T_bool)], [], [103, 104, 105, 106, 107, 108, 109, 110]⟩) .leaf) (.seq (.blk none (.seq .leaf (.seq .leaf (.seq (.reg ⟨[(133, T_bool)], [], [126, 127, 128, 129, 130, 131, 132]⟩) .leaf)))) .leaf))))) (.seq (.reg ⟨[(4, T_bool)], [], [134, 135, 136, 137, 138, 139, 140, 141, 142, 143, 144, 145, 146, 147, 148, 149, 150, 151, 152, 153, 154, 155]⟩) .leaf))))))))))
theorem e_law17_alike (a0 : Option Addr) (a1 : Option Addr) (H : Heap) (Q : Bool × Unit → Heap → Prop) : S_law17_alike a0 a1 H Q = cFn C [14, 16, 35, 71, 92] Tryz.f16.ntmps Tryz.f16.results.toList [T_bool] (bodyOf Tryz.f16) h_law17_alike [(.pointer a0), (.pointer a1)] H Q := by kernel_rfl
theorem c_law17_alike {a0 : Option Addr} {a1 : Option Addr} {H : Heap} {Q : Bool × Unit → Heap → Prop} (h : S_law17_alike a0 a1 H Q) : CALL P [T_bool] n_law17_alike [(.pointer a0), (.pointer a1)] H Q := call_print hE Tryz.func16 rfl (by kernel_rfl) (e_law17_alike a0 a1 H Q) h

def S_kit_LentThings (a0 : Sl) (H : Heap) (Q : Sl × Unit → Heap → Prop) : Prop :=
GEN T_sl (aMakeSlice E 45 (.int .i64 0) (.int .i64 (IntKind.wrap .i64 ((a0.len : Int) + 2))) H) fun (x1 : Sl) H1 =>
APP T_sl (lenV x1.v + (lenX a0.v).getD 0) (aAppendE E [45, 45] x1.v a0.v H1) fun (x2 : Sl) H2 =>
APP T_sl (lenV x2.v + 2) (aAppE E [45, 45] x2.v 2 [(.int .i64 (-77)), (.int .i64 0), (.int .u8 0), (.int .i64 0), (.int .i64 0), (.int .i64 0), (.int .i64 0), (.int .i64 0), (.int .i64 0), (.int .i64 0), (.bool false), (.int .i64 (-77)), (.int .i64 0), (.int .u8 0), (.int .i64 0), (.int .i64 0), (.int .i64 0), (.int .i64 0), (.int .i64 0), (.int .i64 0), (.int .i64 0), (.bool false)] H2) fun (x3 : Sl) H3 =>
Q (x3, ()) H3
def h_kit_LentThings : Hnt := .leaf
theorem e_kit_LentThings (a0 : Sl) (H : Heap) (Q : Sl × Unit → Heap → Prop) : S_kit_LentThings a0 H Q = cFn C [14] Tryz.f17.ntmps Tryz.f17.results.toList [T_sl] (bodyOf Tryz.f17) h_kit_LentThings [a0.v] H Q := by kernel_rfl
theorem c_kit_LentThings {a0 : Sl} {H : Heap} {Q : Sl × Unit → Heap → Prop} (h : S_kit_LentThings a0 H Q) : CALL P [T_sl] n_kit_LentThings [a0.v] H Q := call_print hE Tryz.func17 rfl (by kernel_rfl) (e_kit_LentThings a0 H Q) h

def S_zone_From (a0 : Sl) (a1 : Sl × Sl) (a2 : Sl × Sl) (a3 : Int) (H : Heap) (Q : (Option Addr) × Int × Unit → Heap → Prop) : Prop :=
NEW H [(.slice a1.1.p a1.1.len a1.1.cap), (.slice a1.2.p a1.2.len a1.2.cap)] 2 fun H1 =>
NEW H1 [(.slice a2.1.p a2.1.len a2.1.cap), (.slice a2.2.p a2.2.len a2.2.cap)] 2 fun H2 =>
JOIN (fun (j1 : (Bool × Unit) × (Unit) → Heap → Prop) =>
LOOP (fun (r3 : (Bool × Int × Unit) × (Unit) → Heap → Prop) (s4 : (Bool × Int × Unit) × (Unit)) H4 =>
ifB (decide (s4.1.2.1 < 2)) (
JOIN (fun (j5 : (Bool × Unit) × (Unit) → Heap → Prop) =>
ifB s4.1.1 (
j5 ((true, ()), (())) H4) (
IDXA 2 s4.1.2.1 (
LD T_sl H4 H.length (0 + s4.1.2.1.toNat * 1) fun (x7 : Sl) =>
ifB (decide ((x7.len : Int) > 2048)) (
j5 ((true, ()), (())) H4) (
IDXA 2 s4.1.2.1 (
LD T_sl H4 H1.length (0 + s4.1.2.1.toNat * 1) fun (x8 : Sl) =>
j5 ((decide ((x8.len : Int) > 2048), ()), (())) H4))))) fun (y6 : (Bool × Unit) × (Unit)) H5 =>
r3 ((y6.1.1, IntKind.wrap .i64 (s4.1.2.1 + 1), ()), (())) H5) (
j1 ((s4.1.1, ()), (())) H4)) ((decide ((a0.len : Int) > 2048), 0, ()), (())) H2) fun (y2 : (Bool × Unit) × (Unit)) H3 =>
ifB y2.1.1 (
Q (none, 3, ()) H3) (
CALL P [T_sl] n_slices_Clone_api_Thing_api_Thing [a0.v] H3 fun (x9 : Sl × Unit) H6 =>
NEW H6 [(.slice x9.1.p x9.1.len x9.1.cap), (.slice none 0 0), (.slice none 0 0), (.slice none 0 0), (.slice none 0 0), (.int .i64 a3)] 6 fun H7 =>
JOIN (fun (j10 : (Unit) × (Unit) → Heap → Prop) =>
LOOP (fun (r12 : (Int × Unit) × (Unit) → Heap → Prop) (s13 : (Int × Unit) × (Unit)) H9 =>
ifB (decide (s13.1.1 < 2)) (
IDXA 2 s13.1.1 (
LD T_sl H9 H.length (0 + s13.1.1.toNat * 1) fun (x14 : Sl) =>
IDXA 2 s13.1.1 (
LD T_sl H9 H1.length (0 + s13.1.1.toNat * 1) fun (x15 : Sl) =>
CALL P [T_sl] n_slices_Clone_int_int [x14.v] H9 fun (x16 : Sl × Unit) H10 =>
LD T_sl H10 H1.length (0 + s13.1.1.toNat * 1) fun (x17 : Sl) =>
REQ (T_sl.enc x17 = x15.v) (
CALL P [T_sl] n_slices_Clone_int_int [x15.v] H10 fun (x18 : Sl × Unit) H11 =>
IDXA 2 s13.1.1 (
ST H11 H6.length (1 + s13.1.1.toNat * 1) [(.slice x16.1.p x16.1.len x16.1.cap)] fun H12 =>
IDXA 2 s13.1.1 (
ST H12 H6.length (3 + s13.1.1.toNat * 1) [(.slice x18.1.p x18.1.len x18.1.cap)] fun H13 =>
r12 ((IntKind.wrap .i64 (s13.1.1 + 1), ()), (())) H13)))))) (
j10 ((()), (())) H9)) ((0, ()), (())) H7) fun (y11 : (Unit) × (Unit)) H8 =>
CALL P [T_bool] n_zone_Zones_sound [(.pointer (some ⟨H6.length, 0, none⟩))] H8 fun (x19 : Bool × Unit) H14 =>
ifB (!x19.1) (
Q (none, 2, ()) H14) (
Q ((some ⟨H6.length, 0, none⟩), 0, ()) H14))
def h_zone_From : Hnt := (.seq .leaf (.seq .leaf (.seq (.seq .leaf (.blk (some ⟨[(10, T_bool)], [], [11, 17, 18, 19, 20, 21, 22, 23, 24, 25, 26, 27, 28, 29, 30, 31, 32, 33, 34, 35]⟩) (.loop ⟨[(10, T_bool), (17, (T_int .i64))], [], [11, 18, 19, 20, 21, 22, 23, 24, 25, 26, 27, 28, 29, 30, 31, 32, 33, 34, 35]⟩ (.seq .leaf (.seq .leaf (.seq (.blk none (.seq .leaf (.reg ⟨[(10, T_bool)], [], [20, 21, 22, 23, 24, 25, 26, 27, 28, 29, 30, 31, 32, 33, 34]⟩))) .leaf)))))) (.seq .leaf (.seq .leaf (.seq (.seq .leaf (.blk (some ⟨[], [], [13, 42, 43, 44, 45, 46, 47, 48, 49, 50, 51, 52, 53, 54, 55, 56, 57, 58, 59, 60, 61, 62, 63]⟩) (.loop ⟨[(42, (T_int .i64))], [], [13, 43, 44, 45, 46, 47, 48, 49, 50, 51, 52, 53, 54, 55, 56, 57, 58, 59, 60, 61, 62, 63]⟩ .leaf))) .leaf))))))
theorem e_zone_From (a0 : Sl) (a1 : Sl × Sl) (a2 : Sl × Sl) (a3 : Int) (H : Heap) (Q : (Option Addr) × Int × Unit → Heap → Prop) : S_zone_From a0 a1 a2 a3 H Q = cFn C [] Tryz.f18.ntmps Tryz.f18.results.toList [T_ptr, (T_int .i64)] (bodyOf Tryz.f18) h_zone_From [a0.v, (T_arr2_T_sl.enc a1), (T_arr2_T_sl.enc a2), (.int .i64 a3)] H Q := by kernel_rfl
theorem c_zone_From {a0 : Sl} {a1 : Sl × Sl} {a2 : Sl × Sl} {a3 : Int} {H : Heap} {Q : (Option Addr) × Int × Unit → Heap → Prop} (h : S_zone_From a0 a1 a2 a3 H Q) : CALL P [T_ptr, (T_int .i64)] n_zone_From [a0.v, (T_arr2_T_sl.enc a1), (T_arr2_T_sl.enc a2), (.int .i64 a3)] H Q := call_print hE Tryz.func18 rfl (by kernel_rfl) (e_zone_From a0 a1 a2 a3 H Q) h

def S_ref17_From (a0 : Sl) (a1 : Sl × Sl) (a2 : Sl × Sl) (a3 : Int) (H : Heap) (Q : (Option Addr) × Int × Unit → Heap → Prop) : Prop :=
NEW H [(.slice a1.1.p a1.1.len a1.1.cap), (.slice a1.2.p a1.2.len a1.2.cap)] 2 fun H1 =>
NEW H1 [(.slice a2.1.p a2.1.len a2.1.cap), (.slice a2.2.p a2.2.len a2.2.cap)] 2 fun H2 =>
ifB (decide ((a0.len : Int) > 2048)) (
Q (none, 3, ()) H2) (
NEW H2 [(.slice none 0 0), (.slice none 0 0), (.slice none 0 0), (.slice none 0 0), (.slice none 0 0), (.int .i64 a3), (.bool true)] 7 fun H3 =>
LD T_sl H3 H2.length 0 fun (x1 : Sl) =>
APP T_sl (lenV x1.v + (lenX a0.v).getD 0) (aAppendE E [45, 45] x1.v a0.v H3) fun (x2 : Sl) H4 =>
ST H4 H2.length 0 [(.slice x2.p x2.len x2.cap)] fun H5 =>
JOIN (fun (j3 : (Unit) × (Unit) → Heap → Prop) =>
LOOP (fun (r5 : (Int × Unit) × (Unit) → Heap → Prop) (s6 : (Int × Unit) × (Unit)) H7 =>
ifB (decide (s6.1.1 < 2)) (
JOIN (fun (j7 : (Bool × Unit) × (Unit) → Heap → Prop) =>
IDXA 2 s6.1.1 (
LD T_sl H7 H.length (0 + s6.1.1.toNat * 1) fun (x9 : Sl) =>
ifB (decide ((x9.len : Int) > 2048)) (
j7 ((true, ()), (())) H7) (
IDXA 2 s6.1.1 (
LD T_sl H7 H1.length (0 + s6.1.1.toNat * 1) fun (x10 : Sl) =>
j7 ((decide ((x10.len : Int) > 2048), ()), (())) H7)))) fun (y8 : (Bool × Unit) × (Unit)) H8 =>
ifB y8.1.1 (
Q (none, 3, ()) H8) (
IDXA 2 s6.1.1 (
LD T_sl H8 H.length (0 + s6.1.1.toNat * 1) fun (x11 : Sl) =>
CALL P [T_sl] n_ref17_ints [x11.v] H8 fun (x12 : Sl × Unit) H9 =>
IDXA 2 s6.1.1 (
ST H9 H2.length (1 + s6.1.1.toNat * 1) [(.slice x12.1.p x12.1.len x12.1.cap)] fun H10 =>
IDXA 2 s6.1.1 (
LD T_sl H10 H1.length (0 + s6.1.1.toNat * 1) fun (x13 : Sl) =>
CALL P [T_sl] n_ref17_ints [x13.v] H10 fun (x14 : Sl × Unit) H11 =>
IDXA 2 s6.1.1 (
ST H11 H2.length (3 + s6.1.1.toNat * 1) [(.slice x14.1.p x14.1.len x14.1.cap)] fun H12 =>
r5 ((IntKind.wrap .i64 (s6.1.1 + 1), ()), (())) H12)))))) (
j3 ((()), (())) H7)) ((0, ()), (())) H5) fun (y4 : (Unit) × (Unit)) H6 =>
CALL P [T_bool] n_ref17_Zones_Sound [(.pointer (some ⟨H2.length, 0, none⟩))] H6 fun (x15 : Bool × Unit) H13 =>
ifB (!x15.1) (
Q (none, 2, ()) H13) (
Q ((some ⟨H2.length, 0, none⟩), 0, ()) H13))
def h_ref17_From : Hnt := (.seq .leaf (.seq .leaf (.seq .leaf (.seq .leaf (.seq (.seq .leaf (.blk (some ⟨[], [], [8, 9, 11, 28, 29, 30, 31, 32, 33, 34, 35, 36, 37, 38, 39, 40, 41, 42, 43, 44, 45, 46, 47, 48, 49, 50, 51, 52, 53, 54, 55, 56, 57, 58, 59, 60, 61]⟩) (.loop ⟨[(11, (T_int .i64))], [], [8, 9, 28, 29, 30, 31, 32, 33, 34, 35, 36, 37, 38, 39, 40, 41, 42, 43, 44, 45, 46, 47, 48, 49, 50, 51, 52, 53, 54, 55, 56, 57, 58, 59, 60, 61]⟩ (.seq .leaf (.seq (.blk none (.seq (.seq (.reg ⟨[(43, T_bool)], [], [32, 33, 34, 35, 36, 37, 38, 39, 40, 41, 42]⟩) .leaf) .leaf)) .leaf))))) .leaf)))))
theorem e_ref17_From (a0 : Sl) (a1 : Sl × Sl) (a2 : Sl × Sl) (a3 : Int) (H : Heap) (Q : (Option Addr) × Int × Unit → Heap → Prop) : S_ref17_From a0 a1 a2 a3 H Q = cFn C [] Tryz.f19.ntmps Tryz.f19.results.toList [T_ptr, (T_int .i64)] (bodyOf Tryz.f19) h_ref17_From [a0.v, (T_arr2_T_sl.enc a1), (T_arr2_T_sl.enc a2), (.int .i64 a3)] H Q := by kernel_rfl
theorem c_ref17_From {a0 : Sl} {a1 : Sl × Sl} {a2 : Sl × Sl} {a3 : Int} {H : Heap} {Q : (Option Addr) × Int × Unit → Heap → Prop} (h : S_ref17_From a0 a1 a2 a3 H Q) : CALL P [T_ptr, (T_int .i64)] n_ref17_From [a0.v, (T_arr2_T_sl.enc a1), (T_arr2_T_sl.enc a2), (.int .i64 a3)] H Q := call_print hE Tryz.func19 rfl (by kernel_rfl) (e_ref17_From a0 a1 a2 a3 H Q) h

def S_kit_KeptThings (a0 : Sl) (a1 : Sl) (H : Heap) (Q : Bool × Unit → Heap → Prop) : Prop :=
CALL P [T_sl] n_kit_CopyThings [a1.v] H fun (x1 : Sl × Unit) H1 =>
APP T_sl (lenV x1.1.v + 2) (aAppE E [45, 45] x1.1.v 2 [(.int .i64 (-77)), (.int .i64 0), (.int .u8 0), (.int .i64 0), (.int .i64 0), (.int .i64 0), (.int .i64 0), (.int .i64 0), (.int .i64 0), (.int .i64 0), (.bool false), (.int .i64 (-77)), (.int .i64 0), (.int .u8 0), (.int .i64 0), (.int .i64 0), (.int .i64 0), (.int .i64 0), (.int .i64 0), (.int .i64 0), (.int .i64 0), (.bool false)] H1) fun (x2 : Sl) H2 =>
CALL P [T_bool] n_kit_SameThings [a0.v, x2.v] H2 fun (x3 : Bool × Unit) H3 =>
Q (x3.1, ()) H3
def h_kit_KeptThings : Hnt := .leaf
theorem e_kit_KeptThings (a0 : Sl) (a1 : Sl) (H : Heap) (Q : Bool × Unit → Heap → Prop) : S_kit_KeptThings a0 a1 H Q = cFn C [10] Tryz.f20.ntmps Tryz.f20.results.toList [T_bool] (bodyOf Tryz.f20) h_kit_KeptThings [a0.v, a1.v] H Q := by kernel_rfl
theorem c_kit_KeptThings {a0 : Sl} {a1 : Sl} {H : Heap} {Q : Bool × Unit → Heap → Prop} (h : S_kit_KeptThings a0 a1 H Q) : CALL P [T_bool] n_kit_KeptThings [a0.v, a1.v] H Q := call_print hE Tryz.func20 rfl (by kernel_rfl) (e_kit_KeptThings a0 a1 H Q) h

def S_kit_OverThings (a0 : Sl) (H : Heap) (Q : Unit → Heap → Prop) : Prop :=
JOIN (fun (j1 : (Unit) × (Unit) → Heap → Prop) =>
LOOP (fun (r3 : (Int × Unit) × (Unit) → Heap → Prop) (s4 : (Int × Unit) × (Unit)) H2 =>
ifB (decide (s4.1.1 < (a0.len : Int))) (
IDX a0.p a0.len s4.1.1 11 fun b5 o6 =>
ST H2 b5 o6 [(.int .i64 (-99)), (.int .i64 0), (.int .u8 0), (.int .i64 0), (.int .i64 0), (.int .i64 0), (.int .i64 0), (.int .i64 0), (.int .i64 0), (.int .i64 0), (.bool false)] fun H3 =>
r3 ((IntKind.wrap .i64 (s4.1.1 + 1), ()), (())) H3) (
j1 ((()), (())) H2)) ((0, ()), (())) H) fun (y2 : (Unit) × (Unit)) H1 =>
Q (()) H1
def h_kit_OverThings : Hnt := (.seq .leaf (.blk (some ⟨[], [], [2, 3, 4, 5, 6, 7, 8, 9, 10, 11, 12]⟩) (.loop ⟨[(2, (T_int .i64))], [], [3, 4, 5, 6, 7, 8, 9, 10, 11, 12]⟩ .leaf)))
theorem e_kit_OverThings (a0 : Sl) (H : Heap) (Q : Unit → Heap → Prop) : S_kit_OverThings a0 H Q = cFn C [] Tryz.f21.ntmps Tryz.f21.results.toList [] (bodyOf Tryz.f21) h_kit_OverThings [a0.v] H Q := by kernel_rfl
theorem c_kit_OverThings {a0 : Sl} {H : Heap} {Q : Unit → Heap → Prop} (h : S_kit_OverThings a0 H Q) : CALL P [] n_kit_OverThings [a0.v] H Q := call_print hE Tryz.func21 rfl (by kernel_rfl) (e_kit_OverThings a0 H Q) h

def S_kit_SameInts (a0 : Sl) (a1 : Sl) (H : Heap) (Q : Bool × Unit → Heap → Prop) : Prop :=
ifB ((a0.len : Int) != (a1.len : Int)) (
Q (false, ()) H) (
JOIN (fun (j1 : (Unit) × (Unit) → Heap → Prop) =>
LOOP (fun (r3 : (Int × Unit) × (Unit) → Heap → Prop) (s4 : (Int × Unit) × (Unit)) H2 =>
ifB (decide (s4.1.1 < (a0.len : Int))) (
IDX a0.p a0.len s4.1.1 1 fun b5 o6 =>
LD (T_int .i64) H2 b5 o6 fun (x7 : Int) =>
IDX a1.p a1.len s4.1.1 1 fun b8 o9 =>
LD (T_int .i64) H2 b8 o9 fun (x10 : Int) =>
ifB (x7 != x10) (
Q (false, ()) H2) (
r3 ((IntKind.wrap .i64 (s4.1.1 + 1), ()), (())) H2)) (
j1 ((()), (())) H2)) ((0, ()), (())) H) fun (y2 : (Unit) × (Unit)) H1 =>
Q (true, ()) H1)
def h_kit_SameInts : Hnt := (.seq .leaf (.seq .leaf (.seq (.seq .leaf (.blk (some ⟨[], [], [4, 5, 11, 12, 13, 14, 15, 16, 17, 18, 19, 20, 21, 22, 23, 24, 25]⟩) (.loop ⟨[(5, (T_int .i64))], [], [4, 11, 12, 13, 14, 15, 16, 17, 18, 19, 20, 21, 22, 23, 24, 25]⟩ .leaf))) .leaf)))
theorem e_kit_SameInts (a0 : Sl) (a1 : Sl) (H : Heap) (Q : Bool × Unit → Heap → Prop) : S_kit_SameInts a0 a1 H Q = cFn C [] Tryz.f22.ntmps Tryz.f22.results.toList [T_bool] (bodyOf Tryz.f22) h_kit_SameInts [a0.v, a1.v] H Q := by kernel_rfl
theorem c_kit_SameInts {a0 : Sl} {a1 : Sl} {H : Heap} {Q : Bool × Unit → Heap → Prop} (h : S_kit_SameInts a0 a1 H Q) : CALL P [T_bool] n_kit_SameInts [a0.v, a1.v] H Q := call_print hE Tryz.func22 rfl (by kernel_rfl) (e_kit_SameInts a0 a1 H Q) h

def S_zone_Zones_Deck (a0 : Option Addr) (a1 : Int) (H : Heap) (Q : Sl × Unit → Heap → Prop) : Prop :=
CALL P [T_sl] n_zone_Zones_In [(.pointer a0), (.int .i64 a1), (.int .u8 1)] H fun (x1 : Sl × Unit) H1 =>
Q (x1.1, ()) H1
def h_zone_Zones_Deck : Hnt := .leaf
theorem e_zone_Zones_Deck (a0 : Option Addr) (a1 : Int) (H : Heap) (Q : Sl × Unit → Heap → Prop) : S_zone_Zones_Deck a0 a1 H Q = cFn C [] Tryz.f23.ntmps Tryz.f23.results.toList [T_sl] (bodyOf Tryz.f23) h_zone_Zones_Deck [(.pointer a0), (.int .i64 a1)] H Q := by kernel_rfl
theorem c_zone_Zones_Deck {a0 : Option Addr} {a1 : Int} {H : Heap} {Q : Sl × Unit → Heap → Prop} (h : S_zone_Zones_Deck a0 a1 H Q) : CALL P [T_sl] n_zone_Zones_Deck [(.pointer a0), (.int .i64 a1)] H Q := call_print hE Tryz.func23 rfl (by kernel_rfl) (e_zone_Zones_Deck a0 a1 H Q) h

def S_zone_Zones_Move (a0 : Option Addr) (a1 : Int) (a2 : Int) (H : Heap) (Q : Int × Unit → Heap → Prop) : Prop :=
CALL P [T_G_api_Thing, (T_int .i64)] n_zone_Zones_Thing [(.pointer a0), (.int .i64 a1)] H fun (x1 : G_api_Thing × Int × Unit) H1 =>
ifB (x1.2.1 != 0) (
Q (x1.2.1, ()) H1) (
JOIN (fun (j2 : (Bool × Unit) × (Unit) → Heap → Prop) =>
ifB (decide (a2 < 1)) (
j2 ((true, ()), (())) H1) (
j2 ((decide (a2 > 5), ()), (())) H1)) fun (y3 : (Bool × Unit) × (Unit)) H2 =>
ifB y3.1.1 (
Q (2, ()) H2) (
JOIN (fun (j4 : (Bool × Unit) × (Unit) → Heap → Prop) =>
ifB (a2 == 2) (
ifB (x1.1.Place != 2) (
NIL a0 fun b6 o7 =>
IDXA 2 x1.1.Owner (
LD T_sl H2 b6 (o7 + 3 + x1.1.Owner.toNat * 1) fun (x8 : Sl) =>
j4 ((decide ((x8.len : Int) ≥ 10), ()), (())) H2)) (
j4 ((false, ()), (())) H2)) (
j4 ((false, ()), (())) H2)) fun (y5 : (Bool × Unit) × (Unit)) H3 =>
ifB y5.1.1 (
Q (14, ()) H3) (
JOIN (fun (j9 : (Bool × Unit) × (Unit) → Heap → Prop) =>
ifB (a2 == 4) (
NIL a0 fun b11 o12 =>
LD (T_int .i64) H3 b11 (o12 + 5) fun (x13 : Int) =>
ifB (decide (x13 ≥ 1099511627776)) (
j9 ((true, ()), (())) H3) (
ifB (x1.1.Place != 4) (
CALL P [(T_int .i64)] n_zone_Zones_owned [(.pointer a0), (.int .i64 x1.1.Owner)] H3 fun (x14 : Int × Unit) H5 =>
j9 ((decide (x14.1 ≥ 8), ()), (())) H5) (
j9 ((false, ()), (())) H3))) (
j9 ((false, ()), (())) H3)) fun (y10 : (Bool × Unit) × (Unit)) H4 =>
ifB y10.1.1 (
Q (14, ()) H4) (
CALL P [] n_zone_Zones_come [(.pointer a0), (.int .i64 a1), (.int .u8 a2)] H4 fun (x15 : Unit) H6 =>
Q (0, ()) H6))))
def h_zone_Zones_Move : Hnt := (.seq .leaf (.seq .leaf (.seq (.blk none (.seq .leaf (.cond none .leaf (.seq (.reg ⟨[(19, T_bool)], [], [20, 21, 22, 23, 24, 25]⟩) (.cond none .leaf (.seq (.reg ⟨[(26, T_bool)], [], [27, 28, 29, 30, 31, 32, 33, 34, 35, 36, 37, 38, 39, 40, 41, 42, 43, 44]⟩) (.cond none .leaf (.seq (.reg ⟨[(45, T_bool)], [], [46, 47, 48, 49, 50, 51, 52, 53, 54, 55, 56, 57, 58, 59, 60, 61, 62, 63, 64, 65, 66]⟩) .leaf)))))))) .leaf)))
theorem e_zone_Zones_Move (a0 : Option Addr) (a1 : Int) (a2 : Int) (H : Heap) (Q : Int × Unit → Heap → Prop) : S_zone_Zones_Move a0 a1 a2 H Q = cFn C [7] Tryz.f24.ntmps Tryz.f24.results.toList [(T_int .i64)] (bodyOf Tryz.f24) h_zone_Zones_Move [(.pointer a0), (.int .i64 a1), (.int .u8 a2)] H Q := by kernel_rfl
theorem c_zone_Zones_Move {a0 : Option Addr} {a1 : Int} {a2 : Int} {H : Heap} {Q : Int × Unit → Heap → Prop} (h : S_zone_Zones_Move a0 a1 a2 H Q) : CALL P [(T_int .i64)] n_zone_Zones_Move [(.pointer a0), (.int .i64 a1), (.int .u8 a2)] H Q := call_print hE Tryz.func24 rfl (by kernel_rfl) (e_zone_Zones_Move a0 a1 a2 H Q) h

def S_zone_Zones_Table (a0 : Option Addr) (H : Heap) (Q : Sl × Unit → Heap → Prop) : Prop :=
NEW H [(.pointer a0)] 1 fun H1 =>
LD T_ptr H1 H.length 0 fun (x1 : Option Addr) =>
CALL P [T_bool] n_zone_Zones_is [(.pointer x1)] H1 fun (x2 : Bool × Unit) H2 =>
ifB (!x2.1) (
Q ((Sl.mk none 0 0), ()) H2) (
LD T_ptr H2 H.length 0 fun (x3 : Option Addr) =>
NIL x3 fun b4 o5 =>
LD T_sl H2 b4 (o5 + 0) fun (x6 : Sl) =>
JOIN (fun (j7 : (Sl × Unit) × (Unit) → Heap → Prop) =>
LOOP (fun (r9 : (Sl × Int × Unit) × (Unit) → Heap → Prop) (s10 : (Sl × Int × Unit) × (Unit)) H4 =>
ifB (decide (s10.1.2.1 < (x6.len : Int))) (
IDX x6.p x6.len s10.1.2.1 11 fun b11 o12 =>
LD T_G_api_Thing H4 b11 o12 fun (x13 : G_api_Thing) =>
JOIN (fun (j14 : (Sl × Unit) × (Unit) → Heap → Prop) =>
ifB (x13.Place == 4) (
APP T_sl (lenV s10.1.1.v + 1) (aAppE E [22, 22] s10.1.1.v 1 [(.int .i64 (IntKind.wrap .i64 (s10.1.2.1 + 1)))] H4) fun (x16 : Sl) H6 =>
j14 ((x16, ()), (())) H6) (
j14 ((s10.1.1, ()), (())) H4)) fun (y15 : (Sl × Unit) × (Unit)) H5 =>
r9 ((y15.1.1, IntKind.wrap .i64 (s10.1.2.1 + 1), ()), (())) H5) (
j7 ((s10.1.1, ()), (())) H4)) (((Sl.mk none 0 0), 0, ()), (())) H2) fun (y8 : (Sl × Unit) × (Unit)) H3 =>
CALL P [] n_slices_SortFunc_int_int [y8.1.1.v, (.func (.func n_zone_Zones_Table_1) #[] #[(.pointer (some ⟨H.length, 0, none⟩))])] H3 fun (x17 : Unit) H7 =>
Q (y8.1.1, ()) H7)
def h_zone_Zones_Table : Hnt := (.seq .leaf (.seq .leaf (.seq .leaf (.seq (.seq .leaf (.blk (some ⟨[(3, T_sl)], [], [4, 5, 14, 15, 16, 17, 18, 19, 20, 21, 22, 23, 24, 25, 26, 27]⟩) (.loop ⟨[(3, T_sl), (14, (T_int .i64))], [], [4, 5, 15, 16, 17, 18, 19, 20, 21, 22, 23, 24, 25, 26, 27]⟩ (.seq .leaf (.seq .leaf (.seq (.blk none (.seq .leaf (.seq .leaf (.cond (some ⟨[(3, T_sl)], [], [22, 23, 24, 25, 26]⟩) .leaf .leaf)))) .leaf)))))) .leaf))))
theorem e_zone_Zones_Table (a0 : Option Addr) (H : Heap) (Q : Sl × Unit → Heap → Prop) : S_zone_Zones_Table a0 H Q = cFn C [5, 25] Tryz.f25.ntmps Tryz.f25.results.toList [T_sl] (bodyOf Tryz.f25) h_zone_Zones_Table [(.pointer a0)] H Q := by kernel_rfl
theorem c_zone_Zones_Table {a0 : Option Addr} {H : Heap} {Q : Sl × Unit → Heap → Prop} (h : S_zone_Zones_Table a0 H Q) : CALL P [T_sl] n_zone_Zones_Table [(.pointer a0)] H Q := call_print hE Tryz.func25 rfl (by kernel_rfl) (e_zone_Zones_Table a0 H Q) h

def S_kit_CopyInts (a0 : Sl) (H : Heap) (Q : Sl × Unit → Heap → Prop) : Prop :=
APP T_sl (lenV ((Sl.mk none 0 0)).v + (lenX a0.v).getD 0) (aAppendE E [22, 22] ((Sl.mk none 0 0)).v a0.v H) fun (x1 : Sl) H1 =>
Q (x1, ()) H1
def h_kit_CopyInts : Hnt := .leaf
theorem e_kit_CopyInts (a0 : Sl) (H : Heap) (Q : Sl × Unit → Heap → Prop) : S_kit_CopyInts a0 H Q = cFn C [] Tryz.f26.ntmps Tryz.f26.results.toList [T_sl] (bodyOf Tryz.f26) h_kit_CopyInts [a0.v] H Q := by kernel_rfl
theorem c_kit_CopyInts {a0 : Sl} {H : Heap} {Q : Sl × Unit → Heap → Prop} (h : S_kit_CopyInts a0 H Q) : CALL P [T_sl] n_kit_CopyInts [a0.v] H Q := call_print hE Tryz.func26 rfl (by kernel_rfl) (e_kit_CopyInts a0 H Q) h

def S_ref17_Zones_Move (a0 : Option Addr) (a1 : Int) (a2 : Int) (H : Heap) (Q : Int × Unit → Heap → Prop) : Prop :=
CALL P [T_bool] n_ref17_Zones_none [(.pointer a0)] H fun (x1 : Bool × Unit) H1 =>
ifB x1.1 (
Q (1, ()) H1) (
CALL P [T_bool] n_ref17_Zones_there [(.pointer a0), (.int .i64 a1)] H1 fun (x2 : Bool × Unit) H2 =>
ifB (!x2.1) (
Q (6, ()) H2) (
JOIN (fun (j3 : (Bool × Unit) × (Unit) → Heap → Prop) =>
ifB (decide (a2 < 1)) (
j3 ((true, ()), (())) H2) (
j3 ((decide (a2 > 5), ()), (())) H2)) fun (y4 : (Bool × Unit) × (Unit)) H3 =>
ifB y4.1.1 (
Q (2, ()) H3) (
NIL a0 fun b5 o6 =>
LD T_sl H3 b5 (o6 + 0) fun (x7 : Sl) =>
IDX x7.p x7.len (IntKind.wrap .i64 (a1 - 1)) 11 fun b8 o9 =>
LD T_G_api_Thing H3 b8 o9 fun (x10 : G_api_Thing) =>
JOIN (fun (j11 : (Bool × Unit) × (Unit) → Heap → Prop) =>
ifB (a2 == 2) (
ifB (x10.Place != 2) (
NIL a0 fun b13 o14 =>
IDXA 2 x10.Owner (
LD T_sl H3 b13 (o14 + 3 + x10.Owner.toNat * 1) fun (x15 : Sl) =>
j11 ((decide ((x15.len : Int) ≥ 10), ()), (())) H3)) (
j11 ((false, ()), (())) H3)) (
j11 ((false, ()), (())) H3)) fun (y12 : (Bool × Unit) × (Unit)) H4 =>
ifB y12.1.1 (
Q (14, ()) H4) (
JOIN (fun (j16 : (Bool × Unit) × (Unit) → Heap → Prop) =>
ifB (a2 == 4) (
ifB (x10.Place != 4) (
CALL P [(T_int .i64)] n_ref17_Zones_owned [(.pointer a0), (.int .i64 x10.Owner)] H4 fun (x18 : Int × Unit) H6 =>
ifB (decide (x18.1 ≥ 8)) (
j16 ((true, ()), (())) H6) (
NIL a0 fun b19 o20 =>
LD (T_int .i64) H6 b19 (o20 + 5) fun (x21 : Int) =>
j16 ((decide (x21 ≥ 1099511627776), ()), (())) H6)) (
NIL a0 fun b22 o23 =>
LD (T_int .i64) H4 b22 (o23 + 5) fun (x24 : Int) =>
j16 ((decide (x24 ≥ 1099511627776), ()), (())) H4)) (
j16 ((false, ()), (())) H4)) fun (y17 : (Bool × Unit) × (Unit)) H5 =>
ifB y17.1.1 (
Q (14, ()) H5) (
CALL P [] n_ref17_Zones_come [(.pointer a0), (.int .i64 a1), (.int .u8 a2)] H5 fun (x25 : Unit) H7 =>
Q (0, ()) H7)))))
def h_ref17_Zones_Move : Hnt := (.seq .leaf (.seq .leaf (.seq .leaf (.seq (.seq (.reg ⟨[(19, T_bool)], [], [14, 15, 16, 17, 18]⟩) .leaf) (.seq .leaf (.seq (.seq (.reg ⟨[(45, T_bool)], [], [28, 29, 30, 31, 32, 33, 34, 35, 36, 37, 38, 39, 40, 41, 42, 43, 44]⟩) .leaf) (.seq (.seq (.reg ⟨[(66, T_bool)], [], [46, 47, 48, 49, 50, 51, 52, 53, 54, 55, 56, 57, 58, 59, 60, 61, 62, 63, 64, 65]⟩) .leaf) .leaf)))))))
theorem e_ref17_Zones_Move (a0 : Option Addr) (a1 : Int) (a2 : Int) (H : Heap) (Q : Int × Unit → Heap → Prop) : S_ref17_Zones_Move a0 a1 a2 H Q = cFn C [7] Tryz.f27.ntmps Tryz.f27.results.toList [(T_int .i64)] (bodyOf Tryz.f27) h_ref17_Zones_Move [(.pointer a0), (.int .i64 a1), (.int .u8 a2)] H Q := by kernel_rfl
theorem c_ref17_Zones_Move {a0 : Option Addr} {a1 : Int} {a2 : Int} {H : Heap} {Q : Int × Unit → Heap → Prop} (h : S_ref17_Zones_Move a0 a1 a2 H Q) : CALL P [(T_int .i64)] n_ref17_Zones_Move [(.pointer a0), (.int .i64 a1), (.int .u8 a2)] H Q := call_print hE Tryz.func27 rfl (by kernel_rfl) (e_ref17_Zones_Move a0 a1 a2 H Q) h

def S_zone_Zones_Make (a0 : Option Addr) (a1 : Int) (a2 : Int) (H : Heap) (Q : Int × Int × Unit → Heap → Prop) : Prop :=
CALL P [T_bool] n_zone_Zones_is [(.pointer a0)] H fun (x1 : Bool × Unit) H1 =>
ifB (!x1.1) (
Q (0, 1, ()) H1) (
JOIN (fun (j2 : (Bool × Unit) × (Unit) → Heap → Prop) =>
ifB (decide (a1 < 1)) (
j2 ((true, ()), (())) H1) (
CALL P [T_bool] n_zone_player [(.int .i64 a2)] H1 fun (x4 : Bool × Unit) H3 =>
j2 ((!x4.1, ()), (())) H3)) fun (y3 : (Bool × Unit) × (Unit)) H2 =>
ifB y3.1.1 (
Q (0, 2, ()) H2) (
JOIN (fun (j5 : (Bool × Unit) × (Unit) → Heap → Prop) =>
NIL a0 fun b7 o8 =>
LD T_sl H2 b7 (o8 + 0) fun (x9 : Sl) =>
ifB (decide ((x9.len : Int) ≥ 2048)) (
j5 ((true, ()), (())) H2) (
CALL P [(T_int .i64)] n_zone_Zones_owned [(.pointer a0), (.int .i64 a2)] H2 fun (x10 : Int × Unit) H5 =>
ifB (decide (x10.1 ≥ 8)) (
j5 ((true, ()), (())) H5) (
NIL a0 fun b11 o12 =>
LD (T_int .i64) H5 b11 (o12 + 5) fun (x13 : Int) =>
j5 ((decide (x13 ≥ 1099511627776), ()), (())) H5))) fun (y6 : (Bool × Unit) × (Unit)) H4 =>
ifB y6.1.1 (
Q (0, 14, ()) H4) (
NIL a0 fun b14 o15 =>
LD T_sl H4 b14 (o15 + 0) fun (x16 : Sl) =>
APP T_sl (lenV x16.v + 1) (aAppE E [45, 45] x16.v 1 [(.int .i64 a1), (.int .i64 a2), (.int .u8 0), (.int .i64 0), (.int .i64 0), (.int .i64 0), (.int .i64 0), (.int .i64 0), (.int .i64 0), (.int .i64 0), (.bool false)] H4) fun (x17 : Sl) H6 =>
NIL a0 fun b18 o19 =>
ST H6 b18 (o19 + 0) [(.slice x17.p x17.len x17.cap)] fun H7 =>
NIL a0 fun b20 o21 =>
LD T_sl H7 b20 (o21 + 0) fun (x22 : Sl) =>
CALL P [] n_zone_Zones_come [(.pointer a0), (.int .i64 (x22.len : Int)), (.int .u8 4)] H7 fun (x23 : Unit) H8 =>
NIL a0 fun b24 o25 =>
LD T_sl H8 b24 (o25 + 0) fun (x26 : Sl) =>
Q ((x26.len : Int), 0, ()) H8)))
def h_zone_Zones_Make : Hnt := (.seq .leaf (.seq (.blk none (.seq .leaf (.cond none .leaf (.seq (.reg ⟨[(12, T_bool)], [], [13, 14, 15, 16, 17, 18, 19]⟩) (.cond none .leaf (.seq (.reg ⟨[(20, T_bool)], [], [21, 22, 23, 24, 25, 26, 27, 28, 29, 30, 31, 32, 33, 34, 35, 36, 37, 38, 39]⟩) .leaf)))))) .leaf))
theorem e_zone_Zones_Make (a0 : Option Addr) (a1 : Int) (a2 : Int) (H : Heap) (Q : Int × Int × Unit → Heap → Prop) : S_zone_Zones_Make a0 a1 a2 H Q = cFn C [48] Tryz.f28.ntmps Tryz.f28.results.toList [(T_int .i64), (T_int .i64)] (bodyOf Tryz.f28) h_zone_Zones_Make [(.pointer a0), (.int .i64 a1), (.int .i64 a2)] H Q := by kernel_rfl
theorem c_zone_Zones_Make {a0 : Option Addr} {a1 : Int} {a2 : Int} {H : Heap} {Q : Int × Int × Unit → Heap → Prop} (h : S_zone_Zones_Make a0 a1 a2 H Q) : CALL P [(T_int .i64), (T_int .i64)] n_zone_Zones_Make [(.pointer a0), (.int .i64 a1), (.int .i64 a2)] H Q := call_print hE Tryz.func28 rfl (by kernel_rfl) (e_zone_Zones_Make a0 a1 a2 H Q) h

def S_ref17_Zones_Make (a0 : Option Addr) (a1 : Int) (a2 : Int) (H : Heap) (Q : Int × Int × Unit → Heap → Prop) : Prop :=
CALL P [T_bool] n_ref17_Zones_none [(.pointer a0)] H fun (x1 : Bool × Unit) H1 =>
ifB x1.1 (
Q (0, 1, ()) H1) (
JOIN (fun (j2 : (Bool × Unit) × (Unit) → Heap → Prop) =>
ifB (decide (a1 < 1)) (
j2 ((true, ()), (())) H1) (
CALL P [T_bool] n_ref17_owner [(.int .i64 a2)] H1 fun (x4 : Bool × Unit) H3 =>
j2 ((!x4.1, ()), (())) H3)) fun (y3 : (Bool × Unit) × (Unit)) H2 =>
ifB y3.1.1 (
Q (0, 2, ()) H2) (
JOIN (fun (j5 : (Bool × Unit) × (Unit) → Heap → Prop) =>
NIL a0 fun b7 o8 =>
LD T_sl H2 b7 (o8 + 0) fun (x9 : Sl) =>
ifB (decide ((x9.len : Int) ≥ 2048)) (
j5 ((true, ()), (())) H2) (
CALL P [(T_int .i64)] n_ref17_Zones_owned [(.pointer a0), (.int .i64 a2)] H2 fun (x10 : Int × Unit) H5 =>
ifB (decide (x10.1 ≥ 8)) (
j5 ((true, ()), (())) H5) (
NIL a0 fun b11 o12 =>
LD (T_int .i64) H5 b11 (o12 + 5) fun (x13 : Int) =>
j5 ((decide (x13 ≥ 1099511627776), ()), (())) H5))) fun (y6 : (Bool × Unit) × (Unit)) H4 =>
ifB y6.1.1 (
Q (0, 14, ()) H4) (
NIL a0 fun b14 o15 =>
LD T_sl H4 b14 (o15 + 0) fun (x16 : Sl) =>
APP T_sl (lenV x16.v + 1) (aAppE E [45, 45] x16.v 1 [(.int .i64 a1), (.int .i64 a2), (.int .u8 5), (.int .i64 0), (.int .i64 0), (.int .i64 0), (.int .i64 0), (.int .i64 0), (.int .i64 0), (.int .i64 0), (.bool false)] H4) fun (x17 : Sl) H6 =>
NIL a0 fun b18 o19 =>
ST H6 b18 (o19 + 0) [(.slice x17.p x17.len x17.cap)] fun H7 =>
NIL a0 fun b20 o21 =>
LD T_sl H7 b20 (o21 + 0) fun (x22 : Sl) =>
CALL P [] n_ref17_Zones_come [(.pointer a0), (.int .i64 (x22.len : Int)), (.int .u8 4)] H7 fun (x23 : Unit) H8 =>
NIL a0 fun b24 o25 =>
LD T_sl H8 b24 (o25 + 0) fun (x26 : Sl) =>
Q ((x26.len : Int), 0, ()) H8)))
def h_ref17_Zones_Make : Hnt := (.seq .leaf (.seq .leaf (.seq (.seq (.reg ⟨[(16, T_bool)], [], [10, 11, 12, 13, 14, 15]⟩) .leaf) (.seq (.seq (.reg ⟨[(35, T_bool)], [], [17, 18, 19, 20, 21, 22, 23, 24, 25, 26, 27, 28, 29, 30, 31, 32, 33, 34]⟩) .leaf) .leaf))))
theorem e_ref17_Zones_Make (a0 : Option Addr) (a1 : Int) (a2 : Int) (H : Heap) (Q : Int × Int × Unit → Heap → Prop) : S_ref17_Zones_Make a0 a1 a2 H Q = cFn C [44] Tryz.f29.ntmps Tryz.f29.results.toList [(T_int .i64), (T_int .i64)] (bodyOf Tryz.f29) h_ref17_Zones_Make [(.pointer a0), (.int .i64 a1), (.int .i64 a2)] H Q := by kernel_rfl
theorem c_ref17_Zones_Make {a0 : Option Addr} {a1 : Int} {a2 : Int} {H : Heap} {Q : Int × Int × Unit → Heap → Prop} (h : S_ref17_Zones_Make a0 a1 a2 H Q) : CALL P [(T_int .i64), (T_int .i64)] n_ref17_Zones_Make [(.pointer a0), (.int .i64 a1), (.int .i64 a2)] H Q := call_print hE Tryz.func29 rfl (by kernel_rfl) (e_ref17_Zones_Make a0 a1 a2 H Q) h

def S_zone_Zones_Write (a0 : Option Addr) (a1 : Int) (a2 : G_api_Thing) (H : Heap) (Q : Int × Unit → Heap → Prop) : Prop :=
CALL P [T_G_api_Thing, (T_int .i64)] n_zone_Zones_Thing [(.pointer a0), (.int .i64 a1)] H fun (x1 : G_api_Thing × Int × Unit) H1 =>
ifB (x1.2.1 != 0) (
Q (x1.2.1, ()) H1) (
JOIN (fun (j2 : (Bool × Unit) × (Unit) → Heap → Prop) =>
ifB (x1.1.Place != 4) (
j2 ((true, ()), (())) H1) (
ifB (a2.Card != x1.1.Card) (
j2 ((true, ()), (())) H1) (
ifB (a2.Owner != x1.1.Owner) (
j2 ((true, ()), (())) H1) (
ifB (a2.Place != x1.1.Place) (
j2 ((true, ()), (())) H1) (
ifB (a2.Stamp != x1.1.Stamp) (
j2 ((true, ()), (())) H1) (
ifB (decide (a2.Hurt < 0)) (
j2 ((true, ()), (())) H1) (
ifB (decide (a2.Done < 0)) (
j2 ((true, ()), (())) H1) (
CALL P [T_bool] n_zone_marks [(T_arr4_T_int_i64.enc a2.Marks)] H1 fun (x4 : Bool × Unit) H3 =>
j2 ((!x4.1, ()), (())) H3)))))))) fun (y3 : (Bool × Unit) × (Unit)) H2 =>
ifB y3.1.1 (
Q (2, ()) H2) (
NIL a0 fun b5 o6 =>
LD T_sl H2 b5 (o6 + 0) fun (x7 : Sl) =>
IDX x7.p x7.len (IntKind.wrap .i64 (a1 - 1)) 11 fun b8 o9 =>
ST H2 b8 o9 (T_G_api_Thing.cells a2) fun H4 =>
Q (0, ()) H4))
def h_zone_Zones_Write : Hnt := (.seq .leaf (.seq .leaf (.seq .leaf (.seq (.seq (.reg ⟨[(64, T_bool)], [], [18, 19, 20, 21, 22, 23, 24, 25, 26, 27, 28, 29, 30, 31, 32, 33, 34, 35, 36, 37, 38, 39, 40, 41, 42, 43, 44, 45, 46, 47, 48, 49, 50, 51, 52, 53, 54, 55, 56, 57, 58, 59, 60, 61, 62, 63]⟩) .leaf) .leaf))))
theorem e_zone_Zones_Write (a0 : Option Addr) (a1 : Int) (a2 : G_api_Thing) (H : Heap) (Q : Int × Unit → Heap → Prop) : S_zone_Zones_Write a0 a1 a2 H Q = cFn C [5, 7] Tryz.f30.ntmps Tryz.f30.results.toList [(T_int .i64)] (bodyOf Tryz.f30) h_zone_Zones_Write [(.pointer a0), (.int .i64 a1), (T_G_api_Thing.enc a2)] H Q := by kernel_rfl
theorem c_zone_Zones_Write {a0 : Option Addr} {a1 : Int} {a2 : G_api_Thing} {H : Heap} {Q : Int × Unit → Heap → Prop} (h : S_zone_Zones_Write a0 a1 a2 H Q) : CALL P [(T_int .i64)] n_zone_Zones_Write [(.pointer a0), (.int .i64 a1), (T_G_api_Thing.enc a2)] H Q := call_print hE Tryz.func30 rfl (by kernel_rfl) (e_zone_Zones_Write a0 a1 a2 H Q) h

def S_ref17_Zones_Write (a0 : Option Addr) (a1 : Int) (a2 : G_api_Thing) (H : Heap) (Q : Int × Unit → Heap → Prop) : Prop :=
CALL P [T_bool] n_ref17_Zones_none [(.pointer a0)] H fun (x1 : Bool × Unit) H1 =>
ifB x1.1 (
Q (1, ()) H1) (
CALL P [T_bool] n_ref17_Zones_there [(.pointer a0), (.int .i64 a1)] H1 fun (x2 : Bool × Unit) H2 =>
ifB (!x2.1) (
Q (6, ()) H2) (
NIL a0 fun b3 o4 =>
LD T_sl H2 b3 (o4 + 0) fun (x5 : Sl) =>
IDX x5.p x5.len (IntKind.wrap .i64 (a1 - 1)) 11 fun b6 o7 =>
LD T_G_api_Thing H2 b6 o7 fun (x8 : G_api_Thing) =>
JOIN (fun (j9 : (Bool × Unit) × (Unit) → Heap → Prop) =>
ifB (x8.Place != 4) (
j9 ((true, ()), (())) H2) (
ifB (a2.Card != x8.Card) (
j9 ((true, ()), (())) H2) (
ifB (a2.Owner != x8.Owner) (
j9 ((true, ()), (())) H2) (
ifB (a2.Place != x8.Place) (
j9 ((true, ()), (())) H2) (
ifB (a2.Stamp != x8.Stamp) (
j9 ((true, ()), (())) H2) (
ifB (decide (a2.Hurt < 0)) (
j9 ((true, ()), (())) H2) (
ifB (decide (a2.Done < 0)) (
j9 ((true, ()), (())) H2) (
CALL P [T_bool] n_ref17_marked [(T_G_api_Thing.enc a2)] H2 fun (x11 : Bool × Unit) H4 =>
j9 ((!x11.1, ()), (())) H4)))))))) fun (y10 : (Bool × Unit) × (Unit)) H3 =>
ifB y10.1.1 (
Q (2, ()) H3) (
NIL a0 fun b12 o13 =>
LD T_sl H3 b12 (o13 + 0) fun (x14 : Sl) =>
IDX x14.p x14.len (IntKind.wrap .i64 (a1 - 1)) 11 fun b15 o16 =>
ST H3 b15 o16 (T_G_api_Thing.cells a2) fun H5 =>
Q (0, ()) H5)))
def h_ref17_Zones_Write : Hnt := (.seq .leaf (.seq .leaf (.seq .leaf (.seq .leaf (.seq (.seq (.reg ⟨[(67, T_bool)], [], [22, 23, 24, 25, 26, 27, 28, 29, 30, 31, 32, 33, 34, 35, 36, 37, 38, 39, 40, 41, 42, 43, 44, 45, 46, 47, 48, 49, 50, 51, 52, 53, 54, 55, 56, 57, 58, 59, 60, 61, 62, 63, 64, 65, 66]⟩) .leaf) .leaf)))))
theorem e_ref17_Zones_Write (a0 : Option Addr) (a1 : Int) (a2 : G_api_Thing) (H : Heap) (Q : Int × Unit → Heap → Prop) : S_ref17_Zones_Write a0 a1 a2 H Q = cFn C [5, 7] Tryz.f31.ntmps Tryz.f31.results.toList [(T_int .i64)] (bodyOf Tryz.f31) h_ref17_Zones_Write [(.pointer a0), (.int .i64 a1), (T_G_api_Thing.enc a2)] H Q := by kernel_rfl
theorem c_ref17_Zones_Write {a0 : Option Addr} {a1 : Int} {a2 : G_api_Thing} {H : Heap} {Q : Int × Unit → Heap → Prop} (h : S_ref17_Zones_Write a0 a1 a2 H Q) : CALL P [(T_int .i64)] n_ref17_Zones_Write [(.pointer a0), (.int .i64 a1), (T_G_api_Thing.enc a2)] H Q := call_print hE Tryz.func31 rfl (by kernel_rfl) (e_ref17_Zones_Write a0 a1 a2 H Q) h

def S_zone_Zones_Arrange (a0 : Option Addr) (a1 : Int) (a2 : Sl) (H : Heap) (Q : Int × Unit → Heap → Prop) : Prop :=
CALL P [T_bool] n_zone_Zones_is [(.pointer a0)] H fun (x1 : Bool × Unit) H1 =>
ifB (!x1.1) (
Q (1, ()) H1) (
CALL P [T_bool] n_zone_player [(.int .i64 a1)] H1 fun (x2 : Bool × Unit) H2 =>
ifB (!x2.1) (
Q (2, ()) H2) (
NIL a0 fun b3 o4 =>
IDXA 2 a1 (
LD T_sl H2 b3 (o4 + 1 + a1.toNat * 1) fun (x5 : Sl) =>
CALL P [T_any] n_slices_Values_int_int [a2.v] H2 fun (x6 : Value × Unit) H3 =>
LD T_sl H3 b3 (o4 + 1 + a1.toNat * 1) fun (x7 : Sl) =>
REQ (T_sl.enc x7 = x5.v) (
CALL P [T_sl] n_slices_Sorted_int [x6.1] H3 fun (x8 : Sl × Unit) H4 =>
LD T_sl H4 b3 (o4 + 1 + a1.toNat * 1) fun (x9 : Sl) =>
REQ (T_sl.enc x9 = x5.v) (
CALL P [T_any] n_slices_Values_int_int [x5.v] H4 fun (x10 : Value × Unit) H5 =>
CALL P [T_sl] n_slices_Sorted_int [x10.1] H5 fun (x11 : Sl × Unit) H6 =>
CALL P [T_bool] n_slices_Equal_int_int [x8.1.v, x11.1.v] H6 fun (x12 : Bool × Unit) H7 =>
ifB (!x12.1) (
Q (2, ()) H7) (
NIL a0 fun b13 o14 =>
CALL P [T_sl] n_slices_Clone_int_int [a2.v] H7 fun (x15 : Sl × Unit) H8 =>
IDXA 2 a1 (
ST H8 b13 (o14 + 1 + a1.toNat * 1) [(.slice x15.1.p x15.1.len x15.1.cap)] fun H9 =>
Q (0, ()) H9)))))))
def h_zone_Zones_Arrange : Hnt := .leaf
theorem e_zone_Zones_Arrange (a0 : Option Addr) (a1 : Int) (a2 : Sl) (H : Heap) (Q : Int × Unit → Heap → Prop) : S_zone_Zones_Arrange a0 a1 a2 H Q = cFn C [] Tryz.f32.ntmps Tryz.f32.results.toList [(T_int .i64)] (bodyOf Tryz.f32) h_zone_Zones_Arrange [(.pointer a0), (.int .i64 a1), a2.v] H Q := by kernel_rfl
theorem c_zone_Zones_Arrange {a0 : Option Addr} {a1 : Int} {a2 : Sl} {H : Heap} {Q : Int × Unit → Heap → Prop} (h : S_zone_Zones_Arrange a0 a1 a2 H Q) : CALL P [(T_int .i64)] n_zone_Zones_Arrange [(.pointer a0), (.int .i64 a1), a2.v] H Q := call_print hE Tryz.func32 rfl (by kernel_rfl) (e_zone_Zones_Arrange a0 a1 a2 H Q) h

def S_ref17_Zones_Arrange (a0 : Option Addr) (a1 : Int) (a2 : Sl) (H : Heap) (Q : Int × Unit → Heap → Prop) : Prop :=
CALL P [T_bool] n_ref17_Zones_none [(.pointer a0)] H fun (x1 : Bool × Unit) H1 =>
ifB x1.1 (
Q (1, ()) H1) (
JOIN (fun (j2 : (Bool × Unit) × (Unit) → Heap → Prop) =>
CALL P [T_bool] n_ref17_owner [(.int .i64 a1)] H1 fun (x4 : Bool × Unit) H3 =>
ifB (!x4.1) (
j2 ((true, ()), (())) H3) (
CALL P [T_bool] n_ref17_Zones_holds [(.pointer a0), a2.v, (.int .i64 a1), (.int .u8 1)] H3 fun (x5 : Bool × Unit) H4 =>
j2 ((!x5.1, ()), (())) H4)) fun (y3 : (Bool × Unit) × (Unit)) H2 =>
ifB y3.1.1 (
Q (2, ()) H2) (
NIL a0 fun b6 o7 =>
CALL P [T_sl] n_ref17_ints [a2.v] H2 fun (x8 : Sl × Unit) H5 =>
IDXA 2 a1 (
ST H5 b6 (o7 + 1 + a1.toNat * 1) [(.slice x8.1.p x8.1.len x8.1.cap)] fun H6 =>
Q (0, ()) H6)))
def h_ref17_Zones_Arrange : Hnt := (.seq .leaf (.seq .leaf (.seq (.seq (.reg ⟨[(18, T_bool)], [], [9, 10, 11, 12, 13, 14, 15, 16, 17]⟩) .leaf) .leaf)))
theorem e_ref17_Zones_Arrange (a0 : Option Addr) (a1 : Int) (a2 : Sl) (H : Heap) (Q : Int × Unit → Heap → Prop) : S_ref17_Zones_Arrange a0 a1 a2 H Q = cFn C [] Tryz.f33.ntmps Tryz.f33.results.toList [(T_int .i64)] (bodyOf Tryz.f33) h_ref17_Zones_Arrange [(.pointer a0), (.int .i64 a1), a2.v] H Q := by kernel_rfl
theorem c_ref17_Zones_Arrange {a0 : Option Addr} {a1 : Int} {a2 : Sl} {H : Heap} {Q : Int × Unit → Heap → Prop} (h : S_ref17_Zones_Arrange a0 a1 a2 H Q) : CALL P [(T_int .i64)] n_ref17_Zones_Arrange [(.pointer a0), (.int .i64 a1), a2.v] H Q := call_print hE Tryz.func33 rfl (by kernel_rfl) (e_ref17_Zones_Arrange a0 a1 a2 H Q) h

def S_ref17_Zones_Thing (a0 : Option Addr) (a1 : Int) (H : Heap) (Q : G_api_Thing × Int × Unit → Heap → Prop) : Prop :=
CALL P [T_bool] n_ref17_Zones_none [(.pointer a0)] H fun (x1 : Bool × Unit) H1 =>
ifB x1.1 (
Q ((G_api_Thing.mk 0 0 0 0 0 (0, 0, 0, 0) 0 false), 1, ()) H1) (
CALL P [T_bool] n_ref17_Zones_there [(.pointer a0), (.int .i64 a1)] H1 fun (x2 : Bool × Unit) H2 =>
ifB (!x2.1) (
Q ((G_api_Thing.mk 0 0 0 0 0 (0, 0, 0, 0) 0 false), 6, ()) H2) (
NIL a0 fun b3 o4 =>
LD T_sl H2 b3 (o4 + 0) fun (x5 : Sl) =>
IDX x5.p x5.len (IntKind.wrap .i64 (a1 - 1)) 11 fun b6 o7 =>
LD T_G_api_Thing H2 b6 o7 fun (x8 : G_api_Thing) =>
Q (x8, 0, ()) H2))
def h_ref17_Zones_Thing : Hnt := .leaf
theorem e_ref17_Zones_Thing (a0 : Option Addr) (a1 : Int) (H : Heap) (Q : G_api_Thing × Int × Unit → Heap → Prop) : S_ref17_Zones_Thing a0 a1 H Q = cFn C [4] Tryz.f34.ntmps Tryz.f34.results.toList [T_G_api_Thing, (T_int .i64)] (bodyOf Tryz.f34) h_ref17_Zones_Thing [(.pointer a0), (.int .i64 a1)] H Q := by kernel_rfl
theorem c_ref17_Zones_Thing {a0 : Option Addr} {a1 : Int} {H : Heap} {Q : G_api_Thing × Int × Unit → Heap → Prop} (h : S_ref17_Zones_Thing a0 a1 H Q) : CALL P [T_G_api_Thing, (T_int .i64)] n_ref17_Zones_Thing [(.pointer a0), (.int .i64 a1)] H Q := call_print hE Tryz.func34 rfl (by kernel_rfl) (e_ref17_Zones_Thing a0 a1 H Q) h

def S_zone_Zones_is (a0 : Option Addr) (H : Heap) (Q : Bool × Unit → Heap → Prop) : Prop :=
JOIN (fun (j1 : (Bool × Unit) × (Unit) → Heap → Prop) =>
ifB (!a0.isNone) (
NIL a0 fun b3 o4 =>
LD (T_int .i64) H b3 (o4 + 5) fun (x5 : Int) =>
j1 ((decide (x5 > 0), ()), (())) H) (
j1 ((false, ()), (())) H)) fun (y2 : (Bool × Unit) × (Unit)) H1 =>
Q (y2.1.1, ()) H1
def h_zone_Zones_is : Hnt := (.seq .leaf (.seq (.reg ⟨[(2, T_bool)], [], [3, 4, 5, 6, 7, 8, 9, 10, 11]⟩) .leaf))
theorem e_zone_Zones_is (a0 : Option Addr) (H : Heap) (Q : Bool × Unit → Heap → Prop) : S_zone_Zones_is a0 H Q = cFn C [] Tryz.f35.ntmps Tryz.f35.results.toList [T_bool] (bodyOf Tryz.f35) h_zone_Zones_is [(.pointer a0)] H Q := by kernel_rfl
theorem c_zone_Zones_is {a0 : Option Addr} {H : Heap} {Q : Bool × Unit → Heap → Prop} (h : S_zone_Zones_is a0 H Q) : CALL P [T_bool] n_zone_Zones_is [(.pointer a0)] H Q := call_print hE Tryz.func35 rfl (by kernel_rfl) (e_zone_Zones_is a0 H Q) h

def S_ref17_Zones_none (a0 : Option Addr) (H : Heap) (Q : Bool × Unit → Heap → Prop) : Prop :=
JOIN (fun (j1 : (Bool × Unit) × (Unit) → Heap → Prop) =>
ifB a0.isNone (
j1 ((true, ()), (())) H) (
NIL a0 fun b3 o4 =>
LD T_bool H b3 (o4 + 6) fun (x5 : Bool) =>
j1 ((!x5, ()), (())) H)) fun (y2 : (Bool × Unit) × (Unit)) H1 =>
Q (y2.1.1, ()) H1
def h_ref17_Zones_none : Hnt := (.seq .leaf (.seq (.reg ⟨[(2, T_bool)], [], [3, 4, 5, 6, 7, 8, 9, 10, 11]⟩) .leaf))
theorem e_ref17_Zones_none (a0 : Option Addr) (H : Heap) (Q : Bool × Unit → Heap → Prop) : S_ref17_Zones_none a0 H Q = cFn C [] Tryz.f36.ntmps Tryz.f36.results.toList [T_bool] (bodyOf Tryz.f36) h_ref17_Zones_none [(.pointer a0)] H Q := by kernel_rfl
theorem c_ref17_Zones_none {a0 : Option Addr} {H : Heap} {Q : Bool × Unit → Heap → Prop} (h : S_ref17_Zones_none a0 H Q) : CALL P [T_bool] n_ref17_Zones_none [(.pointer a0)] H Q := call_print hE Tryz.func36 rfl (by kernel_rfl) (e_ref17_Zones_none a0 H Q) h

def S_ref17_Zones_Table (a0 : Option Addr) (H : Heap) (Q : Sl × Unit → Heap → Prop) : Prop :=
CALL P [T_bool] n_ref17_Zones_none [(.pointer a0)] H fun (x1 : Bool × Unit) H1 =>
ifB x1.1 (
Q ((Sl.mk none 0 0), ()) H1) (
JOIN (fun (j2 : (Sl × Unit) × (Unit) → Heap → Prop) =>
LOOP (fun (r4 : (Sl × Int × Unit) × (Unit) → Heap → Prop) (s5 : (Sl × Int × Unit) × (Unit)) H3 =>
NIL a0 fun b6 o7 =>
LD T_sl H3 b6 (o7 + 0) fun (x8 : Sl) =>
ifB (decide (s5.1.2.1 ≤ (x8.len : Int))) (
JOIN (fun (j9 : (Sl × Unit) × (Unit) → Heap → Prop) =>
NIL a0 fun b11 o12 =>
LD T_sl H3 b11 (o12 + 0) fun (x13 : Sl) =>
IDX x13.p x13.len (IntKind.wrap .i64 (s5.1.2.1 - 1)) 11 fun b14 o15 =>
LD (T_int .u8) H3 b14 (o15 + 2) fun (x16 : Int) =>
ifB (x16 != 4) (
j9 ((s5.1.1, ()), (())) H3) (
APP T_sl (lenV s5.1.1.v + 1) (aAppE E [22, 22] s5.1.1.v 1 [(.int .i64 s5.1.2.1)] H3) fun (x17 : Sl) H5 =>
JOIN (fun (j18 : (Unit) × (Unit) → Heap → Prop) =>
LOOP (fun (r20 : (Int × Unit) × (Unit) → Heap → Prop) (s21 : (Int × Unit) × (Unit)) H7 =>
JOIN (fun (j22 : (Bool × Unit) × (Unit) → Heap → Prop) =>
ifB (decide (s21.1.1 > 0)) (
NIL a0 fun b24 o25 =>
LD T_sl H7 b24 (o25 + 0) fun (x26 : Sl) =>
IDX x17.p x17.len s21.1.1 1 fun b27 o28 =>
LD (T_int .i64) H7 b27 o28 fun (x29 : Int) =>
IDX x26.p x26.len (IntKind.wrap .i64 (x29 - 1)) 11 fun b30 o31 =>
LD (T_int .i64) H7 b30 (o31 + 3) fun (x32 : Int) =>
NIL a0 fun b33 o34 =>
LD T_sl H7 b33 (o34 + 0) fun (x35 : Sl) =>
IDX x17.p x17.len (IntKind.wrap .i64 (s21.1.1 - 1)) 1 fun b36 o37 =>
LD (T_int .i64) H7 b36 o37 fun (x38 : Int) =>
IDX x35.p x35.len (IntKind.wrap .i64 (x38 - 1)) 11 fun b39 o40 =>
LD (T_int .i64) H7 b39 (o40 + 3) fun (x41 : Int) =>
j22 ((decide (x32 < x41), ()), (())) H7) (
j22 ((false, ()), (())) H7)) fun (y23 : (Bool × Unit) × (Unit)) H8 =>
ifB y23.1.1 (
IDX x17.p x17.len (IntKind.wrap .i64 (s21.1.1 - 1)) 1 fun b42 o43 =>
LD (T_int .i64) H8 b42 o43 fun (x44 : Int) =>
IDX x17.p x17.len s21.1.1 1 fun b45 o46 =>
LD (T_int .i64) H8 b45 o46 fun (x47 : Int) =>
IDX x17.p x17.len s21.1.1 1 fun b48 o49 =>
ST H8 b48 o49 [(.int .i64 x44)] fun H9 =>
IDX x17.p x17.len (IntKind.wrap .i64 (s21.1.1 - 1)) 1 fun b50 o51 =>
ST H9 b50 o51 [(.int .i64 x47)] fun H10 =>
r20 ((IntKind.wrap .i64 (s21.1.1 - 1), ()), (())) H10) (
j18 ((()), (())) H8)) ((IntKind.wrap .i64 ((x17.len : Int) - 1), ()), (())) H5) fun (y19 : (Unit) × (Unit)) H6 =>
j9 ((x17, ()), (())) H6)) fun (y10 : (Sl × Unit) × (Unit)) H4 =>
r4 ((y10.1.1, IntKind.wrap .i64 (s5.1.2.1 + 1), ()), (())) H4) (
j2 ((s5.1.1, ()), (())) H3)) (((Sl.mk none 0 0), 1, ()), (())) H1) fun (y3 : (Sl × Unit) × (Unit)) H2 =>
Q (y3.1.1, ()) H2)
def h_ref17_Zones_Table : Hnt := (.seq .leaf (.seq .leaf (.seq .leaf (.seq (.seq .leaf (.blk (some ⟨[(3, T_sl)], [], [4, 5, 9, 10, 11, 12, 13, 14, 15, 16, 17, 18, 19, 20, 21, 22, 23, 24, 25, 26, 27, 28, 29, 30, 31, 32, 33, 34, 35, 36, 37, 38, 39, 40, 41, 42, 43, 44, 45, 46, 47, 48, 49, 50, 51, 52, 53, 54, 55, 56, 57, 58, 59, 60, 61, 62, 63, 64, 65, 66, 67, 68, 69, 70, 71, 72, 73, 74, 75, 76, 77, 78, 79, 80, 81, 82]⟩) (.loop ⟨[(3, T_sl), (4, (T_int .i64))], [], [5, 9, 10, 11, 12, 13, 14, 15, 16, 17, 18, 19, 20, 21, 22, 23, 24, 25, 26, 27, 28, 29, 30, 31, 32, 33, 34, 35, 36, 37, 38, 39, 40, 41, 42, 43, 44, 45, 46, 47, 48, 49, 50, 51, 52, 53, 54, 55, 56, 57, 58, 59, 60, 61, 62, 63, 64, 65, 66, 67, 68, 69, 70, 71, 72, 73, 74, 75, 76, 77, 78, 79, 80, 81, 82]⟩ (.seq .leaf (.seq (.blk (some ⟨[(3, T_sl)], [], [5, 18, 19, 20, 21, 22, 23, 24, 25, 26, 27, 28, 29, 30, 31, 32, 33, 34, 35, 36, 37, 38, 39, 40, 41, 42, 43, 44, 45, 46, 47, 48, 49, 50, 51, 52, 53, 54, 55, 56, 57, 58, 59, 60, 61, 62, 63, 64, 65, 66, 67, 68, 69, 70, 71, 72, 73, 74, 75, 76, 77, 78, 79, 80, 81, 82]⟩) (.seq .leaf (.seq .leaf (.seq .leaf (.blk (some ⟨[], [], [5, 35, 36, 37, 38, 39, 40, 41, 42, 43, 44, 45, 46, 47, 48, 49, 50, 51, 52, 53, 54, 55, 56, 57, 58, 59, 60, 61, 62, 63, 64, 65, 66, 67, 68, 69, 70, 71, 72, 73, 74, 75, 76, 77, 78, 79, 80, 81, 82]⟩) (.loop ⟨[(5, (T_int .i64))], [], [35, 36, 37, 38, 39, 40, 41, 42, 43, 44, 45, 46, 47, 48, 49, 50, 51, 52, 53, 54, 55, 56, 57, 58, 59, 60, 61, 62, 63, 64, 65, 66, 67, 68, 69, 70, 71, 72, 73, 74, 75, 76, 77, 78, 79, 80, 81, 82]⟩ (.seq (.seq (.reg ⟨[(64, T_bool)], [], [35, 36, 37, 38, 39, 40, 41, 42, 43, 44, 45, 46, 47, 48, 49, 50, 51, 52, 53, 54, 55, 56, 57, 58, 59, 60, 61, 62, 63]⟩) .leaf) .leaf))))))) .leaf))))) .leaf))))
theorem e_ref17_Zones_Table (a0 : Option Addr) (H : Heap) (Q : Sl × Unit → Heap → Prop) : S_ref17_Zones_Table a0 H Q = cFn C [30] Tryz.f37.ntmps Tryz.f37.results.toList [T_sl] (bodyOf Tryz.f37) h_ref17_Zones_Table [(.pointer a0)] H Q := by kernel_rfl
theorem c_ref17_Zones_Table {a0 : Option Addr} {H : Heap} {Q : Sl × Unit → Heap → Prop} (h : S_ref17_Zones_Table a0 H Q) : CALL P [T_sl] n_ref17_Zones_Table [(.pointer a0)] H Q := call_print hE Tryz.func37 rfl (by kernel_rfl) (e_ref17_Zones_Table a0 H Q) h

def S_zone_Zones_Hand (a0 : Option Addr) (a1 : Int) (H : Heap) (Q : Sl × Unit → Heap → Prop) : Prop :=
CALL P [T_sl] n_zone_Zones_In [(.pointer a0), (.int .i64 a1), (.int .u8 2)] H fun (x1 : Sl × Unit) H1 =>
Q (x1.1, ()) H1
def h_zone_Zones_Hand : Hnt := .leaf
theorem e_zone_Zones_Hand (a0 : Option Addr) (a1 : Int) (H : Heap) (Q : Sl × Unit → Heap → Prop) : S_zone_Zones_Hand a0 a1 H Q = cFn C [] Tryz.f38.ntmps Tryz.f38.results.toList [T_sl] (bodyOf Tryz.f38) h_zone_Zones_Hand [(.pointer a0), (.int .i64 a1)] H Q := by kernel_rfl
theorem c_zone_Zones_Hand {a0 : Option Addr} {a1 : Int} {H : Heap} {Q : Sl × Unit → Heap → Prop} (h : S_zone_Zones_Hand a0 a1 H Q) : CALL P [T_sl] n_zone_Zones_Hand [(.pointer a0), (.int .i64 a1)] H Q := call_print hE Tryz.func38 rfl (by kernel_rfl) (e_zone_Zones_Hand a0 a1 H Q) h

def S_ref17_Zones_Deck (a0 : Option Addr) (a1 : Int) (H : Heap) (Q : Sl × Unit → Heap → Prop) : Prop :=
CALL P [T_sl] n_ref17_Zones_In [(.pointer a0), (.int .i64 a1), (.int .u8 1)] H fun (x1 : Sl × Unit) H1 =>
Q (x1.1, ()) H1
def h_ref17_Zones_Deck : Hnt := .leaf
theorem e_ref17_Zones_Deck (a0 : Option Addr) (a1 : Int) (H : Heap) (Q : Sl × Unit → Heap → Prop) : S_ref17_Zones_Deck a0 a1 H Q = cFn C [] Tryz.f39.ntmps Tryz.f39.results.toList [T_sl] (bodyOf Tryz.f39) h_ref17_Zones_Deck [(.pointer a0), (.int .i64 a1)] H Q := by kernel_rfl
theorem c_ref17_Zones_Deck {a0 : Option Addr} {a1 : Int} {H : Heap} {Q : Sl × Unit → Heap → Prop} (h : S_ref17_Zones_Deck a0 a1 H Q) : CALL P [T_sl] n_ref17_Zones_Deck [(.pointer a0), (.int .i64 a1)] H Q := call_print hE Tryz.func39 rfl (by kernel_rfl) (e_ref17_Zones_Deck a0 a1 H Q) h

def S_ref17_Zones_Hand (a0 : Option Addr) (a1 : Int) (H : Heap) (Q : Sl × Unit → Heap → Prop) : Prop :=
CALL P [T_sl] n_ref17_Zones_In [(.pointer a0), (.int .i64 a1), (.int .u8 2)] H fun (x1 : Sl × Unit) H1 =>
Q (x1.1, ()) H1
def h_ref17_Zones_Hand : Hnt := .leaf
theorem e_ref17_Zones_Hand (a0 : Option Addr) (a1 : Int) (H : Heap) (Q : Sl × Unit → Heap → Prop) : S_ref17_Zones_Hand a0 a1 H Q = cFn C [] Tryz.f40.ntmps Tryz.f40.results.toList [T_sl] (bodyOf Tryz.f40) h_ref17_Zones_Hand [(.pointer a0), (.int .i64 a1)] H Q := by kernel_rfl
theorem c_ref17_Zones_Hand {a0 : Option Addr} {a1 : Int} {H : Heap} {Q : Sl × Unit → Heap → Prop} (h : S_ref17_Zones_Hand a0 a1 H Q) : CALL P [T_sl] n_ref17_Zones_Hand [(.pointer a0), (.int .i64 a1)] H Q := call_print hE Tryz.func40 rfl (by kernel_rfl) (e_ref17_Zones_Hand a0 a1 H Q) h

def S_zone_Zones_In (a0 : Option Addr) (a1 : Int) (a2 : Int) (H : Heap) (Q : Sl × Unit → Heap → Prop) : Prop :=
JOIN (fun (j1 : (Bool × Unit) × (Unit) → Heap → Prop) =>
CALL P [T_bool] n_zone_Zones_is [(.pointer a0)] H fun (x3 : Bool × Unit) H2 =>
ifB (!x3.1) (
j1 ((true, ()), (())) H2) (
CALL P [T_bool] n_zone_player [(.int .i64 a1)] H2 fun (x4 : Bool × Unit) H3 =>
j1 ((!x4.1, ()), (())) H3)) fun (y2 : (Bool × Unit) × (Unit)) H1 =>
ifB y2.1.1 (
Q ((Sl.mk none 0 0), ()) H1) (
CALL P [T_ptr] n_zone_Zones_list [(.pointer a0), (.int .i64 a1), (.int .u8 a2)] H1 fun (x5 : (Option Addr) × Unit) H4 =>
ifB (!x5.1.isNone) (
NIL x5.1 fun b6 o7 =>
LD T_sl H4 b6 o7 fun (x8 : Sl) =>
CALL P [T_sl] n_zone_told_int [x8.v] H4 fun (x9 : Sl × Unit) H5 =>
Q (x9.1, ()) H5) (
ifB (a2 == 4) (
CALL P [T_sl] n_zone_Zones_Table [(.pointer a0)] H4 fun (x10 : Sl × Unit) H6 =>
JOIN (fun (j11 : (Sl × Unit) × (Unit) → Heap → Prop) =>
LOOP (fun (r13 : (Sl × Int × Unit) × (Unit) → Heap → Prop) (s14 : (Sl × Int × Unit) × (Unit)) H8 =>
ifB (decide (s14.1.2.1 < (x10.1.len : Int))) (
IDX x10.1.p x10.1.len s14.1.2.1 1 fun b15 o16 =>
LD (T_int .i64) H8 b15 o16 fun (x17 : Int) =>
NIL a0 fun b18 o19 =>
LD T_sl H8 b18 (o19 + 0) fun (x20 : Sl) =>
IDX x20.p x20.len (IntKind.wrap .i64 (x17 - 1)) 11 fun b21 o22 =>
LD (T_int .i64) H8 b21 (o22 + 1) fun (x23 : Int) =>
JOIN (fun (j24 : (Sl × Unit) × (Unit) → Heap → Prop) =>
ifB (x23 == a1) (
APP T_sl (lenV s14.1.1.v + 1) (aAppE E [22, 22] s14.1.1.v 1 [(.int .i64 x17)] H8) fun (x26 : Sl) H10 =>
j24 ((x26, ()), (())) H10) (
j24 ((s14.1.1, ()), (())) H8)) fun (y25 : (Sl × Unit) × (Unit)) H9 =>
r13 ((y25.1.1, IntKind.wrap .i64 (s14.1.2.1 + 1), ()), (())) H9) (
j11 ((s14.1.1, ()), (())) H8)) (((Sl.mk none 0 0), 0, ()), (())) H6) fun (y12 : (Sl × Unit) × (Unit)) H7 =>
Q (y12.1.1, ()) H7) (
NIL a0 fun b27 o28 =>
LD T_sl H4 b27 (o28 + 0) fun (x29 : Sl) =>
JOIN (fun (j30 : (Sl × Unit) × (Unit) → Heap → Prop) =>
LOOP (fun (r32 : (Sl × Int × Unit) × (Unit) → Heap → Prop) (s33 : (Sl × Int × Unit) × (Unit)) H12 =>
ifB (decide (s33.1.2.1 < (x29.len : Int))) (
IDX x29.p x29.len s33.1.2.1 11 fun b34 o35 =>
LD T_G_api_Thing H12 b34 o35 fun (x36 : G_api_Thing) =>
JOIN (fun (j37 : (Bool × Unit) × (Unit) → Heap → Prop) =>
ifB (x36.Owner == a1) (
j37 ((x36.Place == a2, ()), (())) H12) (
j37 ((false, ()), (())) H12)) fun (y38 : (Bool × Unit) × (Unit)) H13 =>
JOIN (fun (j39 : (Sl × Unit) × (Unit) → Heap → Prop) =>
ifB y38.1.1 (
APP T_sl (lenV s33.1.1.v + 1) (aAppE E [22, 22] s33.1.1.v 1 [(.int .i64 (IntKind.wrap .i64 (s33.1.2.1 + 1)))] H13) fun (x41 : Sl) H15 =>
j39 ((x41, ()), (())) H15) (
j39 ((s33.1.1, ()), (())) H13)) fun (y40 : (Sl × Unit) × (Unit)) H14 =>
r32 ((y40.1.1, IntKind.wrap .i64 (s33.1.2.1 + 1), ()), (())) H14) (
j30 ((s33.1.1, ()), (())) H12)) (((Sl.mk none 0 0), 0, ()), (())) H4) fun (y31 : (Sl × Unit) × (Unit)) H11 =>
Q (y31.1.1, ()) H11)))
def h_zone_Zones_In : Hnt := (.seq .leaf (.seq (.seq (.reg ⟨[(20, T_bool)], [], [13, 14, 15, 16, 17, 18, 19]⟩) .leaf) (.seq .leaf (.seq .leaf (.seq (.seq .leaf (.cond none (.seq (.seq .leaf (.blk (some ⟨[(8, T_sl)], [], [10, 36, 37, 38, 39, 40, 41, 42, 43, 44, 45, 46, 47, 48, 49, 50, 51, 52, 53, 54, 55]⟩) (.loop ⟨[(8, T_sl), (36, (T_int .i64))], [], [10, 37, 38, 39, 40, 41, 42, 43, 44, 45, 46, 47, 48, 49, 50, 51, 52, 53, 54, 55]⟩ (.seq .leaf (.seq .leaf (.seq (.blk none (.seq .leaf (.seq .leaf (.cond (some ⟨[(8, T_sl)], [], [51, 52, 53, 54]⟩) .leaf .leaf)))) .leaf)))))) .leaf) .leaf)) (.seq (.seq .leaf (.blk (some ⟨[(8, T_sl)], [], [11, 12, 62, 63, 64, 65, 66, 67, 68, 69, 70, 71, 72, 73, 74, 75, 76, 77, 78, 79, 80, 81, 82]⟩) (.loop ⟨[(8, T_sl), (62, (T_int .i64))], [], [11, 12, 63, 64, 65, 66, 67, 68, 69, 70, 71, 72, 73, 74, 75, 76, 77, 78, 79, 80, 81, 82]⟩ (.seq .leaf (.seq .leaf (.seq (.blk none (.seq .leaf (.seq (.reg ⟨[(76, T_bool)], [], [67, 68, 69, 70, 71, 72, 73, 74, 75]⟩) (.cond (some ⟨[(8, T_sl)], [], [77, 78, 79, 80, 81]⟩) .leaf .leaf)))) .leaf)))))) .leaf))))))
theorem e_zone_Zones_In (a0 : Option Addr) (a1 : Int) (a2 : Int) (H : Heap) (Q : Sl × Unit → Heap → Prop) : S_zone_Zones_In a0 a1 a2 H Q = cFn C [12, 53, 80] Tryz.f41.ntmps Tryz.f41.results.toList [T_sl] (bodyOf Tryz.f41) h_zone_Zones_In [(.pointer a0), (.int .i64 a1), (.int .u8 a2)] H Q := by kernel_rfl
theorem c_zone_Zones_In {a0 : Option Addr} {a1 : Int} {a2 : Int} {H : Heap} {Q : Sl × Unit → Heap → Prop} (h : S_zone_Zones_In a0 a1 a2 H Q) : CALL P [T_sl] n_zone_Zones_In [(.pointer a0), (.int .i64 a1), (.int .u8 a2)] H Q := call_print hE Tryz.func41 rfl (by kernel_rfl) (e_zone_Zones_In a0 a1 a2 H Q) h

def S_ref17_Zones_In (a0 : Option Addr) (a1 : Int) (a2 : Int) (H : Heap) (Q : Sl × Unit → Heap → Prop) : Prop :=
JOIN (fun (j1 : (Bool × Unit) × (Unit) → Heap → Prop) =>
CALL P [T_bool] n_ref17_Zones_none [(.pointer a0)] H fun (x3 : Bool × Unit) H2 =>
ifB x3.1 (
j1 ((true, ()), (())) H2) (
CALL P [T_bool] n_ref17_owner [(.int .i64 a1)] H2 fun (x4 : Bool × Unit) H3 =>
j1 ((!x4.1, ()), (())) H3)) fun (y2 : (Bool × Unit) × (Unit)) H1 =>
ifB y2.1.1 (
Q ((Sl.mk none 0 0), ()) H1) (
JOIN (fun (j5 : (Sl × Unit) × (Unit) → Heap → Prop) =>
ifB (a2 == 1) (
NIL a0 fun b7 o8 =>
IDXA 2 a1 (
LD T_sl H1 b7 (o8 + 1 + a1.toNat * 1) fun (x9 : Sl) =>
CALL P [T_sl] n_ref17_ints [x9.v] H1 fun (x10 : Sl × Unit) H5 =>
Q (x10.1, ()) H5)) (
ifB (a2 == 2) (
NIL a0 fun b11 o12 =>
IDXA 2 a1 (
LD T_sl H1 b11 (o12 + 3 + a1.toNat * 1) fun (x13 : Sl) =>
CALL P [T_sl] n_ref17_ints [x13.v] H1 fun (x14 : Sl × Unit) H6 =>
Q (x14.1, ()) H6)) (
JOIN (fun (j15 : (Sl × Unit) × (Unit) → Heap → Prop) =>
ifB (a2 == 4) (
CALL P [T_sl] n_ref17_Zones_Table [(.pointer a0)] H1 fun (x17 : Sl × Unit) H8 =>
j15 ((x17.1, ()), (())) H8) (
JOIN (fun (j18 : (Sl × Unit) × (Unit) → Heap → Prop) =>
LOOP (fun (r20 : (Sl × Int × Unit) × (Unit) → Heap → Prop) (s21 : (Sl × Int × Unit) × (Unit)) H10 =>
NIL a0 fun b22 o23 =>
LD T_sl H10 b22 (o23 + 0) fun (x24 : Sl) =>
ifB (decide (s21.1.2.1 ≤ (x24.len : Int))) (
APP T_sl (lenV s21.1.1.v + 1) (aAppE E [22, 22] s21.1.1.v 1 [(.int .i64 s21.1.2.1)] H10) fun (x25 : Sl) H11 =>
r20 ((x25, IntKind.wrap .i64 (s21.1.2.1 + 1), ()), (())) H11) (
j18 ((s21.1.1, ()), (())) H10)) (((Sl.mk none 0 0), 1, ()), (())) H1) fun (y19 : (Sl × Unit) × (Unit)) H9 =>
j15 ((y19.1.1, ()), (())) H9)) fun (y16 : (Sl × Unit) × (Unit)) H7 =>
j5 ((y16.1.1, ()), (())) H7))) fun (y6 : (Sl × Unit) × (Unit)) H4 =>
JOIN (fun (j26 : (Sl × Unit) × (Unit) → Heap → Prop) =>
LOOP (fun (r28 : (Sl × Int × Unit) × (Unit) → Heap → Prop) (s29 : (Sl × Int × Unit) × (Unit)) H13 =>
ifB (decide (s29.1.2.1 < (y6.1.1.len : Int))) (
NIL a0 fun b30 o31 =>
LD T_sl H13 b30 (o31 + 0) fun (x32 : Sl) =>
IDX y6.1.1.p y6.1.1.len s29.1.2.1 1 fun b33 o34 =>
LD (T_int .i64) H13 b33 o34 fun (x35 : Int) =>
IDX x32.p x32.len (IntKind.wrap .i64 (x35 - 1)) 11 fun b36 o37 =>
LD T_G_api_Thing H13 b36 o37 fun (x38 : G_api_Thing) =>
JOIN (fun (j39 : (Bool × Unit) × (Unit) → Heap → Prop) =>
ifB (x38.Owner == a1) (
j39 ((x38.Place == a2, ()), (())) H13) (
j39 ((false, ()), (())) H13)) fun (y40 : (Bool × Unit) × (Unit)) H14 =>
JOIN (fun (j41 : (Sl × Unit) × (Unit) → Heap → Prop) =>
ifB y40.1.1 (
IDX y6.1.1.p y6.1.1.len s29.1.2.1 1 fun b43 o44 =>
LD (T_int .i64) H14 b43 o44 fun (x45 : Int) =>
APP T_sl (lenV s29.1.1.v + 1) (aAppE E [22, 22] s29.1.1.v 1 [(.int .i64 x45)] H14) fun (x46 : Sl) H16 =>
j41 ((x46, ()), (())) H16) (
j41 ((s29.1.1, ()), (())) H14)) fun (y42 : (Sl × Unit) × (Unit)) H15 =>
r28 ((y42.1.1, IntKind.wrap .i64 (s29.1.2.1 + 1), ()), (())) H15) (
j26 ((s29.1.1, ()), (())) H13)) (((Sl.mk none 0 0), 0, ()), (())) H4) fun (y27 : (Sl × Unit) × (Unit)) H12 =>
Q (y27.1.1, ()) H12)
def h_ref17_Zones_In : Hnt := (.seq .leaf (.seq (.seq (.reg ⟨[(18, T_bool)], [], [12, 13, 14, 15, 16, 17]⟩) .leaf) (.seq .leaf (.seq (.seq .leaf (.blk (some ⟨[(7, T_sl)], [], [6, 8, 20, 21, 22, 23, 24, 25, 26, 27, 28, 29, 30, 31, 32, 33, 34, 35, 36, 37, 38, 39, 40, 41, 42, 43, 44, 45, 46, 47, 48, 49, 50, 51, 52, 53, 54]⟩) (.seq .leaf (.cond none .leaf (.seq .leaf (.cond none .leaf (.seq .leaf (.cond (some ⟨[(7, T_sl)], [], [8, 20, 21, 22, 23, 24, 25, 26, 27, 28, 29, 30, 31, 32, 53, 54]⟩) .leaf (.seq .leaf (.blk (some ⟨[(7, T_sl)], [], [8, 20, 21, 22, 23, 24, 25, 26, 27, 28, 29, 30, 31, 32]⟩) (.loop ⟨[(7, T_sl), (8, (T_int .i64))], [], [20, 21, 22, 23, 24, 25, 26, 27, 28, 29, 30, 31, 32]⟩ .leaf))))))))))) (.seq .leaf (.seq (.seq .leaf (.blk (some ⟨[(9, T_sl)], [], [10, 11, 55, 56, 57, 58, 59, 60, 61, 62, 63, 64, 65, 66, 67, 68, 69, 70, 71, 72, 73, 74, 75, 76, 77, 78, 79, 80, 81, 82, 83, 84, 85, 86, 87, 88]⟩) (.loop ⟨[(9, T_sl), (10, (T_int .i64))], [], [11, 55, 56, 57, 58, 59, 60, 61, 62, 63, 64, 65, 66, 67, 68, 69, 70, 71, 72, 73, 74, 75, 76, 77, 78, 79, 80, 81, 82, 83, 84, 85, 86, 87, 88]⟩ (.seq .leaf (.seq (.blk none (.seq .leaf (.seq (.reg ⟨[(81, T_bool)], [], [72, 73, 74, 75, 76, 77, 78, 79, 80]⟩) (.cond (some ⟨[(9, T_sl)], [], [82, 83, 84, 85, 86, 87, 88]⟩) .leaf .leaf)))) .leaf))))) .leaf))))))
theorem e_ref17_Zones_In (a0 : Option Addr) (a1 : Int) (a2 : Int) (H : Heap) (Q : Sl × Unit → Heap → Prop) : S_ref17_Zones_In a0 a1 a2 H Q = cFn C [11, 31, 87] Tryz.f42.ntmps Tryz.f42.results.toList [T_sl] (bodyOf Tryz.f42) h_ref17_Zones_In [(.pointer a0), (.int .i64 a1), (.int .u8 a2)] H Q := by kernel_rfl
theorem c_ref17_Zones_In {a0 : Option Addr} {a1 : Int} {a2 : Int} {H : Heap} {Q : Sl × Unit → Heap → Prop} (h : S_ref17_Zones_In a0 a1 a2 H Q) : CALL P [T_sl] n_ref17_Zones_In [(.pointer a0), (.int .i64 a1), (.int .u8 a2)] H Q := call_print hE Tryz.func42 rfl (by kernel_rfl) (e_ref17_Zones_In a0 a1 a2 H Q) h

def S_zone_Zones_Things (a0 : Option Addr) (H : Heap) (Q : Sl × Unit → Heap → Prop) : Prop :=
CALL P [T_bool] n_zone_Zones_is [(.pointer a0)] H fun (x1 : Bool × Unit) H1 =>
ifB (!x1.1) (
Q ((Sl.mk none 0 0), ()) H1) (
NIL a0 fun b2 o3 =>
LD T_sl H1 b2 (o3 + 0) fun (x4 : Sl) =>
CALL P [T_sl] n_zone_told_api_Thing [x4.v] H1 fun (x5 : Sl × Unit) H2 =>
Q (x5.1, ()) H2)
def h_zone_Zones_Things : Hnt := .leaf
theorem e_zone_Zones_Things (a0 : Option Addr) (H : Heap) (Q : Sl × Unit → Heap → Prop) : S_zone_Zones_Things a0 H Q = cFn C [] Tryz.f43.ntmps Tryz.f43.results.toList [T_sl] (bodyOf Tryz.f43) h_zone_Zones_Things [(.pointer a0)] H Q := by kernel_rfl
theorem c_zone_Zones_Things {a0 : Option Addr} {H : Heap} {Q : Sl × Unit → Heap → Prop} (h : S_zone_Zones_Things a0 H Q) : CALL P [T_sl] n_zone_Zones_Things [(.pointer a0)] H Q := call_print hE Tryz.func43 rfl (by kernel_rfl) (e_zone_Zones_Things a0 H Q) h

def S_kit_SameThings (a0 : Sl) (a1 : Sl) (H : Heap) (Q : Bool × Unit → Heap → Prop) : Prop :=
ifB ((a0.len : Int) != (a1.len : Int)) (
Q (false, ()) H) (
JOIN (fun (j1 : (Unit) × (Unit) → Heap → Prop) =>
LOOP (fun (r3 : (Int × Unit) × (Unit) → Heap → Prop) (s4 : (Int × Unit) × (Unit)) H2 =>
ifB (decide (s4.1.1 < (a0.len : Int))) (
IDX a0.p a0.len s4.1.1 11 fun b5 o6 =>
LD T_G_api_Thing H2 b5 o6 fun (x7 : G_api_Thing) =>
IDX a1.p a1.len s4.1.1 11 fun b8 o9 =>
LD T_G_api_Thing H2 b8 o9 fun (x10 : G_api_Thing) =>
ifB (!((x7.Card == x10.Card) && ((x7.Owner == x10.Owner) && ((x7.Place == x10.Place) && ((x7.Stamp == x10.Stamp) && ((x7.Hurt == x10.Hurt) && (((x7.Marks.1 == x10.Marks.1) && ((x7.Marks.2.1 == x10.Marks.2.1) && ((x7.Marks.2.2.1 == x10.Marks.2.2.1) && ((x7.Marks.2.2.2 == x10.Marks.2.2.2) && true)))) && ((x7.Done == x10.Done) && ((x7.Fresh == x10.Fresh) && true))))))))) (
Q (false, ()) H2) (
r3 ((IntKind.wrap .i64 (s4.1.1 + 1), ()), (())) H2)) (
j1 ((()), (())) H2)) ((0, ()), (())) H) fun (y2 : (Unit) × (Unit)) H1 =>
Q (true, ()) H1)
def h_kit_SameThings : Hnt := (.seq .leaf (.seq .leaf (.seq (.seq .leaf (.blk (some ⟨[], [], [4, 5, 11, 12, 13, 14, 15, 16, 17, 18, 19, 20, 21, 22, 23, 24, 25]⟩) (.loop ⟨[(5, (T_int .i64))], [], [4, 11, 12, 13, 14, 15, 16, 17, 18, 19, 20, 21, 22, 23, 24, 25]⟩ .leaf))) .leaf)))
theorem e_kit_SameThings (a0 : Sl) (a1 : Sl) (H : Heap) (Q : Bool × Unit → Heap → Prop) : S_kit_SameThings a0 a1 H Q = cFn C [] Tryz.f44.ntmps Tryz.f44.results.toList [T_bool] (bodyOf Tryz.f44) h_kit_SameThings [a0.v, a1.v] H Q := by kernel_rfl
theorem c_kit_SameThings {a0 : Sl} {a1 : Sl} {H : Heap} {Q : Bool × Unit → Heap → Prop} (h : S_kit_SameThings a0 a1 H Q) : CALL P [T_bool] n_kit_SameThings [a0.v, a1.v] H Q := call_print hE Tryz.func44 rfl (by kernel_rfl) (e_kit_SameThings a0 a1 H Q) h

def S_ref17_Zones_Things (a0 : Option Addr) (H : Heap) (Q : Sl × Unit → Heap → Prop) : Prop :=
CALL P [T_bool] n_ref17_Zones_none [(.pointer a0)] H fun (x1 : Bool × Unit) H1 =>
ifB x1.1 (
Q ((Sl.mk none 0 0), ()) H1) (
NIL a0 fun b2 o3 =>
LD T_sl H1 b2 (o3 + 0) fun (x4 : Sl) =>
APP T_sl (lenV ((Sl.mk none 0 0)).v + (lenX x4.v).getD 0) (aAppendE E [45, 45] ((Sl.mk none 0 0)).v x4.v H1) fun (x5 : Sl) H2 =>
Q (x5, ()) H2)
def h_ref17_Zones_Things : Hnt := .leaf
theorem e_ref17_Zones_Things (a0 : Option Addr) (H : Heap) (Q : Sl × Unit → Heap → Prop) : S_ref17_Zones_Things a0 H Q = cFn C [] Tryz.f45.ntmps Tryz.f45.results.toList [T_sl] (bodyOf Tryz.f45) h_ref17_Zones_Things [(.pointer a0)] H Q := by kernel_rfl
theorem c_ref17_Zones_Things {a0 : Option Addr} {H : Heap} {Q : Sl × Unit → Heap → Prop} (h : S_ref17_Zones_Things a0 H Q) : CALL P [T_sl] n_ref17_Zones_Things [(.pointer a0)] H Q := call_print hE Tryz.func45 rfl (by kernel_rfl) (e_ref17_Zones_Things a0 H Q) h

def S_zone_Zones_Thing (a0 : Option Addr) (a1 : Int) (H : Heap) (Q : G_api_Thing × Int × Unit → Heap → Prop) : Prop :=
CALL P [T_bool] n_zone_Zones_is [(.pointer a0)] H fun (x1 : Bool × Unit) H1 =>
ifB (!x1.1) (
Q ((G_api_Thing.mk 0 0 0 0 0 (0, 0, 0, 0) 0 false), 1, ()) H1) (
JOIN (fun (j2 : (Bool × Unit) × (Unit) → Heap → Prop) =>
ifB (decide (a1 < 1)) (
j2 ((true, ()), (())) H1) (
NIL a0 fun b4 o5 =>
LD T_sl H1 b4 (o5 + 0) fun (x6 : Sl) =>
j2 ((decide (a1 > (x6.len : Int)), ()), (())) H1)) fun (y3 : (Bool × Unit) × (Unit)) H2 =>
ifB y3.1.1 (
Q ((G_api_Thing.mk 0 0 0 0 0 (0, 0, 0, 0) 0 false), 6, ()) H2) (
NIL a0 fun b7 o8 =>
LD T_sl H2 b7 (o8 + 0) fun (x9 : Sl) =>
IDX x9.p x9.len (IntKind.wrap .i64 (a1 - 1)) 11 fun b10 o11 =>
LD T_G_api_Thing H2 b10 o11 fun (x12 : G_api_Thing) =>
Q (x12, 0, ()) H2))
def h_zone_Zones_Thing : Hnt := (.seq .leaf (.seq (.blk none (.seq .leaf (.cond none .leaf (.seq (.reg ⟨[(11, T_bool)], [], [12, 13, 14, 15, 16, 17, 18, 19, 20, 21, 22]⟩) .leaf)))) .leaf))
theorem e_zone_Zones_Thing (a0 : Option Addr) (a1 : Int) (H : Heap) (Q : G_api_Thing × Int × Unit → Heap → Prop) : S_zone_Zones_Thing a0 a1 H Q = cFn C [4] Tryz.f46.ntmps Tryz.f46.results.toList [T_G_api_Thing, (T_int .i64)] (bodyOf Tryz.f46) h_zone_Zones_Thing [(.pointer a0), (.int .i64 a1)] H Q := by kernel_rfl
theorem c_zone_Zones_Thing {a0 : Option Addr} {a1 : Int} {H : Heap} {Q : G_api_Thing × Int × Unit → Heap → Prop} (h : S_zone_Zones_Thing a0 a1 H Q) : CALL P [T_G_api_Thing, (T_int .i64)] n_zone_Zones_Thing [(.pointer a0), (.int .i64 a1)] H Q := call_print hE Tryz.func46 rfl (by kernel_rfl) (e_zone_Zones_Thing a0 a1 H Q) h

def S_kit_ApartInts (a0 : Sl) (H : Heap) (Q : Bool × Unit → Heap → Prop) : Prop :=
JOIN (fun (j1 : (Sl × Unit) × (Unit) → Heap → Prop) =>
LOOP (fun (r3 : (Sl × Int × Unit) × (Unit) → Heap → Prop) (s4 : (Sl × Int × Unit) × (Unit)) H2 =>
ifB (decide (s4.1.2.1 < (a0.len : Int))) (
IDX a0.p a0.len s4.1.2.1 1 fun b5 o6 =>
LD T_sl H2 b5 o6 fun (x7 : Sl) =>
IDX a0.p a0.len s4.1.2.1 1 fun b8 o9 =>
LD T_sl H2 b8 o9 fun (x10 : Sl) =>
GENV (T_int .i64) (aCap E 22 x10.v H2) fun (x11 : Int) =>
LD T_sl H2 b5 o6 fun (x12 : Sl) =>
REQ (T_sl.enc x12 = x7.v) (
GENV T_sl (aSlice E 22 x7.v none (some (.int .i64 x11)) none H2) fun (x13 : Sl) =>
APP T_sl (lenV s4.1.1.v + 1) (aAppE E [68, 68] s4.1.1.v 1 [(.slice x13.p x13.len x13.cap)] H2) fun (x14 : Sl) H3 =>
r3 ((x14, IntKind.wrap .i64 (s4.1.2.1 + 1), ()), (())) H3)) (
j1 ((s4.1.1, ()), (())) H2)) (((Sl.mk none 0 0), 0, ()), (())) H) fun (y2 : (Sl × Unit) × (Unit)) H1 =>
JOIN (fun (j15 : (Unit) × (Unit) → Heap → Prop) =>
LOOP (fun (r17 : (Int × Unit) × (Unit) → Heap → Prop) (s18 : (Int × Unit) × (Unit)) H5 =>
ifB (decide (s18.1.1 < (y2.1.1.len : Int))) (
JOIN (fun (j19 : (Unit) × (Unit) → Heap → Prop) =>
JOIN (fun (j21 : (Unit) × (Unit) → Heap → Prop) =>
LOOP (fun (r23 : (Int × Unit) × (Unit) → Heap → Prop) (s24 : (Int × Unit) × (Unit)) H8 =>
IDX y2.1.1.p y2.1.1.len s18.1.1 1 fun b25 o26 =>
LD T_sl H8 b25 o26 fun (x27 : Sl) =>
ifB (decide (s24.1.1 < (x27.len : Int))) (
IDX y2.1.1.p y2.1.1.len s18.1.1 1 fun b28 o29 =>
LD T_sl H8 b28 o29 fun (x30 : Sl) =>
CALL P [(T_int .i64)] n_kit_markInts [(.int .i64 s18.1.1), (.int .i64 s24.1.1)] H8 fun (x31 : Int × Unit) H9 =>
LD T_sl H9 b28 o29 fun (x32 : Sl) =>
REQ (T_sl.enc x32 = x30.v) (
IDX x30.p x30.len s24.1.1 1 fun b33 o34 =>
ST H9 b33 o34 [(.int .i64 x31.1)] fun H10 =>
r23 ((IntKind.wrap .i64 (s24.1.1 + 1), ()), (())) H10)) (
j21 ((()), (())) H8)) ((0, ()), (())) H5) fun (y22 : (Unit) × (Unit)) H7 =>
j19 ((()), (())) H7) fun (y20 : (Unit) × (Unit)) H6 =>
r17 ((IntKind.wrap .i64 (s18.1.1 + 1), ()), (())) H6) (
j15 ((()), (())) H5)) ((0, ()), (())) H1) fun (y16 : (Unit) × (Unit)) H4 =>
JOIN (fun (j35 : (Unit) × (Unit) → Heap → Prop) =>
LOOP (fun (r37 : (Int × Unit) × (Unit) → Heap → Prop) (s38 : (Int × Unit) × (Unit)) H12 =>
ifB (decide (s38.1.1 < (y2.1.1.len : Int))) (
JOIN (fun (j39 : (Unit) × (Unit) → Heap → Prop) =>
JOIN (fun (j41 : (Unit) × (Unit) → Heap → Prop) =>
LOOP (fun (r43 : (Int × Unit) × (Unit) → Heap → Prop) (s44 : (Int × Unit) × (Unit)) H15 =>
IDX y2.1.1.p y2.1.1.len s38.1.1 1 fun b45 o46 =>
LD T_sl H15 b45 o46 fun (x47 : Sl) =>
ifB (decide (s44.1.1 < (x47.len : Int))) (
IDX y2.1.1.p y2.1.1.len s38.1.1 1 fun b48 o49 =>
LD T_sl H15 b48 o49 fun (x50 : Sl) =>
IDX x50.p x50.len s44.1.1 1 fun b51 o52 =>
LD (T_int .i64) H15 b51 o52 fun (x53 : Int) =>
CALL P [(T_int .i64)] n_kit_markInts [(.int .i64 s38.1.1), (.int .i64 s44.1.1)] H15 fun (x54 : Int × Unit) H16 =>
LD T_sl H16 b48 o49 fun (x55 : Sl) =>
REQ (T_sl.enc x55 = x50.v) (
LD (T_int .i64) H16 b51 o52 fun (x56 : Int) =>
REQ ((T_int .i64).enc x56 = (.int .i64 x53)) (
ifB (x53 != x54.1) (
Q (false, ()) H16) (
r43 ((IntKind.wrap .i64 (s44.1.1 + 1), ()), (())) H16)))) (
j41 ((()), (())) H15)) ((0, ()), (())) H12) fun (y42 : (Unit) × (Unit)) H14 =>
j39 ((()), (())) H14) fun (y40 : (Unit) × (Unit)) H13 =>
r37 ((IntKind.wrap .i64 (s38.1.1 + 1), ()), (())) H13) (
j35 ((()), (())) H12)) ((0, ()), (())) H4) fun (y36 : (Unit) × (Unit)) H11 =>
Q (true, ()) H11
def h_kit_ApartInts : Hnt := (.seq .leaf (.seq .leaf (.seq (.seq .leaf (.blk (some ⟨[(3, T_sl)], [], [4, 9, 10, 11, 12, 13, 14, 15, 16, 17, 18, 19, 20, 21, 22, 23, 24, 25, 26, 27]⟩) (.loop ⟨[(3, T_sl), (4, (T_int .i64))], [], [9, 10, 11, 12, 13, 14, 15, 16, 17, 18, 19, 20, 21, 22, 23, 24, 25, 26, 27]⟩ .leaf))) (.seq (.seq .leaf (.blk (some ⟨[], [], [5, 6, 28, 29, 30, 31, 32, 33, 34, 35, 36, 37, 38, 39, 40, 41, 42, 43, 44, 45, 46, 47, 48, 49, 50, 51]⟩) (.loop ⟨[(5, (T_int .i64))], [], [6, 28, 29, 30, 31, 32, 33, 34, 35, 36, 37, 38, 39, 40, 41, 42, 43, 44, 45, 46, 47, 48, 49, 50, 51]⟩ (.seq .leaf (.seq (.blk (some ⟨[], [], [6, 34, 35, 36, 37, 38, 39, 40, 41, 42, 43, 44, 45, 46, 47, 48, 49, 50, 51]⟩) (.seq .leaf (.blk (some ⟨[], [], [6, 34, 35, 36, 37, 38, 39, 40, 41, 42, 43, 44, 45, 46, 47, 48, 49, 50, 51]⟩) (.loop ⟨[(6, (T_int .i64))], [], [34, 35, 36, 37, 38, 39, 40, 41, 42, 43, 44, 45, 46, 47, 48, 49, 50, 51]⟩ .leaf)))) .leaf))))) (.seq (.seq .leaf (.blk (some ⟨[], [], [2, 7, 8, 52, 53, 54, 55, 56, 57, 58, 59, 60, 61, 62, 63, 64, 65, 66, 67, 68, 69, 70, 71, 72, 73, 74, 75, 76, 77]⟩) (.loop ⟨[(7, (T_int .i64))], [], [2, 8, 52, 53, 54, 55, 56, 57, 58, 59, 60, 61, 62, 63, 64, 65, 66, 67, 68, 69, 70, 71, 72, 73, 74, 75, 76, 77]⟩ (.seq .leaf (.seq (.blk (some ⟨[], [], [2, 8, 58, 59, 60, 61, 62, 63, 64, 65, 66, 67, 68, 69, 70, 71, 72, 73, 74, 75, 76, 77]⟩) (.seq .leaf (.blk (some ⟨[], [], [2, 8, 58, 59, 60, 61, 62, 63, 64, 65, 66, 67, 68, 69, 70, 71, 72, 73, 74, 75, 76, 77]⟩) (.loop ⟨[(8, (T_int .i64))], [], [2, 58, 59, 60, 61, 62, 63, 64, 65, 66, 67, 68, 69, 70, 71, 72, 73, 74, 75, 76, 77]⟩ .leaf)))) .leaf))))) .leaf)))))
theorem e_kit_ApartInts (a0 : Sl) (H : Heap) (Q : Bool × Unit → Heap → Prop) : S_kit_ApartInts a0 H Q = cFn C [26] Tryz.f47.ntmps Tryz.f47.results.toList [T_bool] (bodyOf Tryz.f47) h_kit_ApartInts [a0.v] H Q := by kernel_rfl
theorem c_kit_ApartInts {a0 : Sl} {H : Heap} {Q : Bool × Unit → Heap → Prop} (h : S_kit_ApartInts a0 H Q) : CALL P [T_bool] n_kit_ApartInts [a0.v] H Q := call_print hE Tryz.func47 rfl (by kernel_rfl) (e_kit_ApartInts a0 H Q) h

def S_kit_ApartThings (a0 : Sl) (H : Heap) (Q : Bool × Unit → Heap → Prop) : Prop :=
JOIN (fun (j1 : (Sl × Unit) × (Unit) → Heap → Prop) =>
LOOP (fun (r3 : (Sl × Int × Unit) × (Unit) → Heap → Prop) (s4 : (Sl × Int × Unit) × (Unit)) H2 =>
ifB (decide (s4.1.2.1 < (a0.len : Int))) (
IDX a0.p a0.len s4.1.2.1 1 fun b5 o6 =>
LD T_sl H2 b5 o6 fun (x7 : Sl) =>
IDX a0.p a0.len s4.1.2.1 1 fun b8 o9 =>
LD T_sl H2 b8 o9 fun (x10 : Sl) =>
GENV (T_int .i64) (aCap E 45 x10.v H2) fun (x11 : Int) =>
LD T_sl H2 b5 o6 fun (x12 : Sl) =>
REQ (T_sl.enc x12 = x7.v) (
GENV T_sl (aSlice E 45 x7.v none (some (.int .i64 x11)) none H2) fun (x13 : Sl) =>
APP T_sl (lenV s4.1.1.v + 1) (aAppE E [73, 73] s4.1.1.v 1 [(.slice x13.p x13.len x13.cap)] H2) fun (x14 : Sl) H3 =>
r3 ((x14, IntKind.wrap .i64 (s4.1.2.1 + 1), ()), (())) H3)) (
j1 ((s4.1.1, ()), (())) H2)) (((Sl.mk none 0 0), 0, ()), (())) H) fun (y2 : (Sl × Unit) × (Unit)) H1 =>
JOIN (fun (j15 : (Unit) × (Unit) → Heap → Prop) =>
LOOP (fun (r17 : (Int × Unit) × (Unit) → Heap → Prop) (s18 : (Int × Unit) × (Unit)) H5 =>
ifB (decide (s18.1.1 < (y2.1.1.len : Int))) (
JOIN (fun (j19 : (Unit) × (Unit) → Heap → Prop) =>
JOIN (fun (j21 : (Unit) × (Unit) → Heap → Prop) =>
LOOP (fun (r23 : (Int × Unit) × (Unit) → Heap → Prop) (s24 : (Int × Unit) × (Unit)) H8 =>
IDX y2.1.1.p y2.1.1.len s18.1.1 1 fun b25 o26 =>
LD T_sl H8 b25 o26 fun (x27 : Sl) =>
ifB (decide (s24.1.1 < (x27.len : Int))) (
IDX y2.1.1.p y2.1.1.len s18.1.1 1 fun b28 o29 =>
LD T_sl H8 b28 o29 fun (x30 : Sl) =>
CALL P [T_G_api_Thing] n_kit_markThings [(.int .i64 s18.1.1), (.int .i64 s24.1.1)] H8 fun (x31 : G_api_Thing × Unit) H9 =>
LD T_sl H9 b28 o29 fun (x32 : Sl) =>
REQ (T_sl.enc x32 = x30.v) (
IDX x30.p x30.len s24.1.1 11 fun b33 o34 =>
ST H9 b33 o34 (T_G_api_Thing.cells x31.1) fun H10 =>
r23 ((IntKind.wrap .i64 (s24.1.1 + 1), ()), (())) H10)) (
j21 ((()), (())) H8)) ((0, ()), (())) H5) fun (y22 : (Unit) × (Unit)) H7 =>
j19 ((()), (())) H7) fun (y20 : (Unit) × (Unit)) H6 =>
r17 ((IntKind.wrap .i64 (s18.1.1 + 1), ()), (())) H6) (
j15 ((()), (())) H5)) ((0, ()), (())) H1) fun (y16 : (Unit) × (Unit)) H4 =>
JOIN (fun (j35 : (Unit) × (Unit) → Heap → Prop) =>
LOOP (fun (r37 : (Int × Unit) × (Unit) → Heap → Prop) (s38 : (Int × Unit) × (Unit)) H12 =>
ifB (decide (s38.1.1 < (y2.1.1.len : Int))) (
JOIN (fun (j39 : (Unit) × (Unit) → Heap → Prop) =>
JOIN (fun (j41 : (Unit) × (Unit) → Heap → Prop) =>
LOOP (fun (r43 : (Int × Unit) × (Unit) → Heap → Prop) (s44 : (Int × Unit) × (Unit)) H15 =>
IDX y2.1.1.p y2.1.1.len s38.1.1 1 fun b45 o46 =>
LD T_sl H15 b45 o46 fun (x47 : Sl) =>
ifB (decide (s44.1.1 < (x47.len : Int))) (
IDX y2.1.1.p y2.1.1.len s38.1.1 1 fun b48 o49 =>
LD T_sl H15 b48 o49 fun (x50 : Sl) =>
IDX x50.p x50.len s44.1.1 11 fun b51 o52 =>
LD T_G_api_Thing H15 b51 o52 fun (x53 : G_api_Thing) =>
CALL P [T_G_api_Thing] n_kit_markThings [(.int .i64 s38.1.1), (.int .i64 s44.1.1)] H15 fun (x54 : G_api_Thing × Unit) H16 =>
LD T_sl H16 b48 o49 fun (x55 : Sl) =>
REQ (T_sl.enc x55 = x50.v) (
LD T_G_api_Thing H16 b51 o52 fun (x56 : G_api_Thing) =>
REQ (T_G_api_Thing.enc x56 = (T_G_api_Thing.enc x53)) (
ifB (!((x53.Card == x54.1.Card) && ((x53.Owner == x54.1.Owner) && ((x53.Place == x54.1.Place) && ((x53.Stamp == x54.1.Stamp) && ((x53.Hurt == x54.1.Hurt) && (((x53.Marks.1 == x54.1.Marks.1) && ((x53.Marks.2.1 == x54.1.Marks.2.1) && ((x53.Marks.2.2.1 == x54.1.Marks.2.2.1) && ((x53.Marks.2.2.2 == x54.1.Marks.2.2.2) && true)))) && ((x53.Done == x54.1.Done) && ((x53.Fresh == x54.1.Fresh) && true))))))))) (
Q (false, ()) H16) (
r43 ((IntKind.wrap .i64 (s44.1.1 + 1), ()), (())) H16)))) (
j41 ((()), (())) H15)) ((0, ()), (())) H12) fun (y42 : (Unit) × (Unit)) H14 =>
j39 ((()), (())) H14) fun (y40 : (Unit) × (Unit)) H13 =>
r37 ((IntKind.wrap .i64 (s38.1.1 + 1), ()), (())) H13) (
j35 ((()), (())) H12)) ((0, ()), (())) H4) fun (y36 : (Unit) × (Unit)) H11 =>
Q (true, ()) H11
def h_kit_ApartThings : Hnt := (.seq .leaf (.seq .leaf (.seq (.seq .leaf (.blk (some ⟨[(3, T_sl)], [], [4, 9, 10, 11, 12, 13, 14, 15, 16, 17, 18, 19, 20, 21, 22, 23, 24, 25, 26, 27]⟩) (.loop ⟨[(3, T_sl), (4, (T_int .i64))], [], [9, 10, 11, 12, 13, 14, 15, 16, 17, 18, 19, 20, 21, 22, 23, 24, 25, 26, 27]⟩ .leaf))) (.seq (.seq .leaf (.blk (some ⟨[], [], [5, 6, 28, 29, 30, 31, 32, 33, 34, 35, 36, 37, 38, 39, 40, 41, 42, 43, 44, 45, 46, 47, 48, 49, 50, 51]⟩) (.loop ⟨[(5, (T_int .i64))], [], [6, 28, 29, 30, 31, 32, 33, 34, 35, 36, 37, 38, 39, 40, 41, 42, 43, 44, 45, 46, 47, 48, 49, 50, 51]⟩ (.seq .leaf (.seq (.blk (some ⟨[], [], [6, 34, 35, 36, 37, 38, 39, 40, 41, 42, 43, 44, 45, 46, 47, 48, 49, 50, 51]⟩) (.seq .leaf (.blk (some ⟨[], [], [6, 34, 35, 36, 37, 38, 39, 40, 41, 42, 43, 44, 45, 46, 47, 48, 49, 50, 51]⟩) (.loop ⟨[(6, (T_int .i64))], [], [34, 35, 36, 37, 38, 39, 40, 41, 42, 43, 44, 45, 46, 47, 48, 49, 50, 51]⟩ .leaf)))) .leaf))))) (.seq (.seq .leaf (.blk (some ⟨[], [], [2, 7, 8, 52, 53, 54, 55, 56, 57, 58, 59, 60, 61, 62, 63, 64, 65, 66, 67, 68, 69, 70, 71, 72, 73, 74, 75, 76, 77]⟩) (.loop ⟨[(7, (T_int .i64))], [], [2, 8, 52, 53, 54, 55, 56, 57, 58, 59, 60, 61, 62, 63, 64, 65, 66, 67, 68, 69, 70, 71, 72, 73, 74, 75, 76, 77]⟩ (.seq .leaf (.seq (.blk (some ⟨[], [], [2, 8, 58, 59, 60, 61, 62, 63, 64, 65, 66, 67, 68, 69, 70, 71, 72, 73, 74, 75, 76, 77]⟩) (.seq .leaf (.blk (some ⟨[], [], [2, 8, 58, 59, 60, 61, 62, 63, 64, 65, 66, 67, 68, 69, 70, 71, 72, 73, 74, 75, 76, 77]⟩) (.loop ⟨[(8, (T_int .i64))], [], [2, 58, 59, 60, 61, 62, 63, 64, 65, 66, 67, 68, 69, 70, 71, 72, 73, 74, 75, 76, 77]⟩ .leaf)))) .leaf))))) .leaf)))))
theorem e_kit_ApartThings (a0 : Sl) (H : Heap) (Q : Bool × Unit → Heap → Prop) : S_kit_ApartThings a0 H Q = cFn C [26] Tryz.f48.ntmps Tryz.f48.results.toList [T_bool] (bodyOf Tryz.f48) h_kit_ApartThings [a0.v] H Q := by kernel_rfl
theorem c_kit_ApartThings {a0 : Sl} {H : Heap} {Q : Bool × Unit → Heap → Prop} (h : S_kit_ApartThings a0 H Q) : CALL P [T_bool] n_kit_ApartThings [a0.v] H Q := call_print hE Tryz.func48 rfl (by kernel_rfl) (e_kit_ApartThings a0 H Q) h
end Zv
end Go.Proofs.YthgfjbafhjkhnaaGreat
