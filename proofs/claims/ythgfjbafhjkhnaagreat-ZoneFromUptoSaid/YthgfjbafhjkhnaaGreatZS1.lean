/- Printed by gen2.py: what the functions come to. -/
import Derived.Test.YthgfjbafhjkhnaaGreatZT
import Derived.KernelRfl
namespace Go.Proofs.YthgfjbafhjkhnaaGreat
open Go Zq
namespace Zv
set_option maxRecDepth 100000
set_option linter.unusedVariables false
def S_slices_Clone_api_Thing_api_Thing (a0 : Sl) (H : Heap) (Q : Sl × Unit → Heap → Prop) : Prop :=
ifB a0.p.isNone (
Q ((Sl.mk none 0 0), ()) H) (
NEW H [] 11 fun H1 =>
APP T_sl (lenV ((Sl.mk (some ⟨H.length, 0, none⟩) 0 0)).v + (lenX a0.v).getD 0) (aAppendE E [45, 45] ((Sl.mk (some ⟨H.length, 0, none⟩) 0 0)).v a0.v H1) fun (x1 : Sl) H2 =>
Q (x1, ()) H2)
def h_slices_Clone_api_Thing_api_Thing : Hnt := .leaf
theorem e_slices_Clone_api_Thing_api_Thing (a0 : Sl) (H : Heap) (Q : Sl × Unit → Heap → Prop) : S_slices_Clone_api_Thing_api_Thing a0 H Q = cFn C [] Tryz.f49.ntmps Tryz.f49.results.toList [T_sl] (bodyOf Tryz.f49) h_slices_Clone_api_Thing_api_Thing [a0.v] H Q := by kernel_rfl
theorem c_slices_Clone_api_Thing_api_Thing {a0 : Sl} {H : Heap} {Q : Sl × Unit → Heap → Prop} (h : S_slices_Clone_api_Thing_api_Thing a0 H Q) : CALL P [T_sl] n_slices_Clone_api_Thing_api_Thing [a0.v] H Q := call_print hE Tryz.func49 rfl (by kernel_rfl) (e_slices_Clone_api_Thing_api_Thing a0 H Q) h

def S_slices_Clone_int_int (a0 : Sl) (H : Heap) (Q : Sl × Unit → Heap → Prop) : Prop :=
ifB a0.p.isNone (
Q ((Sl.mk none 0 0), ()) H) (
NEW H [] 1 fun H1 =>
APP T_sl (lenV ((Sl.mk (some ⟨H.length, 0, none⟩) 0 0)).v + (lenX a0.v).getD 0) (aAppendE E [22, 22] ((Sl.mk (some ⟨H.length, 0, none⟩) 0 0)).v a0.v H1) fun (x1 : Sl) H2 =>
Q (x1, ()) H2)
def h_slices_Clone_int_int : Hnt := .leaf
theorem e_slices_Clone_int_int (a0 : Sl) (H : Heap) (Q : Sl × Unit → Heap → Prop) : S_slices_Clone_int_int a0 H Q = cFn C [] Tryz.f50.ntmps Tryz.f50.results.toList [T_sl] (bodyOf Tryz.f50) h_slices_Clone_int_int [a0.v] H Q := by kernel_rfl
theorem c_slices_Clone_int_int {a0 : Sl} {H : Heap} {Q : Sl × Unit → Heap → Prop} (h : S_slices_Clone_int_int a0 H Q) : CALL P [T_sl] n_slices_Clone_int_int [a0.v] H Q := call_print hE Tryz.func50 rfl (by kernel_rfl) (e_slices_Clone_int_int a0 H Q) h

def S_zone_Zones_sound (a0 : Option Addr) (H : Heap) (Q : Bool × Unit → Heap → Prop) : Prop :=
JOIN (fun (j1 : (Bool × Unit) × (Unit) → Heap → Prop) =>
NIL a0 fun b3 o4 =>
LD (T_int .i64) H b3 (o4 + 5) fun (x5 : Int) =>
ifB (decide (x5 < 1)) (
j1 ((true, ()), (())) H) (
NIL a0 fun b6 o7 =>
LD (T_int .i64) H b6 (o7 + 5) fun (x8 : Int) =>
j1 ((decide (x8 > 1099511627776), ()), (())) H)) fun (y2 : (Bool × Unit) × (Unit)) H1 =>
ifB y2.1.1 (
Q (false, ()) H1) (
NEWM H1 fun H2 =>
NEW H2 [(.int .i64 0), (.int .i64 0)] 2 fun H3 =>
ST H3 H2.length 0 [(.int .i64 0), (.int .i64 0)] fun H4 =>
NIL a0 fun b9 o10 =>
LD T_sl H4 b9 (o10 + 0) fun (x11 : Sl) =>
JOIN (fun (j12 : (Int × Unit) × (Unit) → Heap → Prop) =>
LOOP (fun (r14 : (Int × Int × Unit) × (Unit) → Heap → Prop) (s15 : (Int × Int × Unit) × (Unit)) H6 =>
ifB (decide (s15.1.2.1 < (x11.len : Int))) (
IDX x11.p x11.len s15.1.2.1 11 fun b16 o17 =>
LD T_G_api_Thing H6 b16 o17 fun (x18 : G_api_Thing) =>
CALL P [T_bool] n_zone_Zones_thing [(.pointer a0), (T_G_api_Thing.enc x18)] H6 fun (x19 : Bool × Unit) H7 =>
ifB (!x19.1) (
Q (false, ()) H7) (
JOIN (fun (j20 : (Int × Unit) × (Unit) → Heap → Prop) =>
ifB (x18.Place == 4) (
GENV (T_int .i64) (aLookup E 89 (.map (some H1.length)) (.int .i64 x18.Stamp) false H7) fun (x22 : Int) =>
GENH (aMapUpdate E 89 (.map (some H1.length)) (.int .i64 x18.Stamp) (.int .i64 (IntKind.wrap .i64 (x22 + 1))) H7) fun H9 =>
IDXA 2 x18.Owner (
LD (T_int .i64) H9 H2.length (0 + x18.Owner.toNat * 1) fun (x23 : Int) =>
IDXA 2 x18.Owner (
ST H9 H2.length (0 + x18.Owner.toNat * 1) [(.int .i64 (IntKind.wrap .i64 (x23 + 1)))] fun H10 =>
JOIN (fun (j24 : (Bool × Unit) × (Unit) → Heap → Prop) =>
GENV (T_int .i64) (aLookup E 89 (.map (some H1.length)) (.int .i64 x18.Stamp) false H10) fun (x26 : Int) =>
ifB (decide (x26 > 1)) (
j24 ((true, ()), (())) H10) (
IDXA 2 x18.Owner (
LD (T_int .i64) H10 H2.length (0 + x18.Owner.toNat * 1) fun (x27 : Int) =>
j24 ((decide (x27 > 8), ()), (())) H10))) fun (y25 : (Bool × Unit) × (Unit)) H11 =>
ifB y25.1.1 (
Q (false, ()) H11) (
j20 ((s15.1.1, ()), (())) H11)))) (
JOIN (fun (j28 : (Bool × Unit) × (Unit) → Heap → Prop) =>
ifB (x18.Place == 1) (
j28 ((x18.Place == 1, ()), (())) H7) (
j28 ((x18.Place == 2, ()), (())) H7)) fun (y29 : (Bool × Unit) × (Unit)) H12 =>
JOIN (fun (j30 : (Int × Unit) × (Unit) → Heap → Prop) =>
ifB y29.1.1 (
j30 ((IntKind.wrap .i64 (s15.1.1 + 1), ()), (())) H12) (
j30 ((s15.1.1, ()), (())) H12)) fun (y31 : (Int × Unit) × (Unit)) H13 =>
j20 ((y31.1.1, ()), (())) H13)) fun (y21 : (Int × Unit) × (Unit)) H8 =>
r14 ((y21.1.1, IntKind.wrap .i64 (s15.1.2.1 + 1), ()), (())) H8)) (
j12 ((s15.1.1, ()), (())) H6)) ((0, 0, ()), (())) H4) fun (y13 : (Int × Unit) × (Unit)) H5 =>
NEWM H5 fun H14 =>
JOIN (fun (j32 : (Unit) × (Unit) → Heap → Prop) =>
LOOP (fun (r34 : (Int × Unit) × (Unit) → Heap → Prop) (s35 : (Int × Unit) × (Unit)) H16 =>
ifB (decide (s35.1.1 < 2)) (
JOIN (fun (j36 : (Unit) × (Unit) → Heap → Prop) =>
NIL a0 fun b38 o39 =>
IDXA 2 s35.1.1 (
LD T_sl H16 b38 (o39 + 3 + s35.1.1.toNat * 1) fun (x40 : Sl) =>
ifB (decide ((x40.len : Int) > 10)) (
Q (false, ()) H16) (
NIL a0 fun b41 o42 =>
IDXA 2 s35.1.1 (
LD T_sl H16 b41 (o42 + 1 + s35.1.1.toNat * 1) fun (x43 : Sl) =>
NIL a0 fun b44 o45 =>
IDXA 2 s35.1.1 (
LD T_sl H16 b44 (o45 + 3 + s35.1.1.toNat * 1) fun (x46 : Sl) =>
JOIN (fun (j47 : (Unit) × (Unit) → Heap → Prop) =>
LOOP (fun (r49 : (Int × Unit) × (Unit) → Heap → Prop) (s50 : (Int × Unit) × (Unit)) H19 =>
ifB (decide (s50.1.1 < 2)) (
JOIN (fun (j51 : (Unit) × (Unit) → Heap → Prop) =>
GENV T_sl (aIndex E 46 (.agg #[(.slice x43.p x43.len x43.cap), (.slice x46.p x46.len x46.cap)]) (.int .i64 s50.1.1)) fun (x53 : Sl) =>
JOIN (fun (j54 : (Unit) × (Unit) → Heap → Prop) =>
LOOP (fun (r56 : (Int × Unit) × (Unit) → Heap → Prop) (s57 : (Int × Unit) × (Unit)) H22 =>
ifB (decide (s57.1.1 < (x53.len : Int))) (
IDX x53.p x53.len s57.1.1 1 fun b58 o59 =>
LD (T_int .i64) H22 b58 o59 fun (x60 : Int) =>
JOIN (fun (j61 : (Bool × Unit) × (Unit) → Heap → Prop) =>
ifB (decide (x60 < 1)) (
j61 ((true, ()), (())) H22) (
NIL a0 fun b63 o64 =>
LD T_sl H22 b63 (o64 + 0) fun (x65 : Sl) =>
ifB (decide (x60 > (x65.len : Int))) (
j61 ((true, ()), (())) H22) (
GENV (T_int .i64) (aLookup E 89 (.map (some H5.length)) (.int .i64 x60) false H22) fun (x66 : Int) =>
ifB (decide (x66 > 0)) (
j61 ((true, ()), (())) H22) (
NIL a0 fun b67 o68 =>
LD T_sl H22 b67 (o68 + 0) fun (x69 : Sl) =>
IDX x69.p x69.len (IntKind.wrap .i64 (x60 - 1)) 11 fun b70 o71 =>
LD (T_int .i64) H22 b70 (o71 + 1) fun (x72 : Int) =>
ifB (x72 != s35.1.1) (
j61 ((true, ()), (())) H22) (
NIL a0 fun b73 o74 =>
LD T_sl H22 b73 (o74 + 0) fun (x75 : Sl) =>
IDX x75.p x75.len (IntKind.wrap .i64 (x60 - 1)) 11 fun b76 o77 =>
LD (T_int .u8) H22 b76 (o77 + 2) fun (x78 : Int) =>
j61 ((x78 != (IntKind.wrap .u8 (1 + (IntKind.wrap .u8 s50.1.1))), ()), (())) H22))))) fun (y62 : (Bool × Unit) × (Unit)) H23 =>
ifB y62.1.1 (
Q (false, ()) H23) (
GENV (T_int .i64) (aLookup E 89 (.map (some H5.length)) (.int .i64 x60) false H23) fun (x79 : Int) =>
GENH (aMapUpdate E 89 (.map (some H5.length)) (.int .i64 x60) (.int .i64 (IntKind.wrap .i64 (x79 + 1))) H23) fun H24 =>
r56 ((IntKind.wrap .i64 (s57.1.1 + 1), ()), (())) H24)) (
j54 ((()), (())) H22)) ((0, ()), (())) H19) fun (y55 : (Unit) × (Unit)) H21 =>
j51 ((()), (())) H21) fun (y52 : (Unit) × (Unit)) H20 =>
r49 ((IntKind.wrap .i64 (s50.1.1 + 1), ()), (())) H20) (
j47 ((()), (())) H19)) ((0, ()), (())) H16) fun (y48 : (Unit) × (Unit)) H18 =>
j36 ((()), (())) H18))))) fun (y37 : (Unit) × (Unit)) H17 =>
r34 ((IntKind.wrap .i64 (s35.1.1 + 1), ()), (())) H17) (
j32 ((()), (())) H16)) ((0, ()), (())) H14) fun (y33 : (Unit) × (Unit)) H15 =>
GENV (T_int .i64) (aLen E 89 (.map (some H5.length)) H15) fun (x80 : Int) =>
Q (x80 == y13.1.1, ()) H15)
def h_zone_Zones_sound : Hnt := (.seq .leaf (.seq (.seq (.reg ⟨[(25, T_bool)], [], [14, 15, 16, 17, 18, 19, 20, 21, 22, 23, 24]⟩) .leaf) (.seq .leaf (.seq .leaf (.seq .leaf (.seq (.seq .leaf (.blk (some ⟨[(5, (T_int .i64))], [], [2, 7, 33, 34, 35, 36, 37, 38, 39, 40, 41, 42, 43, 44, 45, 46, 47, 48, 49, 50, 51, 52, 53, 54, 55, 56, 57, 58, 59, 60, 61, 62, 63, 64, 65, 66, 67, 68, 69, 70, 71, 72, 73]⟩) (.loop ⟨[(5, (T_int .i64)), (33, (T_int .i64))], [], [2, 7, 34, 35, 36, 37, 38, 39, 40, 41, 42, 43, 44, 45, 46, 47, 48, 49, 50, 51, 52, 53, 54, 55, 56, 57, 58, 59, 60, 61, 62, 63, 64, 65, 66, 67, 68, 69, 70, 71, 72, 73]⟩ (.seq .leaf (.seq .leaf (.seq (.blk none (.seq .leaf (.seq .leaf (.seq .leaf (.blk none (.seq .leaf (.cond (some ⟨[(5, (T_int .i64))], [], [2, 45, 46, 47, 48, 49, 50, 51, 52, 53, 54, 55, 56, 57, 58, 59, 60, 61, 62, 63, 64, 65, 66, 67, 68, 69, 70, 71, 72]⟩) (.seq .leaf (.seq .leaf (.seq (.reg ⟨[(67, T_bool)], [], [56, 57, 58, 59, 60, 61, 62, 63, 64, 65, 66]⟩) .leaf))) (.seq (.seq .leaf (.cond (some ⟨[(68, T_bool)], [], [70]⟩) .leaf .leaf)) (.cond (some ⟨[(5, (T_int .i64))], [], [71, 72]⟩) .leaf .leaf))))))))) .leaf)))))) (.seq .leaf (.seq (.seq .leaf (.blk (some ⟨[], [], [2, 9, 10, 11, 13, 75, 76, 77, 78, 79, 80, 81, 82, 83, 84, 85, 86, 87, 88, 89, 90, 91, 92, 93, 94, 95, 96, 97, 98, 99, 100, 101, 102, 103, 104, 105, 106, 107, 108, 109, 110, 111, 112, 113, 114, 115, 116, 117, 118, 119, 120, 121, 122, 123, 124, 125, 126, 127, 128, 129, 130, 131, 132, 133, 134, 135, 136, 137, 138, 139, 140, 141, 142, 143, 144, 145, 146, 147, 148, 149, 150, 151, 152, 153, 154, 155, 156, 157, 158, 159, 160]⟩) (.loop ⟨[(75, (T_int .i64))], [], [2, 9, 10, 11, 13, 76, 77, 78, 79, 80, 81, 82, 83, 84, 85, 86, 87, 88, 89, 90, 91, 92, 93, 94, 95, 96, 97, 98, 99, 100, 101, 102, 103, 104, 105, 106, 107, 108, 109, 110, 111, 112, 113, 114, 115, 116, 117, 118, 119, 120, 121, 122, 123, 124, 125, 126, 127, 128, 129, 130, 131, 132, 133, 134, 135, 136, 137, 138, 139, 140, 141, 142, 143, 144, 145, 146, 147, 148, 149, 150, 151, 152, 153, 154, 155, 156, 157, 158, 159, 160]⟩ (.seq .leaf (.seq .leaf (.seq (.blk (some ⟨[], [], [2, 9, 10, 11, 13, 77, 78, 79, 80, 81, 82, 83, 84, 85, 86, 87, 88, 89, 90, 91, 92, 93, 94, 95, 96, 97, 98, 99, 100, 101, 102, 103, 104, 105, 106, 107, 108, 109, 110, 111, 112, 113, 114, 115, 116, 117, 118, 119, 120, 121, 122, 123, 124, 125, 126, 127, 128, 129, 130, 131, 132, 133, 134, 135, 136, 137, 138, 139, 140, 141, 142, 143, 144, 145, 146, 147, 148, 149, 150, 151, 152, 153, 154, 155, 156, 157, 158, 159]⟩) (.seq .leaf (.seq .leaf (.seq .leaf (.blk (some ⟨[], [], [2, 10, 11, 13, 99, 100, 101, 102, 103, 104, 105, 106, 107, 108, 109, 110, 111, 112, 113, 114, 115, 116, 117, 118, 119, 120, 121, 122, 123, 124, 125, 126, 127, 128, 129, 130, 131, 132, 133, 134, 135, 136, 137, 138, 139, 140, 141, 142, 143, 144, 145, 146, 147, 148, 149, 150, 151, 152, 153, 154, 155, 156, 157, 158, 159]⟩) (.loop ⟨[(99, (T_int .i64))], [], [2, 10, 11, 13, 100, 101, 102, 103, 104, 105, 106, 107, 108, 109, 110, 111, 112, 113, 114, 115, 116, 117, 118, 119, 120, 121, 122, 123, 124, 125, 126, 127, 128, 129, 130, 131, 132, 133, 134, 135, 136, 137, 138, 139, 140, 141, 142, 143, 144, 145, 146, 147, 148, 149, 150, 151, 152, 153, 154, 155, 156, 157, 158, 159]⟩ (.seq .leaf (.seq .leaf (.seq (.blk (some ⟨[], [], [2, 10, 11, 13, 101, 102, 103, 104, 105, 106, 107, 108, 109, 110, 111, 112, 113, 114, 115, 116, 117, 118, 119, 120, 121, 122, 123, 124, 125, 126, 127, 128, 129, 130, 131, 132, 133, 134, 135, 136, 137, 138, 139, 140, 141, 142, 143, 144, 145, 146, 147, 148, 149, 150, 151, 152, 153, 154, 155, 156, 157, 158]⟩) (.seq .leaf (.seq .leaf (.blk (some ⟨[], [], [2, 13, 105, 106, 107, 108, 109, 110, 111, 112, 113, 114, 115, 116, 117, 118, 119, 120, 121, 122, 123, 124, 125, 126, 127, 128, 129, 130, 131, 132, 133, 134, 135, 136, 137, 138, 139, 140, 141, 142, 143, 144, 145, 146, 147, 148, 149, 150, 151, 152, 153, 154, 155, 156, 157, 158]⟩) (.loop ⟨[(105, (T_int .i64))], [], [2, 13, 106, 107, 108, 109, 110, 111, 112, 113, 114, 115, 116, 117, 118, 119, 120, 121, 122, 123, 124, 125, 126, 127, 128, 129, 130, 131, 132, 133, 134, 135, 136, 137, 138, 139, 140, 141, 142, 143, 144, 145, 146, 147, 148, 149, 150, 151, 152, 153, 154, 155, 156, 157, 158]⟩ (.seq .leaf (.seq .leaf (.seq (.blk none (.seq .leaf (.seq (.seq (.reg ⟨[(153, T_bool)], [], [109, 110, 111, 112, 113, 114, 115, 116, 117, 118, 119, 120, 121, 122, 123, 124, 125, 126, 127, 128, 129, 130, 131, 132, 133, 134, 135, 136, 137, 138, 139, 140, 141, 142, 143, 144, 145, 146, 147, 148, 149, 150, 151, 152]⟩) .leaf) .leaf))) .leaf)))))))) .leaf))))))))) .leaf)))))) .leaf))))))))
theorem e_zone_Zones_sound (a0 : Option Addr) (H : Heap) (Q : Bool × Unit → Heap → Prop) : S_zone_Zones_sound a0 H Q = cFn C [7] Tryz.f51.ntmps Tryz.f51.results.toList [T_bool] (bodyOf Tryz.f51) h_zone_Zones_sound [(.pointer a0)] H Q := by kernel_rfl
theorem c_zone_Zones_sound {a0 : Option Addr} {H : Heap} {Q : Bool × Unit → Heap → Prop} (h : S_zone_Zones_sound a0 H Q) : CALL P [T_bool] n_zone_Zones_sound [(.pointer a0)] H Q := call_print hE Tryz.func51 rfl (by kernel_rfl) (e_zone_Zones_sound a0 H Q) h

def S_ref17_ints (a0 : Sl) (H : Heap) (Q : Sl × Unit → Heap → Prop) : Prop :=
APP T_sl (lenV ((Sl.mk none 0 0)).v + (lenX a0.v).getD 0) (aAppendE E [22, 22] ((Sl.mk none 0 0)).v a0.v H) fun (x1 : Sl) H1 =>
Q (x1, ()) H1
def h_ref17_ints : Hnt := .leaf
theorem e_ref17_ints (a0 : Sl) (H : Heap) (Q : Sl × Unit → Heap → Prop) : S_ref17_ints a0 H Q = cFn C [] Tryz.f52.ntmps Tryz.f52.results.toList [T_sl] (bodyOf Tryz.f52) h_ref17_ints [a0.v] H Q := by kernel_rfl
theorem c_ref17_ints {a0 : Sl} {H : Heap} {Q : Sl × Unit → Heap → Prop} (h : S_ref17_ints a0 H Q) : CALL P [T_sl] n_ref17_ints [a0.v] H Q := call_print hE Tryz.func52 rfl (by kernel_rfl) (e_ref17_ints a0 H Q) h

def S_ref17_Zones_Sound (a0 : Option Addr) (H : Heap) (Q : Bool × Unit → Heap → Prop) : Prop :=
JOIN (fun (j1 : (Bool × Unit) × (Unit) → Heap → Prop) =>
NIL a0 fun b3 o4 =>
LD T_sl H b3 (o4 + 0) fun (x5 : Sl) =>
ifB (decide ((x5.len : Int) > 2048)) (
j1 ((true, ()), (())) H) (
NIL a0 fun b6 o7 =>
LD (T_int .i64) H b6 (o7 + 5) fun (x8 : Int) =>
ifB (decide (x8 < 1)) (
j1 ((true, ()), (())) H) (
NIL a0 fun b9 o10 =>
LD (T_int .i64) H b9 (o10 + 5) fun (x11 : Int) =>
j1 ((decide (x11 > 1099511627776), ()), (())) H))) fun (y2 : (Bool × Unit) × (Unit)) H1 =>
ifB y2.1.1 (
Q (false, ()) H1) (
JOIN (fun (j12 : (Unit) × (Unit) → Heap → Prop) =>
LOOP (fun (r14 : (Int × Unit) × (Unit) → Heap → Prop) (s15 : (Int × Unit) × (Unit)) H3 =>
NIL a0 fun b16 o17 =>
LD T_sl H3 b16 (o17 + 0) fun (x18 : Sl) =>
ifB (decide (s15.1.1 < (x18.len : Int))) (
NIL a0 fun b19 o20 =>
LD T_sl H3 b19 (o20 + 0) fun (x21 : Sl) =>
IDX x21.p x21.len s15.1.1 11 fun b22 o23 =>
LD T_G_api_Thing H3 b22 o23 fun (x24 : G_api_Thing) =>
NIL a0 fun b25 o26 =>
LD (T_int .i64) H3 b25 (o26 + 5) fun (x27 : Int) =>
CALL P [T_bool] n_ref17_alone [(T_G_api_Thing.enc x24), (.int .i64 x27)] H3 fun (x28 : Bool × Unit) H4 =>
ifB (!x28.1) (
Q (false, ()) H4) (
r14 ((IntKind.wrap .i64 (s15.1.1 + 1), ()), (())) H4)) (
j12 ((()), (())) H3)) ((0, ()), (())) H1) fun (y13 : (Unit) × (Unit)) H2 =>
JOIN (fun (j29 : (Unit) × (Unit) → Heap → Prop) =>
LOOP (fun (r31 : (Int × Unit) × (Unit) → Heap → Prop) (s32 : (Int × Unit) × (Unit)) H6 =>
ifB (decide (s32.1.1 < 2)) (
JOIN (fun (j33 : (Bool × Unit) × (Unit) → Heap → Prop) =>
CALL P [(T_int .i64)] n_ref17_Zones_owned [(.pointer a0), (.int .i64 s32.1.1)] H6 fun (x35 : Int × Unit) H8 =>
ifB (decide (x35.1 > 8)) (
j33 ((true, ()), (())) H8) (
NIL a0 fun b36 o37 =>
IDXA 2 s32.1.1 (
LD T_sl H8 b36 (o37 + 3 + s32.1.1.toNat * 1) fun (x38 : Sl) =>
ifB (decide ((x38.len : Int) > 10)) (
j33 ((true, ()), (())) H8) (
NIL a0 fun b39 o40 =>
IDXA 2 s32.1.1 (
LD T_sl H8 b39 (o40 + 1 + s32.1.1.toNat * 1) fun (x41 : Sl) =>
CALL P [T_bool] n_ref17_Zones_holds [(.pointer a0), x41.v, (.int .i64 s32.1.1), (.int .u8 1)] H8 fun (x42 : Bool × Unit) H9 =>
ifB (!x42.1) (
j33 ((true, ()), (())) H9) (
NIL a0 fun b43 o44 =>
IDXA 2 s32.1.1 (
LD T_sl H9 b43 (o44 + 3 + s32.1.1.toNat * 1) fun (x45 : Sl) =>
CALL P [T_bool] n_ref17_Zones_holds [(.pointer a0), x45.v, (.int .i64 s32.1.1), (.int .u8 2)] H9 fun (x46 : Bool × Unit) H10 =>
j33 ((!x46.1, ()), (())) H10))))))) fun (y34 : (Bool × Unit) × (Unit)) H7 =>
ifB y34.1.1 (
Q (false, ()) H7) (
r31 ((IntKind.wrap .i64 (s32.1.1 + 1), ()), (())) H7)) (
j29 ((()), (())) H6)) ((0, ()), (())) H2) fun (y30 : (Unit) × (Unit)) H5 =>
CALL P [T_sl] n_ref17_Zones_Table [(.pointer a0)] H5 fun (x47 : Sl × Unit) H11 =>
JOIN (fun (j48 : (Unit) × (Unit) → Heap → Prop) =>
LOOP (fun (r50 : (Int × Unit) × (Unit) → Heap → Prop) (s51 : (Int × Unit) × (Unit)) H13 =>
ifB (decide (s51.1.1 < (x47.1.len : Int))) (
NIL a0 fun b52 o53 =>
LD T_sl H13 b52 (o53 + 0) fun (x54 : Sl) =>
IDX x47.1.p x47.1.len (IntKind.wrap .i64 (s51.1.1 - 1)) 1 fun b55 o56 =>
LD (T_int .i64) H13 b55 o56 fun (x57 : Int) =>
IDX x54.p x54.len (IntKind.wrap .i64 (x57 - 1)) 11 fun b58 o59 =>
LD (T_int .i64) H13 b58 (o59 + 3) fun (x60 : Int) =>
NIL a0 fun b61 o62 =>
LD T_sl H13 b61 (o62 + 0) fun (x63 : Sl) =>
IDX x47.1.p x47.1.len s51.1.1 1 fun b64 o65 =>
LD (T_int .i64) H13 b64 o65 fun (x66 : Int) =>
IDX x63.p x63.len (IntKind.wrap .i64 (x66 - 1)) 11 fun b67 o68 =>
LD (T_int .i64) H13 b67 (o68 + 3) fun (x69 : Int) =>
ifB (x60 == x69) (
Q (false, ()) H13) (
r50 ((IntKind.wrap .i64 (s51.1.1 + 1), ()), (())) H13)) (
j48 ((()), (())) H13)) ((1, ()), (())) H11) fun (y49 : (Unit) × (Unit)) H12 =>
Q (true, ()) H12)
def h_ref17_Zones_Sound : Hnt := (.seq .leaf (.seq (.seq (.reg ⟨[(26, T_bool)], [], [7, 8, 9, 10, 11, 12, 13, 14, 15, 16, 17, 18, 19, 20, 21, 22, 23, 24, 25]⟩) .leaf) (.seq (.seq .leaf (.blk (some ⟨[], [], [2, 3, 27, 28, 29, 30, 31, 32, 33, 34, 35, 36, 37, 38, 39, 40, 41, 42, 43, 44, 45, 46, 47, 48]⟩) (.loop ⟨[(3, (T_int .i64))], [], [2, 27, 28, 29, 30, 31, 32, 33, 34, 35, 36, 37, 38, 39, 40, 41, 42, 43, 44, 45, 46, 47, 48]⟩ .leaf))) (.seq (.seq .leaf (.blk (some ⟨[], [], [2, 4, 49, 50, 51, 52, 53, 54, 55, 56, 57, 58, 59, 60, 61, 62, 63, 64, 65, 66, 67, 68, 69, 70, 71, 72, 73, 74, 75, 76, 77, 78, 79, 80, 81, 82, 83, 84, 85, 86, 87, 88, 89, 90]⟩) (.loop ⟨[(4, (T_int .i64))], [], [2, 49, 50, 51, 52, 53, 54, 55, 56, 57, 58, 59, 60, 61, 62, 63, 64, 65, 66, 67, 68, 69, 70, 71, 72, 73, 74, 75, 76, 77, 78, 79, 80, 81, 82, 83, 84, 85, 86, 87, 88, 89, 90]⟩ (.seq .leaf (.seq (.blk none (.seq (.reg ⟨[(90, T_bool)], [], [53, 54, 55, 56, 57, 58, 59, 60, 61, 62, 63, 64, 65, 66, 67, 68, 69, 70, 71, 72, 73, 74, 75, 76, 77, 78, 79, 80, 81, 82, 83, 84, 85, 86, 87, 88, 89]⟩) .leaf)) .leaf))))) (.seq .leaf (.seq (.seq .leaf (.blk (some ⟨[], [], [2, 6, 93, 94, 95, 96, 97, 98, 99, 100, 101, 102, 103, 104, 105, 106, 107, 108, 109, 110, 111, 112, 113, 114, 115, 116, 117, 118, 119, 120, 121, 122, 123, 124]⟩) (.loop ⟨[(6, (T_int .i64))], [], [2, 93, 94, 95, 96, 97, 98, 99, 100, 101, 102, 103, 104, 105, 106, 107, 108, 109, 110, 111, 112, 113, 114, 115, 116, 117, 118, 119, 120, 121, 122, 123, 124]⟩ .leaf))) .leaf))))))
theorem e_ref17_Zones_Sound (a0 : Option Addr) (H : Heap) (Q : Bool × Unit → Heap → Prop) : S_ref17_Zones_Sound a0 H Q = cFn C [] Tryz.f53.ntmps Tryz.f53.results.toList [T_bool] (bodyOf Tryz.f53) h_ref17_Zones_Sound [(.pointer a0)] H Q := by kernel_rfl
theorem c_ref17_Zones_Sound {a0 : Option Addr} {H : Heap} {Q : Bool × Unit → Heap → Prop} (h : S_ref17_Zones_Sound a0 H Q) : CALL P [T_bool] n_ref17_Zones_Sound [(.pointer a0)] H Q := call_print hE Tryz.func53 rfl (by kernel_rfl) (e_ref17_Zones_Sound a0 H Q) h

def S_kit_CopyThings (a0 : Sl) (H : Heap) (Q : Sl × Unit → Heap → Prop) : Prop :=
APP T_sl (lenV ((Sl.mk none 0 0)).v + (lenX a0.v).getD 0) (aAppendE E [45, 45] ((Sl.mk none 0 0)).v a0.v H) fun (x1 : Sl) H1 =>
Q (x1, ()) H1
def h_kit_CopyThings : Hnt := .leaf
theorem e_kit_CopyThings (a0 : Sl) (H : Heap) (Q : Sl × Unit → Heap → Prop) : S_kit_CopyThings a0 H Q = cFn C [] Tryz.f54.ntmps Tryz.f54.results.toList [T_sl] (bodyOf Tryz.f54) h_kit_CopyThings [a0.v] H Q := by kernel_rfl
theorem c_kit_CopyThings {a0 : Sl} {H : Heap} {Q : Sl × Unit → Heap → Prop} (h : S_kit_CopyThings a0 H Q) : CALL P [T_sl] n_kit_CopyThings [a0.v] H Q := call_print hE Tryz.func54 rfl (by kernel_rfl) (e_kit_CopyThings a0 H Q) h

def S_zone_Zones_owned (a0 : Option Addr) (a1 : Int) (H : Heap) (Q : Int × Unit → Heap → Prop) : Prop :=
NIL a0 fun b1 o2 =>
LD T_sl H b1 (o2 + 0) fun (x3 : Sl) =>
JOIN (fun (j4 : (Int × Unit) × (Unit) → Heap → Prop) =>
LOOP (fun (r6 : (Int × Int × Unit) × (Unit) → Heap → Prop) (s7 : (Int × Int × Unit) × (Unit)) H2 =>
ifB (decide (s7.1.2.1 < (x3.len : Int))) (
IDX x3.p x3.len s7.1.2.1 11 fun b8 o9 =>
LD T_G_api_Thing H2 b8 o9 fun (x10 : G_api_Thing) =>
JOIN (fun (j11 : (Bool × Unit) × (Unit) → Heap → Prop) =>
ifB (x10.Place == 4) (
j11 ((x10.Owner == a1, ()), (())) H2) (
j11 ((false, ()), (())) H2)) fun (y12 : (Bool × Unit) × (Unit)) H3 =>
JOIN (fun (j13 : (Int × Unit) × (Unit) → Heap → Prop) =>
ifB y12.1.1 (
j13 ((IntKind.wrap .i64 (s7.1.1 + 1), ()), (())) H3) (
j13 ((s7.1.1, ()), (())) H3)) fun (y14 : (Int × Unit) × (Unit)) H4 =>
r6 ((y14.1.1, IntKind.wrap .i64 (s7.1.2.1 + 1), ()), (())) H4) (
j4 ((s7.1.1, ()), (())) H2)) ((0, 0, ()), (())) H) fun (y5 : (Int × Unit) × (Unit)) H1 =>
Q (y5.1.1, ()) H1
def h_zone_Zones_owned : Hnt := (.seq .leaf (.seq .leaf (.seq (.seq .leaf (.blk (some ⟨[(5, (T_int .i64))], [], [7, 13, 14, 15, 16, 17, 18, 19, 20, 21, 22, 23, 24, 25, 26, 27, 28]⟩) (.loop ⟨[(5, (T_int .i64)), (13, (T_int .i64))], [], [7, 14, 15, 16, 17, 18, 19, 20, 21, 22, 23, 24, 25, 26, 27, 28]⟩ (.seq .leaf (.seq .leaf (.seq (.blk none (.seq .leaf (.seq (.reg ⟨[(25, T_bool)], [], [17, 18, 19, 20, 21, 22, 23, 24]⟩) (.cond (some ⟨[(5, (T_int .i64))], [], [26, 27]⟩) .leaf .leaf)))) .leaf)))))) .leaf)))
theorem e_zone_Zones_owned (a0 : Option Addr) (a1 : Int) (H : Heap) (Q : Int × Unit → Heap → Prop) : S_zone_Zones_owned a0 a1 H Q = cFn C [7] Tryz.f55.ntmps Tryz.f55.results.toList [(T_int .i64)] (bodyOf Tryz.f55) h_zone_Zones_owned [(.pointer a0), (.int .i64 a1)] H Q := by kernel_rfl
theorem c_zone_Zones_owned {a0 : Option Addr} {a1 : Int} {H : Heap} {Q : Int × Unit → Heap → Prop} (h : S_zone_Zones_owned a0 a1 H Q) : CALL P [(T_int .i64)] n_zone_Zones_owned [(.pointer a0), (.int .i64 a1)] H Q := call_print hE Tryz.func55 rfl (by kernel_rfl) (e_zone_Zones_owned a0 a1 H Q) h

def S_zone_Zones_come (a0 : Option Addr) (a1 : Int) (a2 : Int) (H : Heap) (Q : Unit → Heap → Prop) : Prop :=
NIL a0 fun b1 o2 =>
LD T_sl H b1 (o2 + 0) fun (x3 : Sl) =>
IDX x3.p x3.len (IntKind.wrap .i64 (a1 - 1)) 11 fun b4 o5 =>
LD (T_int .i64) H b4 (o5 + 1) fun (x6 : Int) =>
LD (T_int .u8) H b4 (o5 + 2) fun (x7 : Int) =>
CALL P [T_ptr] n_zone_Zones_list [(.pointer a0), (.int .i64 x6), (.int .u8 x7)] H fun (x8 : (Option Addr) × Unit) H1 =>
JOIN (fun (j9 : (Unit) × (Unit) → Heap → Prop) =>
ifB (!x8.1.isNone) (
NIL x8.1 fun b11 o12 =>
LD T_sl H1 b11 o12 fun (x13 : Sl) =>
CALL P [(T_int .i64)] n_slices_Index_int_int [x13.v, (.int .i64 a1)] H1 fun (x14 : Int × Unit) H3 =>
JOIN (fun (j15 : (Unit) × (Unit) → Heap → Prop) =>
ifB (decide (x14.1 ≥ 0)) (
NIL x8.1 fun b17 o18 =>
LD T_sl H3 b17 o18 fun (x19 : Sl) =>
GENV T_sl (aSlice E 22 x19.v none (some (.int .i64 x14.1)) (some (.int .i64 x14.1)) H3) fun (x20 : Sl) =>
NIL x8.1 fun b21 o22 =>
LD T_sl H3 b21 o22 fun (x23 : Sl) =>
GENV T_sl (aSlice E 22 x23.v (some (.int .i64 (IntKind.wrap .i64 (x14.1 + 1)))) none none H3) fun (x24 : Sl) =>
APP T_sl (lenV x20.v + (lenX x24.v).getD 0) (aAppendE E [22, 22] x20.v x24.v H3) fun (x25 : Sl) H5 =>
NIL x8.1 fun b26 o27 =>
ST H5 b26 o27 [(.slice x25.p x25.len x25.cap)] fun H6 =>
j15 ((()), (())) H6) (
j15 ((()), (())) H3)) fun (y16 : (Unit) × (Unit)) H4 =>
j9 ((()), (())) H4) (
j9 ((()), (())) H1)) fun (y10 : (Unit) × (Unit)) H2 =>
ST H2 b4 (o5 + 2) [(.int .u8 a2)] fun H7 =>
LD T_G_api_Thing H7 b4 o5 fun (x28 : G_api_Thing) =>
CALL P [T_G_api_Thing] n_zone_home [(T_G_api_Thing.enc x28)] H7 fun (x29 : G_api_Thing × Unit) H8 =>
ST H8 b4 o5 (T_G_api_Thing.cells x29.1) fun H9 =>
LD (T_int .i64) H9 b4 (o5 + 1) fun (x30 : Int) =>
CALL P [T_ptr] n_zone_Zones_list [(.pointer a0), (.int .i64 x30), (.int .u8 a2)] H9 fun (x31 : (Option Addr) × Unit) H10 =>
JOIN (fun (j32 : (Unit) × (Unit) → Heap → Prop) =>
ifB (!x31.1.isNone) (
NIL x31.1 fun b34 o35 =>
LD T_sl H10 b34 o35 fun (x36 : Sl) =>
APP T_sl (lenV x36.v + 1) (aAppE E [22, 22] x36.v 1 [(.int .i64 a1)] H10) fun (x37 : Sl) H12 =>
NIL x31.1 fun b38 o39 =>
ST H12 b38 o39 [(.slice x37.p x37.len x37.cap)] fun H13 =>
j32 ((()), (())) H13) (
j32 ((()), (())) H10)) fun (y33 : (Unit) × (Unit)) H11 =>
JOIN (fun (j40 : (Unit) × (Unit) → Heap → Prop) =>
ifB (a2 == 4) (
NIL a0 fun b42 o43 =>
LD (T_int .i64) H11 b42 (o43 + 5) fun (x44 : Int) =>
ST H11 b4 (o5 + 3) [(.int .i64 x44)] fun H15 =>
ST H15 b4 (o5 + 10) [(.bool true)] fun H16 =>
NIL a0 fun b45 o46 =>
LD (T_int .i64) H16 b45 (o46 + 5) fun (x47 : Int) =>
NIL a0 fun b48 o49 =>
ST H16 b48 (o49 + 5) [(.int .i64 (IntKind.wrap .i64 (x47 + 1)))] fun H17 =>
j40 ((()), (())) H17) (
j40 ((()), (())) H11)) fun (y41 : (Unit) × (Unit)) H14 =>
Q (()) H14
def h_zone_Zones_come : Hnt := (.seq .leaf (.seq (.seq .leaf (.seq .leaf (.cond (some ⟨[], [], [8, 29, 30, 31, 32, 33, 34, 35, 36, 37, 38, 39, 40, 41, 42, 43, 44, 45, 46, 47, 48, 49, 50]⟩) (.seq .leaf (.seq .leaf (.cond (some ⟨[], [], [36, 37, 38, 39, 40, 41, 42, 43, 44, 45, 46, 47, 48, 49, 50]⟩) .leaf .leaf))) .leaf))) (.seq .leaf (.seq .leaf (.seq (.seq .leaf (.seq .leaf (.cond (some ⟨[], [], [70, 71, 72, 73, 74, 75, 76, 77]⟩) .leaf .leaf))) (.seq .leaf (.cond (some ⟨[], [], [80, 81, 82, 83, 84, 85, 86, 87, 88, 89, 90, 91, 92, 93, 94, 95, 96]⟩) .leaf .leaf)))))))
theorem e_zone_Zones_come (a0 : Option Addr) (a1 : Int) (a2 : Int) (H : Heap) (Q : Unit → Heap → Prop) : S_zone_Zones_come a0 a1 a2 H Q = cFn C [75] Tryz.f56.ntmps Tryz.f56.results.toList [] (bodyOf Tryz.f56) h_zone_Zones_come [(.pointer a0), (.int .i64 a1), (.int .u8 a2)] H Q := by kernel_rfl
theorem c_zone_Zones_come {a0 : Option Addr} {a1 : Int} {a2 : Int} {H : Heap} {Q : Unit → Heap → Prop} (h : S_zone_Zones_come a0 a1 a2 H Q) : CALL P [] n_zone_Zones_come [(.pointer a0), (.int .i64 a1), (.int .u8 a2)] H Q := call_print hE Tryz.func56 rfl (by kernel_rfl) (e_zone_Zones_come a0 a1 a2 H Q) h

def S_slices_SortFunc_int_int (a0 : Sl) (a1 : Value) (H : Heap) (Q : Unit → Heap → Prop) : Prop :=
CALL P [(T_int .i64)] n_math_bits_Len [(.int .u64 (IntKind.wrap .u64 (a0.len : Int)))] H fun (x1 : Int × Unit) H1 =>
CALL P [] n_slices_pdqsortCmpFunc_int [a0.v, (.int .i64 0), (.int .i64 (a0.len : Int)), (.int .i64 x1.1), a1] H1 fun (x2 : Unit) H2 =>
Q (()) H2
def h_slices_SortFunc_int_int : Hnt := .leaf
theorem e_slices_SortFunc_int_int (a0 : Sl) (a1 : Value) (H : Heap) (Q : Unit → Heap → Prop) : S_slices_SortFunc_int_int a0 a1 H Q = cFn C [] Tryz.f57.ntmps Tryz.f57.results.toList [] (bodyOf Tryz.f57) h_slices_SortFunc_int_int [a0.v, a1] H Q := by kernel_rfl
theorem c_slices_SortFunc_int_int {a0 : Sl} {a1 : Value} {H : Heap} {Q : Unit → Heap → Prop} (h : S_slices_SortFunc_int_int a0 a1 H Q) : CALL P [] n_slices_SortFunc_int_int [a0.v, a1] H Q := call_print hE Tryz.func57 rfl (by kernel_rfl) (e_slices_SortFunc_int_int a0 a1 H Q) h

def S_zone_Zones_Table_1 (a0 : Int) (a1 : Int) (c0 : Nat × Nat) (H : Heap) (Q : Int × Unit → Heap → Prop) : Prop :=
LD T_ptr H c0.1 c0.2 fun (x1 : Option Addr) =>
NIL x1 fun b2 o3 =>
LD T_sl H b2 (o3 + 0) fun (x4 : Sl) =>
IDX x4.p x4.len (IntKind.wrap .i64 (a0 - 1)) 11 fun b5 o6 =>
LD (T_int .i64) H b5 (o6 + 3) fun (x7 : Int) =>
LD T_ptr H c0.1 c0.2 fun (x8 : Option Addr) =>
NIL x8 fun b9 o10 =>
LD T_sl H b9 (o10 + 0) fun (x11 : Sl) =>
IDX x11.p x11.len (IntKind.wrap .i64 (a1 - 1)) 11 fun b12 o13 =>
LD (T_int .i64) H b12 (o13 + 3) fun (x14 : Int) =>
Q (IntKind.wrap .i64 (x7 - x14), ()) H
def h_zone_Zones_Table_1 : Hnt := .leaf
theorem e_zone_Zones_Table_1 (a0 : Int) (a1 : Int) (c0 : Nat × Nat) (H : Heap) (Q : Int × Unit → Heap → Prop) : S_zone_Zones_Table_1 a0 a1 c0 H Q = cFn C [] Tryz.f58.ntmps Tryz.f58.results.toList [(T_int .i64)] (bodyOf Tryz.f58) h_zone_Zones_Table_1 [(.int .i64 a0), (.int .i64 a1), (.pointer (some ⟨c0.1, c0.2, none⟩))] H Q := by kernel_rfl
theorem c_zone_Zones_Table_1 {a0 : Int} {a1 : Int} {c0 : Nat × Nat} {H : Heap} {Q : Int × Unit → Heap → Prop} (h : S_zone_Zones_Table_1 a0 a1 c0 H Q) : CALL P [(T_int .i64)] n_zone_Zones_Table_1 [(.int .i64 a0), (.int .i64 a1), (.pointer (some ⟨c0.1, c0.2, none⟩))] H Q := call_print hE Tryz.func58 rfl (by kernel_rfl) (e_zone_Zones_Table_1 a0 a1 c0 H Q) h

def S_ref17_Zones_there (a0 : Option Addr) (a1 : Int) (H : Heap) (Q : Bool × Unit → Heap → Prop) : Prop :=
JOIN (fun (j1 : (Bool × Unit) × (Unit) → Heap → Prop) =>
ifB (decide (a1 ≥ 1)) (
NIL a0 fun b3 o4 =>
LD T_sl H b3 (o4 + 0) fun (x5 : Sl) =>
j1 ((decide (a1 ≤ (x5.len : Int)), ()), (())) H) (
j1 ((false, ()), (())) H)) fun (y2 : (Bool × Unit) × (Unit)) H1 =>
Q (y2.1.1, ()) H1
def h_ref17_Zones_there : Hnt := (.seq .leaf (.seq (.reg ⟨[(4, T_bool)], [], [5, 6, 7, 8, 9, 10, 11, 12, 13, 14, 15]⟩) .leaf))
theorem e_ref17_Zones_there (a0 : Option Addr) (a1 : Int) (H : Heap) (Q : Bool × Unit → Heap → Prop) : S_ref17_Zones_there a0 a1 H Q = cFn C [] Tryz.f59.ntmps Tryz.f59.results.toList [T_bool] (bodyOf Tryz.f59) h_ref17_Zones_there [(.pointer a0), (.int .i64 a1)] H Q := by kernel_rfl
theorem c_ref17_Zones_there {a0 : Option Addr} {a1 : Int} {H : Heap} {Q : Bool × Unit → Heap → Prop} (h : S_ref17_Zones_there a0 a1 H Q) : CALL P [T_bool] n_ref17_Zones_there [(.pointer a0), (.int .i64 a1)] H Q := call_print hE Tryz.func59 rfl (by kernel_rfl) (e_ref17_Zones_there a0 a1 H Q) h

def S_ref17_Zones_owned (a0 : Option Addr) (a1 : Int) (H : Heap) (Q : Int × Unit → Heap → Prop) : Prop :=
JOIN (fun (j1 : (Int × Unit) × (Unit) → Heap → Prop) =>
LOOP (fun (r3 : (Int × Int × Unit) × (Unit) → Heap → Prop) (s4 : (Int × Int × Unit) × (Unit)) H2 =>
NIL a0 fun b5 o6 =>
LD T_sl H2 b5 (o6 + 0) fun (x7 : Sl) =>
ifB (decide (s4.1.2.1 < (x7.len : Int))) (
JOIN (fun (j8 : (Bool × Unit) × (Unit) → Heap → Prop) =>
NIL a0 fun b10 o11 =>
LD T_sl H2 b10 (o11 + 0) fun (x12 : Sl) =>
IDX x12.p x12.len s4.1.2.1 11 fun b13 o14 =>
LD (T_int .i64) H2 b13 (o14 + 1) fun (x15 : Int) =>
ifB (x15 == a1) (
NIL a0 fun b16 o17 =>
LD T_sl H2 b16 (o17 + 0) fun (x18 : Sl) =>
IDX x18.p x18.len s4.1.2.1 11 fun b19 o20 =>
LD (T_int .u8) H2 b19 (o20 + 2) fun (x21 : Int) =>
j8 ((x21 == 4, ()), (())) H2) (
j8 ((false, ()), (())) H2)) fun (y9 : (Bool × Unit) × (Unit)) H3 =>
JOIN (fun (j22 : (Int × Unit) × (Unit) → Heap → Prop) =>
ifB y9.1.1 (
j22 ((IntKind.wrap .i64 (s4.1.1 + 1), ()), (())) H3) (
j22 ((s4.1.1, ()), (())) H3)) fun (y23 : (Int × Unit) × (Unit)) H4 =>
r3 ((y23.1.1, IntKind.wrap .i64 (s4.1.2.1 + 1), ()), (())) H4) (
j1 ((s4.1.1, ()), (())) H2)) ((0, 0, ()), (())) H) fun (y2 : (Int × Unit) × (Unit)) H1 =>
Q (y2.1.1, ()) H1
def h_ref17_Zones_owned : Hnt := (.seq .leaf (.seq .leaf (.seq (.seq .leaf (.blk (some ⟨[(5, (T_int .i64))], [], [6, 7, 8, 9, 10, 11, 12, 13, 14, 15, 16, 17, 18, 19, 20, 21, 22, 23, 24, 25, 26, 27, 28, 29, 30, 31, 32, 33, 34, 35, 36, 37, 38]⟩) (.loop ⟨[(5, (T_int .i64)), (6, (T_int .i64))], [], [7, 8, 9, 10, 11, 12, 13, 14, 15, 16, 17, 18, 19, 20, 21, 22, 23, 24, 25, 26, 27, 28, 29, 30, 31, 32, 33, 34, 35, 36, 37, 38]⟩ (.seq .leaf (.seq (.blk none (.seq (.reg ⟨[(36, T_bool)], [], [16, 17, 18, 19, 20, 21, 22, 23, 24, 25, 26, 27, 28, 29, 30, 31, 32, 33, 34, 35]⟩) (.cond (some ⟨[(5, (T_int .i64))], [], [37, 38]⟩) .leaf .leaf))) .leaf))))) .leaf)))
theorem e_ref17_Zones_owned (a0 : Option Addr) (a1 : Int) (H : Heap) (Q : Int × Unit → Heap → Prop) : S_ref17_Zones_owned a0 a1 H Q = cFn C [] Tryz.f60.ntmps Tryz.f60.results.toList [(T_int .i64)] (bodyOf Tryz.f60) h_ref17_Zones_owned [(.pointer a0), (.int .i64 a1)] H Q := by kernel_rfl
theorem c_ref17_Zones_owned {a0 : Option Addr} {a1 : Int} {H : Heap} {Q : Int × Unit → Heap → Prop} (h : S_ref17_Zones_owned a0 a1 H Q) : CALL P [(T_int .i64)] n_ref17_Zones_owned [(.pointer a0), (.int .i64 a1)] H Q := call_print hE Tryz.func60 rfl (by kernel_rfl) (e_ref17_Zones_owned a0 a1 H Q) h

def S_ref17_Zones_come (a0 : Option Addr) (a1 : Int) (a2 : Int) (H : Heap) (Q : Unit → Heap → Prop) : Prop :=
NIL a0 fun b1 o2 =>
LD T_sl H b1 (o2 + 0) fun (x3 : Sl) =>
IDX x3.p x3.len (IntKind.wrap .i64 (a1 - 1)) 11 fun b4 o5 =>
LD (T_int .i64) H b4 (o5 + 1) fun (x6 : Int) =>
NIL a0 fun b7 o8 =>
IDXA 2 x6 (
LD T_sl H b7 (o8 + 1 + x6.toNat * 1) fun (x9 : Sl) =>
NIL a0 fun b10 o11 =>
CALL P [T_sl] n_ref17_without [x9.v, (.int .i64 a1)] H fun (x12 : Sl × Unit) H1 =>
IDXA 2 x6 (
ST H1 b10 (o11 + 1 + x6.toNat * 1) [(.slice x12.1.p x12.1.len x12.1.cap)] fun H2 =>
NIL a0 fun b13 o14 =>
IDXA 2 x6 (
LD T_sl H2 b13 (o14 + 3 + x6.toNat * 1) fun (x15 : Sl) =>
NIL a0 fun b16 o17 =>
CALL P [T_sl] n_ref17_without [x15.v, (.int .i64 a1)] H2 fun (x18 : Sl × Unit) H3 =>
IDXA 2 x6 (
ST H3 b16 (o17 + 3 + x6.toNat * 1) [(.slice x18.1.p x18.1.len x18.1.cap)] fun H4 =>
NIL a0 fun b19 o20 =>
LD T_sl H4 b19 (o20 + 0) fun (x21 : Sl) =>
IDX x21.p x21.len (IntKind.wrap .i64 (a1 - 1)) 11 fun b22 o23 =>
LD T_G_api_Thing H4 b22 o23 fun (x24 : G_api_Thing) =>
CALL P [T_G_api_Thing] n_ref17_home [(T_G_api_Thing.enc x24)] H4 fun (x25 : G_api_Thing × Unit) H5 =>
JOIN (fun (j26 : (Unit) × (G_api_Thing × Unit) → Heap → Prop) =>
ifB (a2 == 1) (
NIL a0 fun b28 o29 =>
IDXA 2 x6 (
LD T_sl H5 b28 (o29 + 1 + x6.toNat * 1) fun (x30 : Sl) =>
NIL a0 fun b31 o32 =>
LD T_sl H5 b28 (o29 + 1 + x6.toNat * 1) fun (x33 : Sl) =>
REQ (T_sl.enc x33 = x30.v) (
APP T_sl (lenV x30.v + 1) (aAppE E [22, 22] x30.v 1 [(.int .i64 a1)] H5) fun (x34 : Sl) H7 =>
IDXA 2 x6 (
ST H7 b31 (o32 + 1 + x6.toNat * 1) [(.slice x34.p x34.len x34.cap)] fun H8 =>
j26 ((()), ((G_api_Thing.mk x25.1.Card x25.1.Owner a2 x25.1.Stamp x25.1.Hurt x25.1.Marks x25.1.Done x25.1.Fresh), ())) H8)))) (
JOIN (fun (j35 : (Unit) × (G_api_Thing × Unit) → Heap → Prop) =>
ifB (a2 == 2) (
NIL a0 fun b37 o38 =>
IDXA 2 x6 (
LD T_sl H5 b37 (o38 + 3 + x6.toNat * 1) fun (x39 : Sl) =>
NIL a0 fun b40 o41 =>
LD T_sl H5 b37 (o38 + 3 + x6.toNat * 1) fun (x42 : Sl) =>
REQ (T_sl.enc x42 = x39.v) (
APP T_sl (lenV x39.v + 1) (aAppE E [22, 22] x39.v 1 [(.int .i64 a1)] H5) fun (x43 : Sl) H10 =>
IDXA 2 x6 (
ST H10 b40 (o41 + 3 + x6.toNat * 1) [(.slice x43.p x43.len x43.cap)] fun H11 =>
j35 ((()), ((G_api_Thing.mk x25.1.Card x25.1.Owner a2 x25.1.Stamp x25.1.Hurt x25.1.Marks x25.1.Done x25.1.Fresh), ())) H11)))) (
JOIN (fun (j44 : (Unit) × (G_api_Thing × Unit) → Heap → Prop) =>
ifB (a2 == 4) (
NIL a0 fun b46 o47 =>
LD (T_int .i64) H5 b46 (o47 + 5) fun (x48 : Int) =>
NIL a0 fun b49 o50 =>
LD (T_int .i64) H5 b49 (o50 + 5) fun (x51 : Int) =>
NIL a0 fun b52 o53 =>
ST H5 b52 (o53 + 5) [(.int .i64 (IntKind.wrap .i64 (x51 + 1)))] fun H13 =>
j44 ((()), ((G_api_Thing.mk x25.1.Card x25.1.Owner a2 x48 x25.1.Hurt x25.1.Marks x25.1.Done true), ())) H13) (
j44 ((()), ((G_api_Thing.mk x25.1.Card x25.1.Owner a2 x25.1.Stamp x25.1.Hurt x25.1.Marks x25.1.Done x25.1.Fresh), ())) H5)) fun (y45 : (Unit) × (G_api_Thing × Unit)) H12 =>
j35 ((()), (y45.2.1, ())) H12)) fun (y36 : (Unit) × (G_api_Thing × Unit)) H9 =>
j26 ((()), (y36.2.1, ())) H9)) fun (y27 : (Unit) × (G_api_Thing × Unit)) H6 =>
NIL a0 fun b54 o55 =>
LD T_sl H6 b54 (o55 + 0) fun (x56 : Sl) =>
IDX x56.p x56.len (IntKind.wrap .i64 (a1 - 1)) 11 fun b57 o58 =>
ST H6 b57 o58 (T_G_api_Thing.cells y27.2.1) fun H14 =>
Q (()) H14))))
def h_ref17_Zones_come : Hnt := (.seq .leaf (.seq .leaf (.seq .leaf (.seq .leaf (.seq .leaf (.seq (.seq .leaf (.blk none (.seq .leaf (.cond (some ⟨[], [(0, T_G_api_Thing)], [57, 58, 59, 60, 61, 62, 63, 64, 65, 66, 67, 68, 69, 70, 71, 72, 73, 74, 75, 76, 77, 78, 79, 80, 81, 82, 83, 84, 85, 86, 87, 88, 89, 90, 91, 92, 93, 94, 95, 96, 97, 98, 99, 100, 101]⟩) .leaf (.seq .leaf (.cond (some ⟨[], [(0, T_G_api_Thing)], [73, 74, 75, 76, 77, 78, 79, 80, 81, 82, 83, 84, 85, 86, 87, 88, 89, 90, 91, 92, 93, 94, 95, 96, 97, 98, 99, 100, 101]⟩) .leaf (.seq .leaf (.cond (some ⟨[], [(0, T_G_api_Thing)], [89, 90, 91, 92, 93, 94, 95, 96, 97, 98, 99, 100, 101]⟩) .leaf .leaf)))))))) .leaf))))))
theorem e_ref17_Zones_come (a0 : Option Addr) (a1 : Int) (a2 : Int) (H : Heap) (Q : Unit → Heap → Prop) : S_ref17_Zones_come a0 a1 a2 H Q = cFn C [7, 66, 82] Tryz.f61.ntmps Tryz.f61.results.toList [] (bodyOf Tryz.f61) h_ref17_Zones_come [(.pointer a0), (.int .i64 a1), (.int .u8 a2)] H Q := by kernel_rfl
theorem c_ref17_Zones_come {a0 : Option Addr} {a1 : Int} {a2 : Int} {H : Heap} {Q : Unit → Heap → Prop} (h : S_ref17_Zones_come a0 a1 a2 H Q) : CALL P [] n_ref17_Zones_come [(.pointer a0), (.int .i64 a1), (.int .u8 a2)] H Q := call_print hE Tryz.func61 rfl (by kernel_rfl) (e_ref17_Zones_come a0 a1 a2 H Q) h

def S_zone_player (a0 : Int) (H : Heap) (Q : Bool × Unit → Heap → Prop) : Prop :=
JOIN (fun (j1 : (Bool × Unit) × (Unit) → Heap → Prop) =>
ifB (a0 == 0) (
j1 ((true, ()), (())) H) (
j1 ((a0 == 1, ()), (())) H)) fun (y2 : (Bool × Unit) × (Unit)) H1 =>
Q (y2.1.1, ()) H1
def h_zone_player : Hnt := (.seq .leaf (.seq (.reg ⟨[(2, T_bool)], [], [3, 4, 5, 6, 7, 8]⟩) .leaf))
theorem e_zone_player (a0 : Int) (H : Heap) (Q : Bool × Unit → Heap → Prop) : S_zone_player a0 H Q = cFn C [] Tryz.f62.ntmps Tryz.f62.results.toList [T_bool] (bodyOf Tryz.f62) h_zone_player [(.int .i64 a0)] H Q := by kernel_rfl
theorem c_zone_player {a0 : Int} {H : Heap} {Q : Bool × Unit → Heap → Prop} (h : S_zone_player a0 H Q) : CALL P [T_bool] n_zone_player [(.int .i64 a0)] H Q := call_print hE Tryz.func62 rfl (by kernel_rfl) (e_zone_player a0 H Q) h

def S_ref17_owner (a0 : Int) (H : Heap) (Q : Bool × Unit → Heap → Prop) : Prop :=
JOIN (fun (j1 : (Bool × Unit) × (Unit) → Heap → Prop) =>
ifB (a0 == 0) (
j1 ((true, ()), (())) H) (
j1 ((a0 == 1, ()), (())) H)) fun (y2 : (Bool × Unit) × (Unit)) H1 =>
Q (y2.1.1, ()) H1
def h_ref17_owner : Hnt := (.seq .leaf (.seq (.reg ⟨[(2, T_bool)], [], [3, 4, 5, 6, 7, 8]⟩) .leaf))
theorem e_ref17_owner (a0 : Int) (H : Heap) (Q : Bool × Unit → Heap → Prop) : S_ref17_owner a0 H Q = cFn C [] Tryz.f63.ntmps Tryz.f63.results.toList [T_bool] (bodyOf Tryz.f63) h_ref17_owner [(.int .i64 a0)] H Q := by kernel_rfl
theorem c_ref17_owner {a0 : Int} {H : Heap} {Q : Bool × Unit → Heap → Prop} (h : S_ref17_owner a0 H Q) : CALL P [T_bool] n_ref17_owner [(.int .i64 a0)] H Q := call_print hE Tryz.func63 rfl (by kernel_rfl) (e_ref17_owner a0 H Q) h

def S_zone_marks (a0 : Int × Int × Int × Int) (H : Heap) (Q : Bool × Unit → Heap → Prop) : Prop :=
JOIN (fun (j1 : (Unit) × (Unit) → Heap → Prop) =>
LOOP (fun (r3 : (Int × Unit) × (Unit) → Heap → Prop) (s4 : (Int × Unit) × (Unit)) H2 =>
ifB (decide (s4.1.1 < 4)) (
GENV (T_int .i64) (aIndex E 37 (.agg #[(.int .i64 a0.1), (.int .i64 a0.2.1), (.int .i64 a0.2.2.1), (.int .i64 a0.2.2.2)]) (.int .i64 s4.1.1)) fun (x5 : Int) =>
JOIN (fun (j6 : (Bool × Unit) × (Unit) → Heap → Prop) =>
ifB (decide (x5 < 0)) (
j6 ((true, ()), (())) H2) (
j6 ((decide (x5 > 99), ()), (())) H2)) fun (y7 : (Bool × Unit) × (Unit)) H3 =>
ifB y7.1.1 (
Q (false, ()) H3) (
r3 ((IntKind.wrap .i64 (s4.1.1 + 1), ()), (())) H3)) (
j1 ((()), (())) H2)) ((0, ()), (())) H) fun (y2 : (Unit) × (Unit)) H1 =>
Q (true, ()) H1
def h_zone_marks : Hnt := (.seq .leaf (.seq (.seq .leaf (.blk (some ⟨[], [], [2, 4, 6, 7, 8, 9, 10, 11, 12, 13, 14, 15]⟩) (.loop ⟨[(6, (T_int .i64))], [], [2, 4, 7, 8, 9, 10, 11, 12, 13, 14, 15]⟩ (.seq .leaf (.seq .leaf (.seq (.blk none (.seq .leaf (.seq (.reg ⟨[(14, T_bool)], [], [9, 10, 11, 12, 13]⟩) .leaf))) .leaf)))))) .leaf))
theorem e_zone_marks (a0 : Int × Int × Int × Int) (H : Heap) (Q : Bool × Unit → Heap → Prop) : S_zone_marks a0 H Q = cFn C [1] Tryz.f64.ntmps Tryz.f64.results.toList [T_bool] (bodyOf Tryz.f64) h_zone_marks [(T_arr4_T_int_i64.enc a0)] H Q := by kernel_rfl
theorem c_zone_marks {a0 : Int × Int × Int × Int} {H : Heap} {Q : Bool × Unit → Heap → Prop} (h : S_zone_marks a0 H Q) : CALL P [T_bool] n_zone_marks [(T_arr4_T_int_i64.enc a0)] H Q := call_print hE Tryz.func64 rfl (by kernel_rfl) (e_zone_marks a0 H Q) h

def S_ref17_marked (a0 : G_api_Thing) (H : Heap) (Q : Bool × Unit → Heap → Prop) : Prop :=
NEW H [(.int .i64 a0.Card), (.int .i64 a0.Owner), (.int .u8 a0.Place), (.int .i64 a0.Stamp), (.int .i64 a0.Hurt), (.int .i64 a0.Marks.1), (.int .i64 a0.Marks.2.1), (.int .i64 a0.Marks.2.2.1), (.int .i64 a0.Marks.2.2.2), (.int .i64 a0.Done), (.bool a0.Fresh)] 11 fun H1 =>
JOIN (fun (j1 : (Unit) × (Unit) → Heap → Prop) =>
LOOP (fun (r3 : (Int × Unit) × (Unit) → Heap → Prop) (s4 : (Int × Unit) × (Unit)) H3 =>
ifB (decide (s4.1.1 < 4)) (
JOIN (fun (j5 : (Bool × Unit) × (Unit) → Heap → Prop) =>
IDXA 4 s4.1.1 (
LD (T_int .i64) H3 H.length (5 + s4.1.1.toNat * 1) fun (x7 : Int) =>
ifB (decide (x7 < 0)) (
j5 ((true, ()), (())) H3) (
IDXA 4 s4.1.1 (
LD (T_int .i64) H3 H.length (5 + s4.1.1.toNat * 1) fun (x8 : Int) =>
j5 ((decide (x8 > 99), ()), (())) H3)))) fun (y6 : (Bool × Unit) × (Unit)) H4 =>
ifB y6.1.1 (
Q (false, ()) H4) (
r3 ((IntKind.wrap .i64 (s4.1.1 + 1), ()), (())) H4)) (
j1 ((()), (())) H3)) ((0, ()), (())) H1) fun (y2 : (Unit) × (Unit)) H2 =>
Q (true, ()) H2
def h_ref17_marked : Hnt := (.seq .leaf (.seq (.seq .leaf (.blk (some ⟨[], [], [2, 3, 4, 5, 6, 7, 8, 9, 10, 11, 12, 13, 14, 15, 16, 17, 18, 19]⟩) (.loop ⟨[(3, (T_int .i64))], [], [2, 4, 5, 6, 7, 8, 9, 10, 11, 12, 13, 14, 15, 16, 17, 18, 19]⟩ (.seq .leaf (.seq (.blk none (.seq (.reg ⟨[(19, T_bool)], [], [8, 9, 10, 11, 12, 13, 14, 15, 16, 17, 18]⟩) .leaf)) .leaf))))) .leaf))
theorem e_ref17_marked (a0 : G_api_Thing) (H : Heap) (Q : Bool × Unit → Heap → Prop) : S_ref17_marked a0 H Q = cFn C [] Tryz.f65.ntmps Tryz.f65.results.toList [T_bool] (bodyOf Tryz.f65) h_ref17_marked [(T_G_api_Thing.enc a0)] H Q := by kernel_rfl
theorem c_ref17_marked {a0 : G_api_Thing} {H : Heap} {Q : Bool × Unit → Heap → Prop} (h : S_ref17_marked a0 H Q) : CALL P [T_bool] n_ref17_marked [(T_G_api_Thing.enc a0)] H Q := call_print hE Tryz.func65 rfl (by kernel_rfl) (e_ref17_marked a0 H Q) h

def S_slices_Sorted_int (a0 : Value) (H : Heap) (Q : Sl × Unit → Heap → Prop) : Prop :=
CALL P [T_sl] n_slices_Collect_int [a0] H fun (x1 : Sl × Unit) H1 =>
CALL P [] n_slices_Sort_int_int [x1.1.v] H1 fun (x2 : Unit) H2 =>
Q (x1.1, ()) H2
def h_slices_Sorted_int : Hnt := .leaf
theorem e_slices_Sorted_int (a0 : Value) (H : Heap) (Q : Sl × Unit → Heap → Prop) : S_slices_Sorted_int a0 H Q = cFn C [] Tryz.f66.ntmps Tryz.f66.results.toList [T_sl] (bodyOf Tryz.f66) h_slices_Sorted_int [a0] H Q := by kernel_rfl
theorem c_slices_Sorted_int {a0 : Value} {H : Heap} {Q : Sl × Unit → Heap → Prop} (h : S_slices_Sorted_int a0 H Q) : CALL P [T_sl] n_slices_Sorted_int [a0] H Q := call_print hE Tryz.func66 rfl (by kernel_rfl) (e_slices_Sorted_int a0 H Q) h

def S_slices_Values_int_int (a0 : Sl) (H : Heap) (Q : Value × Unit → Heap → Prop) : Prop :=
NEW H [(.slice a0.p a0.len a0.cap)] 1 fun H1 =>
Q ((.func (.func n_slices_Values_int_int_1) #[] #[(.pointer (some ⟨H.length, 0, none⟩))]), ()) H1
def h_slices_Values_int_int : Hnt := .leaf
theorem e_slices_Values_int_int (a0 : Sl) (H : Heap) (Q : Value × Unit → Heap → Prop) : S_slices_Values_int_int a0 H Q = cFn C [] Tryz.f67.ntmps Tryz.f67.results.toList [T_any] (bodyOf Tryz.f67) h_slices_Values_int_int [a0.v] H Q := by kernel_rfl
theorem c_slices_Values_int_int {a0 : Sl} {H : Heap} {Q : Value × Unit → Heap → Prop} (h : S_slices_Values_int_int a0 H Q) : CALL P [T_any] n_slices_Values_int_int [a0.v] H Q := call_print hE Tryz.func67 rfl (by kernel_rfl) (e_slices_Values_int_int a0 H Q) h

def S_slices_Equal_int_int (a0 : Sl) (a1 : Sl) (H : Heap) (Q : Bool × Unit → Heap → Prop) : Prop :=
ifB ((a0.len : Int) != (a1.len : Int)) (
Q (false, ()) H) (
JOIN (fun (j1 : (Unit) × (Unit) → Heap → Prop) =>
LOOP (fun (r3 : (Int × Unit) × (Unit) → Heap → Prop) (s4 : (Int × Unit) × (Unit)) H2 =>
ifB (decide (s4.1.1 < (a0.len : Int))) (
IDX a0.p a0.len s4.1.1 1 fun b5 o6 =>
LD (T_int .i64) H2 b5 o6 fun (x7 : Int) =>
IDX a1.p a1.len s4.1.1 1 fun b8 o9 =>
LD (T_int .i64) H2 b8 o9 fun (x10 : Int) =>
ifB (x7 != x10) (
Q (false, ()) H2) (
r3 ((IntKind.wrap .i64 (s4.1.1 + 1), ()), (())) H2)) (
j1 ((()), (())) H2)) ((0, ()), (())) H) fun (y2 : (Unit) × (Unit)) H1 =>
Q (true, ()) H1)
def h_slices_Equal_int_int : Hnt := (.seq .leaf (.seq .leaf (.seq (.seq .leaf (.blk (some ⟨[], [], [4, 5, 13, 14, 15, 16, 17, 18, 19, 20, 21, 22, 23, 24, 25]⟩) (.loop ⟨[(13, (T_int .i64))], [], [4, 5, 14, 15, 16, 17, 18, 19, 20, 21, 22, 23, 24, 25]⟩ .leaf))) .leaf)))
theorem e_slices_Equal_int_int (a0 : Sl) (a1 : Sl) (H : Heap) (Q : Bool × Unit → Heap → Prop) : S_slices_Equal_int_int a0 a1 H Q = cFn C [] Tryz.f68.ntmps Tryz.f68.results.toList [T_bool] (bodyOf Tryz.f68) h_slices_Equal_int_int [a0.v, a1.v] H Q := by kernel_rfl
theorem c_slices_Equal_int_int {a0 : Sl} {a1 : Sl} {H : Heap} {Q : Bool × Unit → Heap → Prop} (h : S_slices_Equal_int_int a0 a1 H Q) : CALL P [T_bool] n_slices_Equal_int_int [a0.v, a1.v] H Q := call_print hE Tryz.func68 rfl (by kernel_rfl) (e_slices_Equal_int_int a0 a1 H Q) h

def S_ref17_Zones_holds (a0 : Option Addr) (a1 : Sl) (a2 : Int) (a3 : Int) (H : Heap) (Q : Bool × Unit → Heap → Prop) : Prop :=
NIL a0 fun b1 o2 =>
LD T_sl H b1 (o2 + 0) fun (x3 : Sl) =>
GEN T_sl (aMakeSlice E 99 (.int .i64 (IntKind.wrap .i64 ((x3.len : Int) + 1))) (.int .i64 (IntKind.wrap .i64 ((x3.len : Int) + 1))) H) fun (x4 : Sl) H1 =>
JOIN (fun (j5 : (Unit) × (Unit) → Heap → Prop) =>
LOOP (fun (r7 : (Int × Unit) × (Unit) → Heap → Prop) (s8 : (Int × Unit) × (Unit)) H3 =>
ifB (decide (s8.1.1 < (a1.len : Int))) (
IDX a1.p a1.len s8.1.1 1 fun b9 o10 =>
LD (T_int .i64) H3 b9 o10 fun (x11 : Int) =>
JOIN (fun (j12 : (Bool × Unit) × (Unit) → Heap → Prop) =>
ifB (decide (x11 < 1)) (
j12 ((true, ()), (())) H3) (
NIL a0 fun b14 o15 =>
LD T_sl H3 b14 (o15 + 0) fun (x16 : Sl) =>
ifB (decide (x11 > (x16.len : Int))) (
j12 ((true, ()), (())) H3) (
IDX x4.p x4.len x11 1 fun b17 o18 =>
LD T_bool H3 b17 o18 fun (x19 : Bool) =>
j12 ((x19, ()), (())) H3))) fun (y13 : (Bool × Unit) × (Unit)) H4 =>
ifB y13.1.1 (
Q (false, ()) H4) (
JOIN (fun (j20 : (Bool × Unit) × (Unit) → Heap → Prop) =>
NIL a0 fun b22 o23 =>
LD T_sl H4 b22 (o23 + 0) fun (x24 : Sl) =>
IDX x24.p x24.len (IntKind.wrap .i64 (x11 - 1)) 11 fun b25 o26 =>
LD (T_int .i64) H4 b25 (o26 + 1) fun (x27 : Int) =>
ifB (x27 != a2) (
j20 ((true, ()), (())) H4) (
NIL a0 fun b28 o29 =>
LD T_sl H4 b28 (o29 + 0) fun (x30 : Sl) =>
IDX x30.p x30.len (IntKind.wrap .i64 (x11 - 1)) 11 fun b31 o32 =>
LD (T_int .u8) H4 b31 (o32 + 2) fun (x33 : Int) =>
j20 ((x33 != a3, ()), (())) H4)) fun (y21 : (Bool × Unit) × (Unit)) H5 =>
ifB y21.1.1 (
Q (false, ()) H5) (
IDX x4.p x4.len x11 1 fun b34 o35 =>
ST H5 b34 o35 [(.bool true)] fun H6 =>
r7 ((IntKind.wrap .i64 (s8.1.1 + 1), ()), (())) H6))) (
j5 ((()), (())) H3)) ((0, ()), (())) H1) fun (y6 : (Unit) × (Unit)) H2 =>
JOIN (fun (j36 : (Unit) × (Unit) → Heap → Prop) =>
LOOP (fun (r38 : (Int × Unit) × (Unit) → Heap → Prop) (s39 : (Int × Unit) × (Unit)) H8 =>
NIL a0 fun b40 o41 =>
LD T_sl H8 b40 (o41 + 0) fun (x42 : Sl) =>
ifB (decide (s39.1.1 ≤ (x42.len : Int))) (
JOIN (fun (j43 : (Bool × Unit) × (Unit) → Heap → Prop) =>
NIL a0 fun b45 o46 =>
LD T_sl H8 b45 (o46 + 0) fun (x47 : Sl) =>
IDX x47.p x47.len (IntKind.wrap .i64 (s39.1.1 - 1)) 11 fun b48 o49 =>
LD (T_int .i64) H8 b48 (o49 + 1) fun (x50 : Int) =>
ifB (x50 == a2) (
NIL a0 fun b51 o52 =>
LD T_sl H8 b51 (o52 + 0) fun (x53 : Sl) =>
IDX x53.p x53.len (IntKind.wrap .i64 (s39.1.1 - 1)) 11 fun b54 o55 =>
LD (T_int .u8) H8 b54 (o55 + 2) fun (x56 : Int) =>
ifB (x56 == a3) (
IDX x4.p x4.len s39.1.1 1 fun b57 o58 =>
LD T_bool H8 b57 o58 fun (x59 : Bool) =>
j43 ((!x59, ()), (())) H8) (
j43 ((false, ()), (())) H8)) (
j43 ((false, ()), (())) H8)) fun (y44 : (Bool × Unit) × (Unit)) H9 =>
ifB y44.1.1 (
Q (false, ()) H9) (
r38 ((IntKind.wrap .i64 (s39.1.1 + 1), ()), (())) H9)) (
j36 ((()), (())) H8)) ((1, ()), (())) H2) fun (y37 : (Unit) × (Unit)) H7 =>
Q (true, ()) H7
def h_ref17_Zones_holds : Hnt := (.seq .leaf (.seq .leaf (.seq (.seq .leaf (.blk (some ⟨[], [], [8, 10, 11, 20, 21, 22, 23, 24, 25, 26, 27, 28, 29, 30, 31, 32, 33, 34, 35, 36, 37, 38, 39, 40, 41, 42, 43, 44, 45, 46, 47, 48, 49, 50, 51, 52, 53, 54, 55, 56, 57, 58, 59, 60, 61, 62, 63, 64, 65, 66, 67, 68, 69, 70, 71, 72, 73]⟩) (.loop ⟨[(10, (T_int .i64))], [], [8, 11, 20, 21, 22, 23, 24, 25, 26, 27, 28, 29, 30, 31, 32, 33, 34, 35, 36, 37, 38, 39, 40, 41, 42, 43, 44, 45, 46, 47, 48, 49, 50, 51, 52, 53, 54, 55, 56, 57, 58, 59, 60, 61, 62, 63, 64, 65, 66, 67, 68, 69, 70, 71, 72, 73]⟩ (.seq .leaf (.seq (.blk none (.seq .leaf (.seq (.seq (.reg ⟨[(46, T_bool)], [], [30, 31, 32, 33, 34, 35, 36, 37, 38, 39, 40, 41, 42, 43, 44, 45]⟩) .leaf) (.seq (.seq (.reg ⟨[(70, T_bool)], [], [47, 48, 49, 50, 51, 52, 53, 54, 55, 56, 57, 58, 59, 60, 61, 62, 63, 64, 65, 66, 67, 68, 69]⟩) .leaf) .leaf)))) .leaf))))) (.seq (.seq .leaf (.blk (some ⟨[], [], [8, 12, 74, 75, 76, 77, 78, 79, 80, 81, 82, 83, 84, 85, 86, 87, 88, 89, 90, 91, 92, 93, 94, 95, 96, 97, 98, 99, 100, 101, 102, 103, 104, 105, 106, 107, 108, 109, 110, 111, 112, 113]⟩) (.loop ⟨[(12, (T_int .i64))], [], [8, 74, 75, 76, 77, 78, 79, 80, 81, 82, 83, 84, 85, 86, 87, 88, 89, 90, 91, 92, 93, 94, 95, 96, 97, 98, 99, 100, 101, 102, 103, 104, 105, 106, 107, 108, 109, 110, 111, 112, 113]⟩ (.seq .leaf (.seq (.blk none (.seq (.reg ⟨[(113, T_bool)], [], [83, 84, 85, 86, 87, 88, 89, 90, 91, 92, 93, 94, 95, 96, 97, 98, 99, 100, 101, 102, 103, 104, 105, 106, 107, 108, 109, 110, 111, 112]⟩) .leaf)) .leaf))))) .leaf))))
theorem e_ref17_Zones_holds (a0 : Option Addr) (a1 : Sl) (a2 : Int) (a3 : Int) (H : Heap) (Q : Bool × Unit → Heap → Prop) : S_ref17_Zones_holds a0 a1 a2 a3 H Q = cFn C [] Tryz.f69.ntmps Tryz.f69.results.toList [T_bool] (bodyOf Tryz.f69) h_ref17_Zones_holds [(.pointer a0), a1.v, (.int .i64 a2), (.int .u8 a3)] H Q := by kernel_rfl
theorem c_ref17_Zones_holds {a0 : Option Addr} {a1 : Sl} {a2 : Int} {a3 : Int} {H : Heap} {Q : Bool × Unit → Heap → Prop} (h : S_ref17_Zones_holds a0 a1 a2 a3 H Q) : CALL P [T_bool] n_ref17_Zones_holds [(.pointer a0), a1.v, (.int .i64 a2), (.int .u8 a3)] H Q := call_print hE Tryz.func69 rfl (by kernel_rfl) (e_ref17_Zones_holds a0 a1 a2 a3 H Q) h

def S_zone_Zones_list (a0 : Option Addr) (a1 : Int) (a2 : Int) (H : Heap) (Q : (Option Addr) × Unit → Heap → Prop) : Prop :=
ifB (a2 == 1) (
NIL a0 fun b1 o2 =>
IDXA 2 a1 (
Q ((some ⟨b1, o2 + 1 + a1.toNat * 1, none⟩), ()) H)) (
ifB (a2 == 2) (
NIL a0 fun b3 o4 =>
IDXA 2 a1 (
Q ((some ⟨b3, o4 + 3 + a1.toNat * 1, none⟩), ()) H)) (
Q (none, ()) H))
def h_zone_Zones_list : Hnt := .leaf
theorem e_zone_Zones_list (a0 : Option Addr) (a1 : Int) (a2 : Int) (H : Heap) (Q : (Option Addr) × Unit → Heap → Prop) : S_zone_Zones_list a0 a1 a2 H Q = cFn C [] Tryz.f70.ntmps Tryz.f70.results.toList [T_ptr] (bodyOf Tryz.f70) h_zone_Zones_list [(.pointer a0), (.int .i64 a1), (.int .u8 a2)] H Q := by kernel_rfl
theorem c_zone_Zones_list {a0 : Option Addr} {a1 : Int} {a2 : Int} {H : Heap} {Q : (Option Addr) × Unit → Heap → Prop} (h : S_zone_Zones_list a0 a1 a2 H Q) : CALL P [T_ptr] n_zone_Zones_list [(.pointer a0), (.int .i64 a1), (.int .u8 a2)] H Q := call_print hE Tryz.func70 rfl (by kernel_rfl) (e_zone_Zones_list a0 a1 a2 H Q) h

def S_zone_told_int (a0 : Sl) (H : Heap) (Q : Sl × Unit → Heap → Prop) : Prop :=
NEW H [] 1 fun H1 =>
APP T_sl (lenV ((Sl.mk (some ⟨H.length, 0, none⟩) 0 0)).v + (lenX a0.v).getD 0) (aAppendE E [22, 22] ((Sl.mk (some ⟨H.length, 0, none⟩) 0 0)).v a0.v H1) fun (x1 : Sl) H2 =>
Q (x1, ()) H2
def h_zone_told_int : Hnt := .leaf
theorem e_zone_told_int (a0 : Sl) (H : Heap) (Q : Sl × Unit → Heap → Prop) : S_zone_told_int a0 H Q = cFn C [] Tryz.f71.ntmps Tryz.f71.results.toList [T_sl] (bodyOf Tryz.f71) h_zone_told_int [a0.v] H Q := by kernel_rfl
theorem c_zone_told_int {a0 : Sl} {H : Heap} {Q : Sl × Unit → Heap → Prop} (h : S_zone_told_int a0 H Q) : CALL P [T_sl] n_zone_told_int [a0.v] H Q := call_print hE Tryz.func71 rfl (by kernel_rfl) (e_zone_told_int a0 H Q) h

def S_zone_told_api_Thing (a0 : Sl) (H : Heap) (Q : Sl × Unit → Heap → Prop) : Prop :=
NEW H [] 11 fun H1 =>
APP T_sl (lenV ((Sl.mk (some ⟨H.length, 0, none⟩) 0 0)).v + (lenX a0.v).getD 0) (aAppendE E [45, 45] ((Sl.mk (some ⟨H.length, 0, none⟩) 0 0)).v a0.v H1) fun (x1 : Sl) H2 =>
Q (x1, ()) H2
def h_zone_told_api_Thing : Hnt := .leaf
theorem e_zone_told_api_Thing (a0 : Sl) (H : Heap) (Q : Sl × Unit → Heap → Prop) : S_zone_told_api_Thing a0 H Q = cFn C [] Tryz.f72.ntmps Tryz.f72.results.toList [T_sl] (bodyOf Tryz.f72) h_zone_told_api_Thing [a0.v] H Q := by kernel_rfl
theorem c_zone_told_api_Thing {a0 : Sl} {H : Heap} {Q : Sl × Unit → Heap → Prop} (h : S_zone_told_api_Thing a0 H Q) : CALL P [T_sl] n_zone_told_api_Thing [a0.v] H Q := call_print hE Tryz.func72 rfl (by kernel_rfl) (e_zone_told_api_Thing a0 H Q) h

def S_kit_markInts (a0 : Int) (a1 : Int) (H : Heap) (Q : Int × Unit → Heap → Prop) : Prop :=
Q (IntKind.wrap .i64 ((IntKind.wrap .i64 ((IntKind.wrap .i64 ((-1000003) * a0)) - a1)) - 5), ()) H
def h_kit_markInts : Hnt := .leaf
theorem e_kit_markInts (a0 : Int) (a1 : Int) (H : Heap) (Q : Int × Unit → Heap → Prop) : S_kit_markInts a0 a1 H Q = cFn C [] Tryz.f73.ntmps Tryz.f73.results.toList [(T_int .i64)] (bodyOf Tryz.f73) h_kit_markInts [(.int .i64 a0), (.int .i64 a1)] H Q := by kernel_rfl
theorem c_kit_markInts {a0 : Int} {a1 : Int} {H : Heap} {Q : Int × Unit → Heap → Prop} (h : S_kit_markInts a0 a1 H Q) : CALL P [(T_int .i64)] n_kit_markInts [(.int .i64 a0), (.int .i64 a1)] H Q := call_print hE Tryz.func73 rfl (by kernel_rfl) (e_kit_markInts a0 a1 H Q) h

def S_kit_markThings (a0 : Int) (a1 : Int) (H : Heap) (Q : G_api_Thing × Unit → Heap → Prop) : Prop :=
Q ((G_api_Thing.mk (IntKind.wrap .i64 ((IntKind.wrap .i64 (0 - a0)) - 1)) 0 0 a1 0 (0, 0, 0, 0) 0 false), ()) H
def h_kit_markThings : Hnt := .leaf
theorem e_kit_markThings (a0 : Int) (a1 : Int) (H : Heap) (Q : G_api_Thing × Unit → Heap → Prop) : S_kit_markThings a0 a1 H Q = cFn C [4] Tryz.f74.ntmps Tryz.f74.results.toList [T_G_api_Thing] (bodyOf Tryz.f74) h_kit_markThings [(.int .i64 a0), (.int .i64 a1)] H Q := by kernel_rfl
theorem c_kit_markThings {a0 : Int} {a1 : Int} {H : Heap} {Q : G_api_Thing × Unit → Heap → Prop} (h : S_kit_markThings a0 a1 H Q) : CALL P [T_G_api_Thing] n_kit_markThings [(.int .i64 a0), (.int .i64 a1)] H Q := call_print hE Tryz.func74 rfl (by kernel_rfl) (e_kit_markThings a0 a1 H Q) h

def S_zone_Zones_thing (a0 : Option Addr) (a1 : G_api_Thing) (H : Heap) (Q : Bool × Unit → Heap → Prop) : Prop :=
JOIN (fun (j1 : (Bool × Unit) × (Unit) → Heap → Prop) =>
ifB (decide (a1.Card < 1)) (
j1 ((true, ()), (())) H) (
CALL P [T_bool] n_zone_player [(.int .i64 a1.Owner)] H fun (x3 : Bool × Unit) H2 =>
ifB (!x3.1) (
j1 ((true, ()), (())) H2) (
ifB (decide (a1.Place < 1)) (
j1 ((true, ()), (())) H2) (
j1 ((decide (a1.Place > 5), ()), (())) H2)))) fun (y2 : (Bool × Unit) × (Unit)) H1 =>
ifB y2.1.1 (
Q (false, ()) H1) (
ifB (a1.Place != 4) (
CALL P [T_G_api_Thing] n_zone_home [(T_G_api_Thing.enc a1)] H1 fun (x4 : G_api_Thing × Unit) H3 =>
REQ ((some (.agg #[(.int .i64 a1.Card), (.int .i64 a1.Owner), (.int .u8 a1.Place), (.int .i64 a1.Stamp), (.int .i64 a1.Hurt), (.int .i64 a1.Marks.1), (.int .i64 a1.Marks.2.1), (.int .i64 a1.Marks.2.2.1), (.int .i64 a1.Marks.2.2.2), (.int .i64 a1.Done), (.bool a1.Fresh)]) : Option Value) = some (.agg #[(.int .i64 a1.Card), (.int .i64 a1.Owner), (.int .u8 a1.Place), (.int .i64 a1.Stamp), (.int .i64 a1.Hurt), (.int .i64 a1.Marks.1), (.int .i64 a1.Marks.2.1), (.int .i64 a1.Marks.2.2.1), (.int .i64 a1.Marks.2.2.2), (.int .i64 a1.Done), (.bool a1.Fresh)])) (
Q (((a1.Card == x4.1.Card) && ((a1.Owner == x4.1.Owner) && ((a1.Place == x4.1.Place) && ((a1.Stamp == x4.1.Stamp) && ((a1.Hurt == x4.1.Hurt) && (((a1.Marks.1 == x4.1.Marks.1) && ((a1.Marks.2.1 == x4.1.Marks.2.1) && ((a1.Marks.2.2.1 == x4.1.Marks.2.2.1) && ((a1.Marks.2.2.2 == x4.1.Marks.2.2.2) && true)))) && ((a1.Done == x4.1.Done) && ((a1.Fresh == x4.1.Fresh) && true)))))))), ()) H3)) (
JOIN (fun (j5 : (Bool × Unit) × (Unit) → Heap → Prop) =>
ifB (decide (a1.Stamp ≥ 1)) (
NIL a0 fun b7 o8 =>
LD (T_int .i64) H1 b7 (o8 + 5) fun (x9 : Int) =>
ifB (decide (a1.Stamp < x9)) (
ifB (decide (a1.Hurt ≥ 0)) (
ifB (decide (a1.Done ≥ 0)) (
CALL P [T_bool] n_zone_marks [(T_arr4_T_int_i64.enc a1.Marks)] H1 fun (x10 : Bool × Unit) H5 =>
j5 ((x10.1, ()), (())) H5) (
j5 ((false, ()), (())) H1)) (
j5 ((false, ()), (())) H1)) (
j5 ((false, ()), (())) H1)) (
j5 ((false, ()), (())) H1)) fun (y6 : (Bool × Unit) × (Unit)) H4 =>
Q (y6.1.1, ()) H4))
def h_zone_Zones_thing : Hnt := (.seq .leaf (.seq (.seq (.reg ⟨[(23, T_bool)], [], [5, 6, 7, 8, 9, 10, 11, 12, 13, 14, 15, 16, 17, 18, 19, 20, 21, 22]⟩) .leaf) (.seq .leaf (.seq (.reg ⟨[(4, T_bool)], [], [31, 32, 33, 34, 35, 36, 37, 38, 39, 40, 41, 42, 43, 44, 45, 46, 47, 48, 49, 50, 51, 52, 53, 54, 55, 56, 57]⟩) .leaf))))
theorem e_zone_Zones_thing (a0 : Option Addr) (a1 : G_api_Thing) (H : Heap) (Q : Bool × Unit → Heap → Prop) : S_zone_Zones_thing a0 a1 H Q = cFn C [3] Tryz.f75.ntmps Tryz.f75.results.toList [T_bool] (bodyOf Tryz.f75) h_zone_Zones_thing [(.pointer a0), (T_G_api_Thing.enc a1)] H Q := by kernel_rfl
theorem c_zone_Zones_thing {a0 : Option Addr} {a1 : G_api_Thing} {H : Heap} {Q : Bool × Unit → Heap → Prop} (h : S_zone_Zones_thing a0 a1 H Q) : CALL P [T_bool] n_zone_Zones_thing [(.pointer a0), (T_G_api_Thing.enc a1)] H Q := call_print hE Tryz.func75 rfl (by kernel_rfl) (e_zone_Zones_thing a0 a1 H Q) h

def S_ref17_alone (a0 : G_api_Thing) (a1 : Int) (H : Heap) (Q : Bool × Unit → Heap → Prop) : Prop :=
JOIN (fun (j1 : (Bool × Unit) × (Unit) → Heap → Prop) =>
ifB (decide (a0.Card < 1)) (
j1 ((true, ()), (())) H) (
CALL P [T_bool] n_ref17_owner [(.int .i64 a0.Owner)] H fun (x3 : Bool × Unit) H2 =>
ifB (!x3.1) (
j1 ((true, ()), (())) H2) (
ifB (decide (a0.Place < 1)) (
j1 ((true, ()), (())) H2) (
j1 ((decide (a0.Place > 5), ()), (())) H2)))) fun (y2 : (Bool × Unit) × (Unit)) H1 =>
ifB y2.1.1 (
Q (false, ()) H1) (
ifB (a0.Place != 4) (
CALL P [T_G_api_Thing] n_ref17_home [(T_G_api_Thing.enc a0)] H1 fun (x4 : G_api_Thing × Unit) H3 =>
REQ ((some (.agg #[(.int .i64 a0.Card), (.int .i64 a0.Owner), (.int .u8 a0.Place), (.int .i64 a0.Stamp), (.int .i64 a0.Hurt), (.int .i64 a0.Marks.1), (.int .i64 a0.Marks.2.1), (.int .i64 a0.Marks.2.2.1), (.int .i64 a0.Marks.2.2.2), (.int .i64 a0.Done), (.bool a0.Fresh)]) : Option Value) = some (.agg #[(.int .i64 a0.Card), (.int .i64 a0.Owner), (.int .u8 a0.Place), (.int .i64 a0.Stamp), (.int .i64 a0.Hurt), (.int .i64 a0.Marks.1), (.int .i64 a0.Marks.2.1), (.int .i64 a0.Marks.2.2.1), (.int .i64 a0.Marks.2.2.2), (.int .i64 a0.Done), (.bool a0.Fresh)])) (
Q (((a0.Card == x4.1.Card) && ((a0.Owner == x4.1.Owner) && ((a0.Place == x4.1.Place) && ((a0.Stamp == x4.1.Stamp) && ((a0.Hurt == x4.1.Hurt) && (((a0.Marks.1 == x4.1.Marks.1) && ((a0.Marks.2.1 == x4.1.Marks.2.1) && ((a0.Marks.2.2.1 == x4.1.Marks.2.2.1) && ((a0.Marks.2.2.2 == x4.1.Marks.2.2.2) && true)))) && ((a0.Done == x4.1.Done) && ((a0.Fresh == x4.1.Fresh) && true)))))))), ()) H3)) (
JOIN (fun (j5 : (Bool × Unit) × (Unit) → Heap → Prop) =>
ifB (decide (a0.Stamp ≥ 1)) (
ifB (decide (a0.Stamp < a1)) (
ifB (decide (a0.Hurt ≥ 0)) (
ifB (decide (a0.Done ≥ 0)) (
CALL P [T_bool] n_ref17_marked [(T_G_api_Thing.enc a0)] H1 fun (x7 : Bool × Unit) H5 =>
j5 ((x7.1, ()), (())) H5) (
j5 ((false, ()), (())) H1)) (
j5 ((false, ()), (())) H1)) (
j5 ((false, ()), (())) H1)) (
j5 ((false, ()), (())) H1)) fun (y6 : (Bool × Unit) × (Unit)) H4 =>
Q (y6.1.1, ()) H4))
def h_ref17_alone : Hnt := (.seq .leaf (.seq (.seq (.reg ⟨[(23, T_bool)], [], [5, 6, 7, 8, 9, 10, 11, 12, 13, 14, 15, 16, 17, 18, 19, 20, 21, 22]⟩) .leaf) (.seq .leaf (.seq (.reg ⟨[(4, T_bool)], [], [31, 32, 33, 34, 35, 36, 37, 38, 39, 40, 41, 42, 43, 44, 45, 46, 47, 48, 49, 50, 51, 52, 53]⟩) .leaf))))
theorem e_ref17_alone (a0 : G_api_Thing) (a1 : Int) (H : Heap) (Q : Bool × Unit → Heap → Prop) : S_ref17_alone a0 a1 H Q = cFn C [2] Tryz.f76.ntmps Tryz.f76.results.toList [T_bool] (bodyOf Tryz.f76) h_ref17_alone [(T_G_api_Thing.enc a0), (.int .i64 a1)] H Q := by kernel_rfl
theorem c_ref17_alone {a0 : G_api_Thing} {a1 : Int} {H : Heap} {Q : Bool × Unit → Heap → Prop} (h : S_ref17_alone a0 a1 H Q) : CALL P [T_bool] n_ref17_alone [(T_G_api_Thing.enc a0), (.int .i64 a1)] H Q := call_print hE Tryz.func76 rfl (by kernel_rfl) (e_ref17_alone a0 a1 H Q) h

def S_slices_Index_int_int (a0 : Sl) (a1 : Int) (H : Heap) (Q : Int × Unit → Heap → Prop) : Prop :=
JOIN (fun (j1 : (Unit) × (Unit) → Heap → Prop) =>
LOOP (fun (r3 : (Int × Unit) × (Unit) → Heap → Prop) (s4 : (Int × Unit) × (Unit)) H2 =>
ifB (decide (s4.1.1 < (a0.len : Int))) (
IDX a0.p a0.len s4.1.1 1 fun b5 o6 =>
LD (T_int .i64) H2 b5 o6 fun (x7 : Int) =>
ifB (a1 == x7) (
Q (s4.1.1, ()) H2) (
r3 ((IntKind.wrap .i64 (s4.1.1 + 1), ()), (())) H2)) (
j1 ((()), (())) H2)) ((0, ()), (())) H) fun (y2 : (Unit) × (Unit)) H1 =>
Q ((-1), ()) H1
def h_slices_Index_int_int : Hnt := (.seq .leaf (.seq (.seq .leaf (.blk (some ⟨[], [], [4, 5, 8, 9, 10, 11, 12, 13, 14, 15, 16, 17, 18]⟩) (.loop ⟨[(8, (T_int .i64))], [], [4, 5, 9, 10, 11, 12, 13, 14, 15, 16, 17, 18]⟩ .leaf))) .leaf))
theorem e_slices_Index_int_int (a0 : Sl) (a1 : Int) (H : Heap) (Q : Int × Unit → Heap → Prop) : S_slices_Index_int_int a0 a1 H Q = cFn C [] Tryz.f77.ntmps Tryz.f77.results.toList [(T_int .i64)] (bodyOf Tryz.f77) h_slices_Index_int_int [a0.v, (.int .i64 a1)] H Q := by kernel_rfl
theorem c_slices_Index_int_int {a0 : Sl} {a1 : Int} {H : Heap} {Q : Int × Unit → Heap → Prop} (h : S_slices_Index_int_int a0 a1 H Q) : CALL P [(T_int .i64)] n_slices_Index_int_int [a0.v, (.int .i64 a1)] H Q := call_print hE Tryz.func77 rfl (by kernel_rfl) (e_slices_Index_int_int a0 a1 H Q) h

def S_zone_home (a0 : G_api_Thing) (H : Heap) (Q : G_api_Thing × Unit → Heap → Prop) : Prop :=
Q ((G_api_Thing.mk a0.Card a0.Owner a0.Place 0 0 (0, 0, 0, 0) 0 false), ()) H
def h_zone_home : Hnt := .leaf
theorem e_zone_home (a0 : G_api_Thing) (H : Heap) (Q : G_api_Thing × Unit → Heap → Prop) : S_zone_home a0 H Q = cFn C [1, 2] Tryz.f78.ntmps Tryz.f78.results.toList [T_G_api_Thing] (bodyOf Tryz.f78) h_zone_home [(T_G_api_Thing.enc a0)] H Q := by kernel_rfl
theorem c_zone_home {a0 : G_api_Thing} {H : Heap} {Q : G_api_Thing × Unit → Heap → Prop} (h : S_zone_home a0 H Q) : CALL P [T_G_api_Thing] n_zone_home [(T_G_api_Thing.enc a0)] H Q := call_print hE Tryz.func78 rfl (by kernel_rfl) (e_zone_home a0 H Q) h

def S_ref17_without (a0 : Sl) (a1 : Int) (H : Heap) (Q : Sl × Unit → Heap → Prop) : Prop :=
JOIN (fun (j1 : (Sl × Unit) × (Unit) → Heap → Prop) =>
LOOP (fun (r3 : (Sl × Int × Unit) × (Unit) → Heap → Prop) (s4 : (Sl × Int × Unit) × (Unit)) H2 =>
ifB (decide (s4.1.2.1 < (a0.len : Int))) (
IDX a0.p a0.len s4.1.2.1 1 fun b5 o6 =>
LD (T_int .i64) H2 b5 o6 fun (x7 : Int) =>
JOIN (fun (j8 : (Sl × Unit) × (Unit) → Heap → Prop) =>
ifB (x7 != a1) (
IDX a0.p a0.len s4.1.2.1 1 fun b10 o11 =>
LD (T_int .i64) H2 b10 o11 fun (x12 : Int) =>
APP T_sl (lenV s4.1.1.v + 1) (aAppE E [22, 22] s4.1.1.v 1 [(.int .i64 x12)] H2) fun (x13 : Sl) H4 =>
j8 ((x13, ()), (())) H4) (
j8 ((s4.1.1, ()), (())) H2)) fun (y9 : (Sl × Unit) × (Unit)) H3 =>
r3 ((y9.1.1, IntKind.wrap .i64 (s4.1.2.1 + 1), ()), (())) H3) (
j1 ((s4.1.1, ()), (())) H2)) (((Sl.mk none 0 0), 0, ()), (())) H) fun (y2 : (Sl × Unit) × (Unit)) H1 =>
Q (y2.1.1, ()) H1
def h_ref17_without : Hnt := (.seq .leaf (.seq .leaf (.seq (.seq .leaf (.blk (some ⟨[(5, T_sl)], [], [6, 7, 8, 9, 10, 11, 12, 13, 14, 15, 16, 17, 18, 19, 20, 21, 22, 23, 24, 25]⟩) (.loop ⟨[(5, T_sl), (6, (T_int .i64))], [], [7, 8, 9, 10, 11, 12, 13, 14, 15, 16, 17, 18, 19, 20, 21, 22, 23, 24, 25]⟩ (.seq .leaf (.seq (.blk none (.seq .leaf (.cond (some ⟨[(5, T_sl)], [], [19, 20, 21, 22, 23, 24, 25]⟩) .leaf .leaf))) .leaf))))) .leaf)))
theorem e_ref17_without (a0 : Sl) (a1 : Int) (H : Heap) (Q : Sl × Unit → Heap → Prop) : S_ref17_without a0 a1 H Q = cFn C [24] Tryz.f81.ntmps Tryz.f81.results.toList [T_sl] (bodyOf Tryz.f81) h_ref17_without [a0.v, (.int .i64 a1)] H Q := by kernel_rfl
theorem c_ref17_without {a0 : Sl} {a1 : Int} {H : Heap} {Q : Sl × Unit → Heap → Prop} (h : S_ref17_without a0 a1 H Q) : CALL P [T_sl] n_ref17_without [a0.v, (.int .i64 a1)] H Q := call_print hE Tryz.func81 rfl (by kernel_rfl) (e_ref17_without a0 a1 H Q) h

def S_ref17_home (a0 : G_api_Thing) (H : Heap) (Q : G_api_Thing × Unit → Heap → Prop) : Prop :=
Q ((G_api_Thing.mk a0.Card a0.Owner a0.Place 0 0 (0, 0, 0, 0) 0 false), ()) H
def h_ref17_home : Hnt := .leaf
theorem e_ref17_home (a0 : G_api_Thing) (H : Heap) (Q : G_api_Thing × Unit → Heap → Prop) : S_ref17_home a0 H Q = cFn C [1, 2] Tryz.f82.ntmps Tryz.f82.results.toList [T_G_api_Thing] (bodyOf Tryz.f82) h_ref17_home [(T_G_api_Thing.enc a0)] H Q := by kernel_rfl
theorem c_ref17_home {a0 : G_api_Thing} {H : Heap} {Q : G_api_Thing × Unit → Heap → Prop} (h : S_ref17_home a0 H Q) : CALL P [T_G_api_Thing] n_ref17_home [(T_G_api_Thing.enc a0)] H Q := call_print hE Tryz.func82 rfl (by kernel_rfl) (e_ref17_home a0 H Q) h

def S_slices_Collect_int (a0 : Value) (H : Heap) (Q : Sl × Unit → Heap → Prop) : Prop :=
CALL P [T_sl] n_slices_AppendSeq_int_int [((Sl.mk none 0 0)).v, a0] H fun (x1 : Sl × Unit) H1 =>
Q (x1.1, ()) H1
def h_slices_Collect_int : Hnt := .leaf
theorem e_slices_Collect_int (a0 : Value) (H : Heap) (Q : Sl × Unit → Heap → Prop) : S_slices_Collect_int a0 H Q = cFn C [] Tryz.f83.ntmps Tryz.f83.results.toList [T_sl] (bodyOf Tryz.f83) h_slices_Collect_int [a0] H Q := by kernel_rfl
theorem c_slices_Collect_int {a0 : Value} {H : Heap} {Q : Sl × Unit → Heap → Prop} (h : S_slices_Collect_int a0 H Q) : CALL P [T_sl] n_slices_Collect_int [a0] H Q := call_print hE Tryz.func83 rfl (by kernel_rfl) (e_slices_Collect_int a0 H Q) h

def S_slices_Sort_int_int (a0 : Sl) (H : Heap) (Q : Unit → Heap → Prop) : Prop :=
CALL P [(T_int .i64)] n_math_bits_Len [(.int .u64 (IntKind.wrap .u64 (a0.len : Int)))] H fun (x1 : Int × Unit) H1 =>
CALL P [] n_slices_pdqsortOrdered_int [a0.v, (.int .i64 0), (.int .i64 (a0.len : Int)), (.int .i64 x1.1)] H1 fun (x2 : Unit) H2 =>
Q (()) H2
def h_slices_Sort_int_int : Hnt := .leaf
theorem e_slices_Sort_int_int (a0 : Sl) (H : Heap) (Q : Unit → Heap → Prop) : S_slices_Sort_int_int a0 H Q = cFn C [] Tryz.f84.ntmps Tryz.f84.results.toList [] (bodyOf Tryz.f84) h_slices_Sort_int_int [a0.v] H Q := by kernel_rfl
theorem c_slices_Sort_int_int {a0 : Sl} {H : Heap} {Q : Unit → Heap → Prop} (h : S_slices_Sort_int_int a0 H Q) : CALL P [] n_slices_Sort_int_int [a0.v] H Q := call_print hE Tryz.func84 rfl (by kernel_rfl) (e_slices_Sort_int_int a0 H Q) h

def S_slices_Values_int_int_1 (a0 : Value) (c0 : Nat × Nat) (H : Heap) (Q : Unit → Heap → Prop) : Prop :=
LD T_sl H c0.1 c0.2 fun (x1 : Sl) =>
JOIN (fun (j2 : (Unit) × (Unit) → Heap → Prop) =>
LOOP (fun (r4 : (Int × Unit) × (Unit) → Heap → Prop) (s5 : (Int × Unit) × (Unit)) H2 =>
ifB (decide (s5.1.1 < (x1.len : Int))) (
IDX x1.p x1.len s5.1.1 1 fun b6 o7 =>
LD (T_int .i64) H2 b6 o7 fun (x8 : Int) =>
CALLV P [T_bool] a0 [(.int .i64 x8)] H2 fun (x9 : Bool × Unit) H3 =>
ifB (!x9.1) (
Q (()) H3) (
r4 ((IntKind.wrap .i64 (s5.1.1 + 1), ()), (())) H3)) (
j2 ((()), (())) H2)) ((0, ()), (())) H) fun (y3 : (Unit) × (Unit)) H1 =>
Q (()) H1
def h_slices_Values_int_int_1 : Hnt := (.seq .leaf (.blk (some ⟨[], [], [4, 7, 8, 9, 10, 11, 12, 13, 14, 15]⟩) (.loop ⟨[(7, (T_int .i64))], [], [4, 8, 9, 10, 11, 12, 13, 14, 15]⟩ .leaf)))
theorem e_slices_Values_int_int_1 (a0 : Value) (c0 : Nat × Nat) (H : Heap) (Q : Unit → Heap → Prop) : S_slices_Values_int_int_1 a0 c0 H Q = cFn C [] Tryz.f85.ntmps Tryz.f85.results.toList [] (bodyOf Tryz.f85) h_slices_Values_int_int_1 [a0, (.pointer (some ⟨c0.1, c0.2, none⟩))] H Q := by kernel_rfl
theorem c_slices_Values_int_int_1 {a0 : Value} {c0 : Nat × Nat} {H : Heap} {Q : Unit → Heap → Prop} (h : S_slices_Values_int_int_1 a0 c0 H Q) : CALL P [] n_slices_Values_int_int_1 [a0, (.pointer (some ⟨c0.1, c0.2, none⟩))] H Q := call_print hE Tryz.func85 rfl (by kernel_rfl) (e_slices_Values_int_int_1 a0 c0 H Q) h

def S_slices_AppendSeq_int_int (a0 : Sl) (a1 : Value) (H : Heap) (Q : Sl × Unit → Heap → Prop) : Prop :=
NEW H [(.slice a0.p a0.len a0.cap)] 1 fun H1 =>
JOIN (fun (j1 : (Unit) × (Unit) → Heap → Prop) =>
RFV P [(T_int .i64)] a1 H1 (fun lb3 (x4 : Int × Unit) H3 k5 =>
REQ (H3[H1.length]? = some (lb3 .ready none)) (
LD T_sl (H3.set H1.length (lb3 .busy none)) H.length 0 fun (x7 : Sl) =>
APP T_sl (lenV x7.v + 1) (aAppE E [22, 22] x7.v 1 [(.int .i64 x4.1)] (H3.set H1.length (lb3 .busy none))) fun (x8 : Sl) H5 =>
ST H5 H.length 0 [(.slice x8.p x8.len x8.cap)] fun H6 =>
k5 .normal H6)) fun (e6 : Ex) H4 =>
(e6 = .normal ∧ (
j1 ((()), (())) H4)) ∨ (
False)) fun (y2 : (Unit) × (Unit)) H2 =>
LD T_sl H2 H.length 0 fun (x9 : Sl) =>
Q (x9, ()) H2
def h_slices_AppendSeq_int_int : Hnt := (.seq .leaf (.seq (.seq .leaf (.blk (some ⟨[], [], [5, 8, 9, 10, 11]⟩) (.blk (some ⟨[(7, (T_int .i64))], [], []⟩) .leaf))) .leaf))
theorem e_slices_AppendSeq_int_int (a0 : Sl) (a1 : Value) (H : Heap) (Q : Sl × Unit → Heap → Prop) : S_slices_AppendSeq_int_int a0 a1 H Q = cFn C [10] Tryz.f96.ntmps Tryz.f96.results.toList [T_sl] (bodyOf Tryz.f96) h_slices_AppendSeq_int_int [a0.v, a1] H Q := by kernel_rfl
theorem c_slices_AppendSeq_int_int {a0 : Sl} {a1 : Value} {H : Heap} {Q : Sl × Unit → Heap → Prop} (h : S_slices_AppendSeq_int_int a0 a1 H Q) : CALL P [T_sl] n_slices_AppendSeq_int_int [a0.v, a1] H Q := call_print hE Tryz.func96 rfl (by kernel_rfl) (e_slices_AppendSeq_int_int a0 a1 H Q) h

def S_cmp_Less_int (a0 : Int) (a1 : Int) (H : Heap) (Q : Bool × Unit → Heap → Prop) : Prop :=
JOIN (fun (j1 : (Bool × Unit) × (Unit) → Heap → Prop) =>
CALL P [T_bool] n_cmp_isNaN_int [(.int .i64 a0)] H fun (x3 : Bool × Unit) H2 =>
ifB x3.1 (
CALL P [T_bool] n_cmp_isNaN_int [(.int .i64 a1)] H2 fun (x4 : Bool × Unit) H3 =>
ifB (!x4.1) (
j1 ((true, ()), (())) H3) (
j1 ((decide (a0 < a1), ()), (())) H3)) (
j1 ((decide (a0 < a1), ()), (())) H2)) fun (y2 : (Bool × Unit) × (Unit)) H1 =>
Q (y2.1.1, ()) H1
def h_cmp_Less_int : Hnt := (.seq .leaf (.seq (.reg ⟨[(4, T_bool)], [], [5, 6, 7, 8, 9, 10, 11, 12, 13, 14, 15, 16]⟩) .leaf))
theorem e_cmp_Less_int (a0 : Int) (a1 : Int) (H : Heap) (Q : Bool × Unit → Heap → Prop) : S_cmp_Less_int a0 a1 H Q = cFn C [] Tryz.f109.ntmps Tryz.f109.results.toList [T_bool] (bodyOf Tryz.f109) h_cmp_Less_int [(.int .i64 a0), (.int .i64 a1)] H Q := by kernel_rfl
theorem c_cmp_Less_int {a0 : Int} {a1 : Int} {H : Heap} {Q : Bool × Unit → Heap → Prop} (h : S_cmp_Less_int a0 a1 H Q) : CALL P [T_bool] n_cmp_Less_int [(.int .i64 a0), (.int .i64 a1)] H Q := call_print hE Tryz.func109 rfl (by kernel_rfl) (e_cmp_Less_int a0 a1 H Q) h

def S_cmp_isNaN_int (a0 : Int) (H : Heap) (Q : Bool × Unit → Heap → Prop) : Prop :=
Q (a0 != a0, ()) H
def h_cmp_isNaN_int : Hnt := .leaf
theorem e_cmp_isNaN_int (a0 : Int) (H : Heap) (Q : Bool × Unit → Heap → Prop) : S_cmp_isNaN_int a0 H Q = cFn C [] Tryz.f116.ntmps Tryz.f116.results.toList [T_bool] (bodyOf Tryz.f116) h_cmp_isNaN_int [(.int .i64 a0)] H Q := by kernel_rfl
theorem c_cmp_isNaN_int {a0 : Int} {H : Heap} {Q : Bool × Unit → Heap → Prop} (h : S_cmp_isNaN_int a0 H Q) : CALL P [T_bool] n_cmp_isNaN_int [(.int .i64 a0)] H Q := call_print hE Tryz.func116 rfl (by kernel_rfl) (e_cmp_isNaN_int a0 H Q) h
end Zv
end Go.Proofs.YthgfjbafhjkhnaaGreat
