/- Printed by gen2.py: what the functions come to. -/
import Derived.Test.YtkijgkagfkapjaaGreatDoorZT
import Derived.KernelRfl
namespace Go.Proofs.YtkijgkagfkapjaaGreatDoor
open Go Zq
namespace Zv
set_option maxRecDepth 100000
set_option linter.unusedVariables false
def S_law19_LayerNone (a0 : G_law19_Table) (a1 : G_api_Standing) (a2 : Int) (H : Heap) (Q : Bool × Unit → Heap → Prop) : Prop :=
JOIN (fun (j1 : (Bool × Unit) × (Unit) → Heap → Prop) =>
CALL P [T_bool] n_law19_none [(.pointer none), (T_G_law19_Table.enc a0), (T_G_api_Standing.enc a1), (.int .i64 a2)] H fun (x3 : Bool × Unit) H2 =>
ifB x3.1 (
NEW H2 [(.bool false), (.bool false), (.int .i64 0), (.string (ByteArray.mk #[])), (.int .u8 0), (.int .u8 0), (.int .i64 0), (.int .i64 0), (.int .i64 0), (.int .u16 0), (.bool false), (.slice none 0 0), (.string (ByteArray.mk #[])), (.int .u8 0), (.int .u8 0), (.int .i64 0), (.int .i64 0), (.int .i64 0), (.int .u16 0), (.bool false), (.slice none 0 0), (.string (ByteArray.mk #[])), (.int .u8 0), (.int .u8 0), (.int .i64 0), (.int .i64 0), (.int .i64 0), (.int .u16 0), (.bool false), (.slice none 0 0), (.string (ByteArray.mk #[])), (.int .u8 0), (.int .u8 0), (.int .i64 0), (.int .i64 0), (.int .i64 0), (.int .u16 0), (.bool false), (.slice none 0 0), (.string (ByteArray.mk #[])), (.int .u8 0), (.int .u8 0), (.int .i64 0), (.int .i64 0), (.int .i64 0), (.int .u16 0), (.bool false), (.slice none 0 0), (.string (ByteArray.mk #[])), (.int .u8 0), (.int .u8 0), (.int .i64 0), (.int .i64 0), (.int .i64 0), (.int .u16 0), (.bool false), (.slice none 0 0), (.string (ByteArray.mk #[])), (.int .u8 0), (.int .u8 0), (.int .i64 0), (.int .i64 0), (.int .i64 0), (.int .u16 0), (.bool false), (.slice none 0 0), (.string (ByteArray.mk #[])), (.int .u8 0), (.int .u8 0), (.int .i64 0), (.int .i64 0), (.int .i64 0), (.int .u16 0), (.bool false), (.slice none 0 0), (.string (ByteArray.mk #[])), (.int .u8 0), (.int .u8 0), (.int .i64 0), (.int .i64 0), (.int .i64 0), (.int .u16 0), (.bool false), (.slice none 0 0), (.string (ByteArray.mk #[])), (.int .u8 0), (.int .u8 0), (.int .i64 0), (.int .i64 0), (.int .i64 0), (.int .u16 0), (.bool false), (.slice none 0 0), (.string (ByteArray.mk #[])), (.int .u8 0), (.int .u8 0), (.int .i64 0), (.int .i64 0), (.int .i64 0), (.int .u16 0), (.bool false), (.slice none 0 0), (.string (ByteArray.mk #[])), (.int .u8 0), (.int .u8 0), (.int .i64 0), (.int .i64 0), (.int .i64 0), (.int .u16 0), (.bool false), (.slice none 0 0), (.string (ByteArray.mk #[])), (.int .u8 0), (.int .u8 0), (.int .i64 0), (.int .i64 0), (.int .i64 0), (.int .u16 0), (.bool false), (.slice none 0 0), (.string (ByteArray.mk #[])), (.int .u8 0), (.int .u8 0), (.int .i64 0), (.int .i64 0), (.int .i64 0), (.int .u16 0), (.bool false), (.slice none 0 0), (.string (ByteArray.mk #[])), (.int .u8 0), (.int .u8 0), (.int .i64 0), (.int .i64 0), (.int .i64 0), (.int .u16 0), (.bool false), (.slice none 0 0), (.string (ByteArray.mk #[])), (.int .u8 0), (.int .u8 0), (.int .i64 0), (.int .i64 0), (.int .i64 0), (.int .u16 0), (.bool false), (.slice none 0 0), (.string (ByteArray.mk #[])), (.int .u8 0), (.int .u8 0), (.int .i64 0), (.int .i64 0), (.int .i64 0), (.int .u16 0), (.bool false), (.slice none 0 0), (.string (ByteArray.mk #[])), (.int .u8 0), (.int .u8 0), (.int .i64 0), (.int .i64 0), (.int .i64 0), (.int .u16 0), (.bool false), (.slice none 0 0), (.string (ByteArray.mk #[])), (.int .u8 0), (.int .u8 0), (.int .i64 0), (.int .i64 0), (.int .i64 0), (.int .u16 0), (.bool false), (.slice none 0 0), (.string (ByteArray.mk #[])), (.int .u8 0), (.int .u8 0), (.int .i64 0), (.int .i64 0), (.int .i64 0), (.int .u16 0), (.bool false), (.slice none 0 0), (.string (ByteArray.mk #[])), (.int .u8 0), (.int .u8 0), (.int .i64 0), (.int .i64 0), (.int .i64 0), (.int .u16 0), (.bool false), (.slice none 0 0), (.string (ByteArray.mk #[])), (.int .u8 0), (.int .u8 0), (.int .i64 0), (.int .i64 0), (.int .i64 0), (.int .u16 0), (.bool false), (.slice none 0 0), (.string (ByteArray.mk #[])), (.int .u8 0), (.int .u8 0), (.int .i64 0), (.int .i64 0), (.int .i64 0), (.int .u16 0), (.bool false), (.slice none 0 0), (.string (ByteArray.mk #[])), (.int .u8 0), (.int .u8 0), (.int .i64 0), (.int .i64 0), (.int .i64 0), (.int .u16 0), (.bool false), (.slice none 0 0), (.string (ByteArray.mk #[])), (.int .u8 0), (.int .u8 0), (.int .i64 0), (.int .i64 0), (.int .i64 0), (.int .u16 0), (.bool false), (.slice none 0 0), (.string (ByteArray.mk #[])), (.int .u8 0), (.int .u8 0), (.int .i64 0), (.int .i64 0), (.int .i64 0), (.int .u16 0), (.bool false), (.slice none 0 0), (.string (ByteArray.mk #[])), (.int .u8 0), (.int .u8 0), (.int .i64 0), (.int .i64 0), (.int .i64 0), (.int .u16 0), (.bool false), (.slice none 0 0), (.string (ByteArray.mk #[])), (.int .u8 0), (.int .u8 0), (.int .i64 0), (.int .i64 0), (.int .i64 0), (.int .u16 0), (.bool false), (.slice none 0 0), (.string (ByteArray.mk #[])), (.int .u8 0), (.int .u8 0), (.int .i64 0), (.int .i64 0), (.int .i64 0), (.int .u16 0), (.bool false), (.slice none 0 0), (.string (ByteArray.mk #[])), (.int .u8 0), (.int .u8 0), (.int .i64 0), (.int .i64 0), (.int .i64 0), (.int .u16 0), (.bool false), (.slice none 0 0), (.string (ByteArray.mk #[])), (.int .u8 0), (.int .u8 0), (.int .i64 0), (.int .i64 0), (.int .i64 0), (.int .u16 0), (.bool false), (.slice none 0 0), (.string (ByteArray.mk #[])), (.int .u8 0), (.int .u8 0), (.int .i64 0), (.int .i64 0), (.int .i64 0), (.int .u16 0), (.bool false), (.slice none 0 0), (.string (ByteArray.mk #[])), (.int .u8 0), (.int .u8 0), (.int .i64 0), (.int .i64 0), (.int .i64 0), (.int .u16 0), (.bool false), (.slice none 0 0), (.string (ByteArray.mk #[])), (.int .u8 0), (.int .u8 0), (.int .i64 0), (.int .i64 0), (.int .i64 0), (.int .u16 0), (.bool false), (.slice none 0 0), (.string (ByteArray.mk #[])), (.int .u8 0), (.int .u8 0), (.int .i64 0), (.int .i64 0), (.int .i64 0), (.int .u16 0), (.bool false), (.slice none 0 0), (.string (ByteArray.mk #[])), (.int .u8 0), (.int .u8 0), (.int .i64 0), (.int .i64 0), (.int .i64 0), (.int .u16 0), (.bool false), (.slice none 0 0), (.string (ByteArray.mk #[])), (.int .u8 0), (.int .u8 0), (.int .i64 0), (.int .i64 0), (.int .i64 0), (.int .u16 0), (.bool false), (.slice none 0 0), (.string (ByteArray.mk #[])), (.int .u8 0), (.int .u8 0), (.int .i64 0), (.int .i64 0), (.int .i64 0), (.int .u16 0), (.bool false), (.slice none 0 0), (.string (ByteArray.mk #[])), (.int .u8 0), (.int .u8 0), (.int .i64 0), (.int .i64 0), (.int .i64 0), (.int .u16 0), (.bool false), (.slice none 0 0), (.string (ByteArray.mk #[])), (.int .u8 0), (.int .u8 0), (.int .i64 0), (.int .i64 0), (.int .i64 0), (.int .u16 0), (.bool false), (.slice none 0 0), (.string (ByteArray.mk #[])), (.int .u8 0), (.int .u8 0), (.int .i64 0), (.int .i64 0), (.int .i64 0), (.int .u16 0), (.bool false), (.slice none 0 0), (.string (ByteArray.mk #[])), (.int .u8 0), (.int .u8 0), (.int .i64 0), (.int .i64 0), (.int .i64 0), (.int .u16 0), (.bool false), (.slice none 0 0), (.string (ByteArray.mk #[])), (.int .u8 0), (.int .u8 0), (.int .i64 0), (.int .i64 0), (.int .i64 0), (.int .u16 0), (.bool false), (.slice none 0 0), (.string (ByteArray.mk #[])), (.int .u8 0), (.int .u8 0), (.int .i64 0), (.int .i64 0), (.int .i64 0), (.int .u16 0), (.bool false), (.slice none 0 0), (.string (ByteArray.mk #[])), (.int .u8 0), (.int .u8 0), (.int .i64 0), (.int .i64 0), (.int .i64 0), (.int .u16 0), (.bool false), (.slice none 0 0), (.string (ByteArray.mk #[])), (.int .u8 0), (.int .u8 0), (.int .i64 0), (.int .i64 0), (.int .i64 0), (.int .u16 0), (.bool false), (.slice none 0 0), (.string (ByteArray.mk #[])), (.int .u8 0), (.int .u8 0), (.int .i64 0), (.int .i64 0), (.int .i64 0), (.int .u16 0), (.bool false), (.slice none 0 0), (.string (ByteArray.mk #[])), (.int .u8 0), (.int .u8 0), (.int .i64 0), (.int .i64 0), (.int .i64 0), (.int .u16 0), (.bool false), (.slice none 0 0), (.string (ByteArray.mk #[])), (.int .u8 0), (.int .u8 0), (.int .i64 0), (.int .i64 0), (.int .i64 0), (.int .u16 0), (.bool false), (.slice none 0 0), (.string (ByteArray.mk #[])), (.int .u8 0), (.int .u8 0), (.int .i64 0), (.int .i64 0), (.int .i64 0), (.int .u16 0), (.bool false), (.slice none 0 0), (.string (ByteArray.mk #[])), (.int .u8 0), (.int .u8 0), (.int .i64 0), (.int .i64 0), (.int .i64 0), (.int .u16 0), (.bool false), (.slice none 0 0), (.string (ByteArray.mk #[])), (.int .u8 0), (.int .u8 0), (.int .i64 0), (.int .i64 0), (.int .i64 0), (.int .u16 0), (.bool false), (.slice none 0 0), (.string (ByteArray.mk #[])), (.int .u8 0), (.int .u8 0), (.int .i64 0), (.int .i64 0), (.int .i64 0), (.int .u16 0), (.bool false), (.slice none 0 0), (.string (ByteArray.mk #[])), (.int .u8 0), (.int .u8 0), (.int .i64 0), (.int .i64 0), (.int .i64 0), (.int .u16 0), (.bool false), (.slice none 0 0), (.string (ByteArray.mk #[])), (.int .u8 0), (.int .u8 0), (.int .i64 0), (.int .i64 0), (.int .i64 0), (.int .u16 0), (.bool false), (.slice none 0 0), (.string (ByteArray.mk #[])), (.int .u8 0), (.int .u8 0), (.int .i64 0), (.int .i64 0), (.int .i64 0), (.int .u16 0), (.bool false), (.slice none 0 0), (.string (ByteArray.mk #[])), (.int .u8 0), (.int .u8 0), (.int .i64 0), (.int .i64 0), (.int .i64 0), (.int .u16 0), (.bool false), (.slice none 0 0), (.string (ByteArray.mk #[])), (.int .u8 0), (.int .u8 0), (.int .i64 0), (.int .i64 0), (.int .i64 0), (.int .u16 0), (.bool false), (.slice none 0 0), (.string (ByteArray.mk #[])), (.int .u8 0), (.int .u8 0), (.int .i64 0), (.int .i64 0), (.int .i64 0), (.int .u16 0), (.bool false), (.slice none 0 0), (.string (ByteArray.mk #[])), (.int .u8 0), (.int .u8 0), (.int .i64 0), (.int .i64 0), (.int .i64 0), (.int .u16 0), (.bool false), (.slice none 0 0), (.string (ByteArray.mk #[])), (.int .u8 0), (.int .u8 0), (.int .i64 0), (.int .i64 0), (.int .i64 0), (.int .u16 0), (.bool false), (.slice none 0 0), (.string (ByteArray.mk #[])), (.int .u8 0), (.int .u8 0), (.int .i64 0), (.int .i64 0), (.int .i64 0), (.int .u16 0), (.bool false), (.slice none 0 0), (.string (ByteArray.mk #[])), (.int .u8 0), (.int .u8 0), (.int .i64 0), (.int .i64 0), (.int .i64 0), (.int .u16 0), (.bool false), (.slice none 0 0), (.string (ByteArray.mk #[])), (.int .u8 0), (.int .u8 0), (.int .i64 0), (.int .i64 0), (.int .i64 0), (.int .u16 0), (.bool false), (.slice none 0 0), (.string (ByteArray.mk #[])), (.string (ByteArray.mk #[])), (.string (ByteArray.mk #[])), (.string (ByteArray.mk #[])), (.string (ByteArray.mk #[])), (.string (ByteArray.mk #[])), (.string (ByteArray.mk #[])), (.string (ByteArray.mk #[])), (.string (ByteArray.mk #[])), (.int .u8 0), (.string (ByteArray.mk #[])), (.int .i64 0), (.int .i64 0), (.int .u8 0), (.string (ByteArray.mk #[])), (.int .i64 0), (.int .i64 0), (.int .u8 0), (.string (ByteArray.mk #[])), (.int .i64 0), (.int .i64 0), (.int .u8 0), (.string (ByteArray.mk #[])), (.int .i64 0), (.int .i64 0), (.int .u8 0), (.string (ByteArray.mk #[])), (.int .i64 0), (.int .i64 0)] 608 fun H3 =>
CALL P [T_bool] n_law19_none [(.pointer (some ⟨H2.length, 0, none⟩)), (T_G_law19_Table.enc a0), (T_G_api_Standing.enc a1), (.int .i64 a2)] H3 fun (x4 : Bool × Unit) H4 =>
ifB x4.1 (
CALL P [T_bool] n_law19_awake [] H4 fun (x5 : Bool × Unit) H5 =>
j1 ((x5.1, ()), (())) H5) (
j1 ((false, ()), (())) H4)) (
j1 ((false, ()), (())) H2)) fun (y2 : (Bool × Unit) × (Unit)) H1 =>
Q (y2.1.1, ()) H1
def h_law19_LayerNone : Hnt := (.seq .leaf (.seq (.reg ⟨[(6, T_bool)], [], [7, 8, 9, 10, 11, 12, 13, 14, 15, 16, 17, 18, 19, 20, 21]⟩) .leaf))
theorem e_law19_LayerNone (a0 : G_law19_Table) (a1 : G_api_Standing) (a2 : Int) (H : Heap) (Q : Bool × Unit → Heap → Prop) : S_law19_LayerNone a0 a1 a2 H Q = cFn C [3, 4] Tryz.f6.ntmps Tryz.f6.results.toList [T_bool] (bodyOf Tryz.f6) h_law19_LayerNone [(T_G_law19_Table.enc a0), (T_G_api_Standing.enc a1), (.int .i64 a2)] H Q := by kernel_rfl
theorem c_law19_LayerNone {a0 : G_law19_Table} {a1 : G_api_Standing} {a2 : Int} {H : Heap} {Q : Bool × Unit → Heap → Prop} (h : S_law19_LayerNone a0 a1 a2 H Q) : CALL P [T_bool] n_law19_LayerNone [(T_G_law19_Table.enc a0), (T_G_api_Standing.enc a1), (.int .i64 a2)] H Q := call_print hE Tryz.func6 rfl (by kernel_rfl) (e_law19_LayerNone a0 a1 a2 H Q) h

def S_layer_All (a0 : Option Addr) (a1 : Sl) (a2 : Sl) (a3 : Int) (H : Heap) (Q : Sl × Sl × Int × Unit → Heap → Prop) : Prop :=
CALL P [T_sl, (T_int .i64)] n_layer_Effects [(.pointer a0), a1.v, a2.v, (.int .i64 a3)] H fun (x1 : Sl × Int × Unit) H1 =>
ifB (x1.2.1 != 0) (
Q ((Sl.mk none 0 0), (Sl.mk none 0 0), x1.2.1, ()) H1) (
CALL P [T_G_layer_place, (T_int .i64)] n_layer_setup [(.pointer a0), a1.v, a2.v] H1 fun (x2 : G_layer_place × Int × Unit) H2 =>
CALL P [T_sl] n_slices_Clone_api_Feature_api_Feature [a2.v] H2 fun (x3 : Sl × Unit) H3 =>
JOIN (fun (j4 : (Sl × Sl × Unit) × (Unit) → Heap → Prop) =>
LOOP (fun (r6 : (Sl × Sl × Sl × Unit) × (Unit) → Heap → Prop) (s7 : (Sl × Sl × Sl × Unit) × (Unit)) H5 =>
ifB (decide ((s7.1.1.len : Int) > 0)) (
CALL P [(T_int .i64)] n_layer_place_next [(T_G_layer_place.enc x2.1), s7.1.2.1.v, s7.1.1.v] H5 fun (x8 : Int × Unit) H6 =>
IDX s7.1.1.p s7.1.1.len x8.1 10 fun b9 o10 =>
LD T_G_api_Standing H6 b9 o10 fun (x11 : G_api_Standing) =>
CALL P [T_sl] n_layer_place_apply [(T_G_layer_place.enc x2.1), s7.1.2.1.v, (T_G_api_Standing.enc x11)] H6 fun (x12 : Sl × Unit) H7 =>
IDX s7.1.1.p s7.1.1.len x8.1 10 fun b13 o14 =>
LD T_G_api_Standing H7 b13 o14 fun (x15 : G_api_Standing) =>
GEN T_sl (aAppX E [42, 42] s7.1.2.2.1.v 1 (T_G_api_Standing.cells x15) H7) fun (x16 : Sl) H8 =>
CALL P [T_sl] n_slices_Clone_api_Standing_api_Standing [s7.1.1.v] H8 fun (x17 : Sl × Unit) H9 =>
CALL P [T_sl] n_slices_Delete_api_Standing_api_Standing [x17.1.v, (.int .i64 x8.1), (.int .i64 (IntKind.wrap .i64 (x8.1 + 1)))] H9 fun (x18 : Sl × Unit) H10 =>
r6 ((x18.1, x12.1, x16, ()), (())) H10) (
j4 ((s7.1.2.1, s7.1.2.2.1, ()), (())) H5)) ((x1.1, x3.1, (Sl.mk none 0 0), ()), (())) H3) fun (y5 : (Sl × Sl × Unit) × (Unit)) H4 =>
Q (y5.1.1, y5.1.2.1, 0, ()) H4)
def h_layer_All : Hnt := (.seq .leaf (.seq .leaf (.seq .leaf (.seq .leaf (.seq .leaf (.seq .leaf (.seq (.blk (some ⟨[(15, T_sl), (16, T_sl)], [], [11, 17, 38, 39, 40, 41, 42, 43, 44, 45, 46, 47, 48, 49, 50, 51, 52, 53, 54, 55, 56, 57, 58, 59, 60, 61, 62, 63, 64]⟩) (.loop ⟨[(11, T_sl), (15, T_sl), (16, T_sl)], [], [17, 38, 39, 40, 41, 42, 43, 44, 45, 46, 47, 48, 49, 50, 51, 52, 53, 54, 55, 56, 57, 58, 59, 60, 61, 62, 63, 64]⟩ .leaf)) .leaf)))))))
theorem e_layer_All (a0 : Option Addr) (a1 : Sl) (a2 : Sl) (a3 : Int) (H : Heap) (Q : Sl × Sl × Int × Unit → Heap → Prop) : S_layer_All a0 a1 a2 a3 H Q = cFn C [13, 57] Tryz.f15.ntmps Tryz.f15.results.toList [T_sl, T_sl, (T_int .i64)] (bodyOf Tryz.f15) h_layer_All [(.pointer a0), a1.v, a2.v, (.int .i64 a3)] H Q := by kernel_rfl
theorem c_layer_All {a0 : Option Addr} {a1 : Sl} {a2 : Sl} {a3 : Int} {H : Heap} {Q : Sl × Sl × Int × Unit → Heap → Prop} (h : S_layer_All a0 a1 a2 a3 H Q) : CALL P [T_sl, T_sl, (T_int .i64)] n_layer_All [(.pointer a0), a1.v, a2.v, (.int .i64 a3)] H Q := call_print hE Tryz.func15 rfl (by kernel_rfl) (e_layer_All a0 a1 a2 a3 H Q) h

def S_layer_Effects (a0 : Option Addr) (a1 : Sl) (a2 : Sl) (a3 : Int) (H : Heap) (Q : Sl × Int × Unit → Heap → Prop) : Prop :=
CALL P [T_G_layer_place, (T_int .i64)] n_layer_setup [(.pointer a0), a1.v, a2.v] H fun (x1 : G_layer_place × Int × Unit) H1 =>
ifB (x1.2.1 != 0) (
Q ((Sl.mk none 0 0), x1.2.1, ()) H1) (
JOIN (fun (j2 : (Bool × Unit) × (Unit) → Heap → Prop) =>
ifB (decide (a3 < 1)) (
j2 ((true, ()), (())) H1) (
j2 ((decide (a3 > 5), ()), (())) H1)) fun (y3 : (Bool × Unit) × (Unit)) H2 =>
ifB y3.1.1 (
Q ((Sl.mk none 0 0), 2, ()) H2) (
CALL P [T_sl] n_layer_place_effects [(T_G_layer_place.enc x1.1), a2.v, (.int .i64 a3)] H2 fun (x4 : Sl × Unit) H3 =>
Q (x4.1, 0, ()) H3))
def h_layer_Effects : Hnt := (.seq .leaf (.seq .leaf (.seq (.blk none (.seq .leaf (.cond none .leaf (.seq (.reg ⟨[(23, T_bool)], [], [24, 25, 26, 27, 28, 29]⟩) .leaf)))) .leaf)))
theorem e_layer_Effects (a0 : Option Addr) (a1 : Sl) (a2 : Sl) (a3 : Int) (H : Heap) (Q : Sl × Int × Unit → Heap → Prop) : S_layer_Effects a0 a1 a2 a3 H Q = cFn C [10] Tryz.f19.ntmps Tryz.f19.results.toList [T_sl, (T_int .i64)] (bodyOf Tryz.f19) h_layer_Effects [(.pointer a0), a1.v, a2.v, (.int .i64 a3)] H Q := by kernel_rfl
theorem c_layer_Effects {a0 : Option Addr} {a1 : Sl} {a2 : Sl} {a3 : Int} {H : Heap} {Q : Sl × Int × Unit → Heap → Prop} (h : S_layer_Effects a0 a1 a2 a3 H Q) : CALL P [T_sl, (T_int .i64)] n_layer_Effects [(.pointer a0), a1.v, a2.v, (.int .i64 a3)] H Q := call_print hE Tryz.func19 rfl (by kernel_rfl) (e_layer_Effects a0 a1 a2 a3 H Q) h

def S_book_Book_Find (a0 : Option Addr) (a1 : ByteArray) (H : Heap) (Q : Int × Int × Unit → Heap → Prop) : Prop :=
CALL P [T_bool] n_book_Book_none [(.pointer a0)] H fun (x1 : Bool × Unit) H1 =>
ifB x1.1 (
Q (0, 1, ()) H1) (
CALL P [(T_int .i64)] n_book_Book_place [(.pointer a0), (.string a1)] H1 fun (x2 : Int × Unit) H2 =>
JOIN (fun (j3 : (Bool × Unit) × (Unit) → Heap → Prop) =>
NIL a0 fun b5 o6 =>
LD T_bool H2 b5 (o6 + 1) fun (x7 : Bool) =>
ifB x7 (
j3 ((decide (x2.1 ≥ 0), ()), (())) H2) (
j3 ((false, ()), (())) H2)) fun (y4 : (Bool × Unit) × (Unit)) H3 =>
ifB y4.1.1 (
Q (IntKind.wrap .i64 (x2.1 + 1), 0, ()) H3) (
Q (0, 6, ()) H3))
def h_book_Book_Find : Hnt := (.seq .leaf (.seq .leaf (.seq (.seq .leaf (.seq (.reg ⟨[(19, T_bool)], [], [12, 13, 14, 15, 16, 17, 18]⟩) .leaf)) .leaf)))
theorem e_book_Book_Find (a0 : Option Addr) (a1 : ByteArray) (H : Heap) (Q : Int × Int × Unit → Heap → Prop) : S_book_Book_Find a0 a1 H Q = cFn C [] Tryz.f20.ntmps Tryz.f20.results.toList [(T_int .i64), (T_int .i64)] (bodyOf Tryz.f20) h_book_Book_Find [(.pointer a0), (.string a1)] H Q := by kernel_rfl
theorem c_book_Book_Find {a0 : Option Addr} {a1 : ByteArray} {H : Heap} {Q : Int × Int × Unit → Heap → Prop} (h : S_book_Book_Find a0 a1 H Q) : CALL P [(T_int .i64), (T_int .i64)] n_book_Book_Find [(.pointer a0), (.string a1)] H Q := call_print hE Tryz.func20 rfl (by kernel_rfl) (e_book_Book_Find a0 a1 H Q) h

def S_layer_Depends (a0 : Option Addr) (a1 : Sl) (a2 : Sl) (a3 : G_api_Standing) (a4 : G_api_Standing) (H : Heap) (Q : Bool × Int × Unit → Heap → Prop) : Prop :=
CALL P [T_G_layer_place, (T_int .i64)] n_layer_setup [(.pointer a0), a1.v, a2.v] H fun (x1 : G_layer_place × Int × Unit) H1 =>
ifB (x1.2.1 != 0) (
Q (false, x1.2.1, ()) H1) (
NEW H1 [(.int .i64 a3.Thing), (.int .i64 a3.Place), (.int .u8 a3.What.When), (.int .u8 a3.What.Verb), (.int .u8 a3.What.Whom), (.int .i64 a3.What.Count), (.int .u8 a3.What.Suit), (.int .u8 a3.What.Trait), (.int .u8 a3.What.Mark), (.string a3.What.Name), (.int .i64 a4.Thing), (.int .i64 a4.Place), (.int .u8 a4.What.When), (.int .u8 a4.What.Verb), (.int .u8 a4.What.Whom), (.int .i64 a4.What.Count), (.int .u8 a4.What.Suit), (.int .u8 a4.What.Trait), (.int .u8 a4.What.Mark), (.string a4.What.Name)] 10 fun H2 =>
CALL P [T_bool] n_layer_place_listed [(T_G_layer_place.enc x1.1), ((Sl.mk (some ⟨H1.length, 0, none⟩) 2 2)).v] H2 fun (x2 : Bool × Unit) H3 =>
ifB (!x2.1) (
Q (false, 2, ()) H3) (
CALL P [T_bool] n_layer_place_depends [(T_G_layer_place.enc x1.1), a2.v, (T_G_api_Standing.enc a3), (T_G_api_Standing.enc a4)] H3 fun (x3 : Bool × Unit) H4 =>
Q (x3.1, 0, ()) H4))
def h_layer_Depends : Hnt := .leaf
theorem e_layer_Depends (a0 : Option Addr) (a1 : Sl) (a2 : Sl) (a3 : G_api_Standing) (a4 : G_api_Standing) (H : Heap) (Q : Bool × Int × Unit → Heap → Prop) : S_layer_Depends a0 a1 a2 a3 a4 H Q = cFn C [8, 9, 12] Tryz.f21.ntmps Tryz.f21.results.toList [T_bool, (T_int .i64)] (bodyOf Tryz.f21) h_layer_Depends [(.pointer a0), a1.v, a2.v, (T_G_api_Standing.enc a3), (T_G_api_Standing.enc a4)] H Q := by kernel_rfl
theorem c_layer_Depends {a0 : Option Addr} {a1 : Sl} {a2 : Sl} {a3 : G_api_Standing} {a4 : G_api_Standing} {H : Heap} {Q : Bool × Int × Unit → Heap → Prop} (h : S_layer_Depends a0 a1 a2 a3 a4 H Q) : CALL P [T_bool, (T_int .i64)] n_layer_Depends [(.pointer a0), a1.v, a2.v, (T_G_api_Standing.enc a3), (T_G_api_Standing.enc a4)] H Q := call_print hE Tryz.func21 rfl (by kernel_rfl) (e_layer_Depends a0 a1 a2 a3 a4 H Q) h

def S_layer_Next (a0 : Option Addr) (a1 : Sl) (a2 : Sl) (a3 : Sl) (H : Heap) (Q : Int × Int × Unit → Heap → Prop) : Prop :=
CALL P [T_G_layer_place, (T_int .i64)] n_layer_setup [(.pointer a0), a1.v, a2.v] H fun (x1 : G_layer_place × Int × Unit) H1 =>
ifB (x1.2.1 != 0) (
Q (0, x1.2.1, ()) H1) (
CALL P [T_bool] n_layer_place_listed [(T_G_layer_place.enc x1.1), a3.v] H1 fun (x2 : Bool × Unit) H2 =>
ifB (!x2.1) (
Q (0, 2, ()) H2) (
CALL P [(T_int .i64)] n_layer_place_next [(T_G_layer_place.enc x1.1), a2.v, a3.v] H2 fun (x3 : Int × Unit) H3 =>
Q (x3.1, 0, ()) H3))
def h_layer_Next : Hnt := .leaf
theorem e_layer_Next (a0 : Option Addr) (a1 : Sl) (a2 : Sl) (a3 : Sl) (H : Heap) (Q : Int × Int × Unit → Heap → Prop) : S_layer_Next a0 a1 a2 a3 H Q = cFn C [10] Tryz.f22.ntmps Tryz.f22.results.toList [(T_int .i64), (T_int .i64)] (bodyOf Tryz.f22) h_layer_Next [(.pointer a0), a1.v, a2.v, a3.v] H Q := by kernel_rfl
theorem c_layer_Next {a0 : Option Addr} {a1 : Sl} {a2 : Sl} {a3 : Sl} {H : Heap} {Q : Int × Int × Unit → Heap → Prop} (h : S_layer_Next a0 a1 a2 a3 H Q) : CALL P [(T_int .i64), (T_int .i64)] n_layer_Next [(.pointer a0), a1.v, a2.v, a3.v] H Q := call_print hE Tryz.func22 rfl (by kernel_rfl) (e_layer_Next a0 a1 a2 a3 H Q) h

def S_layer_About (a0 : Option Addr) (a1 : Sl) (a2 : Sl) (a3 : G_api_Standing) (H : Heap) (Q : Sl × Int × Unit → Heap → Prop) : Prop :=
CALL P [T_G_layer_place, (T_int .i64)] n_layer_setup [(.pointer a0), a1.v, a2.v] H fun (x1 : G_layer_place × Int × Unit) H1 =>
ifB (x1.2.1 != 0) (
Q ((Sl.mk none 0 0), x1.2.1, ()) H1) (
CALL P [T_bool] n_layer_place_may [(T_G_layer_place.enc x1.1), (T_G_api_Standing.enc a3)] H1 fun (x2 : Bool × Unit) H2 =>
ifB (!x2.1) (
Q ((Sl.mk none 0 0), 2, ()) H2) (
CALL P [T_sl] n_layer_place_about [(T_G_layer_place.enc x1.1), a2.v, (T_G_api_Standing.enc a3)] H2 fun (x3 : Sl × Unit) H3 =>
Q (x3.1, 0, ()) H3))
def h_layer_About : Hnt := .leaf
theorem e_layer_About (a0 : Option Addr) (a1 : Sl) (a2 : Sl) (a3 : G_api_Standing) (H : Heap) (Q : Sl × Int × Unit → Heap → Prop) : S_layer_About a0 a1 a2 a3 H Q = cFn C [7, 10] Tryz.f25.ntmps Tryz.f25.results.toList [T_sl, (T_int .i64)] (bodyOf Tryz.f25) h_layer_About [(.pointer a0), a1.v, a2.v, (T_G_api_Standing.enc a3)] H Q := by kernel_rfl
theorem c_layer_About {a0 : Option Addr} {a1 : Sl} {a2 : Sl} {a3 : G_api_Standing} {H : Heap} {Q : Sl × Int × Unit → Heap → Prop} (h : S_layer_About a0 a1 a2 a3 H Q) : CALL P [T_sl, (T_int .i64)] n_layer_About [(.pointer a0), a1.v, a2.v, (T_G_api_Standing.enc a3)] H Q := call_print hE Tryz.func25 rfl (by kernel_rfl) (e_layer_About a0 a1 a2 a3 H Q) h

def S_layer_Apply (a0 : Option Addr) (a1 : Sl) (a2 : Sl) (a3 : G_api_Standing) (H : Heap) (Q : Sl × Int × Unit → Heap → Prop) : Prop :=
CALL P [T_G_layer_place, (T_int .i64)] n_layer_setup [(.pointer a0), a1.v, a2.v] H fun (x1 : G_layer_place × Int × Unit) H1 =>
ifB (x1.2.1 != 0) (
Q ((Sl.mk none 0 0), x1.2.1, ()) H1) (
CALL P [T_bool] n_layer_place_may [(T_G_layer_place.enc x1.1), (T_G_api_Standing.enc a3)] H1 fun (x2 : Bool × Unit) H2 =>
ifB (!x2.1) (
Q ((Sl.mk none 0 0), 2, ()) H2) (
CALL P [T_sl] n_layer_place_apply [(T_G_layer_place.enc x1.1), a2.v, (T_G_api_Standing.enc a3)] H2 fun (x3 : Sl × Unit) H3 =>
Q (x3.1, 0, ()) H3))
def h_layer_Apply : Hnt := .leaf
theorem e_layer_Apply (a0 : Option Addr) (a1 : Sl) (a2 : Sl) (a3 : G_api_Standing) (H : Heap) (Q : Sl × Int × Unit → Heap → Prop) : S_layer_Apply a0 a1 a2 a3 H Q = cFn C [7, 10] Tryz.f26.ntmps Tryz.f26.results.toList [T_sl, (T_int .i64)] (bodyOf Tryz.f26) h_layer_Apply [(.pointer a0), a1.v, a2.v, (T_G_api_Standing.enc a3)] H Q := by kernel_rfl
theorem c_layer_Apply {a0 : Option Addr} {a1 : Sl} {a2 : Sl} {a3 : G_api_Standing} {H : Heap} {Q : Sl × Int × Unit → Heap → Prop} (h : S_layer_Apply a0 a1 a2 a3 H Q) : CALL P [T_sl, (T_int .i64)] n_layer_Apply [(.pointer a0), a1.v, a2.v, (T_G_api_Standing.enc a3)] H Q := call_print hE Tryz.func26 rfl (by kernel_rfl) (e_layer_Apply a0 a1 a2 a3 H Q) h

def S_law19_none (a0 : Option Addr) (a1 : G_law19_Table) (a2 : G_api_Standing) (a3 : Int) (H : Heap) (Q : Bool × Unit → Heap → Prop) : Prop :=
CALL P [T_sl, (T_int .i64)] n_layer_About [(.pointer a0), a1.Things.v, a1.Fs.v, (T_G_api_Standing.enc a2)] H fun (x1 : Sl × Int × Unit) H1 =>
CALL P [T_sl, (T_int .i64)] n_layer_Apply [(.pointer a0), a1.Things.v, a1.Fs.v, (T_G_api_Standing.enc a2)] H1 fun (x2 : Sl × Int × Unit) H2 =>
CALL P [T_bool, (T_int .i64)] n_layer_Depends [(.pointer a0), a1.Things.v, a1.Fs.v, (T_G_api_Standing.enc a2), (T_G_api_Standing.enc a2)] H2 fun (x3 : Bool × Int × Unit) H3 =>
CALL P [(T_int .i64), (T_int .i64)] n_layer_Next [(.pointer a0), a1.Things.v, a1.Fs.v, ((Sl.mk none 0 0)).v] H3 fun (x4 : Int × Int × Unit) H4 =>
CALL P [T_sl, (T_int .i64)] n_layer_Effects [(.pointer a0), a1.Things.v, a1.Fs.v, (.int .i64 a3)] H4 fun (x5 : Sl × Int × Unit) H5 =>
CALL P [T_sl, T_sl, (T_int .i64)] n_layer_All [(.pointer a0), a1.Things.v, a1.Fs.v, (.int .i64 a3)] H5 fun (x6 : Sl × Sl × Int × Unit) H6 =>
JOIN (fun (j7 : (Bool × Unit) × (Unit) → Heap → Prop) =>
ifB ((IntKind.wrap .i64 ((IntKind.wrap .i64 ((IntKind.wrap .i64 ((IntKind.wrap .i64 ((x1.1.len : Int) + (x2.1.len : Int))) + (x5.1.len : Int))) + (x6.1.len : Int))) + (x6.2.1.len : Int))) == 0) (
ifB (!x3.1) (
ifB (x4.1 == 0) (
ifB (x1.2.1 == 1) (
ifB (x2.2.1 == 1) (
ifB (x3.2.1 == 1) (
ifB (x4.2.1 == 1) (
ifB (x5.2.1 == 1) (
j7 ((x6.2.2.1 == 1, ()), (())) H6) (
j7 ((false, ()), (())) H6)) (
j7 ((false, ()), (())) H6)) (
j7 ((false, ()), (())) H6)) (
j7 ((false, ()), (())) H6)) (
j7 ((false, ()), (())) H6)) (
j7 ((false, ()), (())) H6)) (
j7 ((false, ()), (())) H6)) (
j7 ((false, ()), (())) H6)) fun (y8 : (Bool × Unit) × (Unit)) H7 =>
Q (y8.1.1, ()) H7
def h_law19_none : Hnt := (.seq .leaf (.seq .leaf (.seq .leaf (.seq .leaf (.seq .leaf (.seq .leaf (.seq .leaf (.seq .leaf (.seq (.reg ⟨[(8, T_bool)], [], [99, 100, 101, 102, 103, 104, 105, 106, 107, 108, 109, 110, 111, 112, 113, 114, 115, 116, 117, 118, 119, 120, 121, 122, 123, 124, 125, 126, 127, 128, 129, 130, 131]⟩) .leaf)))))))))
theorem e_law19_none (a0 : Option Addr) (a1 : G_law19_Table) (a2 : G_api_Standing) (a3 : Int) (H : Heap) (Q : Bool × Unit → Heap → Prop) : S_law19_none a0 a1 a2 a3 H Q = cFn C [5, 6] Tryz.f28.ntmps Tryz.f28.results.toList [T_bool] (bodyOf Tryz.f28) h_law19_none [(.pointer a0), (T_G_law19_Table.enc a1), (T_G_api_Standing.enc a2), (.int .i64 a3)] H Q := by kernel_rfl
theorem c_law19_none {a0 : Option Addr} {a1 : G_law19_Table} {a2 : G_api_Standing} {a3 : Int} {H : Heap} {Q : Bool × Unit → Heap → Prop} (h : S_law19_none a0 a1 a2 a3 H Q) : CALL P [T_bool] n_law19_none [(.pointer a0), (T_G_law19_Table.enc a1), (T_G_api_Standing.enc a2), (.int .i64 a3)] H Q := call_print hE Tryz.func28 rfl (by kernel_rfl) (e_law19_none a0 a1 a2 a3 H Q) h

def S_layer_setup (a0 : Option Addr) (a1 : Sl) (a2 : Sl) (H : Heap) (Q : G_layer_place × Int × Unit → Heap → Prop) : Prop :=
NEW H [(.slice a1.p a1.len a1.cap)] 1 fun H1 =>
LD T_sl H1 H.length 0 fun (x1 : Sl) =>
LD T_sl H1 H.length 0 fun (x2 : Sl) =>
GEN T_sl (aMakeSlice E 22 (.int .i64 (x2.len : Int)) (.int .i64 (x2.len : Int)) H1) fun (x3 : Sl) H2 =>
LD T_sl H2 H.length 0 fun (x4 : Sl) =>
REQ (T_sl.enc x4 = x1.v) (
CALL P [(T_int .i64), (T_int .i64)] n_book_Book_Find [(.pointer a0), (.string (ByteArray.mk #[]))] H2 fun (x5 : Int × Int × Unit) H3 =>
ifB (x5.2.1 == 1) (
Q ((G_layer_place.mk a0 x1 x3 (Sl.mk none 0 0)), x5.2.1, ()) H3) (
LD T_sl H3 H.length 0 fun (x6 : Sl) =>
ifB (decide ((x6.len : Int) > 2048)) (
Q ((G_layer_place.mk a0 x1 x3 (Sl.mk none 0 0)), 3, ()) H3) (
JOIN (fun (j7 : (Bool × Unit) × (Unit) → Heap → Prop) =>
CALL P [T_bool] n_book_Book_Sealed [(.pointer a0)] H3 fun (x9 : Bool × Unit) H5 =>
ifB (!x9.1) (
j7 ((true, ()), (())) H5) (
LD T_sl H5 H.length 0 fun (x10 : Sl) =>
j7 (((a2.len : Int) != (x10.len : Int), ()), (())) H5)) fun (y8 : (Bool × Unit) × (Unit)) H4 =>
ifB y8.1.1 (
Q ((G_layer_place.mk a0 x1 x3 (Sl.mk none 0 0)), 2, ()) H4) (
LD T_sl H4 H.length 0 fun (x11 : Sl) =>
JOIN (fun (j12 : (Unit) × (G_layer_place × G_layer_place × Unit) → Heap → Prop) =>
LOOP (fun (r14 : (Int × Unit) × (G_layer_place × G_layer_place × Unit) → Heap → Prop) (s15 : (Int × Unit) × (G_layer_place × G_layer_place × Unit)) H7 =>
ifB (decide (s15.1.1 < (x11.len : Int))) (
JOIN (fun (j16 : (Unit) × (G_layer_place × G_layer_place × Unit) → Heap → Prop) =>
IDX x11.p x11.len s15.1.1 11 fun b18 o19 =>
LD T_G_api_Thing H7 b18 o19 fun (x20 : G_api_Thing) =>
CALL P [T_G_api_Card, (T_int .i64)] n_thing_Card [(.pointer a0), (T_G_api_Thing.enc x20)] H7 fun (x21 : G_api_Card × Int × Unit) H9 =>
JOIN (fun (j22 : (Bool × Unit) × (Unit) → Heap → Prop) =>
ifB (x21.2.1 != 0) (
j22 ((true, ()), (())) H9) (
ifB (x20.Owner != 0) (
ifB (x20.Owner != 1) (
j22 ((true, ()), (())) H9) (
ifB (decide (x20.Place < 1)) (
j22 ((true, ()), (())) H9) (
j22 ((decide (x20.Place > 5), ()), (())) H9))) (
ifB (decide (x20.Place < 1)) (
j22 ((true, ()), (())) H9) (
j22 ((decide (x20.Place > 5), ()), (())) H9)))) fun (y23 : (Bool × Unit) × (Unit)) H10 =>
ifB y23.1.1 (
Q (s15.2.2.1, 2, ()) H10) (
ifB (x20.Place != 4) (
j16 ((()), (s15.2.1, s15.2.2.1, ())) H10) (
JOIN (fun (j24 : (Bool × Unit) × (Unit) → Heap → Prop) =>
ifB (x21.1.Kind == 2) (
j24 ((true, ()), (())) H10) (
ifB (decide (x20.Stamp < 1)) (
j24 ((true, ()), (())) H10) (
IDX a2.p a2.len s15.1.1 5 fun b26 o27 =>
LD (T_int .i64) H10 b26 (o27 + 0) fun (x28 : Int) =>
ifB (x28 != 0) (
IDX a2.p a2.len s15.1.1 5 fun b29 o30 =>
LD (T_int .i64) H10 b29 (o30 + 0) fun (x31 : Int) =>
ifB (x31 != 1) (
j24 ((true, ()), (())) H10) (
IDX a2.p a2.len s15.1.1 5 fun b32 o33 =>
LD (T_int .u16) H10 b32 (o33 + 2) fun (x34 : Int) =>
CALL P [T_bool] n_trait_Check [(.int .u16 x34)] H10 fun (x35 : Bool × Unit) H12 =>
j24 ((!x35.1, ()), (())) H12)) (
IDX a2.p a2.len s15.1.1 5 fun b36 o37 =>
LD (T_int .u16) H10 b36 (o37 + 2) fun (x38 : Int) =>
CALL P [T_bool] n_trait_Check [(.int .u16 x38)] H10 fun (x39 : Bool × Unit) H13 =>
j24 ((!x39.1, ()), (())) H13)))) fun (y25 : (Bool × Unit) × (Unit)) H11 =>
ifB y25.1.1 (
Q (s15.2.2.1, 2, ()) H11) (
IDX s15.2.2.1.cards.p s15.2.2.1.cards.len s15.1.1 9 fun b40 o41 =>
ST H11 b40 o41 (T_G_api_Card.cells x21.1) fun H14 =>
GEN T_sl (aAppX E [73, 73] s15.2.2.1.order.v 1 [(.int .i64 s15.1.1)] H14) fun (x42 : Sl) H15 =>
ifB (decide ((x42.len : Int) > 16)) (
Q ((G_layer_place.mk s15.2.2.1.b s15.2.2.1.things s15.2.2.1.cards x42), 2, ()) H15) (
j16 ((()), (s15.2.1, (G_layer_place.mk s15.2.2.1.b s15.2.2.1.things s15.2.2.1.cards x42), ())) H15))))) fun (y17 : (Unit) × (G_layer_place × G_layer_place × Unit)) H8 =>
r14 ((IntKind.wrap .i64 (s15.1.1 + 1), ()), (y17.2.1, y17.2.2.1, ())) H8) (
j12 ((()), (s15.2.1, s15.2.2.1, ())) H7)) ((0, ()), ((G_layer_place.mk none (Sl.mk none 0 0) (Sl.mk none 0 0) (Sl.mk none 0 0)), (G_layer_place.mk a0 x1 x3 (Sl.mk none 0 0)), ())) H4) fun (y13 : (Unit) × (G_layer_place × G_layer_place × Unit)) H6 =>
CALL P [] n_slices_SortFunc_int_int [y13.2.2.1.order.v, (.func (.func n_layer_setup_1) #[] #[(.pointer (some ⟨H.length, 0, none⟩))])] H6 fun (x43 : Unit) H16 =>
JOIN (fun (j44 : (Unit) × (G_layer_place × Unit) → Heap → Prop) =>
LOOP (fun (r46 : (Int × Unit) × (G_layer_place × Unit) → Heap → Prop) (s47 : (Int × Unit) × (G_layer_place × Unit)) H18 =>
ifB (decide (s47.1.1 < (y13.2.2.1.order.len : Int))) (
LD T_sl H18 H.length 0 fun (x48 : Sl) =>
IDX y13.2.2.1.order.p y13.2.2.1.order.len (IntKind.wrap .i64 (s47.1.1 - 1)) 1 fun b49 o50 =>
LD (T_int .i64) H18 b49 o50 fun (x51 : Int) =>
IDX x48.p x48.len x51 11 fun b52 o53 =>
LD (T_int .i64) H18 b52 (o53 + 3) fun (x54 : Int) =>
LD T_sl H18 H.length 0 fun (x55 : Sl) =>
IDX y13.2.2.1.order.p y13.2.2.1.order.len s47.1.1 1 fun b56 o57 =>
LD (T_int .i64) H18 b56 o57 fun (x58 : Int) =>
IDX x55.p x55.len x58 11 fun b59 o60 =>
LD (T_int .i64) H18 b59 (o60 + 3) fun (x61 : Int) =>
ifB (x54 == x61) (
Q (y13.2.2.1, 2, ()) H18) (
r46 ((IntKind.wrap .i64 (s47.1.1 + 1), ()), (s47.2.1, ())) H18)) (
j44 ((()), (s47.2.1, ())) H18)) ((1, ()), (y13.2.1, ())) H16) fun (y45 : (Unit) × (G_layer_place × Unit)) H17 =>
Q (y13.2.2.1, 0, ()) H17))))
def h_layer_setup : Hnt := (.seq .leaf (.seq .leaf (.seq (.seq .leaf (.blk none (.seq .leaf (.cond none .leaf (.seq .leaf (.cond none .leaf (.seq (.reg ⟨[(37, T_bool)], [], [38, 39, 40, 41, 42, 43, 44, 45, 46, 47]⟩) .leaf))))))) (.seq (.seq .leaf (.blk (some ⟨[], [(0, T_G_layer_place), (1, T_G_layer_place)], [7, 11, 12, 13, 14, 51, 52, 53, 54, 55, 56, 57, 58, 59, 60, 61, 62, 63, 64, 65, 66, 67, 68, 69, 70, 71, 72, 73, 74, 75, 76, 77, 78, 79, 80, 81, 82, 83, 84, 85, 86, 87, 88, 89, 90, 91, 92, 93, 94, 95, 96, 97, 98, 99, 100, 101, 102, 103, 104, 105, 106, 107, 108, 109, 110, 111, 112, 113, 114, 115, 116, 117, 118, 119, 120, 121, 122, 123, 124, 125, 126, 127, 128, 129, 130, 131, 132, 133, 134, 135, 136, 137, 138]⟩) (.loop ⟨[(51, (T_int .i64))], [(0, T_G_layer_place), (1, T_G_layer_place)], [7, 11, 12, 13, 14, 52, 53, 54, 55, 56, 57, 58, 59, 60, 61, 62, 63, 64, 65, 66, 67, 68, 69, 70, 71, 72, 73, 74, 75, 76, 77, 78, 79, 80, 81, 82, 83, 84, 85, 86, 87, 88, 89, 90, 91, 92, 93, 94, 95, 96, 97, 98, 99, 100, 101, 102, 103, 104, 105, 106, 107, 108, 109, 110, 111, 112, 113, 114, 115, 116, 117, 118, 119, 120, 121, 122, 123, 124, 125, 126, 127, 128, 129, 130, 131, 132, 133, 134, 135, 136, 137, 138]⟩ (.seq .leaf (.seq .leaf (.seq (.blk (some ⟨[], [(0, T_G_layer_place), (1, T_G_layer_place)], [7, 11, 12, 13, 14, 53, 54, 55, 56, 57, 58, 59, 60, 61, 62, 63, 64, 65, 66, 67, 68, 69, 70, 71, 72, 73, 74, 75, 76, 77, 78, 79, 80, 81, 82, 83, 84, 85, 86, 87, 88, 89, 90, 91, 92, 93, 94, 95, 96, 97, 98, 99, 100, 101, 102, 103, 104, 105, 106, 107, 108, 109, 110, 111, 112, 113, 114, 115, 116, 117, 118, 119, 120, 121, 122, 123, 124, 125, 126, 127, 128, 129, 130, 131, 132, 133, 134, 135, 136, 137]⟩) (.seq .leaf (.seq .leaf (.seq (.seq (.reg ⟨[(83, T_bool)], [], [62, 63, 64, 65, 66, 67, 68, 69, 70, 71, 72, 73, 74, 75, 76, 77, 78, 79, 80, 81, 82]⟩) .leaf) (.seq .leaf (.seq (.seq (.reg ⟨[(120, T_bool)], [], [88, 89, 90, 91, 92, 93, 94, 95, 96, 97, 98, 99, 100, 101, 102, 103, 104, 105, 106, 107, 108, 109, 110, 111, 112, 113, 114, 115, 116, 117, 118, 119]⟩) .leaf) .leaf)))))) .leaf)))))) (.seq .leaf (.seq (.seq .leaf (.blk (some ⟨[], [(0, T_G_layer_place)], [7, 15, 143, 144, 145, 146, 147, 148, 149, 150, 151, 152, 153, 154, 155, 156, 157, 158, 159, 160, 161, 162, 163, 164, 165, 166, 167, 168, 169, 170]⟩) (.loop ⟨[(15, (T_int .i64))], [(0, T_G_layer_place)], [7, 143, 144, 145, 146, 147, 148, 149, 150, 151, 152, 153, 154, 155, 156, 157, 158, 159, 160, 161, 162, 163, 164, 165, 166, 167, 168, 169, 170]⟩ .leaf))) .leaf))))))
theorem e_layer_setup (a0 : Option Addr) (a1 : Sl) (a2 : Sl) (H : Heap) (Q : G_layer_place × Int × Unit → Heap → Prop) : S_layer_setup a0 a1 a2 H Q = cFn C [6, 8, 12, 13, 130] Tryz.f56.ntmps Tryz.f56.results.toList [T_G_layer_place, (T_int .i64)] (bodyOf Tryz.f56) h_layer_setup [(.pointer a0), a1.v, a2.v] H Q := by kernel_rfl
theorem c_layer_setup {a0 : Option Addr} {a1 : Sl} {a2 : Sl} {H : Heap} {Q : G_layer_place × Int × Unit → Heap → Prop} (h : S_layer_setup a0 a1 a2 H Q) : CALL P [T_G_layer_place, (T_int .i64)] n_layer_setup [(.pointer a0), a1.v, a2.v] H Q := call_print hE Tryz.func56 rfl (by kernel_rfl) (e_layer_setup a0 a1 a2 H Q) h

def S_book_Book_At (a0 : Option Addr) (a1 : Int) (H : Heap) (Q : G_api_Card × Int × Unit → Heap → Prop) : Prop :=
CALL P [T_bool] n_book_Book_none [(.pointer a0)] H fun (x1 : Bool × Unit) H1 =>
ifB x1.1 (
Q ((G_api_Card.mk (ByteArray.mk #[]) 0 0 0 0 0 0 false (Sl.mk none 0 0)), 1, ()) H1) (
JOIN (fun (j2 : (Bool × Unit) × (Unit) → Heap → Prop) =>
NIL a0 fun b4 o5 =>
LD T_bool H1 b4 (o5 + 1) fun (x6 : Bool) =>
ifB (!x6) (
j2 ((true, ()), (())) H1) (
ifB (decide (a1 < 1)) (
j2 ((true, ()), (())) H1) (
NIL a0 fun b7 o8 =>
LD (T_int .i64) H1 b7 (o8 + 2) fun (x9 : Int) =>
j2 ((decide (a1 > x9), ()), (())) H1))) fun (y3 : (Bool × Unit) × (Unit)) H2 =>
ifB y3.1.1 (
Q ((G_api_Card.mk (ByteArray.mk #[]) 0 0 0 0 0 0 false (Sl.mk none 0 0)), 6, ()) H2) (
NIL a0 fun b10 o11 =>
IDXA 64 (IntKind.wrap .i64 (a1 - 1)) (
LD T_G_api_Card H2 b10 (o11 + 3 + (IntKind.wrap .i64 (a1 - 1)).toNat * 9) fun (x12 : G_api_Card) =>
CALL P [T_G_api_Card] n_card_Copy [(T_G_api_Card.enc x12)] H2 fun (x13 : G_api_Card × Unit) H3 =>
Q (x13.1, 0, ()) H3)))
def h_book_Book_At : Hnt := (.seq .leaf (.seq .leaf (.seq (.seq (.reg ⟨[(25, T_bool)], [], [9, 10, 11, 12, 13, 14, 15, 16, 17, 18, 19, 20, 21, 22, 23, 24]⟩) .leaf) .leaf)))
theorem e_book_Book_At (a0 : Option Addr) (a1 : Int) (H : Heap) (Q : G_api_Card × Int × Unit → Heap → Prop) : S_book_Book_At a0 a1 H Q = cFn C [4] Tryz.f62.ntmps Tryz.f62.results.toList [T_G_api_Card, (T_int .i64)] (bodyOf Tryz.f62) h_book_Book_At [(.pointer a0), (.int .i64 a1)] H Q := by kernel_rfl
theorem c_book_Book_At {a0 : Option Addr} {a1 : Int} {H : Heap} {Q : G_api_Card × Int × Unit → Heap → Prop} (h : S_book_Book_At a0 a1 H Q) : CALL P [T_G_api_Card, (T_int .i64)] n_book_Book_At [(.pointer a0), (.int .i64 a1)] H Q := call_print hE Tryz.func62 rfl (by kernel_rfl) (e_book_Book_At a0 a1 H Q) h

def S_book_Book_none (a0 : Option Addr) (H : Heap) (Q : Bool × Unit → Heap → Prop) : Prop :=
JOIN (fun (j1 : (Bool × Unit) × (Unit) → Heap → Prop) =>
ifB a0.isNone (
j1 ((true, ()), (())) H) (
NIL a0 fun b3 o4 =>
LD T_bool H b3 (o4 + 0) fun (x5 : Bool) =>
j1 ((!x5, ()), (())) H)) fun (y2 : (Bool × Unit) × (Unit)) H1 =>
Q (y2.1.1, ()) H1
def h_book_Book_none : Hnt := (.seq .leaf (.seq (.reg ⟨[(2, T_bool)], [], [3, 4, 5, 6, 7, 8, 9, 10, 11]⟩) .leaf))
theorem e_book_Book_none (a0 : Option Addr) (H : Heap) (Q : Bool × Unit → Heap → Prop) : S_book_Book_none a0 H Q = cFn C [] Tryz.f64.ntmps Tryz.f64.results.toList [T_bool] (bodyOf Tryz.f64) h_book_Book_none [(.pointer a0)] H Q := by kernel_rfl
theorem c_book_Book_none {a0 : Option Addr} {H : Heap} {Q : Bool × Unit → Heap → Prop} (h : S_book_Book_none a0 H Q) : CALL P [T_bool] n_book_Book_none [(.pointer a0)] H Q := call_print hE Tryz.func64 rfl (by kernel_rfl) (e_book_Book_none a0 H Q) h

def S_thing_Card (a0 : Option Addr) (a1 : G_api_Thing) (H : Heap) (Q : G_api_Card × Int × Unit → Heap → Prop) : Prop :=
CALL P [T_G_api_Card, (T_int .i64)] n_book_Book_At [(.pointer a0), (.int .i64 a1.Card)] H fun (x1 : G_api_Card × Int × Unit) H1 =>
Q (x1.1, x1.2.1, ()) H1
def h_thing_Card : Hnt := .leaf
theorem e_thing_Card (a0 : Option Addr) (a1 : G_api_Thing) (H : Heap) (Q : G_api_Card × Int × Unit → Heap → Prop) : S_thing_Card a0 a1 H Q = cFn C [3, 4] Tryz.f98.ntmps Tryz.f98.results.toList [T_G_api_Card, (T_int .i64)] (bodyOf Tryz.f98) h_thing_Card [(.pointer a0), (T_G_api_Thing.enc a1)] H Q := by kernel_rfl
theorem c_thing_Card {a0 : Option Addr} {a1 : G_api_Thing} {H : Heap} {Q : G_api_Card × Int × Unit → Heap → Prop} (h : S_thing_Card a0 a1 H Q) : CALL P [T_G_api_Card, (T_int .i64)] n_thing_Card [(.pointer a0), (T_G_api_Thing.enc a1)] H Q := call_print hE Tryz.func98 rfl (by kernel_rfl) (e_thing_Card a0 a1 H Q) h

def S_ref07_Book_At (a0 : Option Addr) (a1 : Int) (H : Heap) (Q : G_api_Card × Int × Unit → Heap → Prop) : Prop :=
CALL P [T_bool] n_ref07_Book_None [(.pointer a0)] H fun (x1 : Bool × Unit) H1 =>
ifB x1.1 (
Q ((G_api_Card.mk (ByteArray.mk #[]) 0 0 0 0 0 0 false (Sl.mk none 0 0)), 1, ()) H1) (
JOIN (fun (j2 : (Bool × Unit) × (Unit) → Heap → Prop) =>
NIL a0 fun b4 o5 =>
LD T_bool H1 b4 (o5 + 1) fun (x6 : Bool) =>
ifB (!x6) (
j2 ((true, ()), (())) H1) (
ifB (decide (a1 < 1)) (
j2 ((true, ()), (())) H1) (
NIL a0 fun b7 o8 =>
LD T_sl H1 b7 (o8 + 2) fun (x9 : Sl) =>
j2 ((decide (a1 > (x9.len : Int)), ()), (())) H1))) fun (y3 : (Bool × Unit) × (Unit)) H2 =>
ifB y3.1.1 (
Q ((G_api_Card.mk (ByteArray.mk #[]) 0 0 0 0 0 0 false (Sl.mk none 0 0)), 6, ()) H2) (
NIL a0 fun b10 o11 =>
LD T_sl H2 b10 (o11 + 2) fun (x12 : Sl) =>
IDX x12.p x12.len (IntKind.wrap .i64 (a1 - 1)) 9 fun b13 o14 =>
LD T_G_api_Card H2 b13 o14 fun (x15 : G_api_Card) =>
CALL P [T_G_api_Card] n_ref06_Copy [(T_G_api_Card.enc x15)] H2 fun (x16 : G_api_Card × Unit) H3 =>
Q (x16.1, 0, ()) H3))
def h_ref07_Book_At : Hnt := (.seq .leaf (.seq .leaf (.seq (.seq (.reg ⟨[(26, T_bool)], [], [9, 10, 11, 12, 13, 14, 15, 16, 17, 18, 19, 20, 21, 22, 23, 24, 25]⟩) .leaf) .leaf)))
theorem e_ref07_Book_At (a0 : Option Addr) (a1 : Int) (H : Heap) (Q : G_api_Card × Int × Unit → Heap → Prop) : S_ref07_Book_At a0 a1 H Q = cFn C [4] Tryz.f115.ntmps Tryz.f115.results.toList [T_G_api_Card, (T_int .i64)] (bodyOf Tryz.f115) h_ref07_Book_At [(.pointer a0), (.int .i64 a1)] H Q := by kernel_rfl
theorem c_ref07_Book_At {a0 : Option Addr} {a1 : Int} {H : Heap} {Q : G_api_Card × Int × Unit → Heap → Prop} (h : S_ref07_Book_At a0 a1 H Q) : CALL P [T_G_api_Card, (T_int .i64)] n_ref07_Book_At [(.pointer a0), (.int .i64 a1)] H Q := call_print hE Tryz.func115 rfl (by kernel_rfl) (e_ref07_Book_At a0 a1 H Q) h
end Zv
end Go.Proofs.YtkijgkagfkapjaaGreatDoor
