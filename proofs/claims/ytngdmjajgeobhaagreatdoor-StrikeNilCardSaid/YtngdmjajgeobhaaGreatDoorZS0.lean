/- Printed by gen2.py: what the functions come to. -/
import Derived.Test.YtngdmjajgeobhaaGreatDoorZT
import Derived.KernelRfl
namespace Go.Proofs.YtngdmjajgeobhaaGreatDoor
open Go Zq
namespace Zv
set_option maxRecDepth 100000
set_option linter.unusedVariables false
def S_law26_StrikeNil (a0 : Sl) (a1 : Sl) (a2 : G_law26_Ask) (H : Heap) (Q : Bool × Unit → Heap → Prop) : Prop :=
NEW H [(.bool false), (.bool false), (.int .i64 0), (.string (ByteArray.mk #[])), (.int .u8 0), (.int .u8 0), (.int .i64 0), (.int .i64 0), (.int .i64 0), (.int .u16 0), (.bool false), (.slice none 0 0), (.string (ByteArray.mk #[])), (.int .u8 0), (.int .u8 0), (.int .i64 0), (.int .i64 0), (.int .i64 0), (.int .u16 0), (.bool false), (.slice none 0 0), (.string (ByteArray.mk #[])), (.int .u8 0), (.int .u8 0), (.int .i64 0), (.int .i64 0), (.int .i64 0), (.int .u16 0), (.bool false), (.slice none 0 0), (.string (ByteArray.mk #[])), (.int .u8 0), (.int .u8 0), (.int .i64 0), (.int .i64 0), (.int .i64 0), (.int .u16 0), (.bool false), (.slice none 0 0), (.string (ByteArray.mk #[])), (.int .u8 0), (.int .u8 0), (.int .i64 0), (.int .i64 0), (.int .i64 0), (.int .u16 0), (.bool false), (.slice none 0 0), (.string (ByteArray.mk #[])), (.int .u8 0), (.int .u8 0), (.int .i64 0), (.int .i64 0), (.int .i64 0), (.int .u16 0), (.bool false), (.slice none 0 0), (.string (ByteArray.mk #[])), (.int .u8 0), (.int .u8 0), (.int .i64 0), (.int .i64 0), (.int .i64 0), (.int .u16 0), (.bool false), (.slice none 0 0), (.string (ByteArray.mk #[])), (.int .u8 0), (.int .u8 0), (.int .i64 0), (.int .i64 0), (.int .i64 0), (.int .u16 0), (.bool false), (.slice none 0 0), (.string (ByteArray.mk #[])), (.int .u8 0), (.int .u8 0), (.int .i64 0), (.int .i64 0), (.int .i64 0), (.int .u16 0), (.bool false), (.slice none 0 0), (.string (ByteArray.mk #[])), (.int .u8 0), (.int .u8 0), (.int .i64 0), (.int .i64 0), (.int .i64 0), (.int .u16 0), (.bool false), (.slice none 0 0), (.string (ByteArray.mk #[])), (.int .u8 0), (.int .u8 0), (.int .i64 0), (.int .i64 0), (.int .i64 0), (.int .u16 0), (.bool false), (.slice none 0 0), (.string (ByteArray.mk #[])), (.int .u8 0), (.int .u8 0), (.int .i64 0), (.int .i64 0), (.int .i64 0), (.int .u16 0), (.bool false), (.slice none 0 0), (.string (ByteArray.mk #[])), (.int .u8 0), (.int .u8 0), (.int .i64 0), (.int .i64 0), (.int .i64 0), (.int .u16 0), (.bool false), (.slice none 0 0), (.string (ByteArray.mk #[])), (.int .u8 0), (.int .u8 0), (.int .i64 0), (.int .i64 0), (.int .i64 0), (.int .u16 0), (.bool false), (.slice none 0 0), (.string (ByteArray.mk #[])), (.int .u8 0), (.int .u8 0), (.int .i64 0), (.int .i64 0), (.int .i64 0), (.int .u16 0), (.bool false), (.slice none 0 0), (.string (ByteArray.mk #[])), (.int .u8 0), (.int .u8 0), (.int .i64 0), (.int .i64 0), (.int .i64 0), (.int .u16 0), (.bool false), (.slice none 0 0), (.string (ByteArray.mk #[])), (.int .u8 0), (.int .u8 0), (.int .i64 0), (.int .i64 0), (.int .i64 0), (.int .u16 0), (.bool false), (.slice none 0 0), (.string (ByteArray.mk #[])), (.int .u8 0), (.int .u8 0), (.int .i64 0), (.int .i64 0), (.int .i64 0), (.int .u16 0), (.bool false), (.slice none 0 0), (.string (ByteArray.mk #[])), (.int .u8 0), (.int .u8 0), (.int .i64 0), (.int .i64 0), (.int .i64 0), (.int .u16 0), (.bool false), (.slice none 0 0), (.string (ByteArray.mk #[])), (.int .u8 0), (.int .u8 0), (.int .i64 0), (.int .i64 0), (.int .i64 0), (.int .u16 0), (.bool false), (.slice none 0 0), (.string (ByteArray.mk #[])), (.int .u8 0), (.int .u8 0), (.int .i64 0), (.int .i64 0), (.int .i64 0), (.int .u16 0), (.bool false), (.slice none 0 0), (.string (ByteArray.mk #[])), (.int .u8 0), (.int .u8 0), (.int .i64 0), (.int .i64 0), (.int .i64 0), (.int .u16 0), (.bool false), (.slice none 0 0), (.string (ByteArray.mk #[])), (.int .u8 0), (.int .u8 0), (.int .i64 0), (.int .i64 0), (.int .i64 0), (.int .u16 0), (.bool false), (.slice none 0 0), (.string (ByteArray.mk #[])), (.int .u8 0), (.int .u8 0), (.int .i64 0), (.int .i64 0), (.int .i64 0), (.int .u16 0), (.bool false), (.slice none 0 0), (.string (ByteArray.mk #[])), (.int .u8 0), (.int .u8 0), (.int .i64 0), (.int .i64 0), (.int .i64 0), (.int .u16 0), (.bool false), (.slice none 0 0), (.string (ByteArray.mk #[])), (.int .u8 0), (.int .u8 0), (.int .i64 0), (.int .i64 0), (.int .i64 0), (.int .u16 0), (.bool false), (.slice none 0 0), (.string (ByteArray.mk #[])), (.int .u8 0), (.int .u8 0), (.int .i64 0), (.int .i64 0), (.int .i64 0), (.int .u16 0), (.bool false), (.slice none 0 0), (.string (ByteArray.mk #[])), (.int .u8 0), (.int .u8 0), (.int .i64 0), (.int .i64 0), (.int .i64 0), (.int .u16 0), (.bool false), (.slice none 0 0), (.string (ByteArray.mk #[])), (.int .u8 0), (.int .u8 0), (.int .i64 0), (.int .i64 0), (.int .i64 0), (.int .u16 0), (.bool false), (.slice none 0 0), (.string (ByteArray.mk #[])), (.int .u8 0), (.int .u8 0), (.int .i64 0), (.int .i64 0), (.int .i64 0), (.int .u16 0), (.bool false), (.slice none 0 0), (.string (ByteArray.mk #[])), (.int .u8 0), (.int .u8 0), (.int .i64 0), (.int .i64 0), (.int .i64 0), (.int .u16 0), (.bool false), (.slice none 0 0), (.string (ByteArray.mk #[])), (.int .u8 0), (.int .u8 0), (.int .i64 0), (.int .i64 0), (.int .i64 0), (.int .u16 0), (.bool false), (.slice none 0 0), (.string (ByteArray.mk #[])), (.int .u8 0), (.int .u8 0), (.int .i64 0), (.int .i64 0), (.int .i64 0), (.int .u16 0), (.bool false), (.slice none 0 0), (.string (ByteArray.mk #[])), (.int .u8 0), (.int .u8 0), (.int .i64 0), (.int .i64 0), (.int .i64 0), (.int .u16 0), (.bool false), (.slice none 0 0), (.string (ByteArray.mk #[])), (.int .u8 0), (.int .u8 0), (.int .i64 0), (.int .i64 0), (.int .i64 0), (.int .u16 0), (.bool false), (.slice none 0 0), (.string (ByteArray.mk #[])), (.int .u8 0), (.int .u8 0), (.int .i64 0), (.int .i64 0), (.int .i64 0), (.int .u16 0), (.bool false), (.slice none 0 0), (.string (ByteArray.mk #[])), (.int .u8 0), (.int .u8 0), (.int .i64 0), (.int .i64 0), (.int .i64 0), (.int .u16 0), (.bool false), (.slice none 0 0), (.string (ByteArray.mk #[])), (.int .u8 0), (.int .u8 0), (.int .i64 0), (.int .i64 0), (.int .i64 0), (.int .u16 0), (.bool false), (.slice none 0 0), (.string (ByteArray.mk #[])), (.int .u8 0), (.int .u8 0), (.int .i64 0), (.int .i64 0), (.int .i64 0), (.int .u16 0), (.bool false), (.slice none 0 0), (.string (ByteArray.mk #[])), (.int .u8 0), (.int .u8 0), (.int .i64 0), (.int .i64 0), (.int .i64 0), (.int .u16 0), (.bool false), (.slice none 0 0), (.string (ByteArray.mk #[])), (.int .u8 0), (.int .u8 0), (.int .i64 0), (.int .i64 0), (.int .i64 0), (.int .u16 0), (.bool false), (.slice none 0 0), (.string (ByteArray.mk #[])), (.int .u8 0), (.int .u8 0), (.int .i64 0), (.int .i64 0), (.int .i64 0), (.int .u16 0), (.bool false), (.slice none 0 0), (.string (ByteArray.mk #[])), (.int .u8 0), (.int .u8 0), (.int .i64 0), (.int .i64 0), (.int .i64 0), (.int .u16 0), (.bool false), (.slice none 0 0), (.string (ByteArray.mk #[])), (.int .u8 0), (.int .u8 0), (.int .i64 0), (.int .i64 0), (.int .i64 0), (.int .u16 0), (.bool false), (.slice none 0 0), (.string (ByteArray.mk #[])), (.int .u8 0), (.int .u8 0), (.int .i64 0), (.int .i64 0), (.int .i64 0), (.int .u16 0), (.bool false), (.slice none 0 0), (.string (ByteArray.mk #[])), (.int .u8 0), (.int .u8 0), (.int .i64 0), (.int .i64 0), (.int .i64 0), (.int .u16 0), (.bool false), (.slice none 0 0), (.string (ByteArray.mk #[])), (.int .u8 0), (.int .u8 0), (.int .i64 0), (.int .i64 0), (.int .i64 0), (.int .u16 0), (.bool false), (.slice none 0 0), (.string (ByteArray.mk #[])), (.int .u8 0), (.int .u8 0), (.int .i64 0), (.int .i64 0), (.int .i64 0), (.int .u16 0), (.bool false), (.slice none 0 0), (.string (ByteArray.mk #[])), (.int .u8 0), (.int .u8 0), (.int .i64 0), (.int .i64 0), (.int .i64 0), (.int .u16 0), (.bool false), (.slice none 0 0), (.string (ByteArray.mk #[])), (.int .u8 0), (.int .u8 0), (.int .i64 0), (.int .i64 0), (.int .i64 0), (.int .u16 0), (.bool false), (.slice none 0 0), (.string (ByteArray.mk #[])), (.int .u8 0), (.int .u8 0), (.int .i64 0), (.int .i64 0), (.int .i64 0), (.int .u16 0), (.bool false), (.slice none 0 0), (.string (ByteArray.mk #[])), (.int .u8 0), (.int .u8 0), (.int .i64 0), (.int .i64 0), (.int .i64 0), (.int .u16 0), (.bool false), (.slice none 0 0), (.string (ByteArray.mk #[])), (.int .u8 0), (.int .u8 0), (.int .i64 0), (.int .i64 0), (.int .i64 0), (.int .u16 0), (.bool false), (.slice none 0 0), (.string (ByteArray.mk #[])), (.int .u8 0), (.int .u8 0), (.int .i64 0), (.int .i64 0), (.int .i64 0), (.int .u16 0), (.bool false), (.slice none 0 0), (.string (ByteArray.mk #[])), (.int .u8 0), (.int .u8 0), (.int .i64 0), (.int .i64 0), (.int .i64 0), (.int .u16 0), (.bool false), (.slice none 0 0), (.string (ByteArray.mk #[])), (.int .u8 0), (.int .u8 0), (.int .i64 0), (.int .i64 0), (.int .i64 0), (.int .u16 0), (.bool false), (.slice none 0 0), (.string (ByteArray.mk #[])), (.int .u8 0), (.int .u8 0), (.int .i64 0), (.int .i64 0), (.int .i64 0), (.int .u16 0), (.bool false), (.slice none 0 0), (.string (ByteArray.mk #[])), (.int .u8 0), (.int .u8 0), (.int .i64 0), (.int .i64 0), (.int .i64 0), (.int .u16 0), (.bool false), (.slice none 0 0), (.string (ByteArray.mk #[])), (.int .u8 0), (.int .u8 0), (.int .i64 0), (.int .i64 0), (.int .i64 0), (.int .u16 0), (.bool false), (.slice none 0 0), (.string (ByteArray.mk #[])), (.int .u8 0), (.int .u8 0), (.int .i64 0), (.int .i64 0), (.int .i64 0), (.int .u16 0), (.bool false), (.slice none 0 0), (.string (ByteArray.mk #[])), (.int .u8 0), (.int .u8 0), (.int .i64 0), (.int .i64 0), (.int .i64 0), (.int .u16 0), (.bool false), (.slice none 0 0), (.string (ByteArray.mk #[])), (.int .u8 0), (.int .u8 0), (.int .i64 0), (.int .i64 0), (.int .i64 0), (.int .u16 0), (.bool false), (.slice none 0 0), (.string (ByteArray.mk #[])), (.int .u8 0), (.int .u8 0), (.int .i64 0), (.int .i64 0), (.int .i64 0), (.int .u16 0), (.bool false), (.slice none 0 0), (.string (ByteArray.mk #[])), (.int .u8 0), (.int .u8 0), (.int .i64 0), (.int .i64 0), (.int .i64 0), (.int .u16 0), (.bool false), (.slice none 0 0), (.string (ByteArray.mk #[])), (.string (ByteArray.mk #[])), (.string (ByteArray.mk #[])), (.string (ByteArray.mk #[])), (.string (ByteArray.mk #[])), (.string (ByteArray.mk #[])), (.string (ByteArray.mk #[])), (.string (ByteArray.mk #[])), (.string (ByteArray.mk #[])), (.int .u8 0), (.string (ByteArray.mk #[])), (.int .i64 0), (.int .i64 0), (.int .u8 0), (.string (ByteArray.mk #[])), (.int .i64 0), (.int .i64 0), (.int .u8 0), (.string (ByteArray.mk #[])), (.int .i64 0), (.int .i64 0), (.int .u8 0), (.string (ByteArray.mk #[])), (.int .i64 0), (.int .i64 0), (.int .u8 0), (.string (ByteArray.mk #[])), (.int .i64 0), (.int .i64 0)] 608 fun H1 =>
NEW H1 [(.pointer none), (.pointer (some ⟨H.length, 0, none⟩))] 1 fun H2 =>
JOIN (fun (j1 : (Unit) × (Unit) → Heap → Prop) =>
LOOP (fun (r3 : (Int × Unit) × (Unit) → Heap → Prop) (s4 : (Int × Unit) × (Unit)) H4 =>
ifB (decide (s4.1.1 < 2)) (
IDX (some ⟨H1.length, 0, none⟩) 2 s4.1.1 1 fun b5 o6 =>
LD T_ptr H4 b5 o6 fun (x7 : Option Addr) =>
CALL P [T_sl, (T_int .i64)] n_strike_May [(.pointer x7), a0.v, a1.v, (.int .i64 a2.Who), (.int .i64 a2.Thing)] H4 fun (x8 : Sl × Int × Unit) H5 =>
IDX (some ⟨H1.length, 0, none⟩) 2 s4.1.1 1 fun b9 o10 =>
LD T_ptr H5 b9 o10 fun (x11 : Option Addr) =>
CALL P [T_sl, (T_int .i64)] n_strike_Guards [(.pointer x11), a0.v, a1.v, (.int .i64 a2.Who)] H5 fun (x12 : Sl × Int × Unit) H6 =>
IDX (some ⟨H1.length, 0, none⟩) 2 s4.1.1 1 fun b13 o14 =>
LD T_ptr H6 b13 o14 fun (x15 : Option Addr) =>
CALL P [T_sl, (T_int .i64)] n_strike_All [(.pointer x15), a0.v, a1.v, (.int .i64 a2.Who)] H6 fun (x16 : Sl × Int × Unit) H7 =>
IDX (some ⟨H1.length, 0, none⟩) 2 s4.1.1 1 fun b17 o18 =>
LD T_ptr H7 b17 o18 fun (x19 : Option Addr) =>
CALL P [T_sl, (T_int .i64)] n_strike_Blows [(.pointer x19), a0.v, a1.v, (.int .i64 a2.Thing), (.int .i64 a2.Meant)] H7 fun (x20 : Sl × Int × Unit) H8 =>
JOIN (fun (j21 : (Bool × Unit) × (Unit) → Heap → Prop) =>
IDX (some ⟨H1.length, 0, none⟩) 2 s4.1.1 1 fun b23 o24 =>
LD T_ptr H8 b23 o24 fun (x25 : Option Addr) =>
CALL P [(T_int .i64)] n_strike_Check [(.pointer x25), a0.v, a1.v, (.int .i64 a2.Who), (.int .i64 a2.Thing), (.int .i64 a2.Meant)] H8 fun (x26 : Int × Unit) H10 =>
ifB (x26.1 != 1) (
j21 ((true, ()), (())) H10) (
ifB (x8.2.1 != 1) (
j21 ((true, ()), (())) H10) (
ifB (x12.2.1 != 1) (
j21 ((true, ()), (())) H10) (
ifB (x16.2.1 != 1) (
j21 ((true, ()), (())) H10) (
ifB (x20.2.1 != 1) (
j21 ((true, ()), (())) H10) (
j21 (((IntKind.wrap .i64 ((IntKind.wrap .i64 ((IntKind.wrap .i64 ((x8.1.len : Int) + (x12.1.len : Int))) + (x16.1.len : Int))) + (x20.1.len : Int))) != 0, ()), (())) H10)))))) fun (y22 : (Bool × Unit) × (Unit)) H9 =>
ifB y22.1.1 (
Q (false, ()) H9) (
r3 ((IntKind.wrap .i64 (s4.1.1 + 1), ()), (())) H9)) (
j1 ((()), (())) H4)) ((0, ()), (())) H2) fun (y2 : (Unit) × (Unit)) H3 =>
CALL P [T_bool] n_law26_lives [] H3 fun (x27 : Bool × Unit) H11 =>
Q (x27.1, ()) H11
def h_law26_StrikeNil : Hnt := (.seq .leaf (.seq .leaf (.seq (.seq .leaf (.blk (some ⟨[], [], [6, 8, 9, 10, 11, 12, 13, 14, 15, 16, 20, 21, 22, 23, 24, 25, 26, 27, 28, 29, 30, 31, 32, 33, 34, 35, 36, 37, 38, 39, 40, 41, 42, 43, 44, 45, 46, 47, 48, 49, 50, 51, 52, 53, 54, 55, 56, 57, 58, 59, 60, 61, 62, 63, 64, 65, 66, 67, 68, 69, 70, 71, 72, 73, 74, 75, 76, 77, 78, 79, 80, 81, 82, 83, 84, 85, 86, 87, 88, 89, 90, 91, 92, 93, 94, 95, 96, 97, 98, 99, 100, 101, 102, 103, 104, 105, 106, 107, 108, 109, 110, 111, 112, 113, 114, 115, 116, 117, 118, 119, 120, 121]⟩) (.loop ⟨[(8, (T_int .i64))], [], [6, 9, 10, 11, 12, 13, 14, 15, 16, 20, 21, 22, 23, 24, 25, 26, 27, 28, 29, 30, 31, 32, 33, 34, 35, 36, 37, 38, 39, 40, 41, 42, 43, 44, 45, 46, 47, 48, 49, 50, 51, 52, 53, 54, 55, 56, 57, 58, 59, 60, 61, 62, 63, 64, 65, 66, 67, 68, 69, 70, 71, 72, 73, 74, 75, 76, 77, 78, 79, 80, 81, 82, 83, 84, 85, 86, 87, 88, 89, 90, 91, 92, 93, 94, 95, 96, 97, 98, 99, 100, 101, 102, 103, 104, 105, 106, 107, 108, 109, 110, 111, 112, 113, 114, 115, 116, 117, 118, 119, 120, 121]⟩ (.seq .leaf (.seq (.blk none (.seq .leaf (.seq .leaf (.seq .leaf (.seq .leaf (.seq (.reg ⟨[(121, T_bool)], [], [78, 79, 80, 81, 82, 83, 84, 85, 86, 87, 88, 89, 90, 91, 92, 93, 94, 95, 96, 97, 98, 99, 100, 101, 102, 103, 104, 105, 106, 107, 108, 109, 110, 111, 112, 113, 114, 115, 116, 117, 118, 119, 120]⟩) .leaf)))))) .leaf))))) .leaf)))
theorem e_law26_StrikeNil (a0 : Sl) (a1 : Sl) (a2 : G_law26_Ask) (H : Heap) (Q : Bool × Unit → Heap → Prop) : S_law26_StrikeNil a0 a1 a2 H Q = cFn C [5] Tryz.f4.ntmps Tryz.f4.results.toList [T_bool] (bodyOf Tryz.f4) h_law26_StrikeNil [a0.v, a1.v, (T_G_law26_Ask.enc a2)] H Q := by kernel_rfl
theorem c_law26_StrikeNil {a0 : Sl} {a1 : Sl} {a2 : G_law26_Ask} {H : Heap} {Q : Bool × Unit → Heap → Prop} (h : S_law26_StrikeNil a0 a1 a2 H Q) : CALL P [T_bool] n_law26_StrikeNil [a0.v, a1.v, (T_G_law26_Ask.enc a2)] H Q := call_print hE Tryz.func4 rfl (by kernel_rfl) (e_law26_StrikeNil a0 a1 a2 H Q) h

def S_strike_Check (a0 : Option Addr) (a1 : Sl) (a2 : Sl) (a3 : Int) (a4 : Int) (a5 : Int) (H : Heap) (Q : Int × Unit → Heap → Prop) : Prop :=
CALL P [(T_int .i64)] n_strike_ready [(.pointer a0), a1.v, a2.v, (.int .i64 a3), (.int .i64 a4)] H fun (x1 : Int × Unit) H1 =>
ifB (x1.1 != 0) (
Q (x1.1, ()) H1) (
CALL P [T_sl] n_strike_struck [(.pointer a0), a1.v, a2.v, (.int .i64 a3)] H1 fun (x2 : Sl × Unit) H2 =>
CALL P [T_bool] n_slices_Contains_int_int [x2.1.v, (.int .i64 a5)] H2 fun (x3 : Bool × Unit) H3 =>
ifB (!x3.1) (
Q (13, ()) H3) (
Q (0, ()) H3))
def h_strike_Check : Hnt := .leaf
theorem e_strike_Check (a0 : Option Addr) (a1 : Sl) (a2 : Sl) (a3 : Int) (a4 : Int) (a5 : Int) (H : Heap) (Q : Int × Unit → Heap → Prop) : S_strike_Check a0 a1 a2 a3 a4 a5 H Q = cFn C [] Tryz.f9.ntmps Tryz.f9.results.toList [(T_int .i64)] (bodyOf Tryz.f9) h_strike_Check [(.pointer a0), a1.v, a2.v, (.int .i64 a3), (.int .i64 a4), (.int .i64 a5)] H Q := by kernel_rfl
theorem c_strike_Check {a0 : Option Addr} {a1 : Sl} {a2 : Sl} {a3 : Int} {a4 : Int} {a5 : Int} {H : Heap} {Q : Int × Unit → Heap → Prop} (h : S_strike_Check a0 a1 a2 a3 a4 a5 H Q) : CALL P [(T_int .i64)] n_strike_Check [(.pointer a0), a1.v, a2.v, (.int .i64 a3), (.int .i64 a4), (.int .i64 a5)] H Q := call_print hE Tryz.func9 rfl (by kernel_rfl) (e_strike_Check a0 a1 a2 a3 a4 a5 H Q) h

def S_strike_May (a0 : Option Addr) (a1 : Sl) (a2 : Sl) (a3 : Int) (a4 : Int) (H : Heap) (Q : Sl × Int × Unit → Heap → Prop) : Prop :=
CALL P [(T_int .i64)] n_strike_ready [(.pointer a0), a1.v, a2.v, (.int .i64 a3), (.int .i64 a4)] H fun (x1 : Int × Unit) H1 =>
ifB (x1.1 != 0) (
Q ((Sl.mk none 0 0), x1.1, ()) H1) (
CALL P [T_sl] n_strike_struck [(.pointer a0), a1.v, a2.v, (.int .i64 a3)] H1 fun (x2 : Sl × Unit) H2 =>
Q (x2.1, 0, ()) H2)
def h_strike_May : Hnt := .leaf
theorem e_strike_May (a0 : Option Addr) (a1 : Sl) (a2 : Sl) (a3 : Int) (a4 : Int) (H : Heap) (Q : Sl × Int × Unit → Heap → Prop) : S_strike_May a0 a1 a2 a3 a4 H Q = cFn C [] Tryz.f10.ntmps Tryz.f10.results.toList [T_sl, (T_int .i64)] (bodyOf Tryz.f10) h_strike_May [(.pointer a0), a1.v, a2.v, (.int .i64 a3), (.int .i64 a4)] H Q := by kernel_rfl
theorem c_strike_May {a0 : Option Addr} {a1 : Sl} {a2 : Sl} {a3 : Int} {a4 : Int} {H : Heap} {Q : Sl × Int × Unit → Heap → Prop} (h : S_strike_May a0 a1 a2 a3 a4 H Q) : CALL P [T_sl, (T_int .i64)] n_strike_May [(.pointer a0), a1.v, a2.v, (.int .i64 a3), (.int .i64 a4)] H Q := call_print hE Tryz.func10 rfl (by kernel_rfl) (e_strike_May a0 a1 a2 a3 a4 H Q) h

def S_strike_All (a0 : Option Addr) (a1 : Sl) (a2 : Sl) (a3 : Int) (H : Heap) (Q : Sl × Int × Unit → Heap → Prop) : Prop :=
CALL P [(T_int .i64)] n_strike_wrong [(.pointer a0), a1.v, a2.v, (.int .i64 a3)] H fun (x1 : Int × Unit) H1 =>
ifB (x1.1 != 0) (
Q ((Sl.mk none 0 0), x1.1, ()) H1) (
CALL P [T_sl] n_strike_struck [(.pointer a0), a1.v, a2.v, (.int .i64 a3)] H1 fun (x2 : Sl × Unit) H2 =>
JOIN (fun (j3 : (Sl × Unit) × (Unit) → Heap → Prop) =>
LOOP (fun (r5 : (Sl × Int × Unit) × (Unit) → Heap → Prop) (s6 : (Sl × Int × Unit) × (Unit)) H4 =>
ifB (decide (s6.1.2.1 < (a1.len : Int))) (
JOIN (fun (j7 : (Sl × Unit) × (Unit) → Heap → Prop) =>
CALL P [(T_int .i64)] n_strike_ready [(.pointer a0), a1.v, a2.v, (.int .i64 a3), (.int .i64 (IntKind.wrap .i64 (s6.1.2.1 + 1)))] H4 fun (x9 : Int × Unit) H6 =>
ifB (x9.1 != 0) (
j7 ((s6.1.1, ()), (())) H6) (
JOIN (fun (j10 : (Sl × Unit) × (Unit) → Heap → Prop) =>
LOOP (fun (r12 : (Sl × Int × Unit) × (Unit) → Heap → Prop) (s13 : (Sl × Int × Unit) × (Unit)) H8 =>
ifB (decide (s13.1.2.1 < (x2.1.len : Int))) (
IDX x2.1.p x2.1.len s13.1.2.1 1 fun b14 o15 =>
LD (T_int .i64) H8 b14 o15 fun (x16 : Int) =>
GEN T_sl (aAppX E [37, 37] s13.1.1.v 1 [(.int .i64 (IntKind.wrap .i64 (s6.1.2.1 + 1))), (.int .i64 x16)] H8) fun (x17 : Sl) H9 =>
r12 ((x17, IntKind.wrap .i64 (s13.1.2.1 + 1), ()), (())) H9) (
j10 ((s13.1.1, ()), (())) H8)) ((s6.1.1, 0, ()), (())) H6) fun (y11 : (Sl × Unit) × (Unit)) H7 =>
j7 ((y11.1.1, ()), (())) H7)) fun (y8 : (Sl × Unit) × (Unit)) H5 =>
r5 ((y8.1.1, IntKind.wrap .i64 (s6.1.2.1 + 1), ()), (())) H5) (
j3 ((s6.1.1, ()), (())) H4)) (((Sl.mk none 0 0), 0, ()), (())) H2) fun (y4 : (Sl × Unit) × (Unit)) H3 =>
Q (y4.1.1, 0, ()) H3)
def h_strike_All : Hnt := (.seq .leaf (.seq .leaf (.seq .leaf (.seq .leaf (.seq (.seq .leaf (.blk (some ⟨[(11, T_sl)], [], [13, 15, 31, 32, 33, 34, 35, 36, 37, 38, 39, 40, 41, 42, 43, 44, 45, 46, 47, 48, 49, 50, 51, 52, 53, 54, 55, 56]⟩) (.loop ⟨[(11, T_sl), (31, (T_int .i64))], [], [13, 15, 32, 33, 34, 35, 36, 37, 38, 39, 40, 41, 42, 43, 44, 45, 46, 47, 48, 49, 50, 51, 52, 53, 54, 55, 56]⟩ (.seq .leaf (.seq .leaf (.seq (.blk (some ⟨[(11, T_sl)], [], [13, 15, 33, 34, 35, 36, 37, 38, 39, 40, 41, 42, 43, 44, 45, 46, 47, 48, 49, 50, 51, 52, 53, 54, 55]⟩) (.seq .leaf (.seq .leaf (.seq .leaf (.blk (some ⟨[(11, T_sl)], [], [15, 44, 45, 46, 47, 48, 49, 50, 51, 52, 53, 54, 55]⟩) (.loop ⟨[(11, T_sl), (44, (T_int .i64))], [], [15, 45, 46, 47, 48, 49, 50, 51, 52, 53, 54, 55]⟩ .leaf)))))) .leaf)))))) .leaf)))))
theorem e_strike_All (a0 : Option Addr) (a1 : Sl) (a2 : Sl) (a3 : Int) (H : Heap) (Q : Sl × Int × Unit → Heap → Prop) : S_strike_All a0 a1 a2 a3 H Q = cFn C [53] Tryz.f11.ntmps Tryz.f11.results.toList [T_sl, (T_int .i64)] (bodyOf Tryz.f11) h_strike_All [(.pointer a0), a1.v, a2.v, (.int .i64 a3)] H Q := by kernel_rfl
theorem c_strike_All {a0 : Option Addr} {a1 : Sl} {a2 : Sl} {a3 : Int} {H : Heap} {Q : Sl × Int × Unit → Heap → Prop} (h : S_strike_All a0 a1 a2 a3 H Q) : CALL P [T_sl, (T_int .i64)] n_strike_All [(.pointer a0), a1.v, a2.v, (.int .i64 a3)] H Q := call_print hE Tryz.func11 rfl (by kernel_rfl) (e_strike_All a0 a1 a2 a3 H Q) h

def S_strike_Guards (a0 : Option Addr) (a1 : Sl) (a2 : Sl) (a3 : Int) (H : Heap) (Q : Sl × Int × Unit → Heap → Prop) : Prop :=
CALL P [(T_int .i64)] n_strike_wrong [(.pointer a0), a1.v, a2.v, (.int .i64 a3)] H fun (x1 : Int × Unit) H1 =>
ifB (x1.1 != 0) (
Q ((Sl.mk none 0 0), x1.1, ()) H1) (
CALL P [T_sl] n_strike_guards [(.pointer a0), a1.v, a2.v, (.int .i64 a3)] H1 fun (x2 : Sl × Unit) H2 =>
Q (x2.1, 0, ()) H2)
def h_strike_Guards : Hnt := .leaf
theorem e_strike_Guards (a0 : Option Addr) (a1 : Sl) (a2 : Sl) (a3 : Int) (H : Heap) (Q : Sl × Int × Unit → Heap → Prop) : S_strike_Guards a0 a1 a2 a3 H Q = cFn C [] Tryz.f12.ntmps Tryz.f12.results.toList [T_sl, (T_int .i64)] (bodyOf Tryz.f12) h_strike_Guards [(.pointer a0), a1.v, a2.v, (.int .i64 a3)] H Q := by kernel_rfl
theorem c_strike_Guards {a0 : Option Addr} {a1 : Sl} {a2 : Sl} {a3 : Int} {H : Heap} {Q : Sl × Int × Unit → Heap → Prop} (h : S_strike_Guards a0 a1 a2 a3 H Q) : CALL P [T_sl, (T_int .i64)] n_strike_Guards [(.pointer a0), a1.v, a2.v, (.int .i64 a3)] H Q := call_print hE Tryz.func12 rfl (by kernel_rfl) (e_strike_Guards a0 a1 a2 a3 H Q) h

def S_strike_Blows (a0 : Option Addr) (a1 : Sl) (a2 : Sl) (a3 : Int) (a4 : Int) (H : Heap) (Q : Sl × Int × Unit → Heap → Prop) : Prop :=
NEW H [(.pointer a0)] 1 fun H1 =>
NEW H1 [(.slice a1.p a1.len a1.cap)] 1 fun H2 =>
NEW H2 [(.slice a2.p a2.len a2.cap)] 1 fun H3 =>
LD T_ptr H3 H.length 0 fun (x1 : Option Addr) =>
LD T_sl H3 H1.length 0 fun (x2 : Sl) =>
LD T_sl H3 H2.length 0 fun (x3 : Sl) =>
CALL P [(T_int .i64)] n_strike_wrong [(.pointer x1), x2.v, x3.v, (.int .i64 0)] H3 fun (x4 : Int × Unit) H4 =>
ifB (x4.1 != 0) (
Q ((Sl.mk none 0 0), x4.1, ()) H4) (
JOIN (fun (j5 : (Bool × Unit) × (Unit) → Heap → Prop) =>
CALLV P [T_bool] (.func (.func n_strike_Blows_1) #[] #[(.pointer (some ⟨H1.length, 0, none⟩)), (.pointer (some ⟨H.length, 0, none⟩))]) [(.int .i64 a3)] H4 fun (x7 : Bool × Unit) H6 =>
ifB (!x7.1) (
j5 ((true, ()), (())) H6) (
ifB (a4 != (-1)) (
ifB (a4 != (-2)) (
CALLV P [T_bool] (.func (.func n_strike_Blows_1) #[] #[(.pointer (some ⟨H1.length, 0, none⟩)), (.pointer (some ⟨H.length, 0, none⟩))]) [(.int .i64 a4)] H6 fun (x8 : Bool × Unit) H7 =>
j5 ((!x8.1, ()), (())) H7) (
j5 ((false, ()), (())) H6)) (
j5 ((false, ()), (())) H6))) fun (y6 : (Bool × Unit) × (Unit)) H5 =>
ifB y6.1.1 (
Q ((Sl.mk none 0 0), 2, ()) H5) (
CALLV P [T_G_api_Happening] (.func (.func n_strike_Blows_2) #[] #[(.pointer (some ⟨H2.length, 0, none⟩))]) [(.int .i64 a3), (.int .i64 a4)] H5 fun (x9 : G_api_Happening × Unit) H8 =>
NEW H8 [(.int .u8 x9.1.Verb), (.int .i64 x9.1.On), (.int .i64 x9.1.Count), (.int .i64 x9.1.Holder), (.bool x9.1.Venom), (.bool x9.1.Drain)] 6 fun H9 =>
JOIN (fun (j10 : (Sl × Unit) × (Unit) → Heap → Prop) =>
ifB (decide (a4 > 0)) (
CALLV P [T_G_api_Happening] (.func (.func n_strike_Blows_2) #[] #[(.pointer (some ⟨H2.length, 0, none⟩))]) [(.int .i64 a4), (.int .i64 a3)] H9 fun (x12 : G_api_Happening × Unit) H11 =>
GEN T_sl (aAppX E [41, 41] ((Sl.mk (some ⟨H8.length, 0, none⟩) 1 1)).v 1 (T_G_api_Happening.cells x12.1) H11) fun (x13 : Sl) H12 =>
j10 ((x13, ()), (())) H12) (
j10 (((Sl.mk (some ⟨H8.length, 0, none⟩) 1 1), ()), (())) H9)) fun (y11 : (Sl × Unit) × (Unit)) H10 =>
Q (y11.1.1, 0, ()) H10))
def h_strike_Blows : Hnt := (.seq .leaf (.seq .leaf (.seq .leaf (.seq (.seq (.reg ⟨[(41, T_bool)], [], [24, 25, 26, 27, 28, 29, 30, 31, 32, 33, 34, 35, 36, 37, 38, 39, 40]⟩) .leaf) (.seq .leaf (.seq .leaf (.seq (.seq .leaf (.cond (some ⟨[(15, T_sl)], [], [50, 51, 52, 53, 54, 55, 56]⟩) .leaf .leaf)) .leaf)))))))
theorem e_strike_Blows (a0 : Option Addr) (a1 : Sl) (a2 : Sl) (a3 : Int) (a4 : Int) (H : Heap) (Q : Sl × Int × Unit → Heap → Prop) : S_strike_Blows a0 a1 a2 a3 a4 H Q = cFn C [55] Tryz.f13.ntmps Tryz.f13.results.toList [T_sl, (T_int .i64)] (bodyOf Tryz.f13) h_strike_Blows [(.pointer a0), a1.v, a2.v, (.int .i64 a3), (.int .i64 a4)] H Q := by kernel_rfl
theorem c_strike_Blows {a0 : Option Addr} {a1 : Sl} {a2 : Sl} {a3 : Int} {a4 : Int} {H : Heap} {Q : Sl × Int × Unit → Heap → Prop} (h : S_strike_Blows a0 a1 a2 a3 a4 H Q) : CALL P [T_sl, (T_int .i64)] n_strike_Blows [(.pointer a0), a1.v, a2.v, (.int .i64 a3), (.int .i64 a4)] H Q := call_print hE Tryz.func13 rfl (by kernel_rfl) (e_strike_Blows a0 a1 a2 a3 a4 H Q) h

def S_strike_ready (a0 : Option Addr) (a1 : Sl) (a2 : Sl) (a3 : Int) (a4 : Int) (H : Heap) (Q : Int × Unit → Heap → Prop) : Prop :=
CALL P [(T_int .i64)] n_strike_wrong [(.pointer a0), a1.v, a2.v, (.int .i64 a3)] H fun (x1 : Int × Unit) H1 =>
ifB (x1.1 != 0) (
Q (x1.1, ()) H1) (
JOIN (fun (j2 : (Bool × Unit) × (Unit) → Heap → Prop) =>
ifB (decide (a4 < 1)) (
j2 ((true, ()), (())) H1) (
ifB (decide (a4 > (a1.len : Int))) (
j2 ((true, ()), (())) H1) (
IDX a1.p a1.len (IntKind.wrap .i64 (a4 - 1)) 11 fun b4 o5 =>
LD (T_int .u8) H1 b4 (o5 + 2) fun (x6 : Int) =>
ifB (x6 != 4) (
j2 ((true, ()), (())) H1) (
IDX a2.p a2.len (IntKind.wrap .i64 (a4 - 1)) 5 fun b7 o8 =>
LD (T_int .i64) H1 b7 (o8 + 0) fun (x9 : Int) =>
j2 ((x9 != a3, ()), (())) H1)))) fun (y3 : (Bool × Unit) × (Unit)) H2 =>
ifB y3.1.1 (
Q (6, ()) H2) (
IDX a1.p a1.len (IntKind.wrap .i64 (a4 - 1)) 11 fun b10 o11 =>
LD T_G_api_Thing H2 b10 o11 fun (x12 : G_api_Thing) =>
IDX a2.p a2.len (IntKind.wrap .i64 (a4 - 1)) 5 fun b13 o14 =>
LD T_G_api_Feature H2 b13 o14 fun (x15 : G_api_Feature) =>
CALL P [T_bool] n_strike_tired [(.pointer a0), (T_G_api_Thing.enc x12), (T_G_api_Feature.enc x15)] H2 fun (x16 : Bool × Unit) H3 =>
ifB x16.1 (
Q (15, ()) H3) (
Q (0, ()) H3)))
def h_strike_ready : Hnt := (.seq .leaf (.seq .leaf (.seq (.blk none (.seq (.reg ⟨[(20, T_bool)], [], [21, 22, 23, 24, 25, 26, 27, 28, 29, 30, 31, 32, 33, 34, 35, 36, 37, 38, 39, 40, 41, 42, 43, 44, 45, 46, 47]⟩) .leaf)) .leaf)))
theorem e_strike_ready (a0 : Option Addr) (a1 : Sl) (a2 : Sl) (a3 : Int) (a4 : Int) (H : Heap) (Q : Int × Unit → Heap → Prop) : S_strike_ready a0 a1 a2 a3 a4 H Q = cFn C [] Tryz.f36.ntmps Tryz.f36.results.toList [(T_int .i64)] (bodyOf Tryz.f36) h_strike_ready [(.pointer a0), a1.v, a2.v, (.int .i64 a3), (.int .i64 a4)] H Q := by kernel_rfl
theorem c_strike_ready {a0 : Option Addr} {a1 : Sl} {a2 : Sl} {a3 : Int} {a4 : Int} {H : Heap} {Q : Int × Unit → Heap → Prop} (h : S_strike_ready a0 a1 a2 a3 a4 H Q) : CALL P [(T_int .i64)] n_strike_ready [(.pointer a0), a1.v, a2.v, (.int .i64 a3), (.int .i64 a4)] H Q := call_print hE Tryz.func36 rfl (by kernel_rfl) (e_strike_ready a0 a1 a2 a3 a4 H Q) h

def S_strike_wrong (a0 : Option Addr) (a1 : Sl) (a2 : Sl) (a3 : Int) (H : Heap) (Q : Int × Unit → Heap → Prop) : Prop :=
CALL P [(T_int .i64), (T_int .i64)] n_layer_Next [(.pointer a0), a1.v, a2.v, ((Sl.mk none 0 0)).v] H fun (x1 : Int × Int × Unit) H1 =>
ifB (x1.2.1 != 0) (
Q (x1.2.1, ()) H1) (
JOIN (fun (j2 : (Bool × Unit) × (Unit) → Heap → Prop) =>
ifB (a3 != 0) (
j2 ((a3 != 1, ()), (())) H1) (
j2 ((false, ()), (())) H1)) fun (y3 : (Bool × Unit) × (Unit)) H2 =>
ifB y3.1.1 (
Q (2, ()) H2) (
Q (0, ()) H2))
def h_strike_wrong : Hnt := (.seq .leaf (.seq .leaf (.seq (.seq (.reg ⟨[(26, T_bool)], [], [21, 22, 23, 24, 25]⟩) .leaf) .leaf)))
theorem e_strike_wrong (a0 : Option Addr) (a1 : Sl) (a2 : Sl) (a3 : Int) (H : Heap) (Q : Int × Unit → Heap → Prop) : S_strike_wrong a0 a1 a2 a3 H Q = cFn C [] Tryz.f39.ntmps Tryz.f39.results.toList [(T_int .i64)] (bodyOf Tryz.f39) h_strike_wrong [(.pointer a0), a1.v, a2.v, (.int .i64 a3)] H Q := by kernel_rfl
theorem c_strike_wrong {a0 : Option Addr} {a1 : Sl} {a2 : Sl} {a3 : Int} {H : Heap} {Q : Int × Unit → Heap → Prop} (h : S_strike_wrong a0 a1 a2 a3 H Q) : CALL P [(T_int .i64)] n_strike_wrong [(.pointer a0), a1.v, a2.v, (.int .i64 a3)] H Q := call_print hE Tryz.func39 rfl (by kernel_rfl) (e_strike_wrong a0 a1 a2 a3 H Q) h

def S_layer_Next (a0 : Option Addr) (a1 : Sl) (a2 : Sl) (a3 : Sl) (H : Heap) (Q : Int × Int × Unit → Heap → Prop) : Prop :=
CALL P [T_G_layer_place, (T_int .i64)] n_layer_setup [(.pointer a0), a1.v, a2.v] H fun (x1 : G_layer_place × Int × Unit) H1 =>
ifB (x1.2.1 != 0) (
Q (0, x1.2.1, ()) H1) (
CALL P [T_bool] n_layer_place_listed [(T_G_layer_place.enc x1.1), a3.v] H1 fun (x2 : Bool × Unit) H2 =>
ifB (!x2.1) (
Q (0, 2, ()) H2) (
CALL P [(T_int .i64)] n_layer_place_next [(T_G_layer_place.enc x1.1), a2.v, a3.v] H2 fun (x3 : Int × Unit) H3 =>
Q (x3.1, 0, ()) H3))
def h_layer_Next : Hnt := .leaf
theorem e_layer_Next (a0 : Option Addr) (a1 : Sl) (a2 : Sl) (a3 : Sl) (H : Heap) (Q : Int × Int × Unit → Heap → Prop) : S_layer_Next a0 a1 a2 a3 H Q = cFn C [10] Tryz.f73.ntmps Tryz.f73.results.toList [(T_int .i64), (T_int .i64)] (bodyOf Tryz.f73) h_layer_Next [(.pointer a0), a1.v, a2.v, a3.v] H Q := by kernel_rfl
theorem c_layer_Next {a0 : Option Addr} {a1 : Sl} {a2 : Sl} {a3 : Sl} {H : Heap} {Q : Int × Int × Unit → Heap → Prop} (h : S_layer_Next a0 a1 a2 a3 H Q) : CALL P [(T_int .i64), (T_int .i64)] n_layer_Next [(.pointer a0), a1.v, a2.v, a3.v] H Q := call_print hE Tryz.func73 rfl (by kernel_rfl) (e_layer_Next a0 a1 a2 a3 H Q) h

def S_thing_Card (a0 : Option Addr) (a1 : G_api_Thing) (H : Heap) (Q : G_api_Card × Int × Unit → Heap → Prop) : Prop :=
CALL P [T_G_api_Card, (T_int .i64)] n_book_Book_At [(.pointer a0), (.int .i64 a1.Card)] H fun (x1 : G_api_Card × Int × Unit) H1 =>
Q (x1.1, x1.2.1, ()) H1
def h_thing_Card : Hnt := .leaf
theorem e_thing_Card (a0 : Option Addr) (a1 : G_api_Thing) (H : Heap) (Q : G_api_Card × Int × Unit → Heap → Prop) : S_thing_Card a0 a1 H Q = cFn C [3, 4] Tryz.f74.ntmps Tryz.f74.results.toList [T_G_api_Card, (T_int .i64)] (bodyOf Tryz.f74) h_thing_Card [(.pointer a0), (T_G_api_Thing.enc a1)] H Q := by kernel_rfl
theorem c_thing_Card {a0 : Option Addr} {a1 : G_api_Thing} {H : Heap} {Q : G_api_Card × Int × Unit → Heap → Prop} (h : S_thing_Card a0 a1 H Q) : CALL P [T_G_api_Card, (T_int .i64)] n_thing_Card [(.pointer a0), (T_G_api_Thing.enc a1)] H Q := call_print hE Tryz.func74 rfl (by kernel_rfl) (e_thing_Card a0 a1 H Q) h

def S_book_Book_none (a0 : Option Addr) (H : Heap) (Q : Bool × Unit → Heap → Prop) : Prop :=
JOIN (fun (j1 : (Bool × Unit) × (Unit) → Heap → Prop) =>
ifB a0.isNone (
j1 ((true, ()), (())) H) (
NIL a0 fun b3 o4 =>
LD T_bool H b3 (o4 + 0) fun (x5 : Bool) =>
j1 ((!x5, ()), (())) H)) fun (y2 : (Bool × Unit) × (Unit)) H1 =>
Q (y2.1.1, ()) H1
def h_book_Book_none : Hnt := (.seq .leaf (.seq (.reg ⟨[(2, T_bool)], [], [3, 4, 5, 6, 7, 8, 9, 10, 11]⟩) .leaf))
theorem e_book_Book_none (a0 : Option Addr) (H : Heap) (Q : Bool × Unit → Heap → Prop) : S_book_Book_none a0 H Q = cFn C [] Tryz.f85.ntmps Tryz.f85.results.toList [T_bool] (bodyOf Tryz.f85) h_book_Book_none [(.pointer a0)] H Q := by kernel_rfl
theorem c_book_Book_none {a0 : Option Addr} {H : Heap} {Q : Bool × Unit → Heap → Prop} (h : S_book_Book_none a0 H Q) : CALL P [T_bool] n_book_Book_none [(.pointer a0)] H Q := call_print hE Tryz.func85 rfl (by kernel_rfl) (e_book_Book_none a0 H Q) h

def S_layer_setup (a0 : Option Addr) (a1 : Sl) (a2 : Sl) (H : Heap) (Q : G_layer_place × Int × Unit → Heap → Prop) : Prop :=
NEW H [(.slice a1.p a1.len a1.cap)] 1 fun H1 =>
LD T_sl H1 H.length 0 fun (x1 : Sl) =>
LD T_sl H1 H.length 0 fun (x2 : Sl) =>
GEN T_sl (aMakeSlice E 70 (.int .i64 (x2.len : Int)) (.int .i64 (x2.len : Int)) H1) fun (x3 : Sl) H2 =>
LD T_sl H2 H.length 0 fun (x4 : Sl) =>
REQ (T_sl.enc x4 = x1.v) (
CALL P [(T_int .i64), (T_int .i64)] n_book_Book_Find [(.pointer a0), (.string (ByteArray.mk #[]))] H2 fun (x5 : Int × Int × Unit) H3 =>
ifB (x5.2.1 == 1) (
Q ((G_layer_place.mk a0 x1 x3 (Sl.mk none 0 0)), x5.2.1, ()) H3) (
LD T_sl H3 H.length 0 fun (x6 : Sl) =>
ifB (decide ((x6.len : Int) > 2048)) (
Q ((G_layer_place.mk a0 x1 x3 (Sl.mk none 0 0)), 3, ()) H3) (
JOIN (fun (j7 : (Bool × Unit) × (Unit) → Heap → Prop) =>
CALL P [T_bool] n_book_Book_Sealed [(.pointer a0)] H3 fun (x9 : Bool × Unit) H5 =>
ifB (!x9.1) (
j7 ((true, ()), (())) H5) (
LD T_sl H5 H.length 0 fun (x10 : Sl) =>
j7 (((a2.len : Int) != (x10.len : Int), ()), (())) H5)) fun (y8 : (Bool × Unit) × (Unit)) H4 =>
ifB y8.1.1 (
Q ((G_layer_place.mk a0 x1 x3 (Sl.mk none 0 0)), 2, ()) H4) (
LD T_sl H4 H.length 0 fun (x11 : Sl) =>
JOIN (fun (j12 : (Unit) × (G_layer_place × G_layer_place × Unit) → Heap → Prop) =>
LOOP (fun (r14 : (Int × Unit) × (G_layer_place × G_layer_place × Unit) → Heap → Prop) (s15 : (Int × Unit) × (G_layer_place × G_layer_place × Unit)) H7 =>
ifB (decide (s15.1.1 < (x11.len : Int))) (
JOIN (fun (j16 : (Unit) × (G_layer_place × G_layer_place × Unit) → Heap → Prop) =>
IDX x11.p x11.len s15.1.1 11 fun b18 o19 =>
LD T_G_api_Thing H7 b18 o19 fun (x20 : G_api_Thing) =>
CALL P [T_G_api_Card, (T_int .i64)] n_thing_Card [(.pointer a0), (T_G_api_Thing.enc x20)] H7 fun (x21 : G_api_Card × Int × Unit) H9 =>
JOIN (fun (j22 : (Bool × Unit) × (Unit) → Heap → Prop) =>
ifB (x21.2.1 != 0) (
j22 ((true, ()), (())) H9) (
ifB (x20.Owner != 0) (
ifB (x20.Owner != 1) (
j22 ((true, ()), (())) H9) (
ifB (decide (x20.Place < 1)) (
j22 ((true, ()), (())) H9) (
j22 ((decide (x20.Place > 5), ()), (())) H9))) (
ifB (decide (x20.Place < 1)) (
j22 ((true, ()), (())) H9) (
j22 ((decide (x20.Place > 5), ()), (())) H9)))) fun (y23 : (Bool × Unit) × (Unit)) H10 =>
ifB y23.1.1 (
Q (s15.2.2.1, 2, ()) H10) (
ifB (x20.Place != 4) (
j16 ((()), (s15.2.1, s15.2.2.1, ())) H10) (
JOIN (fun (j24 : (Bool × Unit) × (Unit) → Heap → Prop) =>
ifB (x21.1.Kind == 2) (
j24 ((true, ()), (())) H10) (
ifB (decide (x20.Stamp < 1)) (
j24 ((true, ()), (())) H10) (
IDX a2.p a2.len s15.1.1 5 fun b26 o27 =>
LD (T_int .i64) H10 b26 (o27 + 0) fun (x28 : Int) =>
ifB (x28 != 0) (
IDX a2.p a2.len s15.1.1 5 fun b29 o30 =>
LD (T_int .i64) H10 b29 (o30 + 0) fun (x31 : Int) =>
ifB (x31 != 1) (
j24 ((true, ()), (())) H10) (
IDX a2.p a2.len s15.1.1 5 fun b32 o33 =>
LD (T_int .u16) H10 b32 (o33 + 2) fun (x34 : Int) =>
CALL P [T_bool] n_trait_Check [(.int .u16 x34)] H10 fun (x35 : Bool × Unit) H12 =>
j24 ((!x35.1, ()), (())) H12)) (
IDX a2.p a2.len s15.1.1 5 fun b36 o37 =>
LD (T_int .u16) H10 b36 (o37 + 2) fun (x38 : Int) =>
CALL P [T_bool] n_trait_Check [(.int .u16 x38)] H10 fun (x39 : Bool × Unit) H13 =>
j24 ((!x39.1, ()), (())) H13)))) fun (y25 : (Bool × Unit) × (Unit)) H11 =>
ifB y25.1.1 (
Q (s15.2.2.1, 2, ()) H11) (
IDX s15.2.2.1.cards.p s15.2.2.1.cards.len s15.1.1 9 fun b40 o41 =>
ST H11 b40 o41 (T_G_api_Card.cells x21.1) fun H14 =>
GEN T_sl (aAppX E [34, 34] s15.2.2.1.order.v 1 [(.int .i64 s15.1.1)] H14) fun (x42 : Sl) H15 =>
ifB (decide ((x42.len : Int) > 16)) (
Q ((G_layer_place.mk s15.2.2.1.b s15.2.2.1.things s15.2.2.1.cards x42), 2, ()) H15) (
j16 ((()), (s15.2.1, (G_layer_place.mk s15.2.2.1.b s15.2.2.1.things s15.2.2.1.cards x42), ())) H15))))) fun (y17 : (Unit) × (G_layer_place × G_layer_place × Unit)) H8 =>
r14 ((IntKind.wrap .i64 (s15.1.1 + 1), ()), (y17.2.1, y17.2.2.1, ())) H8) (
j12 ((()), (s15.2.1, s15.2.2.1, ())) H7)) ((0, ()), ((G_layer_place.mk none (Sl.mk none 0 0) (Sl.mk none 0 0) (Sl.mk none 0 0)), (G_layer_place.mk a0 x1 x3 (Sl.mk none 0 0)), ())) H4) fun (y13 : (Unit) × (G_layer_place × G_layer_place × Unit)) H6 =>
CALL P [] n_slices_SortFunc_int_int [y13.2.2.1.order.v, (.func (.func n_layer_setup_1) #[] #[(.pointer (some ⟨H.length, 0, none⟩))])] H6 fun (x43 : Unit) H16 =>
JOIN (fun (j44 : (Unit) × (G_layer_place × Unit) → Heap → Prop) =>
LOOP (fun (r46 : (Int × Unit) × (G_layer_place × Unit) → Heap → Prop) (s47 : (Int × Unit) × (G_layer_place × Unit)) H18 =>
ifB (decide (s47.1.1 < (y13.2.2.1.order.len : Int))) (
LD T_sl H18 H.length 0 fun (x48 : Sl) =>
IDX y13.2.2.1.order.p y13.2.2.1.order.len (IntKind.wrap .i64 (s47.1.1 - 1)) 1 fun b49 o50 =>
LD (T_int .i64) H18 b49 o50 fun (x51 : Int) =>
IDX x48.p x48.len x51 11 fun b52 o53 =>
LD (T_int .i64) H18 b52 (o53 + 3) fun (x54 : Int) =>
LD T_sl H18 H.length 0 fun (x55 : Sl) =>
IDX y13.2.2.1.order.p y13.2.2.1.order.len s47.1.1 1 fun b56 o57 =>
LD (T_int .i64) H18 b56 o57 fun (x58 : Int) =>
IDX x55.p x55.len x58 11 fun b59 o60 =>
LD (T_int .i64) H18 b59 (o60 + 3) fun (x61 : Int) =>
ifB (x54 == x61) (
Q (y13.2.2.1, 2, ()) H18) (
r46 ((IntKind.wrap .i64 (s47.1.1 + 1), ()), (s47.2.1, ())) H18)) (
j44 ((()), (s47.2.1, ())) H18)) ((1, ()), (y13.2.1, ())) H16) fun (y45 : (Unit) × (G_layer_place × Unit)) H17 =>
Q (y13.2.2.1, 0, ()) H17))))
def h_layer_setup : Hnt := (.seq .leaf (.seq .leaf (.seq (.seq .leaf (.blk none (.seq .leaf (.cond none .leaf (.seq .leaf (.cond none .leaf (.seq (.reg ⟨[(37, T_bool)], [], [38, 39, 40, 41, 42, 43, 44, 45, 46, 47]⟩) .leaf))))))) (.seq (.seq .leaf (.blk (some ⟨[], [(0, T_G_layer_place), (1, T_G_layer_place)], [7, 11, 12, 13, 14, 51, 52, 53, 54, 55, 56, 57, 58, 59, 60, 61, 62, 63, 64, 65, 66, 67, 68, 69, 70, 71, 72, 73, 74, 75, 76, 77, 78, 79, 80, 81, 82, 83, 84, 85, 86, 87, 88, 89, 90, 91, 92, 93, 94, 95, 96, 97, 98, 99, 100, 101, 102, 103, 104, 105, 106, 107, 108, 109, 110, 111, 112, 113, 114, 115, 116, 117, 118, 119, 120, 121, 122, 123, 124, 125, 126, 127, 128, 129, 130, 131, 132, 133, 134, 135, 136, 137, 138]⟩) (.loop ⟨[(51, (T_int .i64))], [(0, T_G_layer_place), (1, T_G_layer_place)], [7, 11, 12, 13, 14, 52, 53, 54, 55, 56, 57, 58, 59, 60, 61, 62, 63, 64, 65, 66, 67, 68, 69, 70, 71, 72, 73, 74, 75, 76, 77, 78, 79, 80, 81, 82, 83, 84, 85, 86, 87, 88, 89, 90, 91, 92, 93, 94, 95, 96, 97, 98, 99, 100, 101, 102, 103, 104, 105, 106, 107, 108, 109, 110, 111, 112, 113, 114, 115, 116, 117, 118, 119, 120, 121, 122, 123, 124, 125, 126, 127, 128, 129, 130, 131, 132, 133, 134, 135, 136, 137, 138]⟩ (.seq .leaf (.seq .leaf (.seq (.blk (some ⟨[], [(0, T_G_layer_place), (1, T_G_layer_place)], [7, 11, 12, 13, 14, 53, 54, 55, 56, 57, 58, 59, 60, 61, 62, 63, 64, 65, 66, 67, 68, 69, 70, 71, 72, 73, 74, 75, 76, 77, 78, 79, 80, 81, 82, 83, 84, 85, 86, 87, 88, 89, 90, 91, 92, 93, 94, 95, 96, 97, 98, 99, 100, 101, 102, 103, 104, 105, 106, 107, 108, 109, 110, 111, 112, 113, 114, 115, 116, 117, 118, 119, 120, 121, 122, 123, 124, 125, 126, 127, 128, 129, 130, 131, 132, 133, 134, 135, 136, 137]⟩) (.seq .leaf (.seq .leaf (.seq (.seq (.reg ⟨[(83, T_bool)], [], [62, 63, 64, 65, 66, 67, 68, 69, 70, 71, 72, 73, 74, 75, 76, 77, 78, 79, 80, 81, 82]⟩) .leaf) (.seq .leaf (.seq (.seq (.reg ⟨[(120, T_bool)], [], [88, 89, 90, 91, 92, 93, 94, 95, 96, 97, 98, 99, 100, 101, 102, 103, 104, 105, 106, 107, 108, 109, 110, 111, 112, 113, 114, 115, 116, 117, 118, 119]⟩) .leaf) .leaf)))))) .leaf)))))) (.seq .leaf (.seq (.seq .leaf (.blk (some ⟨[], [(0, T_G_layer_place)], [7, 15, 143, 144, 145, 146, 147, 148, 149, 150, 151, 152, 153, 154, 155, 156, 157, 158, 159, 160, 161, 162, 163, 164, 165, 166, 167, 168, 169, 170]⟩) (.loop ⟨[(15, (T_int .i64))], [(0, T_G_layer_place)], [7, 143, 144, 145, 146, 147, 148, 149, 150, 151, 152, 153, 154, 155, 156, 157, 158, 159, 160, 161, 162, 163, 164, 165, 166, 167, 168, 169, 170]⟩ .leaf))) .leaf))))))
theorem e_layer_setup (a0 : Option Addr) (a1 : Sl) (a2 : Sl) (H : Heap) (Q : G_layer_place × Int × Unit → Heap → Prop) : S_layer_setup a0 a1 a2 H Q = cFn C [6, 8, 12, 13, 130] Tryz.f93.ntmps Tryz.f93.results.toList [T_G_layer_place, (T_int .i64)] (bodyOf Tryz.f93) h_layer_setup [(.pointer a0), a1.v, a2.v] H Q := by kernel_rfl
theorem c_layer_setup {a0 : Option Addr} {a1 : Sl} {a2 : Sl} {H : Heap} {Q : G_layer_place × Int × Unit → Heap → Prop} (h : S_layer_setup a0 a1 a2 H Q) : CALL P [T_G_layer_place, (T_int .i64)] n_layer_setup [(.pointer a0), a1.v, a2.v] H Q := call_print hE Tryz.func93 rfl (by kernel_rfl) (e_layer_setup a0 a1 a2 H Q) h

def S_book_Book_At (a0 : Option Addr) (a1 : Int) (H : Heap) (Q : G_api_Card × Int × Unit → Heap → Prop) : Prop :=
CALL P [T_bool] n_book_Book_none [(.pointer a0)] H fun (x1 : Bool × Unit) H1 =>
ifB x1.1 (
Q ((G_api_Card.mk (ByteArray.mk #[]) 0 0 0 0 0 0 false (Sl.mk none 0 0)), 1, ()) H1) (
JOIN (fun (j2 : (Bool × Unit) × (Unit) → Heap → Prop) =>
NIL a0 fun b4 o5 =>
LD T_bool H1 b4 (o5 + 1) fun (x6 : Bool) =>
ifB (!x6) (
j2 ((true, ()), (())) H1) (
ifB (decide (a1 < 1)) (
j2 ((true, ()), (())) H1) (
NIL a0 fun b7 o8 =>
LD (T_int .i64) H1 b7 (o8 + 2) fun (x9 : Int) =>
j2 ((decide (a1 > x9), ()), (())) H1))) fun (y3 : (Bool × Unit) × (Unit)) H2 =>
ifB y3.1.1 (
Q ((G_api_Card.mk (ByteArray.mk #[]) 0 0 0 0 0 0 false (Sl.mk none 0 0)), 6, ()) H2) (
NIL a0 fun b10 o11 =>
IDXA 64 (IntKind.wrap .i64 (a1 - 1)) (
LD T_G_api_Card H2 b10 (o11 + 3 + (IntKind.wrap .i64 (a1 - 1)).toNat * 9) fun (x12 : G_api_Card) =>
CALL P [T_G_api_Card] n_card_Copy [(T_G_api_Card.enc x12)] H2 fun (x13 : G_api_Card × Unit) H3 =>
Q (x13.1, 0, ()) H3)))
def h_book_Book_At : Hnt := (.seq .leaf (.seq .leaf (.seq (.seq (.reg ⟨[(25, T_bool)], [], [9, 10, 11, 12, 13, 14, 15, 16, 17, 18, 19, 20, 21, 22, 23, 24]⟩) .leaf) .leaf)))
theorem e_book_Book_At (a0 : Option Addr) (a1 : Int) (H : Heap) (Q : G_api_Card × Int × Unit → Heap → Prop) : S_book_Book_At a0 a1 H Q = cFn C [4] Tryz.f96.ntmps Tryz.f96.results.toList [T_G_api_Card, (T_int .i64)] (bodyOf Tryz.f96) h_book_Book_At [(.pointer a0), (.int .i64 a1)] H Q := by kernel_rfl
theorem c_book_Book_At {a0 : Option Addr} {a1 : Int} {H : Heap} {Q : G_api_Card × Int × Unit → Heap → Prop} (h : S_book_Book_At a0 a1 H Q) : CALL P [T_G_api_Card, (T_int .i64)] n_book_Book_At [(.pointer a0), (.int .i64 a1)] H Q := call_print hE Tryz.func96 rfl (by kernel_rfl) (e_book_Book_At a0 a1 H Q) h

def S_book_Book_Find (a0 : Option Addr) (a1 : ByteArray) (H : Heap) (Q : Int × Int × Unit → Heap → Prop) : Prop :=
CALL P [T_bool] n_book_Book_none [(.pointer a0)] H fun (x1 : Bool × Unit) H1 =>
ifB x1.1 (
Q (0, 1, ()) H1) (
CALL P [(T_int .i64)] n_book_Book_place [(.pointer a0), (.string a1)] H1 fun (x2 : Int × Unit) H2 =>
JOIN (fun (j3 : (Bool × Unit) × (Unit) → Heap → Prop) =>
NIL a0 fun b5 o6 =>
LD T_bool H2 b5 (o6 + 1) fun (x7 : Bool) =>
ifB x7 (
j3 ((decide (x2.1 ≥ 0), ()), (())) H2) (
j3 ((false, ()), (())) H2)) fun (y4 : (Bool × Unit) × (Unit)) H3 =>
ifB y4.1.1 (
Q (IntKind.wrap .i64 (x2.1 + 1), 0, ()) H3) (
Q (0, 6, ()) H3))
def h_book_Book_Find : Hnt := (.seq .leaf (.seq .leaf (.seq (.seq .leaf (.seq (.reg ⟨[(19, T_bool)], [], [12, 13, 14, 15, 16, 17, 18]⟩) .leaf)) .leaf)))
theorem e_book_Book_Find (a0 : Option Addr) (a1 : ByteArray) (H : Heap) (Q : Int × Int × Unit → Heap → Prop) : S_book_Book_Find a0 a1 H Q = cFn C [] Tryz.f124.ntmps Tryz.f124.results.toList [(T_int .i64), (T_int .i64)] (bodyOf Tryz.f124) h_book_Book_Find [(.pointer a0), (.string a1)] H Q := by kernel_rfl
theorem c_book_Book_Find {a0 : Option Addr} {a1 : ByteArray} {H : Heap} {Q : Int × Int × Unit → Heap → Prop} (h : S_book_Book_Find a0 a1 H Q) : CALL P [(T_int .i64), (T_int .i64)] n_book_Book_Find [(.pointer a0), (.string a1)] H Q := call_print hE Tryz.func124 rfl (by kernel_rfl) (e_book_Book_Find a0 a1 H Q) h

def S_ref07_Book_At (a0 : Option Addr) (a1 : Int) (H : Heap) (Q : G_api_Card × Int × Unit → Heap → Prop) : Prop :=
CALL P [T_bool] n_ref07_Book_None [(.pointer a0)] H fun (x1 : Bool × Unit) H1 =>
ifB x1.1 (
Q ((G_api_Card.mk (ByteArray.mk #[]) 0 0 0 0 0 0 false (Sl.mk none 0 0)), 1, ()) H1) (
JOIN (fun (j2 : (Bool × Unit) × (Unit) → Heap → Prop) =>
NIL a0 fun b4 o5 =>
LD T_bool H1 b4 (o5 + 1) fun (x6 : Bool) =>
ifB (!x6) (
j2 ((true, ()), (())) H1) (
ifB (decide (a1 < 1)) (
j2 ((true, ()), (())) H1) (
NIL a0 fun b7 o8 =>
LD T_sl H1 b7 (o8 + 2) fun (x9 : Sl) =>
j2 ((decide (a1 > (x9.len : Int)), ()), (())) H1))) fun (y3 : (Bool × Unit) × (Unit)) H2 =>
ifB y3.1.1 (
Q ((G_api_Card.mk (ByteArray.mk #[]) 0 0 0 0 0 0 false (Sl.mk none 0 0)), 6, ()) H2) (
NIL a0 fun b10 o11 =>
LD T_sl H2 b10 (o11 + 2) fun (x12 : Sl) =>
IDX x12.p x12.len (IntKind.wrap .i64 (a1 - 1)) 9 fun b13 o14 =>
LD T_G_api_Card H2 b13 o14 fun (x15 : G_api_Card) =>
CALL P [T_G_api_Card] n_ref06_Copy [(T_G_api_Card.enc x15)] H2 fun (x16 : G_api_Card × Unit) H3 =>
Q (x16.1, 0, ()) H3))
def h_ref07_Book_At : Hnt := (.seq .leaf (.seq .leaf (.seq (.seq (.reg ⟨[(26, T_bool)], [], [9, 10, 11, 12, 13, 14, 15, 16, 17, 18, 19, 20, 21, 22, 23, 24, 25]⟩) .leaf) .leaf)))
theorem e_ref07_Book_At (a0 : Option Addr) (a1 : Int) (H : Heap) (Q : G_api_Card × Int × Unit → Heap → Prop) : S_ref07_Book_At a0 a1 H Q = cFn C [4] Tryz.f140.ntmps Tryz.f140.results.toList [T_G_api_Card, (T_int .i64)] (bodyOf Tryz.f140) h_ref07_Book_At [(.pointer a0), (.int .i64 a1)] H Q := by kernel_rfl
theorem c_ref07_Book_At {a0 : Option Addr} {a1 : Int} {H : Heap} {Q : G_api_Card × Int × Unit → Heap → Prop} (h : S_ref07_Book_At a0 a1 H Q) : CALL P [T_G_api_Card, (T_int .i64)] n_ref07_Book_At [(.pointer a0), (.int .i64 a1)] H Q := call_print hE Tryz.func140 rfl (by kernel_rfl) (e_ref07_Book_At a0 a1 H Q) h

def S_layer_Effects (a0 : Option Addr) (a1 : Sl) (a2 : Sl) (a3 : Int) (H : Heap) (Q : Sl × Int × Unit → Heap → Prop) : Prop :=
CALL P [T_G_layer_place, (T_int .i64)] n_layer_setup [(.pointer a0), a1.v, a2.v] H fun (x1 : G_layer_place × Int × Unit) H1 =>
ifB (x1.2.1 != 0) (
Q ((Sl.mk none 0 0), x1.2.1, ()) H1) (
JOIN (fun (j2 : (Bool × Unit) × (Unit) → Heap → Prop) =>
ifB (decide (a3 < 1)) (
j2 ((true, ()), (())) H1) (
j2 ((decide (a3 > 5), ()), (())) H1)) fun (y3 : (Bool × Unit) × (Unit)) H2 =>
ifB y3.1.1 (
Q ((Sl.mk none 0 0), 2, ()) H2) (
CALL P [T_sl] n_layer_place_effects [(T_G_layer_place.enc x1.1), a2.v, (.int .i64 a3)] H2 fun (x4 : Sl × Unit) H3 =>
Q (x4.1, 0, ()) H3))
def h_layer_Effects : Hnt := (.seq .leaf (.seq .leaf (.seq (.blk none (.seq .leaf (.cond none .leaf (.seq (.reg ⟨[(23, T_bool)], [], [24, 25, 26, 27, 28, 29]⟩) .leaf)))) .leaf)))
theorem e_layer_Effects (a0 : Option Addr) (a1 : Sl) (a2 : Sl) (a3 : Int) (H : Heap) (Q : Sl × Int × Unit → Heap → Prop) : S_layer_Effects a0 a1 a2 a3 H Q = cFn C [10] Tryz.f145.ntmps Tryz.f145.results.toList [T_sl, (T_int .i64)] (bodyOf Tryz.f145) h_layer_Effects [(.pointer a0), a1.v, a2.v, (.int .i64 a3)] H Q := by kernel_rfl
theorem c_layer_Effects {a0 : Option Addr} {a1 : Sl} {a2 : Sl} {a3 : Int} {H : Heap} {Q : Sl × Int × Unit → Heap → Prop} (h : S_layer_Effects a0 a1 a2 a3 H Q) : CALL P [T_sl, (T_int .i64)] n_layer_Effects [(.pointer a0), a1.v, a2.v, (.int .i64 a3)] H Q := call_print hE Tryz.func145 rfl (by kernel_rfl) (e_layer_Effects a0 a1 a2 a3 H Q) h
end Zv
end Go.Proofs.YtngdmjajgeobhaaGreatDoor
