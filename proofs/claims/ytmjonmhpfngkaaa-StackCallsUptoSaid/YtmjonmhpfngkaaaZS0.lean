/- Printed by gen2.py: what the functions come to. -/
import Derived.Test.YtmjonmhpfngkaaaZT
import Derived.KernelRfl
namespace Go.Proofs.Ytmjonmhpfngkaaa
open Go Zq
namespace Zv
set_option maxRecDepth 100000
set_option linter.unusedVariables false
def S_law23_StackNil (a0 : G_api_Item) (H : Heap) (Q : Bool × Unit → Heap → Prop) : Prop :=
NEW H [(.bool false), (.int .i64 0), (.int .i64 0), (.int .i64 0), (.int .i64 0), (.int .i64 0), (.int .i64 0), (.int .i64 0), (.int .i64 0), (.int .i64 0), (.int .i64 0), (.int .i64 0), (.int .i64 0), (.int .i64 0), (.int .i64 0), (.int .i64 0), (.int .i64 0), (.int .i64 0), (.int .i64 0), (.int .i64 0), (.int .i64 0), (.int .i64 0), (.int .i64 0), (.int .i64 0), (.int .i64 0), (.int .i64 0), (.int .i64 0), (.int .i64 0), (.int .i64 0), (.int .i64 0), (.int .i64 0), (.int .i64 0), (.int .i64 0), (.int .i64 0), (.int .i64 0), (.int .i64 0), (.int .i64 0), (.int .i64 0), (.int .i64 0), (.int .i64 0), (.int .i64 0), (.int .i64 0), (.int .i64 0), (.int .i64 0), (.int .i64 0), (.int .i64 0), (.int .i64 0), (.int .i64 0), (.int .i64 0), (.int .i64 0), (.int .i64 0), (.int .i64 0), (.int .i64 0), (.int .i64 0), (.int .i64 0), (.int .i64 0), (.int .i64 0), (.int .i64 0), (.int .i64 0), (.int .i64 0), (.int .i64 0), (.int .i64 0), (.int .i64 0), (.int .i64 0), (.int .i64 0), (.int .i64 0), (.int .i64 0), (.int .i64 0), (.int .i64 0), (.int .i64 0), (.int .i64 0), (.int .i64 0), (.int .i64 0), (.int .i64 0), (.int .i64 0), (.int .i64 0), (.int .i64 0), (.int .i64 0), (.int .i64 0), (.int .i64 0), (.int .i64 0), (.int .i64 0), (.int .i64 0), (.int .i64 0), (.int .i64 0), (.int .i64 0), (.int .i64 0), (.int .i64 0), (.int .i64 0), (.int .i64 0), (.int .i64 0), (.int .i64 0), (.int .i64 0), (.int .i64 0), (.int .i64 0), (.int .i64 0), (.int .i64 0), (.int .i64 0)] 98 fun H1 =>
NEW H1 [(.pointer none), (.pointer (some ⟨H.length, 0, none⟩))] 1 fun H2 =>
JOIN (fun (j1 : (Unit) × (Unit) → Heap → Prop) =>
LOOP (fun (r3 : (Int × Unit) × (Unit) → Heap → Prop) (s4 : (Int × Unit) × (Unit)) H4 =>
ifB (decide (s4.1.1 < 2)) (
IDX (some ⟨H1.length, 0, none⟩) 2 s4.1.1 1 fun b5 o6 =>
LD T_ptr H4 b5 o6 fun (x7 : Option Addr) =>
NEW H4 [(.int .i64 a0.Thing), (.int .i64 a0.Part), (.int .i64 a0.Holder), (.int .i64 a0.Meant)] 4 fun H5 =>
CALL P [(T_int .i64), (T_int .i64)] n_stack_Stack_Lay [(.pointer x7), ((Sl.mk (some ⟨H4.length, 0, none⟩) 1 1)).v] H5 fun (x8 : Int × Int × Unit) H6 =>
CALL P [T_G_api_Item, T_bool] n_stack_Stack_Pop [(.pointer x7)] H6 fun (x9 : G_api_Item × Bool × Unit) H7 =>
CALL P [T_G_api_Item, T_bool] n_stack_Stack_Top [(.pointer x7)] H7 fun (x10 : G_api_Item × Bool × Unit) H8 =>
JOIN (fun (j11 : (Bool × Unit) × (Unit) → Heap → Prop) =>
CALL P [(T_int .i64)] n_stack_Stack_Push [(.pointer x7), (T_G_api_Item.enc a0)] H8 fun (x13 : Int × Unit) H10 =>
ifB (x13.1 != 1) (
j11 ((true, ()), (())) H10) (
ifB (x8.2.1 != 1) (
j11 ((true, ()), (())) H10) (
ifB (x8.1 != 0) (
j11 ((true, ()), (())) H10) (
ifB x9.2.1 (
j11 ((true, ()), (())) H10) (
ifB x10.2.1 (
j11 ((true, ()), (())) H10) (
ifB (!((x9.1.Thing == 0) && ((x9.1.Part == 0) && ((x9.1.Holder == 0) && ((x9.1.Meant == 0) && true))))) (
j11 ((true, ()), (())) H10) (
ifB (!((x10.1.Thing == 0) && ((x10.1.Part == 0) && ((x10.1.Holder == 0) && ((x10.1.Meant == 0) && true))))) (
j11 ((true, ()), (())) H10) (
CALL P [T_sl] n_stack_Stack_Items [(.pointer x7)] H10 fun (x14 : Sl × Unit) H11 =>
CALL P [(T_int .i64)] n_stack_Stack_Len [(.pointer x7)] H11 fun (x15 : Int × Unit) H12 =>
j11 (((IntKind.wrap .i64 ((x14.1.len : Int) + x15.1)) != 0, ()), (())) H12)))))))) fun (y12 : (Bool × Unit) × (Unit)) H9 =>
ifB y12.1.1 (
Q (false, ()) H9) (
CALL P [T_sl, T_bool] n_law23_down [(.pointer x7), (.int .i64 0)] H9 fun (x16 : Sl × Bool × Unit) H13 =>
JOIN (fun (j17 : (Bool × Unit) × (Unit) → Heap → Prop) =>
ifB ((x16.1.len : Int) != 0) (
j17 ((true, ()), (())) H13) (
j17 ((!x16.2.1, ()), (())) H13)) fun (y18 : (Bool × Unit) × (Unit)) H14 =>
ifB y18.1.1 (
Q (false, ()) H14) (
r3 ((IntKind.wrap .i64 (s4.1.1 + 1), ()), (())) H14))) (
j1 ((()), (())) H4)) ((0, ()), (())) H2) fun (y2 : (Unit) × (Unit)) H3 =>
CALL P [T_bool] n_law23_lives [] H3 fun (x19 : Bool × Unit) H15 =>
Q (x19.1, ()) H15
def h_law23_StackNil : Hnt := (.seq .leaf (.seq .leaf (.seq (.seq .leaf (.blk (some ⟨[], [], [2, 4, 5, 6, 7, 8, 9, 10, 11, 12, 13, 17, 18, 19, 20, 21, 22, 23, 24, 25, 26, 27, 28, 29, 30, 31, 32, 33, 34, 35, 36, 37, 38, 39, 40, 41, 42, 43, 44, 45, 46, 47, 48, 49, 50, 51, 52, 53, 54, 55, 56, 57, 58, 59, 60, 61, 62, 63, 64, 65, 66, 67, 68, 69, 70, 71, 72, 73, 74, 75, 76, 77, 78, 79, 80, 81, 82, 83, 84, 85, 86, 87, 88, 89, 90, 91, 92]⟩) (.loop ⟨[(4, (T_int .i64))], [], [2, 5, 6, 7, 8, 9, 10, 11, 12, 13, 17, 18, 19, 20, 21, 22, 23, 24, 25, 26, 27, 28, 29, 30, 31, 32, 33, 34, 35, 36, 37, 38, 39, 40, 41, 42, 43, 44, 45, 46, 47, 48, 49, 50, 51, 52, 53, 54, 55, 56, 57, 58, 59, 60, 61, 62, 63, 64, 65, 66, 67, 68, 69, 70, 71, 72, 73, 74, 75, 76, 77, 78, 79, 80, 81, 82, 83, 84, 85, 86, 87, 88, 89, 90, 91, 92]⟩ (.seq .leaf (.seq (.blk none (.seq .leaf (.seq .leaf (.seq .leaf (.seq .leaf (.seq (.seq (.reg ⟨[(80, T_bool)], [], [44, 45, 46, 47, 48, 49, 50, 51, 52, 53, 54, 55, 56, 57, 58, 59, 60, 61, 62, 63, 64, 65, 66, 67, 68, 69, 70, 71, 72, 73, 74, 75, 76, 77, 78, 79]⟩) .leaf) (.seq .leaf (.seq (.reg ⟨[(92, T_bool)], [], [86, 87, 88, 89, 90, 91]⟩) .leaf)))))))) .leaf))))) .leaf)))
theorem e_law23_StackNil (a0 : G_api_Item) (H : Heap) (Q : Bool × Unit → Heap → Prop) : S_law23_StackNil a0 H Q = cFn C [1, 8, 10] Try.f3.ntmps Try.f3.results.toList [T_bool] (bodyOf Try.f3) h_law23_StackNil [(T_G_api_Item.enc a0)] H Q := by kernel_rfl
theorem c_law23_StackNil {a0 : G_api_Item} {H : Heap} {Q : Bool × Unit → Heap → Prop} (h : S_law23_StackNil a0 H Q) : CALL P [T_bool] n_law23_StackNil [(T_G_api_Item.enc a0)] H Q := call_print hE Try.func3 rfl (by kernel_rfl) (e_law23_StackNil a0 H Q) h

def S_law23_StackCalls (a0 : Sl) (a1 : Sl) (H : Heap) (Q : Bool × Unit → Heap → Prop) : Prop :=
CALL P [T_bool] n_law23_lives [] H fun (x1 : Bool × Unit) H1 =>
ifB (!x1.1) (
Q (false, ()) H1) (
JOIN (fun (j2 : (Bool × Unit) × (Unit) → Heap → Prop) =>
ifB (decide ((a0.len : Int) > 100)) (
j2 ((true, ()), (())) H1) (
j2 ((decide ((a1.len : Int) > 80), ()), (())) H1)) fun (y3 : (Bool × Unit) × (Unit)) H2 =>
ifB y3.1.1 (
Q (true, ()) H2) (
CALL P [T_sl] n_kit_LentItems [a0.v] H2 fun (x4 : Sl × Unit) H3 =>
GENV T_sl (aSlice E 32 x4.1.v none (some (.int .i64 (a0.len : Int))) none H3) fun (x5 : Sl) =>
CALL P [T_ptr, (T_int .i64)] n_stack_From [x5.v] H3 fun (x6 : (Option Addr) × Int × Unit) H4 =>
CALL P [T_ptr, (T_int .i64)] n_ref23_From [a0.v] H4 fun (x7 : (Option Addr) × Int × Unit) H5 =>
JOIN (fun (j8 : (Bool × Unit) × (Unit) → Heap → Prop) =>
ifB (x6.2.1 != x7.2.1) (
j8 ((true, ()), (())) H5) (
ifB (!(x6.1.isNone == x7.1.isNone)) (
j8 ((true, ()), (())) H5) (
CALL P [T_bool] n_kit_KeptItems [x4.1.v, a0.v] H5 fun (x10 : Bool × Unit) H7 =>
j8 ((!x10.1, ()), (())) H7))) fun (y9 : (Bool × Unit) × (Unit)) H6 =>
ifB y9.1.1 (
Q (false, ()) H6) (
CALL P [] n_kit_OverItems [x4.1.v] H6 fun (x11 : Unit) H8 =>
ifB x7.1.isNone (
Q (true, ()) H8) (
CALL P [T_any] n_stack_Stack_Down [(.pointer x6.1)] H8 fun (x12 : Value × Unit) H9 =>
CALL P [T_sl] n_ref23_Stack_Down [(.pointer x7.1)] H9 fun (x13 : Sl × Unit) H10 =>
JOIN (fun (j14 : (Bool × Unit) × (Unit) → Heap → Prop) =>
LOOP (fun (r16 : (Bool × Int × Unit) × (Unit) → Heap → Prop) (s17 : (Bool × Int × Unit) × (Unit)) H12 =>
ifB (decide (s17.1.2.1 < (a1.len : Int))) (
IDX a1.p a1.len s17.1.2.1 7 fun b18 o19 =>
LD T_sl H12 b18 (o19 + 5) fun (x20 : Sl) =>
ifB (decide ((x20.len : Int) > 100)) (
Q (true, ()) H12) (
IDX a1.p a1.len s17.1.2.1 7 fun b21 o22 =>
LD T_G_law23_Op H12 b21 o22 fun (x23 : G_law23_Op) =>
CALL P [T_bool] n_law23_call [(.pointer x6.1), (.pointer x7.1), (T_G_law23_Op.enc x23)] H12 fun (x24 : Bool × Unit) H13 =>
JOIN (fun (j25 : (Bool × Unit) × (Unit) → Heap → Prop) =>
ifB (!x24.1) (
j25 ((true, ()), (())) H13) (
CALL P [(T_int .i64)] n_stack_Stack_Len [(.pointer x6.1)] H13 fun (x27 : Int × Unit) H15 =>
CALL P [(T_int .i64)] n_ref23_Stack_Len [(.pointer x7.1)] H15 fun (x28 : Int × Unit) H16 =>
j25 ((x27.1 != x28.1, ()), (())) H16)) fun (y26 : (Bool × Unit) × (Unit)) H14 =>
ifB y26.1.1 (
Q (false, ()) H14) (
r16 ((s17.1.1, IntKind.wrap .i64 (s17.1.2.1 + 1), ()), (())) H14))) (
j14 ((s17.1.1, ()), (())) H12)) ((false, 0, ()), (())) H10) fun (y15 : (Bool × Unit) × (Unit)) H11 =>
JOIN (fun (j29 : (Unit) × (Unit) → Heap → Prop) =>
LOOP (fun (r31 : (Bool × Int × Unit) × (Unit) → Heap → Prop) (s32 : (Bool × Int × Unit) × (Unit)) H18 =>
ifB (decide (s32.1.2.1 < 2)) (
JOIN (fun (j33 : (Bool × Unit) × (Unit) → Heap → Prop) =>
NEW H18 [(.slice none 0 0)] 1 fun H20 =>
JOIN (fun (j35 : (Unit) × (Unit) → Heap → Prop) =>
RFV P [(T_int .i64), T_G_api_Item] x12.1 H20 (fun lb37 (x38 : Int × G_api_Item × Unit) H22 k39 =>
NEW H22 [(.int .i64 0), (.int .i64 0), (.int .i64 0), (.int .i64 0)] 4 fun H24 =>
ST H24 H22.length 0 (T_G_api_Item.cells x38.2.1) fun H25 =>
REQ (H25[H20.length]? = some (lb37 .ready none)) (
LD T_sl (H25.set H20.length (lb37 .busy none)) H18.length 0 fun (x41 : Sl) =>
LD T_G_api_Item (H25.set H20.length (lb37 .busy none)) H22.length 0 fun (x42 : G_api_Item) =>
APP T_sl (lenV x41.v + 1) (aAppE E [32, 32] x41.v 1 (T_G_api_Item.cells x42) (H25.set H20.length (lb37 .busy none))) fun (x43 : Sl) H26 =>
ST H26 H18.length 0 [(.slice x43.p x43.len x43.cap)] fun H27 =>
k39 .normal H27)) fun (e40 : Ex) H23 =>
(e40 = .normal ∧ (
j35 ((()), (())) H23)) ∨ (
False)) fun (y36 : (Unit) × (Unit)) H21 =>
LD T_sl H21 H18.length 0 fun (x44 : Sl) =>
CALL P [T_bool] n_kit_SameItems [x44.v, x13.1.v] H21 fun (x45 : Bool × Unit) H28 =>
ifB (!x45.1) (
Q (false, ()) H28) (
j33 ((s32.1.1, ()), (())) H28)) fun (y34 : (Bool × Unit) × (Unit)) H19 =>
r31 ((y34.1.1, IntKind.wrap .i64 (s32.1.2.1 + 1), ()), (())) H19) (
j29 ((()), (())) H18)) ((y15.1.1, 0, ()), (())) H11) fun (y30 : (Unit) × (Unit)) H17 =>
CALL P [T_sl] n_stack_Stack_Items [(.pointer x6.1)] H17 fun (x46 : Sl × Unit) H29 =>
CALL P [T_sl] n_stack_Stack_Items [(.pointer x6.1)] H29 fun (x47 : Sl × Unit) H30 =>
JOIN (fun (j48 : (Bool × Unit) × (Unit) → Heap → Prop) =>
CALL P [T_sl] n_ref23_Stack_Items [(.pointer x7.1)] H30 fun (x50 : Sl × Unit) H32 =>
CALL P [T_bool] n_kit_SameItems [x46.1.v, x50.1.v] H32 fun (x51 : Bool × Unit) H33 =>
ifB x51.1 (
NEW H33 [(.slice x46.1.p x46.1.len x46.1.cap), (.slice x47.1.p x47.1.len x47.1.cap)] 1 fun H34 =>
CALL P [T_bool] n_kit_ApartItems [((Sl.mk (some ⟨H33.length, 0, none⟩) 2 2)).v] H34 fun (x52 : Bool × Unit) H35 =>
ifB x52.1 (
CALL P [T_sl] n_stack_Stack_Items [(.pointer x6.1)] H35 fun (x53 : Sl × Unit) H36 =>
CALL P [T_sl] n_ref23_Stack_Items [(.pointer x7.1)] H36 fun (x54 : Sl × Unit) H37 =>
CALL P [T_bool] n_kit_SameItems [x53.1.v, x54.1.v] H37 fun (x55 : Bool × Unit) H38 =>
j48 ((x55.1, ()), (())) H38) (
j48 ((false, ()), (())) H35)) (
j48 ((false, ()), (())) H33)) fun (y49 : (Bool × Unit) × (Unit)) H31 =>
Q (y49.1.1, ()) H31))))
def h_law23_StackCalls : Hnt := (.seq .leaf (.seq .leaf (.seq (.seq (.reg ⟨[(29, T_bool)], [], [22, 23, 24, 25, 26, 27, 28]⟩) .leaf) (.seq .leaf (.seq .leaf (.seq .leaf (.seq (.seq (.reg ⟨[(60, T_bool)], [], [45, 46, 47, 48, 49, 50, 51, 52, 53, 54, 55, 56, 57, 58, 59]⟩) .leaf) (.seq .leaf (.seq .leaf (.seq .leaf (.seq (.seq .leaf (.blk (some ⟨[(4, T_bool)], [], [12, 13, 69, 70, 71, 72, 73, 74, 75, 76, 77, 78, 79, 80, 81, 82, 83, 84, 85, 86, 87, 88, 89, 90, 91, 92, 93, 94, 95, 96, 97]⟩) (.loop ⟨[(4, T_bool), (12, (T_int .i64))], [], [13, 69, 70, 71, 72, 73, 74, 75, 76, 77, 78, 79, 80, 81, 82, 83, 84, 85, 86, 87, 88, 89, 90, 91, 92, 93, 94, 95, 96, 97]⟩ (.seq .leaf (.seq (.blk none (.seq .leaf (.seq .leaf (.seq (.reg ⟨[(97, T_bool)], [], [89, 90, 91, 92, 93, 94, 95, 96]⟩) .leaf)))) .leaf))))) (.seq (.seq .leaf (.blk (some ⟨[], [], [4, 14, 15, 17, 98, 99, 100, 101, 102, 105, 106, 107, 108, 109, 110, 111, 112]⟩) (.loop ⟨[(4, T_bool), (14, (T_int .i64))], [], [15, 17, 98, 99, 100, 101, 102, 105, 106, 107, 108, 109, 110, 111, 112]⟩ (.seq .leaf (.seq (.blk (some ⟨[(4, T_bool)], [], [15, 17, 102, 105, 106, 107, 108, 109, 110, 111, 112]⟩) (.seq .leaf (.seq (.seq .leaf (.blk (some ⟨[], [], [17, 105, 106, 107, 108]⟩) (.blk (some ⟨[(103, (T_int .i64)), (104, T_G_api_Item)], [], []⟩) .leaf))) .leaf))) .leaf))))) (.seq .leaf (.seq (.reg ⟨[(4, T_bool)], [], [117, 118, 119, 120, 121, 122, 123, 124, 125, 126, 127, 128, 129, 130, 131, 132, 133]⟩) .leaf))))))))))))))
theorem e_law23_StackCalls (a0 : Sl) (a1 : Sl) (H : Heap) (Q : Bool × Unit → Heap → Prop) : S_law23_StackCalls a0 a1 H Q = cFn C [107] Try.f4.ntmps Try.f4.results.toList [T_bool] (bodyOf Try.f4) h_law23_StackCalls [a0.v, a1.v] H Q := by kernel_rfl
theorem c_law23_StackCalls {a0 : Sl} {a1 : Sl} {H : Heap} {Q : Bool × Unit → Heap → Prop} (h : S_law23_StackCalls a0 a1 H Q) : CALL P [T_bool] n_law23_StackCalls [a0.v, a1.v] H Q := call_print hE Try.func4 rfl (by kernel_rfl) (e_law23_StackCalls a0 a1 H Q) h

def S_stack_Stack_Lay (a0 : Option Addr) (a1 : Sl) (H : Heap) (Q : Int × Int × Unit → Heap → Prop) : Prop :=
CALL P [T_bool] n_stack_Stack_is [(.pointer a0)] H fun (x1 : Bool × Unit) H1 =>
ifB (!x1.1) (
Q (0, 1, ()) H1) (
JOIN (fun (j2 : (Unit) × (Unit) → Heap → Prop) =>
LOOP (fun (r4 : (Int × Unit) × (Unit) → Heap → Prop) (s5 : (Int × Unit) × (Unit)) H3 =>
ifB (decide (s5.1.1 < (a1.len : Int))) (
IDX a1.p a1.len s5.1.1 4 fun b6 o7 =>
LD T_G_api_Item H3 b6 o7 fun (x8 : G_api_Item) =>
CALL P [T_bool] n_stack_may [(T_G_api_Item.enc x8)] H3 fun (x9 : Bool × Unit) H4 =>
ifB (!x9.1) (
Q (0, 2, ()) H4) (
r4 ((IntKind.wrap .i64 (s5.1.1 + 1), ()), (())) H4)) (
j2 ((()), (())) H3)) ((0, ()), (())) H1) fun (y3 : (Unit) × (Unit)) H2 =>
JOIN (fun (j10 : (Int × Unit) × (Unit) → Heap → Prop) =>
LOOP (fun (r12 : (Int × Int × Unit) × (Unit) → Heap → Prop) (s13 : (Int × Int × Unit) × (Unit)) H6 =>
ifB (decide (s13.1.2.1 ≥ 0)) (
IDX a1.p a1.len s13.1.2.1 4 fun b14 o15 =>
LD T_G_api_Item H6 b14 o15 fun (x16 : G_api_Item) =>
CALL P [(T_int .i64)] n_stack_Stack_Push [(.pointer a0), (T_G_api_Item.enc x16)] H6 fun (x17 : Int × Unit) H7 =>
JOIN (fun (j18 : (Int × Unit) × (Unit) → Heap → Prop) =>
ifB (x17.1 != 0) (
j18 ((IntKind.wrap .i64 (s13.1.1 + 1), ()), (())) H7) (
j18 ((s13.1.1, ()), (())) H7)) fun (y19 : (Int × Unit) × (Unit)) H8 =>
r12 ((y19.1.1, IntKind.wrap .i64 (s13.1.2.1 - 1), ()), (())) H8) (
j10 ((s13.1.1, ()), (())) H6)) ((0, IntKind.wrap .i64 ((a1.len : Int) - 1), ()), (())) H2) fun (y11 : (Int × Unit) × (Unit)) H5 =>
Q (y11.1.1, 0, ()) H5)
def h_stack_Stack_Lay : Hnt := (.seq .leaf (.seq .leaf (.seq (.seq .leaf (.blk (some ⟨[], [], [4, 5, 7, 15, 16, 17, 18, 19, 20, 21, 22]⟩) (.loop ⟨[(15, (T_int .i64))], [], [4, 5, 7, 16, 17, 18, 19, 20, 21, 22]⟩ .leaf))) (.seq .leaf (.seq (.seq .leaf (.blk (some ⟨[(8, (T_int .i64))], [], [9, 26, 27, 28, 29, 30, 31, 32, 33, 34, 35, 36, 37, 38]⟩) (.loop ⟨[(8, (T_int .i64)), (9, (T_int .i64))], [], [26, 27, 28, 29, 30, 31, 32, 33, 34, 35, 36, 37, 38]⟩ (.seq .leaf (.seq (.blk none (.seq .leaf (.cond (some ⟨[(8, (T_int .i64))], [], [37, 38]⟩) .leaf .leaf))) .leaf))))) .leaf)))))
theorem e_stack_Stack_Lay (a0 : Option Addr) (a1 : Sl) (H : Heap) (Q : Int × Int × Unit → Heap → Prop) : S_stack_Stack_Lay a0 a1 H Q = cFn C [7] Try.f5.ntmps Try.f5.results.toList [(T_int .i64), (T_int .i64)] (bodyOf Try.f5) h_stack_Stack_Lay [(.pointer a0), a1.v] H Q := by kernel_rfl
theorem c_stack_Stack_Lay {a0 : Option Addr} {a1 : Sl} {H : Heap} {Q : Int × Int × Unit → Heap → Prop} (h : S_stack_Stack_Lay a0 a1 H Q) : CALL P [(T_int .i64), (T_int .i64)] n_stack_Stack_Lay [(.pointer a0), a1.v] H Q := call_print hE Try.func5 rfl (by kernel_rfl) (e_stack_Stack_Lay a0 a1 H Q) h

def S_stack_Stack_Pop (a0 : Option Addr) (H : Heap) (Q : G_api_Item × Bool × Unit → Heap → Prop) : Prop :=
CALL P [T_G_api_Item, T_bool] n_stack_Stack_Top [(.pointer a0)] H fun (x1 : G_api_Item × Bool × Unit) H1 =>
JOIN (fun (j2 : (Unit) × (Unit) → Heap → Prop) =>
ifB x1.2.1 (
NIL a0 fun b4 o5 =>
LD (T_int .i64) H1 b4 (o5 + 1) fun (x6 : Int) =>
NIL a0 fun b7 o8 =>
ST H1 b7 (o8 + 1) [(.int .i64 (IntKind.wrap .i64 (x6 - 1)))] fun H3 =>
NIL a0 fun b9 o10 =>
LD (T_int .i64) H3 b9 (o10 + 1) fun (x11 : Int) =>
NIL a0 fun b12 o13 =>
IDXA 24 x11 (
ST H3 b12 (o13 + 2 + x11.toNat * 4) [(.int .i64 0), (.int .i64 0), (.int .i64 0), (.int .i64 0)] fun H4 =>
j2 ((()), (())) H4)) (
j2 ((()), (())) H1)) fun (y3 : (Unit) × (Unit)) H2 =>
Q (x1.1, x1.2.1, ()) H2
def h_stack_Stack_Pop : Hnt := (.seq .leaf (.seq .leaf (.seq (.seq .leaf (.cond (some ⟨[], [], [12, 13, 14, 15, 16, 17, 18, 19, 20, 21, 22, 23, 24, 25, 26, 27]⟩) .leaf .leaf)) .leaf)))
theorem e_stack_Stack_Pop (a0 : Option Addr) (H : Heap) (Q : G_api_Item × Bool × Unit → Heap → Prop) : S_stack_Stack_Pop a0 H Q = cFn C [2, 4] Try.f6.ntmps Try.f6.results.toList [T_G_api_Item, T_bool] (bodyOf Try.f6) h_stack_Stack_Pop [(.pointer a0)] H Q := by kernel_rfl
theorem c_stack_Stack_Pop {a0 : Option Addr} {H : Heap} {Q : G_api_Item × Bool × Unit → Heap → Prop} (h : S_stack_Stack_Pop a0 H Q) : CALL P [T_G_api_Item, T_bool] n_stack_Stack_Pop [(.pointer a0)] H Q := call_print hE Try.func6 rfl (by kernel_rfl) (e_stack_Stack_Pop a0 H Q) h

def S_stack_Stack_Top (a0 : Option Addr) (H : Heap) (Q : G_api_Item × Bool × Unit → Heap → Prop) : Prop :=
JOIN (fun (j1 : (Bool × Unit) × (Unit) → Heap → Prop) =>
CALL P [T_bool] n_stack_Stack_is [(.pointer a0)] H fun (x3 : Bool × Unit) H2 =>
ifB (!x3.1) (
j1 ((true, ()), (())) H2) (
NIL a0 fun b4 o5 =>
LD (T_int .i64) H2 b4 (o5 + 1) fun (x6 : Int) =>
j1 ((x6 == 0, ()), (())) H2)) fun (y2 : (Bool × Unit) × (Unit)) H1 =>
ifB y2.1.1 (
Q ((G_api_Item.mk 0 0 0 0), false, ()) H1) (
NIL a0 fun b7 o8 =>
LD (T_int .i64) H1 b7 (o8 + 1) fun (x9 : Int) =>
NIL a0 fun b10 o11 =>
IDXA 24 (IntKind.wrap .i64 (x9 - 1)) (
LD T_G_api_Item H1 b10 (o11 + 2 + (IntKind.wrap .i64 (x9 - 1)).toNat * 4) fun (x12 : G_api_Item) =>
Q (x12, true, ()) H1))
def h_stack_Stack_Top : Hnt := (.seq .leaf (.seq (.seq (.reg ⟨[(13, T_bool)], [], [4, 5, 6, 7, 8, 9, 10, 11, 12]⟩) .leaf) .leaf))
theorem e_stack_Stack_Top (a0 : Option Addr) (H : Heap) (Q : G_api_Item × Bool × Unit → Heap → Prop) : S_stack_Stack_Top a0 H Q = cFn C [2] Try.f7.ntmps Try.f7.results.toList [T_G_api_Item, T_bool] (bodyOf Try.f7) h_stack_Stack_Top [(.pointer a0)] H Q := by kernel_rfl
theorem c_stack_Stack_Top {a0 : Option Addr} {H : Heap} {Q : G_api_Item × Bool × Unit → Heap → Prop} (h : S_stack_Stack_Top a0 H Q) : CALL P [T_G_api_Item, T_bool] n_stack_Stack_Top [(.pointer a0)] H Q := call_print hE Try.func7 rfl (by kernel_rfl) (e_stack_Stack_Top a0 H Q) h

def S_stack_Stack_Push (a0 : Option Addr) (a1 : G_api_Item) (H : Heap) (Q : Int × Unit → Heap → Prop) : Prop :=
CALL P [T_bool] n_stack_Stack_is [(.pointer a0)] H fun (x1 : Bool × Unit) H1 =>
ifB (!x1.1) (
Q (1, ()) H1) (
CALL P [T_bool] n_stack_may [(T_G_api_Item.enc a1)] H1 fun (x2 : Bool × Unit) H2 =>
ifB (!x2.1) (
Q (2, ()) H2) (
NIL a0 fun b3 o4 =>
LD (T_int .i64) H2 b3 (o4 + 1) fun (x5 : Int) =>
ifB (x5 == 24) (
Q (14, ()) H2) (
NIL a0 fun b6 o7 =>
LD (T_int .i64) H2 b6 (o7 + 1) fun (x8 : Int) =>
NIL a0 fun b9 o10 =>
IDXA 24 x8 (
ST H2 b9 (o10 + 2 + x8.toNat * 4) (T_G_api_Item.cells a1) fun H3 =>
NIL a0 fun b11 o12 =>
LD (T_int .i64) H3 b11 (o12 + 1) fun (x13 : Int) =>
NIL a0 fun b14 o15 =>
ST H3 b14 (o15 + 1) [(.int .i64 (IntKind.wrap .i64 (x13 + 1)))] fun H4 =>
Q (0, ()) H4))))
def h_stack_Stack_Push : Hnt := .leaf
theorem e_stack_Stack_Push (a0 : Option Addr) (a1 : G_api_Item) (H : Heap) (Q : Int × Unit → Heap → Prop) : S_stack_Stack_Push a0 a1 H Q = cFn C [3] Try.f8.ntmps Try.f8.results.toList [(T_int .i64)] (bodyOf Try.f8) h_stack_Stack_Push [(.pointer a0), (T_G_api_Item.enc a1)] H Q := by kernel_rfl
theorem c_stack_Stack_Push {a0 : Option Addr} {a1 : G_api_Item} {H : Heap} {Q : Int × Unit → Heap → Prop} (h : S_stack_Stack_Push a0 a1 H Q) : CALL P [(T_int .i64)] n_stack_Stack_Push [(.pointer a0), (T_G_api_Item.enc a1)] H Q := call_print hE Try.func8 rfl (by kernel_rfl) (e_stack_Stack_Push a0 a1 H Q) h

def S_stack_Stack_Items (a0 : Option Addr) (H : Heap) (Q : Sl × Unit → Heap → Prop) : Prop :=
CALL P [T_bool] n_stack_Stack_is [(.pointer a0)] H fun (x1 : Bool × Unit) H1 =>
ifB (!x1.1) (
Q ((Sl.mk none 0 0), ()) H1) (
NIL a0 fun b2 o3 =>
NIL a0 fun b4 o5 =>
LD (T_int .i64) H1 b4 (o5 + 1) fun (x6 : Int) =>
GENV T_sl (aSlice E 25 (.pointer (some ⟨b2, o3 + 2, none⟩)) none (some (.int .i64 x6)) none H1) fun (x7 : Sl) =>
NEW H1 [] 4 fun H2 =>
LD (T_int .i64) H2 b4 (o5 + 1) fun (x8 : Int) =>
REQ ((T_int .i64).enc x8 = (.int .i64 x6)) (
REQ (aSlice E 25 (.pointer (some ⟨b2, o3 + 2, none⟩)) none (some (.int .i64 x6)) none H2 = some (.slice x7.p x7.len x7.cap)) (
APP T_sl (lenV ((Sl.mk (some ⟨H1.length, 0, none⟩) 0 0)).v + (lenX x7.v).getD 0) (aAppendE E [32, 32] ((Sl.mk (some ⟨H1.length, 0, none⟩) 0 0)).v x7.v H2) fun (x9 : Sl) H3 =>
Q (x9, ()) H3)))
def h_stack_Stack_Items : Hnt := .leaf
theorem e_stack_Stack_Items (a0 : Option Addr) (H : Heap) (Q : Sl × Unit → Heap → Prop) : S_stack_Stack_Items a0 H Q = cFn C [] Try.f9.ntmps Try.f9.results.toList [T_sl] (bodyOf Try.f9) h_stack_Stack_Items [(.pointer a0)] H Q := by kernel_rfl
theorem c_stack_Stack_Items {a0 : Option Addr} {H : Heap} {Q : Sl × Unit → Heap → Prop} (h : S_stack_Stack_Items a0 H Q) : CALL P [T_sl] n_stack_Stack_Items [(.pointer a0)] H Q := call_print hE Try.func9 rfl (by kernel_rfl) (e_stack_Stack_Items a0 H Q) h

def S_stack_Stack_Len (a0 : Option Addr) (H : Heap) (Q : Int × Unit → Heap → Prop) : Prop :=
CALL P [T_bool] n_stack_Stack_is [(.pointer a0)] H fun (x1 : Bool × Unit) H1 =>
ifB (!x1.1) (
Q (0, ()) H1) (
NIL a0 fun b2 o3 =>
LD (T_int .i64) H1 b2 (o3 + 1) fun (x4 : Int) =>
Q (x4, ()) H1)
def h_stack_Stack_Len : Hnt := .leaf
theorem e_stack_Stack_Len (a0 : Option Addr) (H : Heap) (Q : Int × Unit → Heap → Prop) : S_stack_Stack_Len a0 H Q = cFn C [] Try.f10.ntmps Try.f10.results.toList [(T_int .i64)] (bodyOf Try.f10) h_stack_Stack_Len [(.pointer a0)] H Q := by kernel_rfl
theorem c_stack_Stack_Len {a0 : Option Addr} {H : Heap} {Q : Int × Unit → Heap → Prop} (h : S_stack_Stack_Len a0 H Q) : CALL P [(T_int .i64)] n_stack_Stack_Len [(.pointer a0)] H Q := call_print hE Try.func10 rfl (by kernel_rfl) (e_stack_Stack_Len a0 H Q) h

def S_law23_down (a0 : Option Addr) (a1 : Int) (H : Heap) (Q : Sl × Bool × Unit → Heap → Prop) : Prop :=
NEW H [(.int .i64 a1)] 1 fun H1 =>
NEW H1 [(.slice none 0 0)] 1 fun H2 =>
NEW H2 [(.bool false)] 1 fun H3 =>
ST H3 H2.length 0 [(.bool true)] fun H4 =>
CALL P [T_any] n_stack_Stack_Down [(.pointer a0)] H4 fun (x1 : Value × Unit) H5 =>
JOIN (fun (j2 : (Unit) × (Unit) → Heap → Prop) =>
RFV P [(T_int .i64), T_G_api_Item] x1.1 H5 (fun lb4 (x5 : Int × G_api_Item × Unit) H7 k6 =>
NEW H7 [(.int .i64 0), (.int .i64 0), (.int .i64 0), (.int .i64 0)] 4 fun H9 =>
ST H9 H7.length 0 (T_G_api_Item.cells x5.2.1) fun H10 =>
REQ (H10[H5.length]? = some (lb4 .ready none)) (
JOIN (fun (j8 : (Unit) × (Unit) → Heap → Prop) =>
LD T_bool (H10.set H5.length (lb4 .busy none)) H2.length 0 fun (x10 : Bool) =>
ifB x10 (
LD T_sl (H10.set H5.length (lb4 .busy none)) H1.length 0 fun (x11 : Sl) =>
ST (H10.set H5.length (lb4 .busy none)) H2.length 0 [(.bool (x5.1 == (x11.len : Int)))] fun H12 =>
j8 ((()), (())) H12) (
ST (H10.set H5.length (lb4 .busy none)) H2.length 0 [(.bool false)] fun H13 =>
j8 ((()), (())) H13)) fun (y9 : (Unit) × (Unit)) H11 =>
LD T_sl H11 H1.length 0 fun (x12 : Sl) =>
LD T_G_api_Item H11 H7.length 0 fun (x13 : G_api_Item) =>
APP T_sl (lenV x12.v + 1) (aAppE E [32, 32] x12.v 1 (T_G_api_Item.cells x13) H11) fun (x14 : Sl) H14 =>
ST H14 H1.length 0 [(.slice x14.p x14.len x14.cap)] fun H15 =>
LD T_sl H15 H1.length 0 fun (x15 : Sl) =>
LD (T_int .i64) H15 H.length 0 fun (x16 : Int) =>
ifB ((x15.len : Int) == x16) (
k6 (.exit 0) H15) (
k6 .normal H15))) fun (e7 : Ex) H8 =>
(e7 = .normal ∧ (
j2 ((()), (())) H8)) ∨ (
(e7 = (.exit 0) ∧ (
j2 ((()), (())) H8)) ∨ (
False))) fun (y3 : (Unit) × (Unit)) H6 =>
LD T_sl H6 H1.length 0 fun (x17 : Sl) =>
LD T_bool H6 H2.length 0 fun (x18 : Bool) =>
Q (x17, x18, ()) H6
def h_law23_down : Hnt := (.seq .leaf (.seq .leaf (.seq .leaf (.seq (.seq .leaf (.blk (some ⟨[], [], [8, 9, 14, 15, 16, 17, 18, 19, 20, 21, 22, 23, 24, 25, 26, 27, 28]⟩) (.blk (some ⟨[(12, (T_int .i64)), (13, T_G_api_Item)], [], [0]⟩) (.blk none (.seq (.reg ⟨[], [], [14, 15, 16, 17, 18, 19, 20]⟩) .leaf))))) .leaf))))
theorem e_law23_down (a0 : Option Addr) (a1 : Int) (H : Heap) (Q : Sl × Bool × Unit → Heap → Prop) : S_law23_down a0 a1 H Q = cFn C [23] Try.f11.ntmps Try.f11.results.toList [T_sl, T_bool] (bodyOf Try.f11) h_law23_down [(.pointer a0), (.int .i64 a1)] H Q := by kernel_rfl
theorem c_law23_down {a0 : Option Addr} {a1 : Int} {H : Heap} {Q : Sl × Bool × Unit → Heap → Prop} (h : S_law23_down a0 a1 H Q) : CALL P [T_sl, T_bool] n_law23_down [(.pointer a0), (.int .i64 a1)] H Q := call_print hE Try.func11 rfl (by kernel_rfl) (e_law23_down a0 a1 H Q) h

def S_law23_lives  (H : Heap) (Q : Bool × Unit → Heap → Prop) : Prop :=
CALL P [T_ptr] n_stack_New [] H fun (x1 : (Option Addr) × Unit) H1 =>
ifB x1.1.isNone (
Q (false, ()) H1) (
CALL P [(T_int .i64)] n_stack_Stack_Push [(.pointer x1.1), (T_G_api_Item.enc (G_api_Item.mk 1 0 0 0))] H1 fun (x2 : Int × Unit) H2 =>
NEW H2 [(.int .i64 5), (.int .i64 1), (.int .i64 0), (.int .i64 0), (.int .i64 5), (.int .i64 2), (.int .i64 0), (.int .i64 0)] 4 fun H3 =>
CALL P [(T_int .i64), (T_int .i64)] n_stack_Stack_Lay [(.pointer x1.1), ((Sl.mk (some ⟨H2.length, 0, none⟩) 2 2)).v] H3 fun (x3 : Int × Int × Unit) H4 =>
CALL P [T_G_api_Item, T_bool] n_stack_Stack_Pop [(.pointer x1.1)] H4 fun (x4 : G_api_Item × Bool × Unit) H5 =>
JOIN (fun (j5 : (Bool × Unit) × (Unit) → Heap → Prop) =>
ifB (x2.1 == 0) (
ifB (x3.2.1 == 0) (
ifB (x3.1 == 0) (
ifB x4.2.1 (
ifB ((x4.1.Thing == 5) && ((x4.1.Part == 1) && ((x4.1.Holder == 0) && ((x4.1.Meant == 0) && true)))) (
CALL P [(T_int .i64)] n_stack_Stack_Len [(.pointer x1.1)] H5 fun (x7 : Int × Unit) H7 =>
j5 ((x7.1 == 2, ()), (())) H7) (
j5 ((false, ()), (())) H5)) (
j5 ((false, ()), (())) H5)) (
j5 ((false, ()), (())) H5)) (
j5 ((false, ()), (())) H5)) (
j5 ((false, ()), (())) H5)) fun (y6 : (Bool × Unit) × (Unit)) H6 =>
Q (y6.1.1, ()) H6)
def h_law23_lives : Hnt := (.seq .leaf (.seq .leaf (.seq .leaf (.seq .leaf (.seq .leaf (.seq .leaf (.seq (.reg ⟨[(0, T_bool)], [], [26, 27, 28, 29, 30, 31, 32, 33, 34, 35, 36, 37, 38, 39, 40, 41, 42, 43, 44, 45, 46, 47, 48]⟩) .leaf)))))))
theorem e_law23_lives  (H : Heap) (Q : Bool × Unit → Heap → Prop) : S_law23_lives  H Q = cFn C [5] Try.f12.ntmps Try.f12.results.toList [T_bool] (bodyOf Try.f12) h_law23_lives [] H Q := by kernel_rfl
theorem c_law23_lives {H : Heap} {Q : Bool × Unit → Heap → Prop} (h : S_law23_lives H Q) : CALL P [T_bool] n_law23_lives [] H Q := call_print hE Try.func12 rfl (by kernel_rfl) (e_law23_lives H Q) h

def S_kit_LentItems (a0 : Sl) (H : Heap) (Q : Sl × Unit → Heap → Prop) : Prop :=
GEN T_sl (aMakeSlice E 32 (.int .i64 0) (.int .i64 (IntKind.wrap .i64 ((a0.len : Int) + 2))) H) fun (x1 : Sl) H1 =>
APP T_sl (lenV x1.v + (lenX a0.v).getD 0) (aAppendE E [32, 32] x1.v a0.v H1) fun (x2 : Sl) H2 =>
APP T_sl (lenV x2.v + 2) (aAppE E [32, 32] x2.v 2 [(.int .i64 (-77)), (.int .i64 0), (.int .i64 0), (.int .i64 0), (.int .i64 (-77)), (.int .i64 0), (.int .i64 0), (.int .i64 0)] H2) fun (x3 : Sl) H3 =>
Q (x3, ()) H3
def h_kit_LentItems : Hnt := .leaf
theorem e_kit_LentItems (a0 : Sl) (H : Heap) (Q : Sl × Unit → Heap → Prop) : S_kit_LentItems a0 H Q = cFn C [14] Try.f13.ntmps Try.f13.results.toList [T_sl] (bodyOf Try.f13) h_kit_LentItems [a0.v] H Q := by kernel_rfl
theorem c_kit_LentItems {a0 : Sl} {H : Heap} {Q : Sl × Unit → Heap → Prop} (h : S_kit_LentItems a0 H Q) : CALL P [T_sl] n_kit_LentItems [a0.v] H Q := call_print hE Try.func13 rfl (by kernel_rfl) (e_kit_LentItems a0 H Q) h

def S_stack_From (a0 : Sl) (H : Heap) (Q : (Option Addr) × Int × Unit → Heap → Prop) : Prop :=
ifB (decide ((a0.len : Int) > 24)) (
Q (none, 3, ()) H) (
CALL P [T_ptr] n_stack_New [] H fun (x1 : (Option Addr) × Unit) H1 =>
JOIN (fun (j2 : (Unit) × (Unit) → Heap → Prop) =>
LOOP (fun (r4 : (Int × Unit) × (Unit) → Heap → Prop) (s5 : (Int × Unit) × (Unit)) H3 =>
ifB (decide (s5.1.1 < (a0.len : Int))) (
IDX a0.p a0.len s5.1.1 4 fun b6 o7 =>
LD T_G_api_Item H3 b6 o7 fun (x8 : G_api_Item) =>
CALL P [(T_int .i64)] n_stack_Stack_Push [(.pointer x1.1), (T_G_api_Item.enc x8)] H3 fun (x9 : Int × Unit) H4 =>
ifB (x9.1 != 0) (
Q (none, x9.1, ()) H4) (
r4 ((IntKind.wrap .i64 (s5.1.1 + 1), ()), (())) H4)) (
j2 ((()), (())) H3)) ((0, ()), (())) H1) fun (y3 : (Unit) × (Unit)) H2 =>
Q (x1.1, 0, ()) H2)
def h_stack_From : Hnt := (.seq .leaf (.seq .leaf (.seq .leaf (.seq (.seq .leaf (.blk (some ⟨[], [], [2, 3, 6, 7, 14, 15, 16, 17, 18, 19, 20, 21, 22, 23, 24]⟩) (.loop ⟨[(14, (T_int .i64))], [], [2, 3, 6, 7, 15, 16, 17, 18, 19, 20, 21, 22, 23, 24]⟩ .leaf))) .leaf))))
theorem e_stack_From (a0 : Sl) (H : Heap) (Q : (Option Addr) × Int × Unit → Heap → Prop) : S_stack_From a0 H Q = cFn C [6] Try.f14.ntmps Try.f14.results.toList [T_ptr, (T_int .i64)] (bodyOf Try.f14) h_stack_From [a0.v] H Q := by kernel_rfl
theorem c_stack_From {a0 : Sl} {H : Heap} {Q : (Option Addr) × Int × Unit → Heap → Prop} (h : S_stack_From a0 H Q) : CALL P [T_ptr, (T_int .i64)] n_stack_From [a0.v] H Q := call_print hE Try.func14 rfl (by kernel_rfl) (e_stack_From a0 H Q) h

def S_ref23_From (a0 : Sl) (H : Heap) (Q : (Option Addr) × Int × Unit → Heap → Prop) : Prop :=
ifB (decide ((a0.len : Int) > 24)) (
Q (none, 3, ()) H) (
CALL P [T_bool] n_ref23_all [a0.v] H fun (x1 : Bool × Unit) H1 =>
ifB (!x1.1) (
Q (none, 2, ()) H1) (
CALL P [T_ptr] n_ref23_New [] H1 fun (x2 : (Option Addr) × Unit) H2 =>
NIL x2.1 fun b3 o4 =>
LD T_sl H2 b3 (o4 + 0) fun (x5 : Sl) =>
APP T_sl (lenV x5.v + (lenX a0.v).getD 0) (aAppendE E [32, 32] x5.v a0.v H2) fun (x6 : Sl) H3 =>
NIL x2.1 fun b7 o8 =>
ST H3 b7 (o8 + 0) [(.slice x6.p x6.len x6.cap)] fun H4 =>
Q (x2.1, 0, ()) H4))
def h_ref23_From : Hnt := .leaf
theorem e_ref23_From (a0 : Sl) (H : Heap) (Q : (Option Addr) × Int × Unit → Heap → Prop) : S_ref23_From a0 H Q = cFn C [] Try.f15.ntmps Try.f15.results.toList [T_ptr, (T_int .i64)] (bodyOf Try.f15) h_ref23_From [a0.v] H Q := by kernel_rfl
theorem c_ref23_From {a0 : Sl} {H : Heap} {Q : (Option Addr) × Int × Unit → Heap → Prop} (h : S_ref23_From a0 H Q) : CALL P [T_ptr, (T_int .i64)] n_ref23_From [a0.v] H Q := call_print hE Try.func15 rfl (by kernel_rfl) (e_ref23_From a0 H Q) h

def S_kit_KeptItems (a0 : Sl) (a1 : Sl) (H : Heap) (Q : Bool × Unit → Heap → Prop) : Prop :=
CALL P [T_sl] n_kit_CopyItems [a1.v] H fun (x1 : Sl × Unit) H1 =>
APP T_sl (lenV x1.1.v + 2) (aAppE E [32, 32] x1.1.v 2 [(.int .i64 (-77)), (.int .i64 0), (.int .i64 0), (.int .i64 0), (.int .i64 (-77)), (.int .i64 0), (.int .i64 0), (.int .i64 0)] H1) fun (x2 : Sl) H2 =>
CALL P [T_bool] n_kit_SameItems [a0.v, x2.v] H2 fun (x3 : Bool × Unit) H3 =>
Q (x3.1, ()) H3
def h_kit_KeptItems : Hnt := .leaf
theorem e_kit_KeptItems (a0 : Sl) (a1 : Sl) (H : Heap) (Q : Bool × Unit → Heap → Prop) : S_kit_KeptItems a0 a1 H Q = cFn C [10] Try.f16.ntmps Try.f16.results.toList [T_bool] (bodyOf Try.f16) h_kit_KeptItems [a0.v, a1.v] H Q := by kernel_rfl
theorem c_kit_KeptItems {a0 : Sl} {a1 : Sl} {H : Heap} {Q : Bool × Unit → Heap → Prop} (h : S_kit_KeptItems a0 a1 H Q) : CALL P [T_bool] n_kit_KeptItems [a0.v, a1.v] H Q := call_print hE Try.func16 rfl (by kernel_rfl) (e_kit_KeptItems a0 a1 H Q) h

def S_kit_OverItems (a0 : Sl) (H : Heap) (Q : Unit → Heap → Prop) : Prop :=
JOIN (fun (j1 : (Unit) × (Unit) → Heap → Prop) =>
LOOP (fun (r3 : (Int × Unit) × (Unit) → Heap → Prop) (s4 : (Int × Unit) × (Unit)) H2 =>
ifB (decide (s4.1.1 < (a0.len : Int))) (
IDX a0.p a0.len s4.1.1 4 fun b5 o6 =>
ST H2 b5 o6 [(.int .i64 (-99)), (.int .i64 0), (.int .i64 0), (.int .i64 0)] fun H3 =>
r3 ((IntKind.wrap .i64 (s4.1.1 + 1), ()), (())) H3) (
j1 ((()), (())) H2)) ((0, ()), (())) H) fun (y2 : (Unit) × (Unit)) H1 =>
Q (()) H1
def h_kit_OverItems : Hnt := (.seq .leaf (.blk (some ⟨[], [], [2, 3, 4, 5, 6, 7, 8, 9, 10, 11, 12]⟩) (.loop ⟨[(2, (T_int .i64))], [], [3, 4, 5, 6, 7, 8, 9, 10, 11, 12]⟩ .leaf)))
theorem e_kit_OverItems (a0 : Sl) (H : Heap) (Q : Unit → Heap → Prop) : S_kit_OverItems a0 H Q = cFn C [] Try.f17.ntmps Try.f17.results.toList [] (bodyOf Try.f17) h_kit_OverItems [a0.v] H Q := by kernel_rfl
theorem c_kit_OverItems {a0 : Sl} {H : Heap} {Q : Unit → Heap → Prop} (h : S_kit_OverItems a0 H Q) : CALL P [] n_kit_OverItems [a0.v] H Q := call_print hE Try.func17 rfl (by kernel_rfl) (e_kit_OverItems a0 H Q) h

def S_stack_Stack_Down (a0 : Option Addr) (H : Heap) (Q : Value × Unit → Heap → Prop) : Prop :=
CALL P [T_sl] n_stack_Stack_Items [(.pointer a0)] H fun (x1 : Sl × Unit) H1 =>
NEW H1 [(.slice none 0 0)] 1 fun H2 =>
ST H2 H1.length 0 [(.slice x1.1.p x1.1.len x1.1.cap)] fun H3 =>
Q ((.func (.func n_stack_Stack_Down_1) #[] #[(.pointer (some ⟨H1.length, 0, none⟩))]), ()) H3
def h_stack_Stack_Down : Hnt := .leaf
theorem e_stack_Stack_Down (a0 : Option Addr) (H : Heap) (Q : Value × Unit → Heap → Prop) : S_stack_Stack_Down a0 H Q = cFn C [] Try.f18.ntmps Try.f18.results.toList [T_any] (bodyOf Try.f18) h_stack_Stack_Down [(.pointer a0)] H Q := by kernel_rfl
theorem c_stack_Stack_Down {a0 : Option Addr} {H : Heap} {Q : Value × Unit → Heap → Prop} (h : S_stack_Stack_Down a0 H Q) : CALL P [T_any] n_stack_Stack_Down [(.pointer a0)] H Q := call_print hE Try.func18 rfl (by kernel_rfl) (e_stack_Stack_Down a0 H Q) h

def S_ref23_Stack_Down (a0 : Option Addr) (H : Heap) (Q : Sl × Unit → Heap → Prop) : Prop :=
CALL P [T_sl] n_ref23_Stack_Items [(.pointer a0)] H fun (x1 : Sl × Unit) H1 =>
JOIN (fun (j2 : (Sl × Unit) × (Unit) → Heap → Prop) =>
LOOP (fun (r4 : (Sl × Int × Unit) × (Unit) → Heap → Prop) (s5 : (Sl × Int × Unit) × (Unit)) H3 =>
ifB (decide (s5.1.2.1 ≥ 0)) (
IDX x1.1.p x1.1.len s5.1.2.1 4 fun b6 o7 =>
LD T_G_api_Item H3 b6 o7 fun (x8 : G_api_Item) =>
APP T_sl (lenV s5.1.1.v + 1) (aAppE E [32, 32] s5.1.1.v 1 (T_G_api_Item.cells x8) H3) fun (x9 : Sl) H4 =>
r4 ((x9, IntKind.wrap .i64 (s5.1.2.1 - 1), ()), (())) H4) (
j2 ((s5.1.1, ()), (())) H3)) (((Sl.mk none 0 0), IntKind.wrap .i64 ((x1.1.len : Int) - 1), ()), (())) H1) fun (y3 : (Sl × Unit) × (Unit)) H2 =>
Q (y3.1.1, ()) H2
def h_ref23_Stack_Down : Hnt := (.seq .leaf (.seq .leaf (.seq .leaf (.seq (.seq .leaf (.blk (some ⟨[(4, T_sl)], [], [5, 11, 12, 13, 14, 15, 16, 17, 18, 19, 20, 21]⟩) (.loop ⟨[(4, T_sl), (5, (T_int .i64))], [], [11, 12, 13, 14, 15, 16, 17, 18, 19, 20, 21]⟩ .leaf))) .leaf))))
theorem e_ref23_Stack_Down (a0 : Option Addr) (H : Heap) (Q : Sl × Unit → Heap → Prop) : S_ref23_Stack_Down a0 H Q = cFn C [20] Try.f19.ntmps Try.f19.results.toList [T_sl] (bodyOf Try.f19) h_ref23_Stack_Down [(.pointer a0)] H Q := by kernel_rfl
theorem c_ref23_Stack_Down {a0 : Option Addr} {H : Heap} {Q : Sl × Unit → Heap → Prop} (h : S_ref23_Stack_Down a0 H Q) : CALL P [T_sl] n_ref23_Stack_Down [(.pointer a0)] H Q := call_print hE Try.func19 rfl (by kernel_rfl) (e_ref23_Stack_Down a0 H Q) h

def S_law23_call (a0 : Option Addr) (a1 : Option Addr) (a2 : G_law23_Op) (H : Heap) (Q : Bool × Unit → Heap → Prop) : Prop :=
ifB (a2.Call == 0) (
CALL P [(T_int .i64)] n_stack_Stack_Push [(.pointer a0), (T_G_api_Item.enc a2.I)] H fun (x1 : Int × Unit) H1 =>
REQ ((some (.agg #[(.int .i64 a2.I.Thing), (.int .i64 a2.I.Part), (.int .i64 a2.I.Holder), (.int .i64 a2.I.Meant)]) : Option Value) = some (.agg #[(.int .i64 a2.I.Thing), (.int .i64 a2.I.Part), (.int .i64 a2.I.Holder), (.int .i64 a2.I.Meant)])) (
CALL P [(T_int .i64)] n_ref23_Stack_Push [(.pointer a1), (T_G_api_Item.enc a2.I)] H1 fun (x2 : Int × Unit) H2 =>
Q (x1.1 == x2.1, ()) H2)) (
ifB (a2.Call == 1) (
CALL P [T_sl] n_kit_LentItems [a2.L.v] H fun (x3 : Sl × Unit) H3 =>
GENV T_sl (aSlice E 32 x3.1.v none (some (.int .i64 (a2.L.len : Int))) none H3) fun (x4 : Sl) =>
CALL P [(T_int .i64), (T_int .i64)] n_stack_Stack_Lay [(.pointer a0), x4.v] H3 fun (x5 : Int × Int × Unit) H4 =>
CALL P [(T_int .i64), (T_int .i64)] n_ref23_Stack_Lay [(.pointer a1), a2.L.v] H4 fun (x6 : Int × Int × Unit) H5 =>
CALL P [T_bool] n_kit_KeptItems [x3.1.v, a2.L.v] H5 fun (x7 : Bool × Unit) H6 =>
CALL P [] n_kit_OverItems [x3.1.v] H6 fun (x8 : Unit) H7 =>
JOIN (fun (j9 : (Bool × Unit) × (Unit) → Heap → Prop) =>
ifB (x5.1 == x6.1) (
ifB (x5.2.1 == x6.2.1) (
j9 ((x7.1, ()), (())) H7) (
j9 ((false, ()), (())) H7)) (
j9 ((false, ()), (())) H7)) fun (y10 : (Bool × Unit) × (Unit)) H8 =>
Q (y10.1.1, ()) H8) (
ifB (a2.Call == 2) (
CALL P [T_G_api_Item, T_bool] n_stack_Stack_Pop [(.pointer a0)] H fun (x11 : G_api_Item × Bool × Unit) H9 =>
CALL P [T_G_api_Item, T_bool] n_ref23_Stack_Pop [(.pointer a1)] H9 fun (x12 : G_api_Item × Bool × Unit) H10 =>
JOIN (fun (j13 : (Bool × Unit) × (Unit) → Heap → Prop) =>
ifB ((x11.1.Thing == x12.1.Thing) && ((x11.1.Part == x12.1.Part) && ((x11.1.Holder == x12.1.Holder) && ((x11.1.Meant == x12.1.Meant) && true)))) (
j13 (((x11.2.1 == x12.2.1), ()), (())) H10) (
j13 ((false, ()), (())) H10)) fun (y14 : (Bool × Unit) × (Unit)) H11 =>
Q (y14.1.1, ()) H11) (
ifB (a2.Call == 3) (
CALL P [T_G_api_Item, T_bool] n_stack_Stack_Top [(.pointer a0)] H fun (x15 : G_api_Item × Bool × Unit) H12 =>
CALL P [T_G_api_Item, T_bool] n_ref23_Stack_Top [(.pointer a1)] H12 fun (x16 : G_api_Item × Bool × Unit) H13 =>
JOIN (fun (j17 : (Bool × Unit) × (Unit) → Heap → Prop) =>
ifB ((x15.1.Thing == x16.1.Thing) && ((x15.1.Part == x16.1.Part) && ((x15.1.Holder == x16.1.Holder) && ((x15.1.Meant == x16.1.Meant) && true)))) (
j17 (((x15.2.1 == x16.2.1), ()), (())) H13) (
j17 ((false, ()), (())) H13)) fun (y18 : (Bool × Unit) × (Unit)) H14 =>
Q (y18.1.1, ()) H14) (
ifB (a2.Call == 4) (
CALL P [T_sl, T_bool] n_law23_down [(.pointer a0), (.int .i64 a2.N)] H fun (x19 : Sl × Bool × Unit) H15 =>
CALL P [T_sl] n_ref23_Stack_Down [(.pointer a1)] H15 fun (x20 : Sl × Unit) H16 =>
JOIN (fun (j21 : (Bool × Unit) × (Unit) → Heap → Prop) =>
ifB (decide (a2.N > 0)) (
j21 ((decide (a2.N < (x20.1.len : Int)), ()), (())) H16) (
j21 ((false, ()), (())) H16)) fun (y22 : (Bool × Unit) × (Unit)) H17 =>
JOIN (fun (j23 : (Sl × Unit) × (Unit) → Heap → Prop) =>
ifB y22.1.1 (
GENV T_sl (aSlice E 32 x20.1.v none (some (.int .i64 a2.N)) none H17) fun (x25 : Sl) =>
j23 ((x25, ()), (())) H17) (
j23 ((x20.1, ()), (())) H17)) fun (y24 : (Sl × Unit) × (Unit)) H18 =>
JOIN (fun (j26 : (Bool × Unit) × (Unit) → Heap → Prop) =>
ifB x19.2.1 (
CALL P [T_bool] n_kit_SameItems [x19.1.v, y24.1.1.v] H18 fun (x28 : Bool × Unit) H20 =>
j26 ((x28.1, ()), (())) H20) (
j26 ((false, ()), (())) H18)) fun (y27 : (Bool × Unit) × (Unit)) H19 =>
Q (y27.1.1, ()) H19) (
Q (true, ()) H)))))
def h_law23_call : Hnt := (.seq .leaf (.seq (.seq .leaf (.blk none (.seq .leaf (.cond none .leaf (.seq .leaf (.cond none (.seq .leaf (.seq .leaf (.seq .leaf (.seq .leaf (.seq .leaf (.seq (.reg ⟨[(6, T_bool)], [], [65, 66, 67, 68, 69, 70, 71, 72, 73, 74, 75]⟩) .leaf)))))) (.seq .leaf (.cond none (.seq .leaf (.seq .leaf (.seq (.reg ⟨[(6, T_bool)], [], [88, 89, 90, 91, 92, 93, 94, 95]⟩) .leaf))) (.seq .leaf (.cond none (.seq .leaf (.seq .leaf (.seq (.reg ⟨[(6, T_bool)], [], [108, 109, 110, 111, 112, 113, 114, 115]⟩) .leaf))) (.seq .leaf (.cond none (.seq .leaf (.seq .leaf (.seq (.seq (.reg ⟨[(136, T_bool)], [], [127, 128, 129, 130, 131, 132, 133, 134, 135]⟩) (.cond (some ⟨[(23, T_sl)], [], [137, 138, 139, 140]⟩) .leaf .leaf)) (.seq (.reg ⟨[(6, T_bool)], [], [141, 142, 143, 144, 145, 146]⟩) .leaf)))) .leaf)))))))))))) .leaf))
theorem e_law23_call (a0 : Option Addr) (a1 : Option Addr) (a2 : G_law23_Op) (H : Heap) (Q : Bool × Unit → Heap → Prop) : S_law23_call a0 a1 a2 H Q = cFn C [5, 13, 15, 17, 19] Try.f20.ntmps Try.f20.results.toList [T_bool] (bodyOf Try.f20) h_law23_call [(.pointer a0), (.pointer a1), (T_G_law23_Op.enc a2)] H Q := by kernel_rfl
theorem c_law23_call {a0 : Option Addr} {a1 : Option Addr} {a2 : G_law23_Op} {H : Heap} {Q : Bool × Unit → Heap → Prop} (h : S_law23_call a0 a1 a2 H Q) : CALL P [T_bool] n_law23_call [(.pointer a0), (.pointer a1), (T_G_law23_Op.enc a2)] H Q := call_print hE Try.func20 rfl (by kernel_rfl) (e_law23_call a0 a1 a2 H Q) h

def S_ref23_Stack_Len (a0 : Option Addr) (H : Heap) (Q : Int × Unit → Heap → Prop) : Prop :=
CALL P [T_bool] n_ref23_Stack_none [(.pointer a0)] H fun (x1 : Bool × Unit) H1 =>
ifB x1.1 (
Q (0, ()) H1) (
NIL a0 fun b2 o3 =>
LD T_sl H1 b2 (o3 + 0) fun (x4 : Sl) =>
Q ((x4.len : Int), ()) H1)
def h_ref23_Stack_Len : Hnt := .leaf
theorem e_ref23_Stack_Len (a0 : Option Addr) (H : Heap) (Q : Int × Unit → Heap → Prop) : S_ref23_Stack_Len a0 H Q = cFn C [] Try.f21.ntmps Try.f21.results.toList [(T_int .i64)] (bodyOf Try.f21) h_ref23_Stack_Len [(.pointer a0)] H Q := by kernel_rfl
theorem c_ref23_Stack_Len {a0 : Option Addr} {H : Heap} {Q : Int × Unit → Heap → Prop} (h : S_ref23_Stack_Len a0 H Q) : CALL P [(T_int .i64)] n_ref23_Stack_Len [(.pointer a0)] H Q := call_print hE Try.func21 rfl (by kernel_rfl) (e_ref23_Stack_Len a0 H Q) h

def S_kit_SameItems (a0 : Sl) (a1 : Sl) (H : Heap) (Q : Bool × Unit → Heap → Prop) : Prop :=
ifB ((a0.len : Int) != (a1.len : Int)) (
Q (false, ()) H) (
JOIN (fun (j1 : (Unit) × (Unit) → Heap → Prop) =>
LOOP (fun (r3 : (Int × Unit) × (Unit) → Heap → Prop) (s4 : (Int × Unit) × (Unit)) H2 =>
ifB (decide (s4.1.1 < (a0.len : Int))) (
IDX a0.p a0.len s4.1.1 4 fun b5 o6 =>
LD T_G_api_Item H2 b5 o6 fun (x7 : G_api_Item) =>
IDX a1.p a1.len s4.1.1 4 fun b8 o9 =>
LD T_G_api_Item H2 b8 o9 fun (x10 : G_api_Item) =>
ifB (!((x7.Thing == x10.Thing) && ((x7.Part == x10.Part) && ((x7.Holder == x10.Holder) && ((x7.Meant == x10.Meant) && true))))) (
Q (false, ()) H2) (
r3 ((IntKind.wrap .i64 (s4.1.1 + 1), ()), (())) H2)) (
j1 ((()), (())) H2)) ((0, ()), (())) H) fun (y2 : (Unit) × (Unit)) H1 =>
Q (true, ()) H1)
def h_kit_SameItems : Hnt := (.seq .leaf (.seq .leaf (.seq (.seq .leaf (.blk (some ⟨[], [], [4, 5, 11, 12, 13, 14, 15, 16, 17, 18, 19, 20, 21, 22, 23, 24, 25]⟩) (.loop ⟨[(5, (T_int .i64))], [], [4, 11, 12, 13, 14, 15, 16, 17, 18, 19, 20, 21, 22, 23, 24, 25]⟩ .leaf))) .leaf)))
theorem e_kit_SameItems (a0 : Sl) (a1 : Sl) (H : Heap) (Q : Bool × Unit → Heap → Prop) : S_kit_SameItems a0 a1 H Q = cFn C [] Try.f22.ntmps Try.f22.results.toList [T_bool] (bodyOf Try.f22) h_kit_SameItems [a0.v, a1.v] H Q := by kernel_rfl
theorem c_kit_SameItems {a0 : Sl} {a1 : Sl} {H : Heap} {Q : Bool × Unit → Heap → Prop} (h : S_kit_SameItems a0 a1 H Q) : CALL P [T_bool] n_kit_SameItems [a0.v, a1.v] H Q := call_print hE Try.func22 rfl (by kernel_rfl) (e_kit_SameItems a0 a1 H Q) h

def S_ref23_Stack_Items (a0 : Option Addr) (H : Heap) (Q : Sl × Unit → Heap → Prop) : Prop :=
CALL P [T_bool] n_ref23_Stack_none [(.pointer a0)] H fun (x1 : Bool × Unit) H1 =>
ifB x1.1 (
Q ((Sl.mk none 0 0), ()) H1) (
NIL a0 fun b2 o3 =>
LD T_sl H1 b2 (o3 + 0) fun (x4 : Sl) =>
APP T_sl (lenV ((Sl.mk none 0 0)).v + (lenX x4.v).getD 0) (aAppendE E [32, 32] ((Sl.mk none 0 0)).v x4.v H1) fun (x5 : Sl) H2 =>
Q (x5, ()) H2)
def h_ref23_Stack_Items : Hnt := .leaf
theorem e_ref23_Stack_Items (a0 : Option Addr) (H : Heap) (Q : Sl × Unit → Heap → Prop) : S_ref23_Stack_Items a0 H Q = cFn C [] Try.f23.ntmps Try.f23.results.toList [T_sl] (bodyOf Try.f23) h_ref23_Stack_Items [(.pointer a0)] H Q := by kernel_rfl
theorem c_ref23_Stack_Items {a0 : Option Addr} {H : Heap} {Q : Sl × Unit → Heap → Prop} (h : S_ref23_Stack_Items a0 H Q) : CALL P [T_sl] n_ref23_Stack_Items [(.pointer a0)] H Q := call_print hE Try.func23 rfl (by kernel_rfl) (e_ref23_Stack_Items a0 H Q) h

def S_kit_ApartItems (a0 : Sl) (H : Heap) (Q : Bool × Unit → Heap → Prop) : Prop :=
JOIN (fun (j1 : (Sl × Unit) × (Unit) → Heap → Prop) =>
LOOP (fun (r3 : (Sl × Int × Unit) × (Unit) → Heap → Prop) (s4 : (Sl × Int × Unit) × (Unit)) H2 =>
ifB (decide (s4.1.2.1 < (a0.len : Int))) (
IDX a0.p a0.len s4.1.2.1 1 fun b5 o6 =>
LD T_sl H2 b5 o6 fun (x7 : Sl) =>
IDX a0.p a0.len s4.1.2.1 1 fun b8 o9 =>
LD T_sl H2 b8 o9 fun (x10 : Sl) =>
GENV (T_int .i64) (aCap E 32 x10.v H2) fun (x11 : Int) =>
LD T_sl H2 b5 o6 fun (x12 : Sl) =>
REQ (T_sl.enc x12 = x7.v) (
GENV T_sl (aSlice E 32 x7.v none (some (.int .i64 x11)) none H2) fun (x13 : Sl) =>
APP T_sl (lenV s4.1.1.v + 1) (aAppE E [58, 58] s4.1.1.v 1 [(.slice x13.p x13.len x13.cap)] H2) fun (x14 : Sl) H3 =>
r3 ((x14, IntKind.wrap .i64 (s4.1.2.1 + 1), ()), (())) H3)) (
j1 ((s4.1.1, ()), (())) H2)) (((Sl.mk none 0 0), 0, ()), (())) H) fun (y2 : (Sl × Unit) × (Unit)) H1 =>
JOIN (fun (j15 : (Unit) × (Unit) → Heap → Prop) =>
LOOP (fun (r17 : (Int × Unit) × (Unit) → Heap → Prop) (s18 : (Int × Unit) × (Unit)) H5 =>
ifB (decide (s18.1.1 < (y2.1.1.len : Int))) (
JOIN (fun (j19 : (Unit) × (Unit) → Heap → Prop) =>
JOIN (fun (j21 : (Unit) × (Unit) → Heap → Prop) =>
LOOP (fun (r23 : (Int × Unit) × (Unit) → Heap → Prop) (s24 : (Int × Unit) × (Unit)) H8 =>
IDX y2.1.1.p y2.1.1.len s18.1.1 1 fun b25 o26 =>
LD T_sl H8 b25 o26 fun (x27 : Sl) =>
ifB (decide (s24.1.1 < (x27.len : Int))) (
IDX y2.1.1.p y2.1.1.len s18.1.1 1 fun b28 o29 =>
LD T_sl H8 b28 o29 fun (x30 : Sl) =>
CALL P [T_G_api_Item] n_kit_markItems [(.int .i64 s18.1.1), (.int .i64 s24.1.1)] H8 fun (x31 : G_api_Item × Unit) H9 =>
LD T_sl H9 b28 o29 fun (x32 : Sl) =>
REQ (T_sl.enc x32 = x30.v) (
IDX x30.p x30.len s24.1.1 4 fun b33 o34 =>
ST H9 b33 o34 (T_G_api_Item.cells x31.1) fun H10 =>
r23 ((IntKind.wrap .i64 (s24.1.1 + 1), ()), (())) H10)) (
j21 ((()), (())) H8)) ((0, ()), (())) H5) fun (y22 : (Unit) × (Unit)) H7 =>
j19 ((()), (())) H7) fun (y20 : (Unit) × (Unit)) H6 =>
r17 ((IntKind.wrap .i64 (s18.1.1 + 1), ()), (())) H6) (
j15 ((()), (())) H5)) ((0, ()), (())) H1) fun (y16 : (Unit) × (Unit)) H4 =>
JOIN (fun (j35 : (Unit) × (Unit) → Heap → Prop) =>
LOOP (fun (r37 : (Int × Unit) × (Unit) → Heap → Prop) (s38 : (Int × Unit) × (Unit)) H12 =>
ifB (decide (s38.1.1 < (y2.1.1.len : Int))) (
JOIN (fun (j39 : (Unit) × (Unit) → Heap → Prop) =>
JOIN (fun (j41 : (Unit) × (Unit) → Heap → Prop) =>
LOOP (fun (r43 : (Int × Unit) × (Unit) → Heap → Prop) (s44 : (Int × Unit) × (Unit)) H15 =>
IDX y2.1.1.p y2.1.1.len s38.1.1 1 fun b45 o46 =>
LD T_sl H15 b45 o46 fun (x47 : Sl) =>
ifB (decide (s44.1.1 < (x47.len : Int))) (
IDX y2.1.1.p y2.1.1.len s38.1.1 1 fun b48 o49 =>
LD T_sl H15 b48 o49 fun (x50 : Sl) =>
IDX x50.p x50.len s44.1.1 4 fun b51 o52 =>
LD T_G_api_Item H15 b51 o52 fun (x53 : G_api_Item) =>
CALL P [T_G_api_Item] n_kit_markItems [(.int .i64 s38.1.1), (.int .i64 s44.1.1)] H15 fun (x54 : G_api_Item × Unit) H16 =>
LD T_sl H16 b48 o49 fun (x55 : Sl) =>
REQ (T_sl.enc x55 = x50.v) (
LD T_G_api_Item H16 b51 o52 fun (x56 : G_api_Item) =>
REQ (T_G_api_Item.enc x56 = (T_G_api_Item.enc x53)) (
ifB (!((x53.Thing == x54.1.Thing) && ((x53.Part == x54.1.Part) && ((x53.Holder == x54.1.Holder) && ((x53.Meant == x54.1.Meant) && true))))) (
Q (false, ()) H16) (
r43 ((IntKind.wrap .i64 (s44.1.1 + 1), ()), (())) H16)))) (
j41 ((()), (())) H15)) ((0, ()), (())) H12) fun (y42 : (Unit) × (Unit)) H14 =>
j39 ((()), (())) H14) fun (y40 : (Unit) × (Unit)) H13 =>
r37 ((IntKind.wrap .i64 (s38.1.1 + 1), ()), (())) H13) (
j35 ((()), (())) H12)) ((0, ()), (())) H4) fun (y36 : (Unit) × (Unit)) H11 =>
Q (true, ()) H11
def h_kit_ApartItems : Hnt := (.seq .leaf (.seq .leaf (.seq (.seq .leaf (.blk (some ⟨[(3, T_sl)], [], [4, 9, 10, 11, 12, 13, 14, 15, 16, 17, 18, 19, 20, 21, 22, 23, 24, 25, 26, 27]⟩) (.loop ⟨[(3, T_sl), (4, (T_int .i64))], [], [9, 10, 11, 12, 13, 14, 15, 16, 17, 18, 19, 20, 21, 22, 23, 24, 25, 26, 27]⟩ .leaf))) (.seq (.seq .leaf (.blk (some ⟨[], [], [5, 6, 28, 29, 30, 31, 32, 33, 34, 35, 36, 37, 38, 39, 40, 41, 42, 43, 44, 45, 46, 47, 48, 49, 50, 51]⟩) (.loop ⟨[(5, (T_int .i64))], [], [6, 28, 29, 30, 31, 32, 33, 34, 35, 36, 37, 38, 39, 40, 41, 42, 43, 44, 45, 46, 47, 48, 49, 50, 51]⟩ (.seq .leaf (.seq (.blk (some ⟨[], [], [6, 34, 35, 36, 37, 38, 39, 40, 41, 42, 43, 44, 45, 46, 47, 48, 49, 50, 51]⟩) (.seq .leaf (.blk (some ⟨[], [], [6, 34, 35, 36, 37, 38, 39, 40, 41, 42, 43, 44, 45, 46, 47, 48, 49, 50, 51]⟩) (.loop ⟨[(6, (T_int .i64))], [], [34, 35, 36, 37, 38, 39, 40, 41, 42, 43, 44, 45, 46, 47, 48, 49, 50, 51]⟩ .leaf)))) .leaf))))) (.seq (.seq .leaf (.blk (some ⟨[], [], [2, 7, 8, 52, 53, 54, 55, 56, 57, 58, 59, 60, 61, 62, 63, 64, 65, 66, 67, 68, 69, 70, 71, 72, 73, 74, 75, 76, 77]⟩) (.loop ⟨[(7, (T_int .i64))], [], [2, 8, 52, 53, 54, 55, 56, 57, 58, 59, 60, 61, 62, 63, 64, 65, 66, 67, 68, 69, 70, 71, 72, 73, 74, 75, 76, 77]⟩ (.seq .leaf (.seq (.blk (some ⟨[], [], [2, 8, 58, 59, 60, 61, 62, 63, 64, 65, 66, 67, 68, 69, 70, 71, 72, 73, 74, 75, 76, 77]⟩) (.seq .leaf (.blk (some ⟨[], [], [2, 8, 58, 59, 60, 61, 62, 63, 64, 65, 66, 67, 68, 69, 70, 71, 72, 73, 74, 75, 76, 77]⟩) (.loop ⟨[(8, (T_int .i64))], [], [2, 58, 59, 60, 61, 62, 63, 64, 65, 66, 67, 68, 69, 70, 71, 72, 73, 74, 75, 76, 77]⟩ .leaf)))) .leaf))))) .leaf)))))
theorem e_kit_ApartItems (a0 : Sl) (H : Heap) (Q : Bool × Unit → Heap → Prop) : S_kit_ApartItems a0 H Q = cFn C [26] Try.f24.ntmps Try.f24.results.toList [T_bool] (bodyOf Try.f24) h_kit_ApartItems [a0.v] H Q := by kernel_rfl
theorem c_kit_ApartItems {a0 : Sl} {H : Heap} {Q : Bool × Unit → Heap → Prop} (h : S_kit_ApartItems a0 H Q) : CALL P [T_bool] n_kit_ApartItems [a0.v] H Q := call_print hE Try.func24 rfl (by kernel_rfl) (e_kit_ApartItems a0 H Q) h

def S_stack_Stack_is (a0 : Option Addr) (H : Heap) (Q : Bool × Unit → Heap → Prop) : Prop :=
JOIN (fun (j1 : (Bool × Unit) × (Unit) → Heap → Prop) =>
ifB (!a0.isNone) (
NIL a0 fun b3 o4 =>
LD T_bool H b3 (o4 + 0) fun (x5 : Bool) =>
j1 ((x5, ()), (())) H) (
j1 ((false, ()), (())) H)) fun (y2 : (Bool × Unit) × (Unit)) H1 =>
Q (y2.1.1, ()) H1
def h_stack_Stack_is : Hnt := (.seq .leaf (.seq (.reg ⟨[(2, T_bool)], [], [3, 4, 5, 6, 7, 8, 9, 10]⟩) .leaf))
theorem e_stack_Stack_is (a0 : Option Addr) (H : Heap) (Q : Bool × Unit → Heap → Prop) : S_stack_Stack_is a0 H Q = cFn C [] Try.f25.ntmps Try.f25.results.toList [T_bool] (bodyOf Try.f25) h_stack_Stack_is [(.pointer a0)] H Q := by kernel_rfl
theorem c_stack_Stack_is {a0 : Option Addr} {H : Heap} {Q : Bool × Unit → Heap → Prop} (h : S_stack_Stack_is a0 H Q) : CALL P [T_bool] n_stack_Stack_is [(.pointer a0)] H Q := call_print hE Try.func25 rfl (by kernel_rfl) (e_stack_Stack_is a0 H Q) h

def S_stack_may (a0 : G_api_Item) (H : Heap) (Q : Bool × Unit → Heap → Prop) : Prop :=
JOIN (fun (j1 : (Bool × Unit) × (Unit) → Heap → Prop) =>
ifB (decide (a0.Thing ≥ 1)) (
ifB (decide (a0.Thing ≤ 2048)) (
ifB (decide (a0.Part ≥ 0)) (
ifB (decide (a0.Part ≤ 4)) (
ifB (a0.Holder == 0) (
ifB (decide (a0.Meant ≥ (-2))) (
j1 ((decide (a0.Meant ≤ 2048), ()), (())) H) (
j1 ((false, ()), (())) H)) (
ifB (a0.Holder == 1) (
ifB (decide (a0.Meant ≥ (-2))) (
j1 ((decide (a0.Meant ≤ 2048), ()), (())) H) (
j1 ((false, ()), (())) H)) (
j1 ((false, ()), (())) H))) (
j1 ((false, ()), (())) H)) (
j1 ((false, ()), (())) H)) (
j1 ((false, ()), (())) H)) (
j1 ((false, ()), (())) H)) fun (y2 : (Bool × Unit) × (Unit)) H1 =>
Q (y2.1.1, ()) H1
def h_stack_may : Hnt := (.seq .leaf (.seq (.reg ⟨[(2, T_bool)], [], [3, 4, 5, 6, 7, 8, 9, 10, 11, 12, 13, 14, 15, 16, 17, 18, 19, 20, 21, 22, 23, 24, 25, 26, 27, 28, 29, 30, 31, 32, 33, 34, 35, 36, 37, 38, 39, 40]⟩) .leaf))
theorem e_stack_may (a0 : G_api_Item) (H : Heap) (Q : Bool × Unit → Heap → Prop) : S_stack_may a0 H Q = cFn C [1] Try.f26.ntmps Try.f26.results.toList [T_bool] (bodyOf Try.f26) h_stack_may [(T_G_api_Item.enc a0)] H Q := by kernel_rfl
theorem c_stack_may {a0 : G_api_Item} {H : Heap} {Q : Bool × Unit → Heap → Prop} (h : S_stack_may a0 H Q) : CALL P [T_bool] n_stack_may [(T_G_api_Item.enc a0)] H Q := call_print hE Try.func26 rfl (by kernel_rfl) (e_stack_may a0 H Q) h

def S_stack_New  (H : Heap) (Q : (Option Addr) × Unit → Heap → Prop) : Prop :=
NEW H [(.bool true), (.int .i64 0), (.int .i64 0), (.int .i64 0), (.int .i64 0), (.int .i64 0), (.int .i64 0), (.int .i64 0), (.int .i64 0), (.int .i64 0), (.int .i64 0), (.int .i64 0), (.int .i64 0), (.int .i64 0), (.int .i64 0), (.int .i64 0), (.int .i64 0), (.int .i64 0), (.int .i64 0), (.int .i64 0), (.int .i64 0), (.int .i64 0), (.int .i64 0), (.int .i64 0), (.int .i64 0), (.int .i64 0), (.int .i64 0), (.int .i64 0), (.int .i64 0), (.int .i64 0), (.int .i64 0), (.int .i64 0), (.int .i64 0), (.int .i64 0), (.int .i64 0), (.int .i64 0), (.int .i64 0), (.int .i64 0), (.int .i64 0), (.int .i64 0), (.int .i64 0), (.int .i64 0), (.int .i64 0), (.int .i64 0), (.int .i64 0), (.int .i64 0), (.int .i64 0), (.int .i64 0), (.int .i64 0), (.int .i64 0), (.int .i64 0), (.int .i64 0), (.int .i64 0), (.int .i64 0), (.int .i64 0), (.int .i64 0), (.int .i64 0), (.int .i64 0), (.int .i64 0), (.int .i64 0), (.int .i64 0), (.int .i64 0), (.int .i64 0), (.int .i64 0), (.int .i64 0), (.int .i64 0), (.int .i64 0), (.int .i64 0), (.int .i64 0), (.int .i64 0), (.int .i64 0), (.int .i64 0), (.int .i64 0), (.int .i64 0), (.int .i64 0), (.int .i64 0), (.int .i64 0), (.int .i64 0), (.int .i64 0), (.int .i64 0), (.int .i64 0), (.int .i64 0), (.int .i64 0), (.int .i64 0), (.int .i64 0), (.int .i64 0), (.int .i64 0), (.int .i64 0), (.int .i64 0), (.int .i64 0), (.int .i64 0), (.int .i64 0), (.int .i64 0), (.int .i64 0), (.int .i64 0), (.int .i64 0), (.int .i64 0), (.int .i64 0)] 98 fun H1 =>
Q ((some ⟨H.length, 0, none⟩), ()) H1
def h_stack_New : Hnt := .leaf
theorem e_stack_New  (H : Heap) (Q : (Option Addr) × Unit → Heap → Prop) : S_stack_New  H Q = cFn C [] Try.f27.ntmps Try.f27.results.toList [T_ptr] (bodyOf Try.f27) h_stack_New [] H Q := by kernel_rfl
theorem c_stack_New {H : Heap} {Q : (Option Addr) × Unit → Heap → Prop} (h : S_stack_New H Q) : CALL P [T_ptr] n_stack_New [] H Q := call_print hE Try.func27 rfl (by kernel_rfl) (e_stack_New H Q) h

def S_ref23_all (a0 : Sl) (H : Heap) (Q : Bool × Unit → Heap → Prop) : Prop :=
JOIN (fun (j1 : (Unit) × (Unit) → Heap → Prop) =>
LOOP (fun (r3 : (Int × Unit) × (Unit) → Heap → Prop) (s4 : (Int × Unit) × (Unit)) H2 =>
ifB (decide (s4.1.1 < (a0.len : Int))) (
IDX a0.p a0.len s4.1.1 4 fun b5 o6 =>
LD T_G_api_Item H2 b5 o6 fun (x7 : G_api_Item) =>
CALL P [T_bool] n_ref23_May [(T_G_api_Item.enc x7)] H2 fun (x8 : Bool × Unit) H3 =>
ifB (!x8.1) (
Q (false, ()) H3) (
r3 ((IntKind.wrap .i64 (s4.1.1 + 1), ()), (())) H3)) (
j1 ((()), (())) H2)) ((0, ()), (())) H) fun (y2 : (Unit) × (Unit)) H1 =>
Q (true, ()) H1
def h_ref23_all : Hnt := (.seq .leaf (.seq (.seq .leaf (.blk (some ⟨[], [], [2, 3, 4, 5, 6, 7, 8, 9, 10, 11, 12, 13, 14, 15]⟩) (.loop ⟨[(3, (T_int .i64))], [], [2, 4, 5, 6, 7, 8, 9, 10, 11, 12, 13, 14, 15]⟩ .leaf))) .leaf))
theorem e_ref23_all (a0 : Sl) (H : Heap) (Q : Bool × Unit → Heap → Prop) : S_ref23_all a0 H Q = cFn C [] Try.f28.ntmps Try.f28.results.toList [T_bool] (bodyOf Try.f28) h_ref23_all [a0.v] H Q := by kernel_rfl
theorem c_ref23_all {a0 : Sl} {H : Heap} {Q : Bool × Unit → Heap → Prop} (h : S_ref23_all a0 H Q) : CALL P [T_bool] n_ref23_all [a0.v] H Q := call_print hE Try.func28 rfl (by kernel_rfl) (e_ref23_all a0 H Q) h

def S_ref23_New  (H : Heap) (Q : (Option Addr) × Unit → Heap → Prop) : Prop :=
NEW H [(.slice none 0 0), (.bool true)] 2 fun H1 =>
Q ((some ⟨H.length, 0, none⟩), ()) H1
def h_ref23_New : Hnt := .leaf
theorem e_ref23_New  (H : Heap) (Q : (Option Addr) × Unit → Heap → Prop) : S_ref23_New  H Q = cFn C [] Try.f29.ntmps Try.f29.results.toList [T_ptr] (bodyOf Try.f29) h_ref23_New [] H Q := by kernel_rfl
theorem c_ref23_New {H : Heap} {Q : (Option Addr) × Unit → Heap → Prop} (h : S_ref23_New H Q) : CALL P [T_ptr] n_ref23_New [] H Q := call_print hE Try.func29 rfl (by kernel_rfl) (e_ref23_New H Q) h

def S_kit_CopyItems (a0 : Sl) (H : Heap) (Q : Sl × Unit → Heap → Prop) : Prop :=
APP T_sl (lenV ((Sl.mk none 0 0)).v + (lenX a0.v).getD 0) (aAppendE E [32, 32] ((Sl.mk none 0 0)).v a0.v H) fun (x1 : Sl) H1 =>
Q (x1, ()) H1
def h_kit_CopyItems : Hnt := .leaf
theorem e_kit_CopyItems (a0 : Sl) (H : Heap) (Q : Sl × Unit → Heap → Prop) : S_kit_CopyItems a0 H Q = cFn C [] Try.f30.ntmps Try.f30.results.toList [T_sl] (bodyOf Try.f30) h_kit_CopyItems [a0.v] H Q := by kernel_rfl
theorem c_kit_CopyItems {a0 : Sl} {H : Heap} {Q : Sl × Unit → Heap → Prop} (h : S_kit_CopyItems a0 H Q) : CALL P [T_sl] n_kit_CopyItems [a0.v] H Q := call_print hE Try.func30 rfl (by kernel_rfl) (e_kit_CopyItems a0 H Q) h

def S_stack_Stack_Down_1 (a0 : Value) (c0 : Nat × Nat) (H : Heap) (Q : Unit → Heap → Prop) : Prop :=
LD T_sl H c0.1 c0.2 fun (x1 : Sl) =>
JOIN (fun (j2 : (Unit) × (Unit) → Heap → Prop) =>
LOOP (fun (r4 : (Int × Unit) × (Unit) → Heap → Prop) (s5 : (Int × Unit) × (Unit)) H2 =>
ifB (decide (s5.1.1 < (x1.len : Int))) (
LD T_sl H2 c0.1 c0.2 fun (x6 : Sl) =>
LD T_sl H2 c0.1 c0.2 fun (x7 : Sl) =>
IDX x6.p x6.len (IntKind.wrap .i64 ((IntKind.wrap .i64 ((x7.len : Int) - 1)) - s5.1.1)) 4 fun b8 o9 =>
LD T_G_api_Item H2 b8 o9 fun (x10 : G_api_Item) =>
CALLV P [T_bool] a0 [(.int .i64 s5.1.1), (T_G_api_Item.enc x10)] H2 fun (x11 : Bool × Unit) H3 =>
ifB (!x11.1) (
Q (()) H3) (
r4 ((IntKind.wrap .i64 (s5.1.1 + 1), ()), (())) H3)) (
j2 ((()), (())) H2)) ((0, ()), (())) H) fun (y3 : (Unit) × (Unit)) H1 =>
Q (()) H1
def h_stack_Stack_Down_1 : Hnt := (.seq .leaf (.blk (some ⟨[], [], [3, 6, 7, 8, 9, 10, 11, 12, 13, 14, 15, 16, 17, 18, 19, 20, 21]⟩) (.loop ⟨[(6, (T_int .i64))], [], [3, 7, 8, 9, 10, 11, 12, 13, 14, 15, 16, 17, 18, 19, 20, 21]⟩ .leaf)))
theorem e_stack_Stack_Down_1 (a0 : Value) (c0 : Nat × Nat) (H : Heap) (Q : Unit → Heap → Prop) : S_stack_Stack_Down_1 a0 c0 H Q = cFn C [] Try.f31.ntmps Try.f31.results.toList [] (bodyOf Try.f31) h_stack_Stack_Down_1 [a0, (.pointer (some ⟨c0.1, c0.2, none⟩))] H Q := by kernel_rfl
theorem c_stack_Stack_Down_1 {a0 : Value} {c0 : Nat × Nat} {H : Heap} {Q : Unit → Heap → Prop} (h : S_stack_Stack_Down_1 a0 c0 H Q) : CALL P [] n_stack_Stack_Down_1 [a0, (.pointer (some ⟨c0.1, c0.2, none⟩))] H Q := call_print hE Try.func31 rfl (by kernel_rfl) (e_stack_Stack_Down_1 a0 c0 H Q) h

def S_ref23_Stack_Push (a0 : Option Addr) (a1 : G_api_Item) (H : Heap) (Q : Int × Unit → Heap → Prop) : Prop :=
CALL P [T_bool] n_ref23_Stack_none [(.pointer a0)] H fun (x1 : Bool × Unit) H1 =>
ifB x1.1 (
Q (1, ()) H1) (
CALL P [T_bool] n_ref23_May [(T_G_api_Item.enc a1)] H1 fun (x2 : Bool × Unit) H2 =>
ifB (!x2.1) (
Q (2, ()) H2) (
NIL a0 fun b3 o4 =>
LD T_sl H2 b3 (o4 + 0) fun (x5 : Sl) =>
ifB (decide ((x5.len : Int) ≥ 24)) (
Q (14, ()) H2) (
NIL a0 fun b6 o7 =>
LD T_sl H2 b6 (o7 + 0) fun (x8 : Sl) =>
LD T_sl H2 b6 (o7 + 0) fun (x9 : Sl) =>
REQ (T_sl.enc x9 = x8.v) (
APP T_sl (lenV x8.v + 1) (aAppE E [32, 32] x8.v 1 (T_G_api_Item.cells a1) H2) fun (x10 : Sl) H3 =>
NIL a0 fun b11 o12 =>
ST H3 b11 (o12 + 0) [(.slice x10.p x10.len x10.cap)] fun H4 =>
Q (0, ()) H4))))
def h_ref23_Stack_Push : Hnt := .leaf
theorem e_ref23_Stack_Push (a0 : Option Addr) (a1 : G_api_Item) (H : Heap) (Q : Int × Unit → Heap → Prop) : S_ref23_Stack_Push a0 a1 H Q = cFn C [3, 22] Try.f32.ntmps Try.f32.results.toList [(T_int .i64)] (bodyOf Try.f32) h_ref23_Stack_Push [(.pointer a0), (T_G_api_Item.enc a1)] H Q := by kernel_rfl
theorem c_ref23_Stack_Push {a0 : Option Addr} {a1 : G_api_Item} {H : Heap} {Q : Int × Unit → Heap → Prop} (h : S_ref23_Stack_Push a0 a1 H Q) : CALL P [(T_int .i64)] n_ref23_Stack_Push [(.pointer a0), (T_G_api_Item.enc a1)] H Q := call_print hE Try.func32 rfl (by kernel_rfl) (e_ref23_Stack_Push a0 a1 H Q) h

def S_ref23_Stack_Lay (a0 : Option Addr) (a1 : Sl) (H : Heap) (Q : Int × Int × Unit → Heap → Prop) : Prop :=
CALL P [T_bool] n_ref23_Stack_none [(.pointer a0)] H fun (x1 : Bool × Unit) H1 =>
ifB x1.1 (
Q (0, 1, ()) H1) (
CALL P [T_bool] n_ref23_all [a1.v] H1 fun (x2 : Bool × Unit) H2 =>
ifB (!x2.1) (
Q (0, 2, ()) H2) (
JOIN (fun (j3 : (Int × Unit) × (Unit) → Heap → Prop) =>
LOOP (fun (r5 : (Int × Int × Unit) × (Unit) → Heap → Prop) (s6 : (Int × Int × Unit) × (Unit)) H4 =>
ifB (decide (s6.1.2.1 ≥ 0)) (
IDX a1.p a1.len s6.1.2.1 4 fun b7 o8 =>
LD T_G_api_Item H4 b7 o8 fun (x9 : G_api_Item) =>
CALL P [(T_int .i64)] n_ref23_Stack_Push [(.pointer a0), (T_G_api_Item.enc x9)] H4 fun (x10 : Int × Unit) H5 =>
JOIN (fun (j11 : (Int × Unit) × (Unit) → Heap → Prop) =>
ifB (x10.1 != 0) (
j11 ((IntKind.wrap .i64 (s6.1.1 + 1), ()), (())) H5) (
j11 ((s6.1.1, ()), (())) H5)) fun (y12 : (Int × Unit) × (Unit)) H6 =>
r5 ((y12.1.1, IntKind.wrap .i64 (s6.1.2.1 - 1), ()), (())) H6) (
j3 ((s6.1.1, ()), (())) H4)) ((0, IntKind.wrap .i64 ((a1.len : Int) - 1), ()), (())) H2) fun (y4 : (Int × Unit) × (Unit)) H3 =>
Q (y4.1.1, 0, ()) H3))
def h_ref23_Stack_Lay : Hnt := (.seq .leaf (.seq .leaf (.seq .leaf (.seq .leaf (.seq .leaf (.seq (.seq .leaf (.blk (some ⟨[(7, (T_int .i64))], [], [8, 18, 19, 20, 21, 22, 23, 24, 25, 26, 27, 28, 29, 30]⟩) (.loop ⟨[(7, (T_int .i64)), (8, (T_int .i64))], [], [18, 19, 20, 21, 22, 23, 24, 25, 26, 27, 28, 29, 30]⟩ (.seq .leaf (.seq (.blk none (.seq .leaf (.cond (some ⟨[(7, (T_int .i64))], [], [29, 30]⟩) .leaf .leaf))) .leaf))))) .leaf))))))
theorem e_ref23_Stack_Lay (a0 : Option Addr) (a1 : Sl) (H : Heap) (Q : Int × Int × Unit → Heap → Prop) : S_ref23_Stack_Lay a0 a1 H Q = cFn C [] Try.f33.ntmps Try.f33.results.toList [(T_int .i64), (T_int .i64)] (bodyOf Try.f33) h_ref23_Stack_Lay [(.pointer a0), a1.v] H Q := by kernel_rfl
theorem c_ref23_Stack_Lay {a0 : Option Addr} {a1 : Sl} {H : Heap} {Q : Int × Int × Unit → Heap → Prop} (h : S_ref23_Stack_Lay a0 a1 H Q) : CALL P [(T_int .i64), (T_int .i64)] n_ref23_Stack_Lay [(.pointer a0), a1.v] H Q := call_print hE Try.func33 rfl (by kernel_rfl) (e_ref23_Stack_Lay a0 a1 H Q) h

def S_ref23_Stack_Pop (a0 : Option Addr) (H : Heap) (Q : G_api_Item × Bool × Unit → Heap → Prop) : Prop :=
CALL P [T_G_api_Item, T_bool] n_ref23_Stack_Top [(.pointer a0)] H fun (x1 : G_api_Item × Bool × Unit) H1 =>
JOIN (fun (j2 : (Unit) × (Unit) → Heap → Prop) =>
ifB x1.2.1 (
NIL a0 fun b4 o5 =>
LD T_sl H1 b4 (o5 + 0) fun (x6 : Sl) =>
NIL a0 fun b7 o8 =>
LD T_sl H1 b7 (o8 + 0) fun (x9 : Sl) =>
GENV T_sl (aSlice E 32 x6.v none (some (.int .i64 (IntKind.wrap .i64 ((x9.len : Int) - 1)))) none H1) fun (x10 : Sl) =>
NIL a0 fun b11 o12 =>
ST H1 b11 (o12 + 0) [(.slice x10.p x10.len x10.cap)] fun H3 =>
j2 ((()), (())) H3) (
j2 ((()), (())) H1)) fun (y3 : (Unit) × (Unit)) H2 =>
Q (x1.1, x1.2.1, ()) H2
def h_ref23_Stack_Pop : Hnt := (.seq .leaf (.seq .leaf (.seq (.seq .leaf (.cond (some ⟨[], [], [12, 13, 14, 15, 16, 17, 18, 19, 20, 21, 22, 23, 24, 25]⟩) .leaf .leaf)) .leaf)))
theorem e_ref23_Stack_Pop (a0 : Option Addr) (H : Heap) (Q : G_api_Item × Bool × Unit → Heap → Prop) : S_ref23_Stack_Pop a0 H Q = cFn C [2, 4] Try.f34.ntmps Try.f34.results.toList [T_G_api_Item, T_bool] (bodyOf Try.f34) h_ref23_Stack_Pop [(.pointer a0)] H Q := by kernel_rfl
theorem c_ref23_Stack_Pop {a0 : Option Addr} {H : Heap} {Q : G_api_Item × Bool × Unit → Heap → Prop} (h : S_ref23_Stack_Pop a0 H Q) : CALL P [T_G_api_Item, T_bool] n_ref23_Stack_Pop [(.pointer a0)] H Q := call_print hE Try.func34 rfl (by kernel_rfl) (e_ref23_Stack_Pop a0 H Q) h

def S_ref23_Stack_Top (a0 : Option Addr) (H : Heap) (Q : G_api_Item × Bool × Unit → Heap → Prop) : Prop :=
JOIN (fun (j1 : (Bool × Unit) × (Unit) → Heap → Prop) =>
CALL P [T_bool] n_ref23_Stack_none [(.pointer a0)] H fun (x3 : Bool × Unit) H2 =>
ifB x3.1 (
j1 ((true, ()), (())) H2) (
NIL a0 fun b4 o5 =>
LD T_sl H2 b4 (o5 + 0) fun (x6 : Sl) =>
j1 (((x6.len : Int) == 0, ()), (())) H2)) fun (y2 : (Bool × Unit) × (Unit)) H1 =>
ifB y2.1.1 (
Q ((G_api_Item.mk 0 0 0 0), false, ()) H1) (
NIL a0 fun b7 o8 =>
LD T_sl H1 b7 (o8 + 0) fun (x9 : Sl) =>
NIL a0 fun b10 o11 =>
LD T_sl H1 b10 (o11 + 0) fun (x12 : Sl) =>
IDX x9.p x9.len (IntKind.wrap .i64 ((x12.len : Int) - 1)) 4 fun b13 o14 =>
LD T_G_api_Item H1 b13 o14 fun (x15 : G_api_Item) =>
Q (x15, true, ()) H1)
def h_ref23_Stack_Top : Hnt := (.seq .leaf (.seq (.seq (.reg ⟨[(13, T_bool)], [], [4, 5, 6, 7, 8, 9, 10, 11, 12]⟩) .leaf) .leaf))
theorem e_ref23_Stack_Top (a0 : Option Addr) (H : Heap) (Q : G_api_Item × Bool × Unit → Heap → Prop) : S_ref23_Stack_Top a0 H Q = cFn C [2] Try.f35.ntmps Try.f35.results.toList [T_G_api_Item, T_bool] (bodyOf Try.f35) h_ref23_Stack_Top [(.pointer a0)] H Q := by kernel_rfl
theorem c_ref23_Stack_Top {a0 : Option Addr} {H : Heap} {Q : G_api_Item × Bool × Unit → Heap → Prop} (h : S_ref23_Stack_Top a0 H Q) : CALL P [T_G_api_Item, T_bool] n_ref23_Stack_Top [(.pointer a0)] H Q := call_print hE Try.func35 rfl (by kernel_rfl) (e_ref23_Stack_Top a0 H Q) h

def S_ref23_Stack_none (a0 : Option Addr) (H : Heap) (Q : Bool × Unit → Heap → Prop) : Prop :=
JOIN (fun (j1 : (Bool × Unit) × (Unit) → Heap → Prop) =>
ifB a0.isNone (
j1 ((true, ()), (())) H) (
NIL a0 fun b3 o4 =>
LD T_bool H b3 (o4 + 1) fun (x5 : Bool) =>
j1 ((!x5, ()), (())) H)) fun (y2 : (Bool × Unit) × (Unit)) H1 =>
Q (y2.1.1, ()) H1
def h_ref23_Stack_none : Hnt := (.seq .leaf (.seq (.reg ⟨[(2, T_bool)], [], [3, 4, 5, 6, 7, 8, 9, 10, 11]⟩) .leaf))
theorem e_ref23_Stack_none (a0 : Option Addr) (H : Heap) (Q : Bool × Unit → Heap → Prop) : S_ref23_Stack_none a0 H Q = cFn C [] Try.f36.ntmps Try.f36.results.toList [T_bool] (bodyOf Try.f36) h_ref23_Stack_none [(.pointer a0)] H Q := by kernel_rfl
theorem c_ref23_Stack_none {a0 : Option Addr} {H : Heap} {Q : Bool × Unit → Heap → Prop} (h : S_ref23_Stack_none a0 H Q) : CALL P [T_bool] n_ref23_Stack_none [(.pointer a0)] H Q := call_print hE Try.func36 rfl (by kernel_rfl) (e_ref23_Stack_none a0 H Q) h

def S_kit_markItems (a0 : Int) (a1 : Int) (H : Heap) (Q : G_api_Item × Unit → Heap → Prop) : Prop :=
Q ((G_api_Item.mk (IntKind.wrap .i64 ((IntKind.wrap .i64 (0 - a0)) - 1)) a1 0 0), ()) H
def h_kit_markItems : Hnt := .leaf
theorem e_kit_markItems (a0 : Int) (a1 : Int) (H : Heap) (Q : G_api_Item × Unit → Heap → Prop) : S_kit_markItems a0 a1 H Q = cFn C [4] Try.f37.ntmps Try.f37.results.toList [T_G_api_Item] (bodyOf Try.f37) h_kit_markItems [(.int .i64 a0), (.int .i64 a1)] H Q := by kernel_rfl
theorem c_kit_markItems {a0 : Int} {a1 : Int} {H : Heap} {Q : G_api_Item × Unit → Heap → Prop} (h : S_kit_markItems a0 a1 H Q) : CALL P [T_G_api_Item] n_kit_markItems [(.int .i64 a0), (.int .i64 a1)] H Q := call_print hE Try.func37 rfl (by kernel_rfl) (e_kit_markItems a0 a1 H Q) h

def S_ref23_May (a0 : G_api_Item) (H : Heap) (Q : Bool × Unit → Heap → Prop) : Prop :=
JOIN (fun (j1 : (Bool × Unit) × (Unit) → Heap → Prop) =>
ifB (decide (a0.Thing ≥ 1)) (
ifB (decide (a0.Thing ≤ 2048)) (
ifB (decide (a0.Part ≥ 0)) (
ifB (decide (a0.Part ≤ 4)) (
ifB (a0.Holder == 0) (
ifB (decide (a0.Meant ≥ (-2))) (
j1 ((decide (a0.Meant ≤ 2048), ()), (())) H) (
j1 ((false, ()), (())) H)) (
ifB (a0.Holder == 1) (
ifB (decide (a0.Meant ≥ (-2))) (
j1 ((decide (a0.Meant ≤ 2048), ()), (())) H) (
j1 ((false, ()), (())) H)) (
j1 ((false, ()), (())) H))) (
j1 ((false, ()), (())) H)) (
j1 ((false, ()), (())) H)) (
j1 ((false, ()), (())) H)) (
j1 ((false, ()), (())) H)) fun (y2 : (Bool × Unit) × (Unit)) H1 =>
Q (y2.1.1, ()) H1
def h_ref23_May : Hnt := (.seq .leaf (.seq (.reg ⟨[(2, T_bool)], [], [3, 4, 5, 6, 7, 8, 9, 10, 11, 12, 13, 14, 15, 16, 17, 18, 19, 20, 21, 22, 23, 24, 25, 26, 27, 28, 29, 30, 31, 32, 33, 34, 35, 36, 37, 38, 39, 40]⟩) .leaf))
theorem e_ref23_May (a0 : G_api_Item) (H : Heap) (Q : Bool × Unit → Heap → Prop) : S_ref23_May a0 H Q = cFn C [1] Try.f38.ntmps Try.f38.results.toList [T_bool] (bodyOf Try.f38) h_ref23_May [(T_G_api_Item.enc a0)] H Q := by kernel_rfl
theorem c_ref23_May {a0 : G_api_Item} {H : Heap} {Q : Bool × Unit → Heap → Prop} (h : S_ref23_May a0 H Q) : CALL P [T_bool] n_ref23_May [(T_G_api_Item.enc a0)] H Q := call_print hE Try.func38 rfl (by kernel_rfl) (e_ref23_May a0 H Q) h
end Zv
end Go.Proofs.Ytmjonmhpfngkaaa
