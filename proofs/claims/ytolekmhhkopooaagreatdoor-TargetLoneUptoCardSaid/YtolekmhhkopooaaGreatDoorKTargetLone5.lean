/- Part 5 of the proof of TargetLone: what its row stands on (lemmas about the model, the evaluator, contracts of functions), put together and cut to what is used. -/
import Derived.Test.YtolekmhhkopooaaGreatDoorKTargetLone4
import Derived.KernelRfl
section
namespace Go.Proofs.YtolekmhhkopooaaGreatDoor
open Go Zq
namespace Zv
set_option maxRecDepth 100000
set_option linter.unusedVariables false
def S_effect_Uses (a0 : Int) (a1 : Int) (H : Heap) (Q : Bool × Bool × Bool × Bool × Bool × Unit -> Heap -> Prop) : Prop :=
JOIN (fun (j1 : (Bool × Unit) × (Unit) -> Heap -> Prop) =>
ifB (a0 == 1) (
j1 ((a0 == 1, ()), (())) H) (
JOIN (fun (j3 : (Bool × Unit) × (Unit) -> Heap -> Prop) =>
ifB (a0 == 2) (
j3 ((a0 == 2, ()), (())) H) (
JOIN (fun (j5 : (Bool × Unit) × (Unit) -> Heap -> Prop) =>
ifB (a0 == 3) (
j5 ((a0 == 3, ()), (())) H) (
JOIN (fun (j7 : (Bool × Unit) × (Unit) -> Heap -> Prop) =>
ifB (a0 == 4) (
j7 ((a0 == 4, ()), (())) H) (
JOIN (fun (j9 : (Bool × Unit) × (Unit) -> Heap -> Prop) =>
ifB (a0 == 5) (
j9 ((a0 == 5, ()), (())) H) (
JOIN (fun (j11 : (Bool × Unit) × (Unit) -> Heap -> Prop) =>
ifB (a0 == 14) (
j11 ((a0 == 14, ()), (())) H) (
JOIN (fun (j13 : (Bool × Unit) × (Unit) -> Heap -> Prop) =>
ifB (a0 == 15) (
j13 ((a0 == 15, ()), (())) H) (
JOIN (fun (j15 : (Bool × Unit) × (Unit) -> Heap -> Prop) =>
ifB (a0 == 16) (
j15 ((a0 == 16, ()), (())) H) (
j15 ((a0 == 19, ()), (())) H)) fun (y16 : (Bool × Unit) × (Unit)) H8 =>
j13 ((y16.1.1, ()), (())) H8)) fun (y14 : (Bool × Unit) × (Unit)) H7 =>
j11 ((y14.1.1, ()), (())) H7)) fun (y12 : (Bool × Unit) × (Unit)) H6 =>
j9 ((y12.1.1, ()), (())) H6)) fun (y10 : (Bool × Unit) × (Unit)) H5 =>
j7 ((y10.1.1, ()), (())) H5)) fun (y8 : (Bool × Unit) × (Unit)) H4 =>
j5 ((y8.1.1, ()), (())) H4)) fun (y6 : (Bool × Unit) × (Unit)) H3 =>
j3 ((y6.1.1, ()), (())) H3)) fun (y4 : (Bool × Unit) × (Unit)) H2 =>
j1 ((y4.1.1, ()), (())) H2)) fun (y2 : (Bool × Unit) × (Unit)) H1 =>
JOIN (fun (j17 : (Bool × Bool × Bool × Bool × Bool × Unit) × (Unit) -> Heap -> Prop) =>
ifB y2.1.1 (
j17 ((true, false, false, false, false, ()), (())) H1) (
JOIN (fun (j19 : (Bool × Bool × Bool × Bool × Bool × Unit) × (Unit) -> Heap -> Prop) =>
ifB (a0 == 9) (
j19 ((true, false, false, true, false, ()), (())) H1) (
JOIN (fun (j21 : (Bool × Bool × Bool × Bool × Unit) × (Unit) -> Heap -> Prop) =>
ifB (a0 == 7) (
j21 ((true, false, false, true, ()), (())) H1) (
JOIN (fun (j23 : (Bool × Bool × Unit) × (Unit) -> Heap -> Prop) =>
ifB (a0 == 11) (
j23 ((true, false, ()), (())) H1) (
JOIN (fun (j25 : (Bool × Unit) × (Unit) -> Heap -> Prop) =>
ifB (a0 == 12) (
j25 ((a0 == 12, ()), (())) H1) (
j25 ((a0 == 13, ()), (())) H1)) fun (y26 : (Bool × Unit) × (Unit)) H13 =>
JOIN (fun (j27 : (Bool × Unit) × (Unit) -> Heap -> Prop) =>
ifB y26.1.1 (
j27 ((true, ()), (())) H13) (
j27 ((false, ()), (())) H13)) fun (y28 : (Bool × Unit) × (Unit)) H14 =>
j23 ((false, y28.1.1, ()), (())) H14)) fun (y24 : (Bool × Bool × Unit) × (Unit)) H12 =>
j21 ((false, y24.1.1, y24.1.2.1, false, ()), (())) H12)) fun (y22 : (Bool × Bool × Bool × Bool × Unit) × (Unit)) H11 =>
j19 ((y22.1.1, y22.1.2.1, y22.1.2.2.1, false, y22.1.2.2.2.1, ()), (())) H11)) fun (y20 : (Bool × Bool × Bool × Bool × Bool × Unit) × (Unit)) H10 =>
j17 ((y20.1.1, y20.1.2.1, y20.1.2.2.1, y20.1.2.2.2.1, y20.1.2.2.2.2.1, ()), (())) H10)) fun (y18 : (Bool × Bool × Bool × Bool × Bool × Unit) × (Unit)) H9 =>
JOIN (fun (j29 : (Bool × Bool × Bool × Bool × Bool × Unit) × (Unit) -> Heap -> Prop) =>
ifB y18.1.2.1 (
ifB y18.1.2.2.1 (
j29 ((y18.1.1, true, true, y18.1.2.2.2.1, y18.1.2.2.2.2.1, ()), (())) H9) (
j29 ((y18.1.1, true, a1 == 10, y18.1.2.2.2.1, y18.1.2.2.2.2.1, ()), (())) H9)) (
ifB y18.1.2.2.1 (
j29 ((y18.1.1, a1 == 9, true, y18.1.2.2.2.1, y18.1.2.2.2.2.1, ()), (())) H9) (
j29 ((y18.1.1, a1 == 9, a1 == 10, y18.1.2.2.2.1, y18.1.2.2.2.2.1, ()), (())) H9))) fun (y30 : (Bool × Bool × Bool × Bool × Bool × Unit) × (Unit)) H15 =>
Q (y30.1.1, y30.1.2.1, y30.1.2.2.1, y30.1.2.2.2.1, y30.1.2.2.2.2.1, ()) H15
def h_effect_Uses : Hnt := (.seq .leaf (.seq (.seq .leaf (.blk none (.seq (.seq .leaf (.cond (some ⟨[(10, T_bool)], [], [12, 13, 14, 15, 16, 17, 18, 19]⟩) .leaf (.seq .leaf (.cond (some ⟨[(10, T_bool)], [], [13, 14, 15, 16, 17, 18, 19]⟩) .leaf (.seq .leaf (.cond (some ⟨[(10, T_bool)], [], [14, 15, 16, 17, 18, 19]⟩) .leaf (.seq .leaf (.cond (some ⟨[(10, T_bool)], [], [15, 16, 17, 18, 19]⟩) .leaf (.seq .leaf (.cond (some ⟨[(10, T_bool)], [], [16, 17, 18, 19]⟩) .leaf (.seq .leaf (.cond (some ⟨[(10, T_bool)], [], [17, 18, 19]⟩) .leaf (.seq .leaf (.cond (some ⟨[(10, T_bool)], [], [18, 19]⟩) .leaf (.seq .leaf (.cond (some ⟨[(10, T_bool)], [], [19]⟩) .leaf .leaf)))))))))))))))) (.cond (some ⟨[(4, T_bool), (5, T_bool), (6, T_bool), (7, T_bool), (8, T_bool)], [], [20, 21, 22, 23, 24, 25, 26, 27, 28]⟩) .leaf (.seq .leaf (.cond (some ⟨[(4, T_bool), (5, T_bool), (6, T_bool), (7, T_bool), (8, T_bool)], [], [22, 23, 24, 25, 26, 27, 28]⟩) .leaf (.seq .leaf (.cond (some ⟨[(4, T_bool), (5, T_bool), (6, T_bool), (8, T_bool)], [], [24, 25, 26, 27, 28]⟩) .leaf (.seq .leaf (.cond (some ⟨[(5, T_bool), (6, T_bool)], [], [26, 27, 28]⟩) .leaf (.seq (.seq .leaf (.cond (some ⟨[(26, T_bool)], [], [28]⟩) .leaf .leaf)) (.cond (some ⟨[(6, T_bool)], [], []⟩) .leaf .leaf)))))))))))) (.seq (.reg ⟨[(4, T_bool), (5, T_bool), (6, T_bool), (7, T_bool), (8, T_bool)], [], [29, 30, 31, 32, 33, 34, 35, 36, 37, 38, 39, 40, 41]⟩) .leaf)))
theorem e_effect_Uses (a0 : Int) (a1 : Int) (H : Heap) (Q : Bool × Bool × Bool × Bool × Bool × Unit -> Heap -> Prop) : S_effect_Uses a0 a1 H Q = cFn C [] Tryz.f162.ntmps Tryz.f162.results.toList [T_bool, T_bool, T_bool, T_bool, T_bool] (bodyOf Tryz.f162) h_effect_Uses [(.int .u8 a0), (.int .u8 a1)] H Q := by kernel_rfl
theorem c_effect_Uses {a0 : Int} {a1 : Int} {H : Heap} {Q : Bool × Bool × Bool × Bool × Bool × Unit -> Heap -> Prop} (h : S_effect_Uses a0 a1 H Q) : CALL P [T_bool, T_bool, T_bool, T_bool, T_bool] n_effect_Uses [(.int .u8 a0), (.int .u8 a1)] H Q := call_print hE Tryz.func162 rfl (by kernel_rfl) (e_effect_Uses a0 a1 H Q) h
def S_effect_bounds (a0 : Int) (H : Heap) (Q : Int × Int × Bool × Unit -> Heap -> Prop) : Prop :=
JOIN (fun (j1 : (Bool × Unit) × (Unit) -> Heap -> Prop) =>
ifB (a0 == 9) (
j1 ((a0 == 9, ()), (())) H) (
j1 ((a0 == 15, ()), (())) H)) fun (y2 : (Bool × Unit) × (Unit)) H1 =>
ifB y2.1.1 (
Q ((-99), 99, false, ()) H1) (
ifB (a0 == 5) (
Q ((-9), 9, false, ()) H1) (
ifB (a0 == 14) (
Q (0, 99, true, ()) H1) (
Q (1, 99, false, ()) H1)))
def h_effect_bounds : Hnt := (.seq .leaf (.seq (.seq .leaf (.blk none (.seq (.seq .leaf (.cond (some ⟨[(6, T_bool)], [], [8]⟩) .leaf .leaf)) .leaf))) .leaf))
theorem e_effect_bounds (a0 : Int) (H : Heap) (Q : Int × Int × Bool × Unit -> Heap -> Prop) : S_effect_bounds a0 H Q = cFn C [] Tryz.f163.ntmps Tryz.f163.results.toList [(T_int .i64), (T_int .i64), T_bool] (bodyOf Tryz.f163) h_effect_bounds [(.int .u8 a0)] H Q := by kernel_rfl
theorem c_effect_bounds {a0 : Int} {H : Heap} {Q : Int × Int × Bool × Unit -> Heap -> Prop} (h : S_effect_bounds a0 H Q) : CALL P [(T_int .i64), (T_int .i64), T_bool] n_effect_bounds [(.int .u8 a0)] H Q := call_print hE Tryz.func163 rfl (by kernel_rfl) (e_effect_bounds a0 H Q) h
def S_effect_wanted (a0 : Int) (a1 : Int) (H : Heap) (Q : Bool × Unit -> Heap -> Prop) : Prop :=
ifB (a0 == 5) (
CALL P [T_bool] n_effect_standing [(.int .u8 a1)] H fun (x1 : Bool × Unit) H1 =>
Q (x1.1, ()) H1) (
ifB (a0 == 6) (
CALL P [T_bool] n_effect_swapping [(.int .u8 a1)] H fun (x2 : Bool × Unit) H2 =>
Q (x2.1, ()) H2) (
CALL P [T_bool] n_effect_event [(.int .u8 a1)] H fun (x3 : Bool × Unit) H3 =>
Q (x3.1, ()) H3))
def h_effect_wanted : Hnt := .leaf
theorem e_effect_wanted (a0 : Int) (a1 : Int) (H : Heap) (Q : Bool × Unit -> Heap -> Prop) : S_effect_wanted a0 a1 H Q = cFn C [] Tryz.f164.ntmps Tryz.f164.results.toList [T_bool] (bodyOf Tryz.f164) h_effect_wanted [(.int .u8 a0), (.int .u8 a1)] H Q := by kernel_rfl
theorem c_effect_wanted {a0 : Int} {a1 : Int} {H : Heap} {Q : Bool × Unit -> Heap -> Prop} (h : S_effect_wanted a0 a1 H Q) : CALL P [T_bool] n_effect_wanted [(.int .u8 a0), (.int .u8 a1)] H Q := call_print hE Tryz.func164 rfl (by kernel_rfl) (e_effect_wanted a0 a1 H Q) h
def S_effect_about (a0 : G_api_Part) (H : Heap) (Q : Bool × Unit -> Heap -> Prop) : Prop :=
JOIN (fun (j1 : (Bool × Unit) × (Unit) -> Heap -> Prop) =>
ifB (a0.Whom == 1) (
j1 ((true, ()), (())) H) (
j1 ((a0.Whom == 2, ()), (())) H)) fun (y2 : (Bool × Unit) × (Unit)) H1 =>
CALL P [T_bool] n_effect_standing [(.int .u8 a0.Verb)] H1 fun (x3 : Bool × Unit) H2 =>
ifB x3.1 (
JOIN (fun (j4 : (Bool × Unit) × (Unit) -> Heap -> Prop) =>
ifB (!y2.1.1) (
j4 ((a0.Whom != 3, ()), (())) H2) (
j4 ((false, ()), (())) H2)) fun (y5 : (Bool × Unit) × (Unit)) H3 =>
Q (y5.1.1, ()) H3) (
CALL P [T_bool] n_effect_swapping [(.int .u8 a0.Verb)] H2 fun (x6 : Bool × Unit) H4 =>
ifB x6.1 (
Q (a0.Whom != 3, ()) H4) (
ifB (a0.Whom == 3) (
Q (a0.When == 1, ()) H4) (
JOIN (fun (j7 : (Bool × Unit) × (Unit) -> Heap -> Prop) =>
ifB (!y2.1.1) (
j7 ((true, ()), (())) H4) (
ifB (a0.Verb != 6) (
ifB (a0.Verb != 8) (
j7 ((a0.Verb != 9, ()), (())) H4) (
j7 ((false, ()), (())) H4)) (
j7 ((false, ()), (())) H4))) fun (y8 : (Bool × Unit) × (Unit)) H5 =>
Q (y8.1.1, ()) H5)))
def h_effect_about : Hnt := (.seq .leaf (.seq (.reg ⟨[(3, T_bool)], [], [4, 5, 6, 7, 8, 9, 10, 11]⟩) (.seq (.blk none (.seq .leaf (.cond none (.seq (.reg ⟨[(2, T_bool)], [], [16, 17, 18, 19, 20, 21, 22]⟩) .leaf) .leaf))) (.seq (.reg ⟨[(2, T_bool)], [], [37, 38, 39, 40, 41, 42, 43, 44, 45, 46, 47, 48, 49, 50, 51, 52, 53]⟩) .leaf))))
theorem e_effect_about (a0 : G_api_Part) (H : Heap) (Q : Bool × Unit -> Heap -> Prop) : S_effect_about a0 H Q = cFn C [1] Tryz.f165.ntmps Tryz.f165.results.toList [T_bool] (bodyOf Tryz.f165) h_effect_about [(T_G_api_Part.enc a0)] H Q := by kernel_rfl
theorem c_effect_about {a0 : G_api_Part} {H : Heap} {Q : Bool × Unit -> Heap -> Prop} (h : S_effect_about a0 H Q) : CALL P [T_bool] n_effect_about [(T_G_api_Part.enc a0)] H Q := call_print hE Tryz.func165 rfl (by kernel_rfl) (e_effect_about a0 H Q) h
def S_effect_within_int (a0 : Int) (a1 : Bool) (a2 : Int) (a3 : Int) (H : Heap) (Q : Bool × Unit -> Heap -> Prop) : Prop :=
ifB (!a1) (
Q (a0 == 0, ()) H) (
JOIN (fun (j1 : (Bool × Unit) × (Unit) -> Heap -> Prop) =>
ifB (decide (a0 ≥ a2)) (
j1 ((decide (a0 ≤ a3), ()), (())) H) (
j1 ((false, ()), (())) H)) fun (y2 : (Bool × Unit) × (Unit)) H1 =>
Q (y2.1.1, ()) H1)
def h_effect_within_int : Hnt := (.seq .leaf (.seq .leaf (.seq (.reg ⟨[(8, T_bool)], [], [13, 14, 15, 16, 17, 18, 19, 20]⟩) .leaf)))
theorem e_effect_within_int (a0 : Int) (a1 : Bool) (a2 : Int) (a3 : Int) (H : Heap) (Q : Bool × Unit -> Heap -> Prop) : S_effect_within_int a0 a1 a2 a3 H Q = cFn C [] Tryz.f166.ntmps Tryz.f166.results.toList [T_bool] (bodyOf Tryz.f166) h_effect_within_int [(.int .i64 a0), (.bool a1), (.int .i64 a2), (.int .i64 a3)] H Q := by kernel_rfl
theorem c_effect_within_int {a0 : Int} {a1 : Bool} {a2 : Int} {a3 : Int} {H : Heap} {Q : Bool × Unit -> Heap -> Prop} (h : S_effect_within_int a0 a1 a2 a3 H Q) : CALL P [T_bool] n_effect_within_int [(.int .i64 a0), (.bool a1), (.int .i64 a2), (.int .i64 a3)] H Q := call_print hE Tryz.func166 rfl (by kernel_rfl) (e_effect_within_int a0 a1 a2 a3 H Q) h
def S_effect_within_api_Suit (a0 : Int) (a1 : Bool) (a2 : Int) (a3 : Int) (H : Heap) (Q : Bool × Unit -> Heap -> Prop) : Prop :=
ifB (!a1) (
Q (a0 == 0, ()) H) (
JOIN (fun (j1 : (Bool × Unit) × (Unit) -> Heap -> Prop) =>
ifB (decide (a0 ≥ a2)) (
j1 ((decide (a0 ≤ a3), ()), (())) H) (
j1 ((false, ()), (())) H)) fun (y2 : (Bool × Unit) × (Unit)) H1 =>
Q (y2.1.1, ()) H1)
def h_effect_within_api_Suit : Hnt := (.seq .leaf (.seq .leaf (.seq (.reg ⟨[(8, T_bool)], [], [13, 14, 15, 16, 17, 18, 19, 20]⟩) .leaf)))
theorem e_effect_within_api_Suit (a0 : Int) (a1 : Bool) (a2 : Int) (a3 : Int) (H : Heap) (Q : Bool × Unit -> Heap -> Prop) : S_effect_within_api_Suit a0 a1 a2 a3 H Q = cFn C [] Tryz.f167.ntmps Tryz.f167.results.toList [T_bool] (bodyOf Tryz.f167) h_effect_within_api_Suit [(.int .u8 a0), (.bool a1), (.int .u8 a2), (.int .u8 a3)] H Q := by kernel_rfl
theorem c_effect_within_api_Suit {a0 : Int} {a1 : Bool} {a2 : Int} {a3 : Int} {H : Heap} {Q : Bool × Unit -> Heap -> Prop} (h : S_effect_within_api_Suit a0 a1 a2 a3 H Q) : CALL P [T_bool] n_effect_within_api_Suit [(.int .u8 a0), (.bool a1), (.int .u8 a2), (.int .u8 a3)] H Q := call_print hE Tryz.func167 rfl (by kernel_rfl) (e_effect_within_api_Suit a0 a1 a2 a3 H Q) h
def S_effect_within_api_Trait (a0 : Int) (a1 : Bool) (a2 : Int) (a3 : Int) (H : Heap) (Q : Bool × Unit -> Heap -> Prop) : Prop :=
ifB (!a1) (
Q (a0 == 0, ()) H) (
JOIN (fun (j1 : (Bool × Unit) × (Unit) -> Heap -> Prop) =>
ifB (decide (a0 ≥ a2)) (
j1 ((decide (a0 ≤ a3), ()), (())) H) (
j1 ((false, ()), (())) H)) fun (y2 : (Bool × Unit) × (Unit)) H1 =>
Q (y2.1.1, ()) H1)
def h_effect_within_api_Trait : Hnt := (.seq .leaf (.seq .leaf (.seq (.reg ⟨[(8, T_bool)], [], [13, 14, 15, 16, 17, 18, 19, 20]⟩) .leaf)))
theorem e_effect_within_api_Trait (a0 : Int) (a1 : Bool) (a2 : Int) (a3 : Int) (H : Heap) (Q : Bool × Unit -> Heap -> Prop) : S_effect_within_api_Trait a0 a1 a2 a3 H Q = cFn C [] Tryz.f168.ntmps Tryz.f168.results.toList [T_bool] (bodyOf Tryz.f168) h_effect_within_api_Trait [(.int .u8 a0), (.bool a1), (.int .u8 a2), (.int .u8 a3)] H Q := by kernel_rfl
theorem c_effect_within_api_Trait {a0 : Int} {a1 : Bool} {a2 : Int} {a3 : Int} {H : Heap} {Q : Bool × Unit -> Heap -> Prop} (h : S_effect_within_api_Trait a0 a1 a2 a3 H Q) : CALL P [T_bool] n_effect_within_api_Trait [(.int .u8 a0), (.bool a1), (.int .u8 a2), (.int .u8 a3)] H Q := call_print hE Tryz.func168 rfl (by kernel_rfl) (e_effect_within_api_Trait a0 a1 a2 a3 H Q) h
def S_effect_within_api_Mark (a0 : Int) (a1 : Bool) (a2 : Int) (a3 : Int) (H : Heap) (Q : Bool × Unit -> Heap -> Prop) : Prop :=
ifB (!a1) (
Q (a0 == 0, ()) H) (
JOIN (fun (j1 : (Bool × Unit) × (Unit) -> Heap -> Prop) =>
ifB (decide (a0 ≥ a2)) (
j1 ((decide (a0 ≤ a3), ()), (())) H) (
j1 ((false, ()), (())) H)) fun (y2 : (Bool × Unit) × (Unit)) H1 =>
Q (y2.1.1, ()) H1)
def h_effect_within_api_Mark : Hnt := (.seq .leaf (.seq .leaf (.seq (.reg ⟨[(8, T_bool)], [], [13, 14, 15, 16, 17, 18, 19, 20]⟩) .leaf)))
theorem e_effect_within_api_Mark (a0 : Int) (a1 : Bool) (a2 : Int) (a3 : Int) (H : Heap) (Q : Bool × Unit -> Heap -> Prop) : S_effect_within_api_Mark a0 a1 a2 a3 H Q = cFn C [] Tryz.f169.ntmps Tryz.f169.results.toList [T_bool] (bodyOf Tryz.f169) h_effect_within_api_Mark [(.int .u8 a0), (.bool a1), (.int .u8 a2), (.int .u8 a3)] H Q := by kernel_rfl
theorem c_effect_within_api_Mark {a0 : Int} {a1 : Bool} {a2 : Int} {a3 : Int} {H : Heap} {Q : Bool × Unit -> Heap -> Prop} (h : S_effect_within_api_Mark a0 a1 a2 a3 H Q) : CALL P [T_bool] n_effect_within_api_Mark [(.int .u8 a0), (.bool a1), (.int .u8 a2), (.int .u8 a3)] H Q := call_print hE Tryz.func169 rfl (by kernel_rfl) (e_effect_within_api_Mark a0 a1 a2 a3 H Q) h
def S_effect_name (a0 : ByteArray) (H : Heap) (Q : Bool × Unit -> Heap -> Prop) : Prop :=
JOIN (fun (j1 : (Bool × Unit) × (Unit) -> Heap -> Prop) =>
GENV (T_int .i64) (aLen E 9 (.string a0) H) fun (x3 : Int) =>
ifB (decide (x3 ≥ 1)) (
GENV (T_int .i64) (aLen E 9 (.string a0) H) fun (x4 : Int) =>
ifB (decide (x4 ≤ 20)) (
GENV (T_int .u8) (aIndex E 9 (.string a0) (.int .i64 0)) fun (x5 : Int) =>
ifB (x5 != 45) (
CALL P [T_str] n_strings_Trim [(.string a0), (.string (ByteArray.mk #[97, 98, 99, 100, 101, 102, 103, 104, 105, 106, 107, 108, 109, 110, 111, 112, 113, 114, 115, 116, 117, 118, 119, 120, 121, 122, 45]))] H fun (x6 : ByteArray × Unit) H2 =>
j1 ((x6.1.toList == (ByteArray.mk #[]).toList, ()), (())) H2) (
j1 ((false, ()), (())) H)) (
j1 ((false, ()), (())) H)) (
j1 ((false, ()), (())) H)) fun (y2 : (Bool × Unit) × (Unit)) H1 =>
Q (y2.1.1, ()) H1
def h_effect_name : Hnt := (.seq .leaf (.seq (.reg ⟨[(2, T_bool)], [], [3, 4, 5, 6, 7, 8, 9, 10, 11, 12, 13, 14, 15, 16, 17, 18, 19, 20]⟩) .leaf))
theorem e_effect_name (a0 : ByteArray) (H : Heap) (Q : Bool × Unit -> Heap -> Prop) : S_effect_name a0 H Q = cFn C [] Tryz.f170.ntmps Tryz.f170.results.toList [T_bool] (bodyOf Tryz.f170) h_effect_name [(.string a0)] H Q := by kernel_rfl
theorem c_effect_name {a0 : ByteArray} {H : Heap} {Q : Bool × Unit -> Heap -> Prop} (h : S_effect_name a0 H Q) : CALL P [T_bool] n_effect_name [(.string a0)] H Q := call_print hE Tryz.func170 rfl (by kernel_rfl) (e_effect_name a0 H Q) h
def S_ref05_Uses (a0 : Int) (a1 : Int) (H : Heap) (Q : Bool × Bool × Bool × Bool × Bool × Unit -> Heap -> Prop) : Prop :=
CALL P [(T_int .i64), (T_int .i64)] n_ref05_counts [(.int .u8 a0)] H fun (x1 : Int × Int × Unit) H1 =>
JOIN (fun (j2 : (Bool × Bool × Bool × Bool × Bool × Unit) × (Unit) -> Heap -> Prop) =>
ifB (a0 == 11) (
ifB (a0 == 12) (
j2 ((decide (x1.2.1 > 0), true, true, a0 == 9, a0 == 7, ()), (())) H1) (
ifB (a0 == 13) (
j2 ((decide (x1.2.1 > 0), true, true, a0 == 9, a0 == 7, ()), (())) H1) (
j2 ((decide (x1.2.1 > 0), true, a1 == 10, a0 == 9, a0 == 7, ()), (())) H1))) (
ifB (a0 == 12) (
j2 ((decide (x1.2.1 > 0), a1 == 9, true, a0 == 9, a0 == 7, ()), (())) H1) (
ifB (a0 == 13) (
j2 ((decide (x1.2.1 > 0), a1 == 9, true, a0 == 9, a0 == 7, ()), (())) H1) (
j2 ((decide (x1.2.1 > 0), a1 == 9, a1 == 10, a0 == 9, a0 == 7, ()), (())) H1)))) fun (y3 : (Bool × Bool × Bool × Bool × Bool × Unit) × (Unit)) H2 =>
Q (y3.1.1, y3.1.2.1, y3.1.2.2.1, y3.1.2.2.2.1, y3.1.2.2.2.2.1, ()) H2
def h_ref05_Uses : Hnt := (.seq .leaf (.seq .leaf (.seq (.reg ⟨[(4, T_bool), (5, T_bool), (6, T_bool), (7, T_bool), (8, T_bool)], [], [16, 17, 18, 19, 20, 21, 22, 23, 24, 25, 26, 27, 28, 29, 30, 31, 32, 33, 34, 35, 36, 37]⟩) .leaf)))
theorem e_ref05_Uses (a0 : Int) (a1 : Int) (H : Heap) (Q : Bool × Bool × Bool × Bool × Bool × Unit -> Heap -> Prop) : S_ref05_Uses a0 a1 H Q = cFn C [] Tryz.f171.ntmps Tryz.f171.results.toList [T_bool, T_bool, T_bool, T_bool, T_bool] (bodyOf Tryz.f171) h_ref05_Uses [(.int .u8 a0), (.int .u8 a1)] H Q := by kernel_rfl
theorem c_ref05_Uses {a0 : Int} {a1 : Int} {H : Heap} {Q : Bool × Bool × Bool × Bool × Bool × Unit -> Heap -> Prop} (h : S_ref05_Uses a0 a1 H Q) : CALL P [T_bool, T_bool, T_bool, T_bool, T_bool] n_ref05_Uses [(.int .u8 a0), (.int .u8 a1)] H Q := call_print hE Tryz.func171 rfl (by kernel_rfl) (e_ref05_Uses a0 a1 H Q) h
def S_ref05_kind (a0 : Int) (H : Heap) (Q : Int × Unit -> Heap -> Prop) : Prop :=
JOIN (fun (j1 : (Bool × Unit) × (Unit) -> Heap -> Prop) =>
ifB (decide (a0 ≥ 1)) (
j1 ((decide (a0 ≤ 9), ()), (())) H) (
j1 ((false, ()), (())) H)) fun (y2 : (Bool × Unit) × (Unit)) H1 =>
ifB y2.1.1 (
Q (1, ()) H1) (
JOIN (fun (j3 : (Bool × Unit) × (Unit) -> Heap -> Prop) =>
ifB (decide (a0 ≥ 10)) (
j3 ((decide (a0 ≤ 15), ()), (())) H1) (
j3 ((false, ()), (())) H1)) fun (y4 : (Bool × Unit) × (Unit)) H2 =>
ifB y4.1.1 (
Q (2, ()) H2) (
JOIN (fun (j5 : (Bool × Unit) × (Unit) -> Heap -> Prop) =>
ifB (decide (a0 ≥ 16)) (
j5 ((decide (a0 ≤ 19), ()), (())) H2) (
j5 ((false, ()), (())) H2)) fun (y6 : (Bool × Unit) × (Unit)) H3 =>
ifB y6.1.1 (
Q (3, ()) H3) (
Q (0, ()) H3)))
def h_ref05_kind : Hnt := (.seq .leaf (.seq (.blk none (.seq (.reg ⟨[(3, T_bool)], [], [4, 5, 6, 7, 8, 9]⟩) (.cond none .leaf (.seq (.reg ⟨[(10, T_bool)], [], [11, 12, 13, 14, 15, 16]⟩) (.cond none .leaf (.seq (.reg ⟨[(17, T_bool)], [], [18, 19, 20, 21, 22, 23]⟩) .leaf)))))) .leaf))
theorem e_ref05_kind (a0 : Int) (H : Heap) (Q : Int × Unit -> Heap -> Prop) : S_ref05_kind a0 H Q = cFn C [] Tryz.f172.ntmps Tryz.f172.results.toList [(T_int .i64)] (bodyOf Tryz.f172) h_ref05_kind [(.int .u8 a0)] H Q := by kernel_rfl
theorem c_ref05_kind {a0 : Int} {H : Heap} {Q : Int × Unit -> Heap -> Prop} (h : S_ref05_kind a0 H Q) : CALL P [(T_int .i64)] n_ref05_kind [(.int .u8 a0)] H Q := call_print hE Tryz.func172 rfl (by kernel_rfl) (e_ref05_kind a0 H Q) h
def S_ref05_wants (a0 : Int) (H : Heap) (Q : Int × Unit -> Heap -> Prop) : Prop :=
JOIN (fun (j1 : (Bool × Unit) × (Unit) -> Heap -> Prop) =>
ifB (decide (a0 ≥ 1)) (
j1 ((decide (a0 ≤ 4), ()), (())) H) (
j1 ((false, ()), (())) H)) fun (y2 : (Bool × Unit) × (Unit)) H1 =>
ifB y2.1.1 (
Q (1, ()) H1) (
ifB (a0 == 5) (
Q (2, ()) H1) (
ifB (a0 == 6) (
Q (3, ()) H1) (
Q (0, ()) H1)))
def h_ref05_wants : Hnt := (.seq .leaf (.seq (.blk none (.seq (.reg ⟨[(3, T_bool)], [], [4, 5, 6, 7, 8, 9]⟩) .leaf)) .leaf))
theorem e_ref05_wants (a0 : Int) (H : Heap) (Q : Int × Unit -> Heap -> Prop) : S_ref05_wants a0 H Q = cFn C [] Tryz.f173.ntmps Tryz.f173.results.toList [(T_int .i64)] (bodyOf Tryz.f173) h_ref05_wants [(.int .u8 a0)] H Q := by kernel_rfl
theorem c_ref05_wants {a0 : Int} {H : Heap} {Q : Int × Unit -> Heap -> Prop} (h : S_ref05_wants a0 H Q) : CALL P [(T_int .i64)] n_ref05_wants [(.int .u8 a0)] H Q := call_print hE Tryz.func173 rfl (by kernel_rfl) (e_ref05_wants a0 H Q) h
def S_ref05_about (a0 : G_api_Part) (H : Heap) (Q : Bool × Unit -> Heap -> Prop) : Prop :=
JOIN (fun (j1 : (Bool × Unit) × (Unit) -> Heap -> Prop) =>
ifB (a0.Whom == 1) (
j1 ((true, ()), (())) H) (
j1 ((a0.Whom == 2, ()), (())) H)) fun (y2 : (Bool × Unit) × (Unit)) H1 =>
CALL P [(T_int .i64)] n_ref05_kind [(.int .u8 a0.Verb)] H1 fun (x3 : Int × Unit) H2 =>
ifB (x3.1 == 1) (
JOIN (fun (j4 : (Bool × Unit) × (Unit) -> Heap -> Prop) =>
ifB y2.1.1 (
ifB (a0.Verb == 6) (
j4 ((true, ()), (())) H2) (
ifB (a0.Verb == 8) (
j4 ((true, ()), (())) H2) (
j4 ((a0.Verb == 9, ()), (())) H2))) (
j4 ((false, ()), (())) H2)) fun (y5 : (Bool × Unit) × (Unit)) H3 =>
ifB y5.1.1 (
Q (false, ()) H3) (
JOIN (fun (j6 : (Bool × Unit) × (Unit) -> Heap -> Prop) =>
ifB (a0.Whom != 3) (
j6 ((true, ()), (())) H3) (
j6 ((a0.When == 1, ()), (())) H3)) fun (y7 : (Bool × Unit) × (Unit)) H4 =>
Q (y7.1.1, ()) H4)) (
ifB (x3.1 == 2) (
JOIN (fun (j8 : (Bool × Unit) × (Unit) -> Heap -> Prop) =>
ifB (!y2.1.1) (
j8 ((a0.Whom != 3, ()), (())) H2) (
j8 ((false, ()), (())) H2)) fun (y9 : (Bool × Unit) × (Unit)) H5 =>
Q (y9.1.1, ()) H5) (
Q (a0.Whom != 3, ()) H2))
def h_ref05_about : Hnt := (.seq .leaf (.seq (.reg ⟨[(3, T_bool)], [], [4, 5, 6, 7, 8, 9, 10, 11]⟩) (.seq (.seq .leaf (.blk none (.seq .leaf (.cond none (.seq (.seq (.reg ⟨[(32, T_bool)], [], [17, 18, 19, 20, 21, 22, 23, 24, 25, 26, 27, 28, 29, 30, 31]⟩) .leaf) (.seq (.reg ⟨[(2, T_bool)], [], [33, 34, 35, 36, 37, 38, 39, 40]⟩) .leaf)) (.seq .leaf (.cond none (.seq (.reg ⟨[(2, T_bool)], [], [43, 44, 45, 46, 47, 48, 49]⟩) .leaf) .leaf)))))) .leaf)))
theorem e_ref05_about (a0 : G_api_Part) (H : Heap) (Q : Bool × Unit -> Heap -> Prop) : S_ref05_about a0 H Q = cFn C [1] Tryz.f174.ntmps Tryz.f174.results.toList [T_bool] (bodyOf Tryz.f174) h_ref05_about [(T_G_api_Part.enc a0)] H Q := by kernel_rfl
theorem c_ref05_about {a0 : G_api_Part} {H : Heap} {Q : Bool × Unit -> Heap -> Prop} (h : S_ref05_about a0 H Q) : CALL P [T_bool] n_ref05_about [(T_G_api_Part.enc a0)] H Q := call_print hE Tryz.func174 rfl (by kernel_rfl) (e_ref05_about a0 H Q) h
def S_ref05_counted (a0 : G_api_Part) (H : Heap) (Q : Bool × Unit -> Heap -> Prop) : Prop :=
CALL P [(T_int .i64), (T_int .i64)] n_ref05_counts [(.int .u8 a0.Verb)] H fun (x1 : Int × Int × Unit) H1 =>
JOIN (fun (j2 : (Bool × Unit) × (Unit) -> Heap -> Prop) =>
ifB (decide (a0.Count ≥ x1.1)) (
ifB (decide (a0.Count ≤ x1.2.1)) (
ifB (decide (x1.1 ≥ 0)) (
j2 ((true, ()), (())) H1) (
j2 ((a0.Count != 0, ()), (())) H1)) (
j2 ((false, ()), (())) H1)) (
j2 ((false, ()), (())) H1)) fun (y3 : (Bool × Unit) × (Unit)) H2 =>
Q (y3.1.1, ()) H2
def h_ref05_counted : Hnt := (.seq .leaf (.seq .leaf (.seq (.reg ⟨[(2, T_bool)], [], [11, 12, 13, 14, 15, 16, 17, 18, 19, 20, 21, 22, 23, 24, 25, 26, 27, 28, 29]⟩) .leaf)))
theorem e_ref05_counted (a0 : G_api_Part) (H : Heap) (Q : Bool × Unit -> Heap -> Prop) : S_ref05_counted a0 H Q = cFn C [1] Tryz.f175.ntmps Tryz.f175.results.toList [T_bool] (bodyOf Tryz.f175) h_ref05_counted [(T_G_api_Part.enc a0)] H Q := by kernel_rfl
theorem c_ref05_counted {a0 : G_api_Part} {H : Heap} {Q : Bool × Unit -> Heap -> Prop} (h : S_ref05_counted a0 H Q) : CALL P [T_bool] n_ref05_counted [(T_G_api_Part.enc a0)] H Q := call_print hE Tryz.func175 rfl (by kernel_rfl) (e_ref05_counted a0 H Q) h
def S_ref05_within (a0 : Bool) (a1 : Int) (a2 : Int) (H : Heap) (Q : Bool × Unit -> Heap -> Prop) : Prop :=
ifB (!a0) (
Q (a1 == 0, ()) H) (
JOIN (fun (j1 : (Bool × Unit) × (Unit) -> Heap -> Prop) =>
ifB (decide (a1 ≥ 1)) (
j1 ((decide (a1 ≤ a2), ()), (())) H) (
j1 ((false, ()), (())) H)) fun (y2 : (Bool × Unit) × (Unit)) H1 =>
Q (y2.1.1, ()) H1)
def h_ref05_within : Hnt := (.seq .leaf (.seq .leaf (.seq (.reg ⟨[(6, T_bool)], [], [11, 12, 13, 14, 15, 16, 17]⟩) .leaf)))
theorem e_ref05_within (a0 : Bool) (a1 : Int) (a2 : Int) (H : Heap) (Q : Bool × Unit -> Heap -> Prop) : S_ref05_within a0 a1 a2 H Q = cFn C [] Tryz.f176.ntmps Tryz.f176.results.toList [T_bool] (bodyOf Tryz.f176) h_ref05_within [(.bool a0), (.int .i64 a1), (.int .i64 a2)] H Q := by kernel_rfl
theorem c_ref05_within {a0 : Bool} {a1 : Int} {a2 : Int} {H : Heap} {Q : Bool × Unit -> Heap -> Prop} (h : S_ref05_within a0 a1 a2 H Q) : CALL P [T_bool] n_ref05_within [(.bool a0), (.int .i64 a1), (.int .i64 a2)] H Q := call_print hE Tryz.func176 rfl (by kernel_rfl) (e_ref05_within a0 a1 a2 H Q) h
def S_ref05_Name (a0 : ByteArray) (H : Heap) (Q : Bool × Unit -> Heap -> Prop) : Prop :=
JOIN (fun (j1 : (Bool × Unit) × (Unit) -> Heap -> Prop) =>
GENV (T_int .i64) (aLen E 9 (.string a0) H) fun (x3 : Int) =>
ifB (decide (x3 < 1)) (
j1 ((true, ()), (())) H) (
GENV (T_int .i64) (aLen E 9 (.string a0) H) fun (x4 : Int) =>
ifB (decide (x4 > 20)) (
j1 ((true, ()), (())) H) (
GENV (T_int .u8) (aIndex E 9 (.string a0) (.int .i64 0)) fun (x5 : Int) =>
j1 ((x5 == 45, ()), (())) H))) fun (y2 : (Bool × Unit) × (Unit)) H1 =>
ifB y2.1.1 (
Q (false, ()) H1) (
JOIN (fun (j6 : (Unit) × (Unit) -> Heap -> Prop) =>
LOOP (fun (r8 : (Int × Unit) × (Unit) -> Heap -> Prop) (s9 : (Int × Unit) × (Unit)) H3 =>
GENV (T_int .i64) (aLen E 9 (.string a0) H3) fun (x10 : Int) =>
ifB (decide (s9.1.1 < x10)) (
JOIN (fun (j11 : (Bool × Unit) × (Unit) -> Heap -> Prop) =>
GENV (T_int .u8) (aIndex E 9 (.string a0) (.int .i64 s9.1.1)) fun (x13 : Int) =>
ifB (decide (x13 < 97)) (
GENV (T_int .u8) (aIndex E 9 (.string a0) (.int .i64 s9.1.1)) fun (x14 : Int) =>
j11 ((x14 != 45, ()), (())) H3) (
GENV (T_int .u8) (aIndex E 9 (.string a0) (.int .i64 s9.1.1)) fun (x15 : Int) =>
ifB (decide (x15 > 122)) (
GENV (T_int .u8) (aIndex E 9 (.string a0) (.int .i64 s9.1.1)) fun (x16 : Int) =>
j11 ((x16 != 45, ()), (())) H3) (
j11 ((false, ()), (())) H3))) fun (y12 : (Bool × Unit) × (Unit)) H4 =>
ifB y12.1.1 (
Q (false, ()) H4) (
r8 ((IntKind.wrap .i64 (s9.1.1 + 1), ()), (())) H4)) (
j6 ((()), (())) H3)) ((0, ()), (())) H1) fun (y7 : (Unit) × (Unit)) H2 =>
Q (true, ()) H2)
def h_ref05_Name : Hnt := (.seq .leaf (.seq (.seq (.reg ⟨[(16, T_bool)], [], [4, 5, 6, 7, 8, 9, 10, 11, 12, 13, 14, 15]⟩) .leaf) (.seq (.seq .leaf (.blk (some ⟨[], [], [2, 3, 17, 18, 19, 20, 21, 22, 23, 24, 25, 26, 27, 28, 29, 30, 31, 32, 33, 34, 35, 36, 37, 38]⟩) (.loop ⟨[(3, (T_int .i64))], [], [2, 17, 18, 19, 20, 21, 22, 23, 24, 25, 26, 27, 28, 29, 30, 31, 32, 33, 34, 35, 36, 37, 38]⟩ (.seq .leaf (.seq (.blk none (.seq (.reg ⟨[(38, T_bool)], [], [23, 24, 25, 26, 27, 28, 29, 30, 31, 32, 33, 34, 35, 36, 37]⟩) .leaf)) .leaf))))) .leaf)))
theorem e_ref05_Name (a0 : ByteArray) (H : Heap) (Q : Bool × Unit -> Heap -> Prop) : S_ref05_Name a0 H Q = cFn C [] Tryz.f177.ntmps Tryz.f177.results.toList [T_bool] (bodyOf Tryz.f177) h_ref05_Name [(.string a0)] H Q := by kernel_rfl
theorem c_ref05_Name {a0 : ByteArray} {H : Heap} {Q : Bool × Unit -> Heap -> Prop} (h : S_ref05_Name a0 H Q) : CALL P [T_bool] n_ref05_Name [(.string a0)] H Q := call_print hE Tryz.func177 rfl (by kernel_rfl) (e_ref05_Name a0 H Q) h
def S_ref20_Printed (a0 : Option Addr) (a1 : Sl) (H : Heap) (Q : Sl × Bool × Unit -> Heap -> Prop) : Prop :=
GEN T_sl (aMakeSlice E 27 (.int .i64 (a1.len : Int)) (.int .i64 (a1.len : Int)) H) fun (x1 : Sl) H1 =>
JOIN (fun (j2 : (Unit) × (Unit) -> Heap -> Prop) =>
LOOP (fun (r4 : (Int × Unit) × (Unit) -> Heap -> Prop) (s5 : (Int × Unit) × (Unit)) H3 =>
ifB (decide (s5.1.1 < (a1.len : Int))) (
IDX a1.p a1.len s5.1.1 11 fun b6 o7 =>
LD T_G_api_Thing H3 b6 o7 fun (x8 : G_api_Thing) =>
CALL P [T_G_api_Feature, (T_int .i64)] n_ref18_Printed [(.pointer a0), (T_G_api_Thing.enc x8)] H3 fun (x9 : G_api_Feature × Int × Unit) H4 =>
ifB (x9.2.1 != 0) (
Q ((Sl.mk none 0 0), false, ()) H4) (
IDX a1.p a1.len s5.1.1 11 fun b10 o11 =>
LD (T_int .u8) H4 b10 (o11 + 2) fun (x12 : Int) =>
JOIN (fun (j13 : (Unit) × (Unit) -> Heap -> Prop) =>
ifB (x12 == 4) (
IDX x1.p x1.len s5.1.1 5 fun b15 o16 =>
ST H4 b15 o16 (T_G_api_Feature.cells x9.1) fun H6 =>
j13 ((()), (())) H6) (
j13 ((()), (())) H4)) fun (y14 : (Unit) × (Unit)) H5 =>
r4 ((IntKind.wrap .i64 (s5.1.1 + 1), ()), (())) H5)) (
j2 ((()), (())) H3)) ((0, ()), (())) H1) fun (y3 : (Unit) × (Unit)) H2 =>
Q (x1, true, ()) H2
def h_ref20_Printed : Hnt := (.seq .leaf (.seq .leaf (.seq (.seq .leaf (.blk (some ⟨[], [], [4, 5, 7, 8, 9, 13, 14, 15, 16, 17, 18, 19, 20, 21, 22, 23, 24, 25, 26, 27, 28, 29, 30, 31, 32, 33, 34, 35, 36, 37, 38, 39]⟩) (.loop ⟨[(7, (T_int .i64))], [], [4, 5, 8, 9, 13, 14, 15, 16, 17, 18, 19, 20, 21, 22, 23, 24, 25, 26, 27, 28, 29, 30, 31, 32, 33, 34, 35, 36, 37, 38, 39]⟩ (.seq .leaf (.seq (.blk none (.seq .leaf (.seq .leaf (.seq .leaf (.cond (some ⟨[], [], [36, 37, 38, 39]⟩) .leaf .leaf))))) .leaf))))) .leaf)))
theorem e_ref20_Printed (a0 : Option Addr) (a1 : Sl) (H : Heap) (Q : Sl × Bool × Unit -> Heap -> Prop) : S_ref20_Printed a0 a1 H Q = cFn C [8] Tryz.f178.ntmps Tryz.f178.results.toList [T_sl, T_bool] (bodyOf Tryz.f178) h_ref20_Printed [(.pointer a0), a1.v] H Q := by kernel_rfl
theorem c_ref20_Printed {a0 : Option Addr} {a1 : Sl} {H : Heap} {Q : Sl × Bool × Unit -> Heap -> Prop} (h : S_ref20_Printed a0 a1 H Q) : CALL P [T_sl, T_bool] n_ref20_Printed [(.pointer a0), a1.v] H Q := call_print hE Tryz.func178 rfl (by kernel_rfl) (e_ref20_Printed a0 a1 H Q) h
def S_ref18_Marked (a0 : Option Addr) (a1 : G_api_Feature) (a2 : Int × Int × Int × Int) (H : Heap) (Q : G_api_Feature × Int × Unit -> Heap -> Prop) : Prop :=
NEW H [(.int .i64 a2.1), (.int .i64 a2.2.1), (.int .i64 a2.2.2.1), (.int .i64 a2.2.2.2)] 4 fun H1 =>
CALL P [T_bool] n_ref07_Book_None [(.pointer a0)] H1 fun (x1 : Bool × Unit) H2 =>
ifB x1.1 (
Q ((G_api_Feature.mk 0 0 0 0 0), 1, ()) H2) (
JOIN (fun (j2 : (Unit) × (G_api_Feature × Unit) -> Heap -> Prop) =>
LOOP (fun (r4 : (Int × Unit) × (G_api_Feature × Unit) -> Heap -> Prop) (s5 : (Int × Unit) × (G_api_Feature × Unit)) H4 =>
ifB (decide (s5.1.1 < 4)) (
JOIN (fun (j6 : (Bool × Unit) × (Unit) -> Heap -> Prop) =>
IDXA 4 s5.1.1 (
LD (T_int .i64) H4 H.length (0 + s5.1.1.toNat * 1) fun (x8 : Int) =>
ifB (decide (x8 < 0)) (
j6 ((true, ()), (())) H4) (
IDXA 4 s5.1.1 (
LD (T_int .i64) H4 H.length (0 + s5.1.1.toNat * 1) fun (x9 : Int) =>
j6 ((decide (x9 > 99), ()), (())) H4)))) fun (y7 : (Bool × Unit) × (Unit)) H5 =>
ifB y7.1.1 (
Q ((G_api_Feature.mk 0 0 0 0 0), 2, ()) H5) (
r4 ((IntKind.wrap .i64 (s5.1.1 + 1), ()), (s5.2.1, ())) H5)) (
j2 ((()), (s5.2.1, ())) H4)) ((0, ()), ((G_api_Feature.mk 0 0 0 0 0), ())) H2) fun (y3 : (Unit) × (G_api_Feature × Unit)) H3 =>
JOIN (fun (j10 : (Unit) × (G_api_Feature × Unit) -> Heap -> Prop) =>
LOOP (fun (r12 : (Int × Unit) × (G_api_Feature × Unit) -> Heap -> Prop) (s13 : (Int × Unit) × (G_api_Feature × Unit)) H7 =>
ifB (decide (s13.1.1 < 4)) (
CALL P [T_G_api_MarkInfo, T_bool] n_ref07_Book_MarkOf [(.pointer a0), (.int .u8 (IntKind.wrap .u8 (IntKind.wrap .i64 (s13.1.1 + 1))))] H7 fun (x14 : G_api_MarkInfo × Bool × Unit) H8 =>
JOIN (fun (j15 : (Unit) × (G_api_Feature × Unit) -> Heap -> Prop) =>
ifB x14.2.1 (
IDXA 4 s13.1.1 (
LD (T_int .i64) H8 H.length (0 + s13.1.1.toNat * 1) fun (x17 : Int) =>
IDXA 4 s13.1.1 (
LD (T_int .i64) H8 H.length (0 + s13.1.1.toNat * 1) fun (x18 : Int) =>
j15 ((()), ((G_api_Feature.mk s13.2.1.Holder s13.2.1.Suit s13.2.1.Traits (IntKind.wrap .i64 (s13.2.1.Power + (IntKind.wrap .i64 (x17 * x14.1.Power)))) (IntKind.wrap .i64 (s13.2.1.Health + (IntKind.wrap .i64 (x18 * x14.1.Health))))), ())) H8))) (
j15 ((()), (s13.2.1, ())) H8)) fun (y16 : (Unit) × (G_api_Feature × Unit)) H9 =>
r12 ((IntKind.wrap .i64 (s13.1.1 + 1), ()), (y16.2.1, ())) H9) (
j10 ((()), (s13.2.1, ())) H7)) ((0, ()), (a1, ())) H3) fun (y11 : (Unit) × (G_api_Feature × Unit)) H6 =>
JOIN (fun (j19 : (Unit) × (G_api_Feature × Unit) -> Heap -> Prop) =>
ifB (decide (y11.2.1.Power < 0)) (
j19 ((()), ((G_api_Feature.mk y11.2.1.Holder y11.2.1.Suit y11.2.1.Traits 0 y11.2.1.Health), ())) H6) (
j19 ((()), (y11.2.1, ())) H6)) fun (y20 : (Unit) × (G_api_Feature × Unit)) H10 =>
Q (y20.2.1, 0, ()) H10)
def h_ref18_Marked : Hnt := (.seq .leaf (.seq .leaf (.seq (.seq .leaf (.blk (some ⟨[], [(1, T_G_api_Feature)], [7, 8, 15, 16, 17, 18, 19, 20, 21, 22, 23, 24, 25, 26, 27, 28, 29]⟩) (.loop ⟨[(8, (T_int .i64))], [(1, T_G_api_Feature)], [7, 15, 16, 17, 18, 19, 20, 21, 22, 23, 24, 25, 26, 27, 28, 29]⟩ (.seq .leaf (.seq (.blk none (.seq (.reg ⟨[(28, T_bool)], [], [19, 20, 21, 22, 23, 24, 25, 26, 27]⟩) .leaf)) .leaf))))) (.seq (.seq .leaf (.blk (some ⟨[], [(0, T_G_api_Feature)], [9, 10, 11, 30, 31, 32, 33, 34, 35, 36, 37, 38, 39, 40, 41, 42, 43, 44, 45, 46, 47, 48, 49, 50, 51, 52, 53, 54, 55, 56, 57, 58, 59, 60, 61, 62]⟩) (.loop ⟨[(9, (T_int .i64))], [(0, T_G_api_Feature)], [10, 11, 30, 31, 32, 33, 34, 35, 36, 37, 38, 39, 40, 41, 42, 43, 44, 45, 46, 47, 48, 49, 50, 51, 52, 53, 54, 55, 56, 57, 58, 59, 60, 61, 62]⟩ (.seq .leaf (.seq (.blk none (.seq .leaf (.seq .leaf (.cond (some ⟨[], [(0, T_G_api_Feature)], [43, 44, 45, 46, 47, 48, 49, 50, 51, 52, 53, 54, 55, 56, 57, 58, 59, 60, 61, 62]⟩) .leaf .leaf)))) .leaf))))) (.seq (.seq .leaf (.cond (some ⟨[], [(0, T_G_api_Feature)], [66]⟩) .leaf .leaf)) .leaf)))))
theorem e_ref18_Marked (a0 : Option Addr) (a1 : G_api_Feature) (a2 : Int × Int × Int × Int) (H : Heap) (Q : G_api_Feature × Int × Unit -> Heap -> Prop) : S_ref18_Marked a0 a1 a2 H Q = cFn C [4, 6, 10] Tryz.f179.ntmps Tryz.f179.results.toList [T_G_api_Feature, (T_int .i64)] (bodyOf Tryz.f179) h_ref18_Marked [(.pointer a0), (T_G_api_Feature.enc a1), (T_arr4_T_int_i64.enc a2)] H Q := by kernel_rfl
theorem c_ref18_Marked {a0 : Option Addr} {a1 : G_api_Feature} {a2 : Int × Int × Int × Int} {H : Heap} {Q : G_api_Feature × Int × Unit -> Heap -> Prop} (h : S_ref18_Marked a0 a1 a2 H Q) : CALL P [T_G_api_Feature, (T_int .i64)] n_ref18_Marked [(.pointer a0), (T_G_api_Feature.enc a1), (T_arr4_T_int_i64.enc a2)] H Q := call_print hE Tryz.func179 rfl (by kernel_rfl) (e_ref18_Marked a0 a1 a2 H Q) h
def S_ref19_unit (a0 : Option Addr) (a1 : G_api_Thing) (H : Heap) (Q : Bool × Unit -> Heap -> Prop) : Prop :=
CALL P [T_G_api_Card, (T_int .i64)] n_ref07_Book_At [(.pointer a0), (.int .i64 a1.Card)] H fun (x1 : G_api_Card × Int × Unit) H1 =>
JOIN (fun (j2 : (Bool × Unit) × (Unit) -> Heap -> Prop) =>
ifB (a1.Place == 4) (
j2 ((x1.1.Kind == 1, ()), (())) H1) (
j2 ((false, ()), (())) H1)) fun (y3 : (Bool × Unit) × (Unit)) H2 =>
Q (y3.1.1, ()) H2
def h_ref19_unit : Hnt := (.seq .leaf (.seq .leaf (.seq (.reg ⟨[(4, T_bool)], [], [14, 15, 16, 17, 18, 19, 20, 21]⟩) .leaf)))
theorem e_ref19_unit (a0 : Option Addr) (a1 : G_api_Thing) (H : Heap) (Q : Bool × Unit -> Heap -> Prop) : S_ref19_unit a0 a1 H Q = cFn C [3, 5] Tryz.f190.ntmps Tryz.f190.results.toList [T_bool] (bodyOf Tryz.f190) h_ref19_unit [(.pointer a0), (T_G_api_Thing.enc a1)] H Q := by kernel_rfl
theorem c_ref19_unit {a0 : Option Addr} {a1 : G_api_Thing} {H : Heap} {Q : Bool × Unit -> Heap -> Prop} (h : S_ref19_unit a0 a1 H Q) : CALL P [T_bool] n_ref19_unit [(.pointer a0), (T_G_api_Thing.enc a1)] H Q := call_print hE Tryz.func190 rfl (by kernel_rfl) (e_ref19_unit a0 a1 H Q) h
def S_effect_standing (a0 : Int) (H : Heap) (Q : Bool × Unit -> Heap -> Prop) : Prop :=
JOIN (fun (j1 : (Bool × Unit) × (Unit) -> Heap -> Prop) =>
ifB (decide (a0 ≥ 10)) (
j1 ((decide (a0 ≤ 15), ()), (())) H) (
j1 ((false, ()), (())) H)) fun (y2 : (Bool × Unit) × (Unit)) H1 =>
Q (y2.1.1, ()) H1
def h_effect_standing : Hnt := (.seq .leaf (.seq (.reg ⟨[(2, T_bool)], [], [3, 4, 5, 6, 7, 8]⟩) .leaf))
theorem e_effect_standing (a0 : Int) (H : Heap) (Q : Bool × Unit -> Heap -> Prop) : S_effect_standing a0 H Q = cFn C [] Tryz.f192.ntmps Tryz.f192.results.toList [T_bool] (bodyOf Tryz.f192) h_effect_standing [(.int .u8 a0)] H Q := by kernel_rfl
theorem c_effect_standing {a0 : Int} {H : Heap} {Q : Bool × Unit -> Heap -> Prop} (h : S_effect_standing a0 H Q) : CALL P [T_bool] n_effect_standing [(.int .u8 a0)] H Q := call_print hE Tryz.func192 rfl (by kernel_rfl) (e_effect_standing a0 H Q) h
def S_effect_swapping (a0 : Int) (H : Heap) (Q : Bool × Unit -> Heap -> Prop) : Prop :=
JOIN (fun (j1 : (Bool × Unit) × (Unit) -> Heap -> Prop) =>
ifB (decide (a0 ≥ 16)) (
j1 ((decide (a0 ≤ 19), ()), (())) H) (
j1 ((false, ()), (())) H)) fun (y2 : (Bool × Unit) × (Unit)) H1 =>
Q (y2.1.1, ()) H1
def h_effect_swapping : Hnt := (.seq .leaf (.seq (.reg ⟨[(2, T_bool)], [], [3, 4, 5, 6, 7, 8]⟩) .leaf))
theorem e_effect_swapping (a0 : Int) (H : Heap) (Q : Bool × Unit -> Heap -> Prop) : S_effect_swapping a0 H Q = cFn C [] Tryz.f193.ntmps Tryz.f193.results.toList [T_bool] (bodyOf Tryz.f193) h_effect_swapping [(.int .u8 a0)] H Q := by kernel_rfl
theorem c_effect_swapping {a0 : Int} {H : Heap} {Q : Bool × Unit -> Heap -> Prop} (h : S_effect_swapping a0 H Q) : CALL P [T_bool] n_effect_swapping [(.int .u8 a0)] H Q := call_print hE Tryz.func193 rfl (by kernel_rfl) (e_effect_swapping a0 H Q) h
def S_effect_event (a0 : Int) (H : Heap) (Q : Bool × Unit -> Heap -> Prop) : Prop :=
JOIN (fun (j1 : (Bool × Unit) × (Unit) -> Heap -> Prop) =>
ifB (decide (a0 ≥ 1)) (
j1 ((decide (a0 ≤ 9), ()), (())) H) (
j1 ((false, ()), (())) H)) fun (y2 : (Bool × Unit) × (Unit)) H1 =>
Q (y2.1.1, ()) H1
def h_effect_event : Hnt := (.seq .leaf (.seq (.reg ⟨[(2, T_bool)], [], [3, 4, 5, 6, 7, 8]⟩) .leaf))
theorem e_effect_event (a0 : Int) (H : Heap) (Q : Bool × Unit -> Heap -> Prop) : S_effect_event a0 H Q = cFn C [] Tryz.f194.ntmps Tryz.f194.results.toList [T_bool] (bodyOf Tryz.f194) h_effect_event [(.int .u8 a0)] H Q := by kernel_rfl
theorem c_effect_event {a0 : Int} {H : Heap} {Q : Bool × Unit -> Heap -> Prop} (h : S_effect_event a0 H Q) : CALL P [T_bool] n_effect_event [(.int .u8 a0)] H Q := call_print hE Tryz.func194 rfl (by kernel_rfl) (e_effect_event a0 H Q) h
def S_ref05_counts (a0 : Int) (H : Heap) (Q : Int × Int × Unit -> Heap -> Prop) : Prop :=
JOIN (fun (j1 : (Bool × Unit) × (Unit) -> Heap -> Prop) =>
ifB (a0 == 1) (
j1 ((a0 == 1, ()), (())) H) (
JOIN (fun (j3 : (Bool × Unit) × (Unit) -> Heap -> Prop) =>
ifB (a0 == 2) (
j3 ((a0 == 2, ()), (())) H) (
JOIN (fun (j5 : (Bool × Unit) × (Unit) -> Heap -> Prop) =>
ifB (a0 == 3) (
j5 ((a0 == 3, ()), (())) H) (
JOIN (fun (j7 : (Bool × Unit) × (Unit) -> Heap -> Prop) =>
ifB (a0 == 4) (
j7 ((a0 == 4, ()), (())) H) (
JOIN (fun (j9 : (Bool × Unit) × (Unit) -> Heap -> Prop) =>
ifB (a0 == 7) (
j9 ((a0 == 7, ()), (())) H) (
JOIN (fun (j11 : (Bool × Unit) × (Unit) -> Heap -> Prop) =>
ifB (a0 == 16) (
j11 ((a0 == 16, ()), (())) H) (
j11 ((a0 == 19, ()), (())) H)) fun (y12 : (Bool × Unit) × (Unit)) H6 =>
j9 ((y12.1.1, ()), (())) H6)) fun (y10 : (Bool × Unit) × (Unit)) H5 =>
j7 ((y10.1.1, ()), (())) H5)) fun (y8 : (Bool × Unit) × (Unit)) H4 =>
j5 ((y8.1.1, ()), (())) H4)) fun (y6 : (Bool × Unit) × (Unit)) H3 =>
j3 ((y6.1.1, ()), (())) H3)) fun (y4 : (Bool × Unit) × (Unit)) H2 =>
j1 ((y4.1.1, ()), (())) H2)) fun (y2 : (Bool × Unit) × (Unit)) H1 =>
ifB y2.1.1 (
Q (1, 99, ()) H1) (
JOIN (fun (j13 : (Bool × Unit) × (Unit) -> Heap -> Prop) =>
ifB (a0 == 9) (
j13 ((a0 == 9, ()), (())) H1) (
j13 ((a0 == 15, ()), (())) H1)) fun (y14 : (Bool × Unit) × (Unit)) H7 =>
ifB y14.1.1 (
Q ((-99), 99, ()) H7) (
ifB (a0 == 5) (
Q ((-9), 9, ()) H7) (
ifB (a0 == 14) (
Q (0, 99, ()) H7) (
Q (0, 0, ()) H7))))
def h_ref05_counts : Hnt := (.seq .leaf (.seq (.seq .leaf (.blk none (.seq (.seq .leaf (.cond (some ⟨[(5, T_bool)], [], [7, 8, 9, 10, 11, 12]⟩) .leaf (.seq .leaf (.cond (some ⟨[(5, T_bool)], [], [8, 9, 10, 11, 12]⟩) .leaf (.seq .leaf (.cond (some ⟨[(5, T_bool)], [], [9, 10, 11, 12]⟩) .leaf (.seq .leaf (.cond (some ⟨[(5, T_bool)], [], [10, 11, 12]⟩) .leaf (.seq .leaf (.cond (some ⟨[(5, T_bool)], [], [11, 12]⟩) .leaf (.seq .leaf (.cond (some ⟨[(5, T_bool)], [], [12]⟩) .leaf .leaf)))))))))))) (.cond none .leaf (.seq (.seq .leaf (.cond (some ⟨[(13, T_bool)], [], [15]⟩) .leaf .leaf)) .leaf))))) .leaf))
theorem e_ref05_counts (a0 : Int) (H : Heap) (Q : Int × Int × Unit -> Heap -> Prop) : S_ref05_counts a0 H Q = cFn C [] Tryz.f195.ntmps Tryz.f195.results.toList [(T_int .i64), (T_int .i64)] (bodyOf Tryz.f195) h_ref05_counts [(.int .u8 a0)] H Q := by kernel_rfl
theorem c_ref05_counts {a0 : Int} {H : Heap} {Q : Int × Int × Unit -> Heap -> Prop} (h : S_ref05_counts a0 H Q) : CALL P [(T_int .i64), (T_int .i64)] n_ref05_counts [(.int .u8 a0)] H Q := call_print hE Tryz.func195 rfl (by kernel_rfl) (e_ref05_counts a0 H Q) h
def S_ref18_Printed (a0 : Option Addr) (a1 : G_api_Thing) (H : Heap) (Q : G_api_Feature × Int × Unit -> Heap -> Prop) : Prop :=
CALL P [T_G_api_Card, (T_int .i64)] n_ref18_Card [(.pointer a0), (T_G_api_Thing.enc a1)] H fun (x1 : G_api_Card × Int × Unit) H1 =>
ifB (x1.2.1 != 0) (
Q ((G_api_Feature.mk 0 0 0 0 0), x1.2.1, ()) H1) (
JOIN (fun (j2 : (Bool × Unit) × (Unit) -> Heap -> Prop) =>
ifB (a1.Owner != 0) (
j2 ((a1.Owner != 1, ()), (())) H1) (
j2 ((false, ()), (())) H1)) fun (y3 : (Bool × Unit) × (Unit)) H2 =>
ifB y3.1.1 (
Q ((G_api_Feature.mk 0 0 0 0 0), 2, ()) H2) (
Q ((G_api_Feature.mk a1.Owner x1.1.Suit x1.1.Traits x1.1.Power x1.1.Health), 0, ()) H2))
def h_ref18_Printed : Hnt := (.seq .leaf (.seq .leaf (.seq .leaf (.seq (.seq (.reg ⟨[(25, T_bool)], [], [18, 19, 20, 21, 22, 23, 24]⟩) .leaf) .leaf))))
theorem e_ref18_Printed (a0 : Option Addr) (a1 : G_api_Thing) (H : Heap) (Q : G_api_Feature × Int × Unit -> Heap -> Prop) : S_ref18_Printed a0 a1 H Q = cFn C [3, 4, 6] Tryz.f196.ntmps Tryz.f196.results.toList [T_G_api_Feature, (T_int .i64)] (bodyOf Tryz.f196) h_ref18_Printed [(.pointer a0), (T_G_api_Thing.enc a1)] H Q := by kernel_rfl
theorem c_ref18_Printed {a0 : Option Addr} {a1 : G_api_Thing} {H : Heap} {Q : G_api_Feature × Int × Unit -> Heap -> Prop} (h : S_ref18_Printed a0 a1 H Q) : CALL P [T_G_api_Feature, (T_int .i64)] n_ref18_Printed [(.pointer a0), (T_G_api_Thing.enc a1)] H Q := call_print hE Tryz.func196 rfl (by kernel_rfl) (e_ref18_Printed a0 a1 H Q) h
def S_ref07_Book_MarkOf (a0 : Option Addr) (a1 : Int) (H : Heap) (Q : G_api_MarkInfo × Bool × Unit -> Heap -> Prop) : Prop :=
JOIN (fun (j1 : (Bool × Unit) × (Unit) -> Heap -> Prop) =>
CALL P [T_bool] n_ref07_Book_None [(.pointer a0)] H fun (x3 : Bool × Unit) H2 =>
ifB x3.1 (
j1 ((true, ()), (())) H2) (
ifB (decide (a1 < 1)) (
j1 ((true, ()), (())) H2) (
ifB (decide (a1 > 4)) (
j1 ((true, ()), (())) H2) (
NIL a0 fun b4 o5 =>
IDXA 5 a1 (
LD (T_int .u8) H2 b4 (o5 + 12 + a1.toNat * 4 + 0) fun (x6 : Int) =>
j1 ((x6 == 0, ()), (())) H2))))) fun (y2 : (Bool × Unit) × (Unit)) H1 =>
ifB y2.1.1 (
Q ((G_api_MarkInfo.mk 0 (ByteArray.mk #[]) 0 0), false, ()) H1) (
NIL a0 fun b7 o8 =>
IDXA 5 a1 (
LD T_G_api_MarkInfo H1 b7 (o8 + 12 + a1.toNat * 4) fun (x9 : G_api_MarkInfo) =>
Q (x9, true, ()) H1))
def h_ref07_Book_MarkOf : Hnt := (.seq .leaf (.seq (.seq (.reg ⟨[(25, T_bool)], [], [6, 7, 8, 9, 10, 11, 12, 13, 14, 15, 16, 17, 18, 19, 20, 21, 22, 23, 24]⟩) .leaf) .leaf))
theorem e_ref07_Book_MarkOf (a0 : Option Addr) (a1 : Int) (H : Heap) (Q : G_api_MarkInfo × Bool × Unit -> Heap -> Prop) : S_ref07_Book_MarkOf a0 a1 H Q = cFn C [4] Tryz.f197.ntmps Tryz.f197.results.toList [T_G_api_MarkInfo, T_bool] (bodyOf Tryz.f197) h_ref07_Book_MarkOf [(.pointer a0), (.int .u8 a1)] H Q := by kernel_rfl
theorem c_ref07_Book_MarkOf {a0 : Option Addr} {a1 : Int} {H : Heap} {Q : G_api_MarkInfo × Bool × Unit -> Heap -> Prop} (h : S_ref07_Book_MarkOf a0 a1 H Q) : CALL P [T_G_api_MarkInfo, T_bool] n_ref07_Book_MarkOf [(.pointer a0), (.int .u8 a1)] H Q := call_print hE Tryz.func197 rfl (by kernel_rfl) (e_ref07_Book_MarkOf a0 a1 H Q) h
end Zv
end Go.Proofs.YtolekmhhkopooaaGreatDoor
end
section
namespace Go.Proofs.YtolekmhhkopooaaGreatDoor.Zq
open Go.Proofs Go.RowKit
theorem Stp.ofBelow {M : Mp} {H : Heap} {w W : World} (h : HR M H w) (b : Below w.heap.size w W) (hd : w.drawn ≤ W.drawn) : Stp M H w M H W := by
 have hh : ∀ j, j < w.heap.size -> W.heap[j]? = w.heap[j]? := b.block
 refine ⟨.refl M, ⟨h.len, fun b e k hb hk => (h.blk b e k hb hk).same fun hlv => hh _ (h.blk_lt hb ?_), h.sep⟩, b.os, b.output, b.tape, b.size, hd, fun c hc _ => hh c hc, fun b e hb hw _ => ⟨b, e, hb, hw, rfl⟩, fun _ h => ⟨h, rfl⟩, fun b e hb hw _ => ⟨b, e, hb, hw, rfl⟩⟩
 unfold liveB; rw [hk]; cases k <;> first | exact hlv | trivial
section
open Zv
abbrev alph : ByteArray := ByteArray.mk #[97, 98, 99, 100, 101, 102, 103, 104, 105, 106, 107, 108, 109, 110, 111, 112, 113, 114, 115, 116, 117, 118, 119, 120, 121, 122, 45]
theorem trim_c {H : Heap} {s : ByteArray} (h0 : 0 < s.size) (hs : s.size ≤ 9223372036854775807) {Q : ByteArray × Unit -> Heap -> Prop} (hq : Q (⟨(Lib.trimS s.data.toList alph.data.toList).toArray⟩, ()) H) : CALL P [T_str] n_strings_Trim [.string s, .string alph] H Q := by
 have hfn : ∃ fn, P.funcs[n_strings_Trim]? = some fn ∧ fn.body.isSome = true ∧ (fn.name == "runtime.NumGoroutine") = false := ⟨_, lays160.f160, by kernel_rfl, by kernel_rfl⟩
 refine ⟨hfn, fun n M w args' hr hv => ?_⟩
 obtain ⟨v1, vs1, rfl, h1, hv1⟩ := hv.of_cons
 obtain ⟨v2, vs2, rfl, h2, hv2⟩ := hv1.of_cons
 have := hv2.of_nil; subst this
 have := h1.of_string; subst this
 have := h2.of_string; subst this
 have h116 : (P.info? (lays160_ren.t 116)).map (fun i => (i.zero, i.size)) = some (some (.agg (Array.replicate 256 (.bool false))), 256) := by kernel_rfl
 refine callsIn_wide.2 ((Any.strings_Trim_set lays160 (zero_of_info h116).1 (zero_of_info h116).2 s alph w (by decide) h0 hs (by decide) (ascii_of_all (by decide))).mono ?_)
 rintro en w' ⟨rfl, q, rfl⟩
 exact ⟨.string _, _, M, H, rfl, Stp.ofBelow hr (by have b := ((Below.refl w.heap.size w).alloc (Nat.le_refl _) (.cells (Lib.setCells alph.data.toList) (lays160_ren.t 116))).alloc (by show w.heap.size ≤ (w.heap.push _).size; simp) (.cells (Lib.setCells alph.data.toList) (lays160_ren.t 116)); exact ⟨b.os, b.tape, b.output, b.size, b.block⟩) (by show w.drawn ≤ w.drawn + q; omega), .string _, _, rfl, hq⟩
theorem alph_c : ∀ b : UInt8, alph.data.toList.contains b = nmB b := fun b => by
 have h : ∀ n : Fin 256, alph.data.toList.contains (UInt8.ofFin n) = nmB (UInt8.ofFin n) := by decide +kernel
 exact h b.toFin
theorem dropWhile_nil {α : Type} {p : α -> Bool} : ∀ {l : List α}, l.dropWhile p = [] ↔ l.all p = true
 | [] => by simp
 | a :: l => by
  rw [List.dropWhile_cons, List.all_cons]
  split
  ·rename_i e; rw [e, dropWhile_nil]; simp
  ·rename_i e; simp [e]
theorem trimS_nil (l : List UInt8) : Lib.trimS l alph.data.toList = [] ↔ l.all nmB = true := by
 have e : (fun b => alph.data.toList.contains b) = nmB := funext alph_c
 unfold Lib.trimS Lib.trimLeftS Lib.trimRightS
 rw [e, dropWhile_nil]
 constructor
 ·intro h
  cases hd : l.reverse.dropWhile nmB with
  | nil =>
   rw [dropWhile_nil, List.all_reverse] at hd; exact hd
  | cons x r =>
   have hx := dropWhile_head hd
   rw [hd, List.all_eq_true] at h
   have := h x (by simp)
   rw [this] at hx; cases hx
 ·intro h
  have : l.reverse.dropWhile nmB = [] := by rw [dropWhile_nil, List.all_reverse]; exact h
  rw [this]; rfl
theorem size_len (s : ByteArray) : s.size = s.data.toList.length := by show s.data.size = _; rw [Array.length_toList]
theorem str_len {H : Heap} {s : ByteArray} {k : Int -> Prop} (hk : k (s.data.toList.length : Int)) : GENV (T_int .i64) (aLen E 9 (.string s) H) k := by
 rw [← size_len] at hk
 exact ⟨_, rfl, hk⟩
theorem str_at {s : ByteArray} {i : Int} {n : Nat} (hi : i = n) {b : UInt8} (h : s.data.toList[n]? = some b) {k : Int -> Prop} (hk : k (b.toNat : Int)) : GENV (T_int .u8) (aIndex E 9 (.string s) (.int .i64 i)) k := by
 refine ⟨(b.toNat : Int), ?_, hk⟩
 show aIndex E 9 (.string s) (.int .i64 i) = some (.int .u8 b.toNat)
 have hn := (List.getElem?_eq_some_iff.1 h).1
 have h1 : s[n]? = some b := by
  rw [ByteArray.getElem?_lt' s n (by rw [size_len]; exact hn)]
  rw [List.getElem?_eq_getElem hn] at h
  exact h
 obtain ⟨ti, hti, hk⟩ : ∃ ti, E.ty 9 = some ti ∧ ti.k = .string := ⟨_, rfl, rfl⟩
 subst hi
 unfold aIndex
 simp only [hti, hk, Option.bind_some]
 rw [if_pos (by omega), Int.toNat_natCast, h1]
end
end Go.Proofs.YtolekmhhkopooaaGreatDoor.Zq
end
section
namespace Go.Proofs.YtolekmhhkopooaaGreatDoor.Zq
open Zv
section
theorem ifD {c : Prop} [Decidable c] {a b : Prop} (h1 : c -> a) (h2 : ¬ c -> b) : ifB (decide c) a b := ifB_of (fun e => h1 (of_decide_eq_true e)) (fun e => h2 (of_decide_eq_false e))
theorem ifE {x y : Int} {a b : Prop} (h1 : x = y -> a) (h2 : x ≠ y -> b) : ifB (x == y) a b := ifB_of (fun e => h1 (by simpa using e)) (fun e => h2 (by simpa using e))
theorem ifN {x y : Int} {a b : Prop} (h1 : x ≠ y -> a) (h2 : x = y -> b) : ifB (x != y) a b := ifB_of (fun e => h1 (by simpa using e)) (fun e => h2 (by simpa using e))
theorem ifQ {c : Prop} [Decidable c] {a b : Prop} (h1 : ¬ c -> a) (h2 : c -> b) : ifB (!decide c) a b := ifB_of (fun e => h1 (by simpa using e)) (fun e => h2 (by simpa using e))
theorem JD {H : Heap} {A : ((Bool × Unit) × Unit -> Heap -> Prop) -> Prop} {B : (Bool × Unit) × Unit -> Heap -> Prop} (c : Prop) [Decidable c] (hA : ∀ j : (Bool × Unit) × Unit -> Heap -> Prop, (∀ r : Bool, (r = true ↔ c) -> j ((r, ()), ()) H) -> A j) (hB : B ((decide c, ()), ()) H) : JOIN A B :=
 hA _ fun r hr => by
  have : r = decide c := by rw [Bool.eq_iff_iff, hr]; simp
  rw [this]; exact hB
variable {H : Heap}
theorem Qd {R : Type} {Q : R -> Prop} {x y : R} (h : Q x) (e : x = y) : Q y := e ▸ h
theorem standing_c {v : Int} {Q : Bool × Unit -> Heap -> Prop} (hq : Q (decide (10 ≤ v ∧ v ≤ 15), ()) H) : CALL P [T_bool] n_effect_standing [.int .u8 v] H Q := by
 apply c_effect_standing
 unfold S_effect_standing
 exact JD (H := H) (10 ≤ v ∧ v ≤ 15) (fun j hj => ifD (fun h => hj _ (by simp; omega)) (fun h => hj _ (by simp; omega))) hq
theorem event_c {v : Int} {Q : Bool × Unit -> Heap -> Prop} (hq : Q (decide (1 ≤ v ∧ v ≤ 9), ()) H) : CALL P [T_bool] n_effect_event [.int .u8 v] H Q := by
 apply c_effect_event
 unfold S_effect_event
 exact JD (H := H) (1 ≤ v ∧ v ≤ 9) (fun j hj => ifD (fun h => hj _ (by simp; omega)) (fun h => hj _ (by simp; omega))) hq
theorem swapping_c {v : Int} {Q : Bool × Unit -> Heap -> Prop} (hq : Q (decide (16 ≤ v ∧ v ≤ 19), ()) H) : CALL P [T_bool] n_effect_swapping [.int .u8 v] H Q := by
 apply c_effect_swapping
 unfold S_effect_swapping
 exact JD (H := H) (16 ≤ v ∧ v ≤ 19) (fun j hj => ifD (fun h => hj _ (by simp; omega)) (fun h => hj _ (by simp; omega))) hq
theorem kindV_1 {v : Int} : kindV v = 1 ↔ 1 ≤ v ∧ v ≤ 9 := by
 unfold kindV
 repeat' split
 all_goals (simp; try omega)
theorem kindV_2 {v : Int} : kindV v = 2 ↔ 10 ≤ v ∧ v ≤ 15 := by
 unfold kindV
 repeat' split
 all_goals (simp; try omega)
theorem kindV_3 {v : Int} : kindV v = 3 ↔ 16 ≤ v ∧ v ≤ 19 := by
 unfold kindV
 repeat' split
 all_goals (simp; try omega)
theorem wanted_c {w v : Int} (hw : 1 ≤ w ∧ w ≤ 6) {Q : Bool × Unit -> Heap -> Prop} (hq : Q (decide (kindV v = wantW w), ()) H) : CALL P [T_bool] n_effect_wanted [.int .u8 w, .int .u8 v] H Q := by
 apply c_effect_wanted
 unfold S_effect_wanted
 refine ifE (fun h => standing_c (Qd (Q := fun r => Q r H) hq ?_)) (fun h => ifE (fun h2 => swapping_c (Qd (Q := fun r => Q r H) hq ?_)) (fun h2 => event_c (Qd (Q := fun r => Q r H) hq ?_)))
 ·have : wantW w = 2 := by unfold wantW; rw [if_neg (by omega), if_pos h]
  simp only [this, kindV_2]
 ·have : wantW w = 3 := by unfold wantW; rw [if_neg (by omega), if_neg h, if_pos h2]
  simp only [this, kindV_3]
 ·have : wantW w = 1 := by unfold wantW; rw [if_pos (by omega)]
  simp only [this, kindV_1]
theorem uses_c {v w : Int} {Q : Bool × Bool × Bool × Bool × Bool × Unit -> Heap -> Prop} (hq : Q (decide (cU v), decide (sU v w), decide (tU v w), decide (v = 9), decide (v = 7), ()) H) : CALL P [T_bool, T_bool, T_bool, T_bool, T_bool] n_effect_Uses [.int .u8 v, .int .u8 w] H Q := by
 apply c_effect_Uses
 unfold S_effect_Uses
 refine JD (H := H) (v = 1 ∨ v = 2 ∨ v = 3 ∨ v = 4 ∨ v = 5 ∨ v = 14 ∨ v = 15 ∨ v = 16 ∨ v = 19) (fun j hj => ?_) ?_
 ·refine ifE (fun h => hj _ (by simp; omega)) (fun h1 => JOIN_of (ifE (fun h => hj _ (by simp; omega)) (fun h2 => JOIN_of (ifE (fun h => hj _ (by simp; omega)) (fun h3 => JOIN_of (ifE (fun h => hj _ (by simp; omega)) (fun h4 => JOIN_of (ifE (fun h => hj _ (by simp; omega)) (fun h5 => JOIN_of (ifE (fun h => hj _ (by simp; omega)) (fun h6 => JOIN_of (ifE (fun h => hj _ (by simp; omega)) (fun h7 => JOIN_of (ifE (fun h => hj _ (by simp; omega)) (fun h8 => hj _ (by simp; omega))))))))))))))))
 ·refine JOIN_to ((decide (cU v), decide (v = 11), decide (v = 12 ∨ v = 13), decide (v = 9), decide (v = 7), ()), ()) H (fun j hj => ?_) ?_
  ·have fin : ∀ a b c d e : Bool, (a = true ↔ cU v) -> (b = true ↔ v = 11) -> (c = true ↔ v = 12 ∨ v = 13) -> (d = true ↔ v = 9) -> (e = true ↔ v = 7) -> j ((a, b, c, d, e, ()), ()) H := fun a b c d e h1 h2 h3 h4 h5 => by
    have e1 : a = decide (cU v) := by rw [Bool.eq_iff_iff, h1]; simp
    have e2 : b = decide (v = 11) := by rw [Bool.eq_iff_iff, h2]; simp
    have e3 : c = decide (v = 12 ∨ v = 13) := by rw [Bool.eq_iff_iff, h3]; simp
    have e4 : d = decide (v = 9) := by rw [Bool.eq_iff_iff, h4]; simp
    have e5 : e = decide (v = 7) := by rw [Bool.eq_iff_iff, h5]; simp
    rw [e1, e2, e3, e4, e5]; exact hj
   refine ifD (fun h => fin _ _ _ _ _ (by simp [cU]; omega) (by simp; omega) (by simp; omega) (by simp; omega) (by simp; omega)) (fun h => JOIN_of (ifE (fun h9 => fin _ _ _ _ _ (by simp [cU]; omega) (by simp; omega) (by simp; omega) (by simp; omega) (by simp; omega)) (fun h9 => JOIN_of (ifE (fun h7 => fin _ _ _ _ _ (by simp [cU]; omega) (by simp; omega) (by simp; omega) (by simp; omega) (by simp; omega)) (fun h7 => JOIN_of (ifE (fun h11 => fin _ _ _ _ _ (by simp [cU]; omega) (by simp; omega) (by simp; omega) (by simp; omega) (by simp; omega)) (fun h11 => ?_)))))))
   refine JD (H := H) (v = 12 ∨ v = 13) (fun j hj => ifE (fun h => hj _ (by simp; omega)) (fun h => hj _ (by simp; omega))) (JOIN_of (ifD (fun h => fin _ _ _ _ _ (by simp [cU]; omega) (by simp; omega) (by simp; omega) (by simp; omega) (by simp; omega)) (fun h => fin _ _ _ _ _ (by simp [cU]; omega) (by simp; omega) (by simp; omega) (by simp; omega) (by simp; omega))))
  ·have fin : ∀ b c : Bool, (b = true ↔ sU v w) -> (c = true ↔ tU v w) -> Q (decide (cU v), b, c, decide (v = 9), decide (v = 7), ()) H := fun b c h1 h2 => by
    have e1 : b = decide (sU v w) := by rw [Bool.eq_iff_iff, h1]; simp
    have e2 : c = decide (tU v w) := by rw [Bool.eq_iff_iff, h2]; simp
    rw [e1, e2]; exact hq
   exact JOIN_of (ifD (fun h => ifD (fun h2 => fin _ _ (by simp [sU]; omega) (by simp [tU]; omega)) (fun h2 => fin _ _ (by simp [sU]; omega) (by simp [tU]; omega))) (fun h => ifD (fun h2 => fin _ _ (by simp [sU]; omega) (by simp [tU]; omega)) (fun h2 => fin _ _ (by simp [sU]; omega) (by simp [tU]; omega))))
theorem bounds_c {v : Int} {Q : Int × Int × Bool × Unit -> Heap -> Prop} (hq : Q (lowV v, highV v, decide (v = 14), ()) H) : CALL P [T_int .i64, T_int .i64, T_bool] n_effect_bounds [.int .u8 v] H Q := by
 apply c_effect_bounds
 unfold S_effect_bounds
 refine JD (H := H) (v = 9 ∨ v = 15) (fun j hj => ifE (fun h => hj _ (by simp; omega)) (fun h => hj _ (by simp; omega))) (ifD (fun h => Qd (Q := fun r => Q r H) hq ?_) (fun h => ifE (fun h2 => Qd (Q := fun r => Q r H) hq ?_) (fun h2 => ifE (fun h3 => Qd (Q := fun r => Q r H) hq ?_) (fun h3 => Qd (Q := fun r => Q r H) hq ?_))))
 ·unfold lowV highV; rw [if_pos h, if_neg (by omega)]; simp; omega
 ·unfold lowV highV; rw [if_neg h, if_pos h2, if_pos h2]; simp; omega
 ·unfold lowV highV; rw [if_neg h, if_neg h2, if_pos h3, if_neg h2]; simp; omega
 ·unfold lowV highV; rw [if_neg h, if_neg h2, if_neg h3, if_neg h2]; simp; omega
theorem about_c {p : Pt} {Q : Bool × Unit -> Heap -> Prop} (hk : 1 ≤ p.Verb ∧ p.Verb ≤ 19) (hq : ∀ r : Bool, (r = true ↔ okAbout p) -> Q (r, ()) H) : CALL P [T_bool] n_effect_about [T_G_api_Part.enc p] H Q := by
 apply c_effect_about
 unfold S_effect_about
 refine JD (H := H) (p.Whom = 1 ∨ p.Whom = 2) (fun j hj => ifE (fun h => hj _ (by simp; omega)) (fun h => hj _ (by simp; omega))) (standing_c (ifD (fun h1 => ?_) (fun h1 => swapping_c (ifD (fun h2 => hq _ ?_) (fun h2 => ifE (fun h3 => hq _ ?_) (fun h3 => ?_))))))
 ·have k1 : kindV p.Verb ≠ 1 := fun e => by have := kindV_1.1 e; omega
  have k2 : kindV p.Verb = 2 := kindV_2.2 h1
  refine JD (H := H) (¬ (p.Whom = 1 ∨ p.Whom = 2) ∧ p.Whom ≠ 3) (fun j hj => ifQ (fun h => hj _ (by simp; omega)) (fun h => hj _ (by simp; omega))) (hq _ ?_)
  unfold okAbout
  rw [if_neg k1, if_pos k2, decide_eq_true_eq]
 ·have k1 : kindV p.Verb ≠ 1 := fun e => by have := kindV_1.1 e; omega
  have k2 : kindV p.Verb ≠ 2 := fun e => by have := kindV_2.1 e; omega
  unfold okAbout
  rw [if_neg k1, if_neg k2]; simp
 ·have k1 : kindV p.Verb = 1 := kindV_1.2 (by omega)
  unfold okAbout
  rw [if_pos k1, if_pos h3]; simp
 ·have k1 : kindV p.Verb = 1 := kindV_1.2 (by omega)
  refine JD (H := H) (¬ ((p.Whom = 1 ∨ p.Whom = 2) ∧ (p.Verb = 6 ∨ p.Verb = 8 ∨ p.Verb = 9))) (fun j hj => ifQ (fun h => hj _ (by simp; omega)) (fun h => ifN (fun h6 => ifN (fun h8 => hj _ (by simp; omega)) (fun h8 => hj _ (by simp; omega))) (fun h6 => hj _ (by simp; omega)))) (hq _ ?_)
  unfold okAbout
  rw [if_pos k1, if_neg h3, decide_eq_true_eq]
theorem pwithin_c {u : Prop} [Decidable u] {x lo hi : Int} {Q : Bool × Unit -> Heap -> Prop} (hq : Q (decide (if u then lo ≤ x ∧ x ≤ hi else x = 0), ()) H) :
  ifB (!decide u) (Q (x == 0, ()) H) (JOIN (fun (j1 : (Bool × Unit) × (Unit) -> Heap -> Prop) => ifB (decide (x ≥ lo)) (j1 ((decide (x ≤ hi), ()), (())) H) (j1 ((false, ()), (())) H)) fun (y2 : (Bool × Unit) × (Unit)) H1 => Q (y2.1.1, ()) H1) := by
 refine ifQ (fun h => Qd (Q := fun r => Q r H) hq ?_) (fun h => JD (H := H) (lo ≤ x ∧ x ≤ hi) (fun j hj => ifD (fun h => hj _ (by simp; omega)) (fun h => hj _ (by simp; omega))) (Qd (Q := fun r => Q r H) hq ?_))
 ·simp only [if_neg h]; congr 1
 ·simp only [if_pos h]
theorem nmB_iff {b : UInt8} : nmB b = true ↔ b.toNat = 45 ∨ 97 ≤ b.toNat ∧ b.toNat ≤ 122 := by
 unfold nmB
 simp only [Bool.or_eq_true, Bool.and_eq_true, decide_eq_true_eq, beq_iff_eq, UInt8.le_iff_toNat_le]
 constructor
 ·rintro (rfl | h)
  ·exact .inl rfl
  ·exact .inr h
 ·rintro (h | h)
  ·exact .inl (UInt8.toNat_inj.1 h)
  ·exact .inr h
instance (s : ByteArray) : Decidable (okNm s) := by unfold okNm; infer_instance
theorem okNm_cons {s : ByteArray} {b : UInt8} {r : List UInt8} (h : s.data.toList = b :: r) (h20 : s.data.toList.length ≤ 20) : okNm s ↔ b.toNat ≠ 45 ∧ s.data.toList.all nmB = true := by
 unfold okNm
 rw [h] at h20 ⊢
 simp only [List.length_cons, List.head?_cons, ne_eq, Option.some.injEq] at h20 ⊢
 have : b = 45 ↔ b.toNat = 45 := ⟨fun e => by rw [e]; rfl, fun e => UInt8.toNat_inj.1 e⟩
 rw [this]
 constructor
 ·exact fun q => q.2.2
 ·exact fun q => ⟨by omega, h20, q⟩
theorem tl_empty : (ByteArray.mk #[]).toList = [] := ByteArray.toList_mk []
theorem named_g {s : ByteArray} (hs : s.size ≤ 9223372036854775807) {b : UInt8} {r : List UInt8} (h : s.data.toList = b :: r) (h20 : s.data.toList.length ≤ 20) {j : (Bool × Unit) × Unit -> Heap -> Prop} (hj : ∀ r : Bool, (r = true ↔ okNm s) -> j ((r, ()), ()) H) :
  GENV (T_int .u8) (aIndex E 9 (.string s) (.int .i64 0)) fun (x5 : Int) => ifB (x5 != 45) (CALL P [T_str] n_strings_Trim [(.string s), (.string alph)] H fun (x6 : ByteArray × Unit) H2 => j ((x6.1.toList == (ByteArray.mk #[]).toList, ()), (())) H2) (j ((false, ()), (())) H) := by
 refine str_at (n := 0) rfl (b := b) (by rw [h]; rfl) (ifN (fun h3 => trim_c (by rw [size_len, h]; simp) hs (hj _ ?_)) (fun h3 => hj _ ?_))
 ·rw [okNm_cons h h20, tl_empty, ByteArray.toList_mk, beq_iff_eq, trimS_nil]
  exact ⟨fun q => ⟨by omega, q⟩, fun q => q.2⟩
 ·rw [okNm_cons h h20]
  simp; omega
theorem ename_c {s : ByteArray} (hs : s.size ≤ 9223372036854775807) {Q : Bool × Unit -> Heap -> Prop} (hq : Q (decide (okNm s), ()) H) : CALL P [T_bool] n_effect_name [.string s] H Q := by
 apply c_effect_name
 unfold S_effect_name
 refine JD (H := H) (okNm s) (fun j hj => str_len (ifD (fun h1 => str_len (ifD (fun h2 => ?_) (fun h2 => hj _ ?_))) (fun h1 => hj _ ?_))) hq
 ·cases hl : s.data.toList with
  | nil => rw [hl] at h1; simp at h1
  | cons b r => exact named_g hs hl (by omega) hj
 ·simp only [Bool.false_eq_true, false_iff]; exact fun q => by have := q.2.1; omega
 ·simp only [Bool.false_eq_true, false_iff]; exact fun q => by have := q.1; omega
theorem cnamed_c {s : ByteArray} (hs : s.size ≤ 9223372036854775807) {Q : Bool × Unit -> Heap -> Prop} (hq : Q (decide (okNm s), ()) H) : CALL P [T_bool] n_card_named [.string s] H Q := by
 apply c_card_named
 unfold S_card_named
 refine JD (H := H) (okNm s) (fun j hj => str_len (ifD (fun h1 => str_len (ifD (fun h2 => ?_) (fun h2 => hj _ ?_))) (fun h1 => hj _ ?_))) hq
 ·cases hl : s.data.toList with
  | nil => rw [hl] at h1; simp at h1
  | cons b r => exact named_g hs hl (by omega) hj
 ·simp only [Bool.false_eq_true, false_iff]; exact fun q => by have := q.2.1; omega
 ·simp only [Bool.false_eq_true, false_iff]; exact fun q => by have := q.1; omega
theorem sign_loop {L : List UInt8} {F : ((Int × Unit) × Unit -> Heap -> Prop) -> (Int × Unit) × Unit -> Heap -> Prop} {Qf Qt : Prop}
  (hF : ∀ (G : (Int × Unit) × Unit -> Heap -> Prop) (n : Nat), (∀ b, L[n]? = some b -> (nmB b = true -> G (((n : Int) + 1, ()), ()) H) -> (nmB b = false -> Qf) -> F G (((n : Int), ()), ()) H) ∧ (n = L.length -> Qt -> F G (((n : Int), ()), ()) H))
  (ht : L.all nmB = true -> Qt) (hf : L.all nmB = false -> Qf) : LOOP F ((0, ()), ()) H := by
 refine loop_of (fun (t : (Int × Unit) × Unit) H' => H' = H ∧ ∃ n : Nat, t.1.1 = n ∧ n ≤ L.length ∧ (L.take n).all nmB = true) (fun t => L.length - t.1.1.toNat) ?_ ⟨rfl, 0, rfl, Nat.zero_le _, by simp⟩
 rintro G ⟨⟨i, _⟩, _⟩ H' ⟨rfl, n, hi, hn, ha⟩ hG
 simp only at hi; subst hi
 dsimp only at hG
 obtain ⟨k1, k2⟩ := hF G n
 by_cases e : n = L.length
 ·exact k2 e (ht (by rw [e, List.take_length] at ha; exact ha))
 ·have hlt : n < L.length := by omega
  refine k1 _ (List.getElem?_eq_getElem hlt) (fun hb => hG _ _ ⟨rfl, n + 1, by simp, hlt, ?_⟩ (by simp; omega)) (fun hb => hf ?_)
  ·rw [List.take_succ_eq_append_getElem hlt, List.all_append, ha]; simp [hb]
  ·rw [List.all_eq_false]; exact ⟨_, List.getElem_mem hlt, by simp [hb]⟩
theorem get_at {s : ByteArray} {n : Nat} {b : UInt8} (h : s.data.toList[n]? = some b) : s.get! n = b := by
 have hn := (List.getElem?_eq_some_iff.1 h).1
 rw [List.getElem?_eq_getElem hn] at h
 have hn' : n < s.data.size := by rw [← Array.length_toList]; exact hn
 show s.data[n]! = b
 rw [getElem!_pos s.data n hn']
 exact Option.some.inj h
theorem dec_ascii {s : ByteArray} {n : Nat} (h : (s.get! n).toNat < 128) : Utf8.decode s n = ((s.get! n).toNat, 1) := by
 unfold Utf8.decode
 simp [h]
theorem dec_other {s : ByteArray} {n : Nat} (h : 128 ≤ (s.get! n).toNat) : 128 ≤ (Utf8.decode s n).1 := by
 unfold Utf8.decode
 simp only [Nat.add_zero]
 rw [if_neg (by omega)]
 repeat' split
 all_goals first | (simp only [Utf8.runeError]; omega) | skip
 all_goals (rename_i h1; first | (simp only; omega) | (simp only [Bool.and_eq_true, decide_eq_true_eq] at h1; simp only; omega))
theorem next_iter {H : Heap} {s : ByteArray} {pos : Nat} (h : pos < s.size) : aNext (.pointer (some ⟨H.length, 0, none⟩)) (H ++ [.iter s pos]) = some (.tuple #[.bool true, .int .i64 pos, .int .i32 (Utf8.decode s pos).1], H ++ [.iter s (pos + (Utf8.decode s pos).2)]) := by
 unfold aNext nextOf
 simp [h]
theorem next_end {H : Heap} {s : ByteArray} {pos : Nat} (h : ¬ pos < s.size) : aNext (.pointer (some ⟨H.length, 0, none⟩)) (H ++ [.iter s pos]) = some (.tuple #[.bool false], H ++ [.iter s pos]) := by
 unfold aNext nextOf
 simp [h]
theorem loop_ofH {S : Type} {F : (S -> Heap -> Prop) -> S -> Heap -> Prop} (I : S -> Heap -> Prop) (μ : S -> Heap -> Nat) (hF : ∀ (G : S -> Heap -> Prop) s H, I s H -> (∀ s' H', I s' H' -> μ s' H' < μ s H -> G s' H') -> F G s H) {s : S} {H : Heap} (h : I s H) : LOOP F s H := by
 refine ⟨μ s H + 1, ?_⟩
 have : ∀ n s H, μ s H < n -> I s H -> itP F n s H := by
  intro n
  induction n with
  | zero => intro s H h; omega
  | succ n ih => intro s H hm hi; exact hF _ s H hi fun s' H' h1 h2 => ih s' H' (by omega) h1
 exact this _ s H (by omega) h
def iterP (H : Heap) (b : Nat) : Nat := match H[b]? with | some (.iter _ pos) => pos | _ => 0
theorem iterP_app (H : Heap) (s : ByteArray) (pos : Nat) : iterP (H ++ [.iter s pos]) H.length = pos := by unfold iterP; simp
theorem bname_c {s : ByteArray} {Q : Bool × Unit -> Heap -> Prop} (hq : ∀ H', Frs [] H H' -> Q (decide (okNm s), ()) H') : CALL P [T_bool] n_book_name [.string s] H Q := by
 apply c_book_name
 unfold S_book_name
 have no : ∀ H', Frs [] H H' -> ¬ okNm s -> Q (false, ()) H' := fun H' f hn => by have := hq H' f; rwa [decide_eq_false hn] at this
 refine JD (H := H) (s.data.toList.length = 0 ∨ 20 < s.data.toList.length ∨ s.data.toList.head? = some 45) (fun j hj => str_len (ifE (fun h1 => hj _ ?_) (fun h1 => str_len (ifD (fun h2 => hj _ ?_) (fun h2 => ?_))))) (ifD (fun hbad => no H (.refl _ _) fun q => ?_) (fun hgood => ?_))
 ·simp only [true_iff]; exact .inl (by omega)
 ·simp only [true_iff]; exact .inr (.inl (by omega))
 ·cases hl : s.data.toList with
  | nil => rw [hl] at h1; simp at h1
  | cons b r =>
   refine str_at (n := 0) rfl (b := b) (by rw [hl]; rfl) (hj _ ?_)
   have h45 : b = 45 ↔ b.toNat = 45 := ⟨fun e => by rw [e]; rfl, fun e => UInt8.toNat_inj.1 e⟩
   rw [hl] at h2 ⊢
   simp only [List.length_cons, List.head?_cons, Option.some.injEq, h45, beq_iff_eq] at h2 ⊢
   constructor
   ·intro q; right; right; omega
   ·rintro (q | q | q) <;> omega
 ·rcases hbad with e | e | e
  ·have := q.1; omega
  ·have := q.2.1; omega
  ·exact q.2.2.1 e
 ·have h45 : s.data.toList.head? ≠ some 45 := fun e => hgood (.inr (.inr e))
  have hl1 : ¬ s.data.toList.length = 0 := fun e => hgood (.inl e)
  have hl2 : ¬ 20 < s.data.toList.length := fun e => hgood (.inr (.inl e))
  have fx : ∀ pos, Frs [] H (H ++ [.iter s pos]) := fun pos => Frs.app _ _ _
  refine ⟨_, _, rfl, JOIN_of ?_⟩
  refine loop_ofH (fun (_ : Unit × Unit) H' => ∃ pos : Nat, H' = H ++ [.iter s pos] ∧ pos ≤ s.data.toList.length ∧ (s.data.toList.take pos).all nmB = true) (fun _ H' => s.data.toList.length - iterP H' H.length) ?_ ⟨0, rfl, Nat.zero_le _, by simp⟩
  rintro G ⟨_, _⟩ H' ⟨pos, rfl, hp, ha⟩ hG
  by_cases hlt : pos < s.data.toList.length
  ·have hx : s.data.toList[pos]? = some (s.data.toList[pos]) := List.getElem?_eq_getElem hlt
   generalize s.data.toList[pos] = b at hx
   have hb := get_at hx
   have tk : s.data.toList.take (pos + 1) = s.data.toList.take pos ++ [b] := by
    rw [List.take_succ_eq_append_getElem hlt]
    rw [List.getElem?_eq_getElem hlt] at hx
    rw [Option.some.inj hx]
   refine .inl ⟨_, _, _, next_iter (by rw [size_len]; exact hlt), ?_⟩
   have bad : ∀ H2, Frs [] H H2 -> nmB b = false -> Q (false, ()) H2 := fun H2 f hn => no H2 f fun q => by
    have := List.all_eq_true.1 q.2.2.2 b (List.mem_of_getElem? hx)
    rw [hn] at this; cases this
   by_cases hA : b.toNat < 128
   ·have hd := dec_ascii (s := s) (n := pos) (by rw [hb]; exact hA)
    rw [hb] at hd
    rw [hd]
    dsimp only
    refine JD (H := H ++ [.iter s (pos + 1)]) (¬ nmB b = true) (fun j hj => ifN (fun h1 => ifD (fun h2 => hj _ ?_) (fun h2 => hj _ ?_)) (fun h1 => hj _ ?_)) (ifD (fun h => bad _ (fx _) (by simpa using h)) (fun h => ?_))
    ·rw [nmB_iff]; simp; omega
    ·rw [nmB_iff]; simp; omega
    ·rw [nmB_iff]; simp; omega
    ·have h : nmB b = true := by simpa using h
     refine hG _ _ ⟨pos + 1, rfl, hlt, by rw [tk, List.all_append, ha]; simp [h]⟩ ?_
     rw [iterP_app, iterP_app]; omega
   ·have hd := dec_other (s := s) (n := pos) (by rw [hb]; omega)
    have hn : nmB b = false := by
     cases h : nmB b with
     | false => rfl
     | true => have := nmB_iff.1 h; omega
    generalize Utf8.decode s pos = d at hd
    refine JD (H := H ++ [.iter s (pos + d.2)]) True (fun j hj => ifN (fun h1 => ifD (fun h2 => hj _ (by simp)) (fun h2 => hj _ (by simp; omega))) (fun h1 => by omega)) (ifB_t (by simp) (bad _ (fx _) hn))
  ·have he : pos = s.data.toList.length := by omega
   subst he
   rw [List.take_length] at ha
   refine .inr ⟨_, next_end (by rw [size_len]; exact hlt), ?_⟩
   have := hq _ (fx s.data.toList.length)
   rwa [decide_eq_true (show okNm s from ⟨by omega, by omega, h45, ha⟩)] at this
theorem okNm_iff {s : ByteArray} : okNm s ↔ ¬ (s.data.toList.length < 1 ∨ 20 < s.data.toList.length ∨ s.data.toList.head? = some 45) ∧ s.data.toList.all nmB = true := by
 unfold okNm
 constructor
 ·exact fun q => ⟨by rintro (h | h | h) <;> first | omega | exact q.2.2.1 h, q.2.2.2⟩
 ·exact fun q => ⟨by omega, by omega, fun h => q.1 (.inr (.inr h)), q.2⟩
theorem head45 {b : UInt8} : b = 45 ↔ b.toNat = 45 := ⟨fun e => by rw [e]; rfl, fun e => UInt8.toNat_inj.1 e⟩
theorem r5name_c {s : ByteArray} {Q : Bool × Unit -> Heap -> Prop} (hq : Q (decide (okNm s), ()) H) : CALL P [T_bool] n_ref05_Name [.string s] H Q := by
 apply c_ref05_Name
 unfold S_ref05_Name
 have no : ¬ okNm s -> Q (false, ()) H := fun hn => by rwa [decide_eq_false hn] at hq
 refine JD (H := H) (s.data.toList.length < 1 ∨ 20 < s.data.toList.length ∨ s.data.toList.head? = some 45) (fun j hj => str_len (ifD (fun h1 => hj _ ?_) (fun h1 => str_len (ifD (fun h2 => hj _ ?_) (fun h2 => ?_))))) (ifD (fun hbad => no fun q => (okNm_iff.1 q).1 hbad) (fun hgood => JOIN_of ?_))
 ·simp only [true_iff]; exact .inl (by omega)
 ·simp only [true_iff]; exact .inr (.inl (by omega))
 ·cases hl : s.data.toList with
  | nil => rw [hl] at h1; simp at h1
  | cons b r =>
   refine str_at (n := 0) rfl (b := b) (by rw [hl]; rfl) (hj _ ?_)
   rw [hl] at h2 ⊢
   simp only [List.length_cons, List.head?_cons, Option.some.injEq, head45, beq_iff_eq] at h2 ⊢
   constructor
   ·intro q; right; right; omega
   ·rintro (q | q | q) <;> omega
 ·refine sign_loop (L := s.data.toList) (Qf := Q (false, ()) H) (Qt := Q (true, ()) H) (fun G n => ⟨fun b hx k1 k2 => ?_, fun e k => str_len (ifB_f (decide_eq_false (by simp only; omega)) k)⟩) (fun ha => by rwa [decide_eq_true (okNm_iff.2 ⟨hgood, ha⟩)] at hq) (fun ha => no fun q => by have := (okNm_iff.1 q).2; rw [ha] at this; cases this)
  have hlt := (List.getElem?_eq_some_iff.1 hx).1
  refine str_len (ifB_t (decide_eq_true (by simp only; omega)) ?_)
  refine JD (H := H) (¬ nmB b = true) (fun j hj => str_at rfl hx (ifD (fun h1 => str_at rfl hx (hj _ ?_)) (fun h1 => str_at rfl hx (ifD (fun h2 => str_at rfl hx (hj _ ?_)) (fun h2 => hj _ ?_))))) (ifD (fun h => k2 (by simpa using h)) (fun h => ?_))
  ·rw [nmB_iff]; simp; omega
  ·rw [nmB_iff]; simp; omega
  ·rw [nmB_iff]; simp; omega
  ·dsimp only
   rw [i64w (by omega) (by omega)]
   exact k1 (by simpa using h)
theorem r6name_c {s : ByteArray} {Q : Bool × Unit -> Heap -> Prop} (hq : Q (decide (okNm s), ()) H) : CALL P [T_bool] n_ref06_NameMay [.string s] H Q := by
 apply c_ref06_NameMay
 unfold S_ref06_NameMay
 have no : ¬ okNm s -> Q (false, ()) H := fun hn => by rwa [decide_eq_false hn] at hq
 refine JD (H := H) (s.data.toList.length < 1 ∨ 20 < s.data.toList.length ∨ s.data.toList.head? = some 45) (fun j hj => str_len (ifD (fun h1 => hj _ ?_) (fun h1 => str_len (ifD (fun h2 => hj _ ?_) (fun h2 => ?_))))) (ifD (fun hbad => no fun q => (okNm_iff.1 q).1 hbad) (fun hgood => JOIN_of ?_))
 ·simp only [true_iff]; exact .inl (by omega)
 ·simp only [true_iff]; exact .inr (.inl (by omega))
 ·cases hl : s.data.toList with
  | nil => rw [hl] at h1; simp at h1
  | cons b r =>
   refine str_at (n := 0) rfl (b := b) (by rw [hl]; rfl) (hj _ ?_)
   rw [hl] at h2 ⊢
   simp only [List.length_cons, List.head?_cons, Option.some.injEq, head45, beq_iff_eq] at h2 ⊢
   constructor
   ·intro q; right; right; omega
   ·rintro (q | q | q) <;> omega
 ·refine sign_loop (L := s.data.toList) (Qf := Q (false, ()) H) (Qt := Q (true, ()) H) (fun G n => ⟨fun b hx k1 k2 => ?_, fun e k => str_len (ifB_f (decide_eq_false (by simp only; omega)) k)⟩) (fun ha => by rwa [decide_eq_true (okNm_iff.2 ⟨hgood, ha⟩)] at hq) (fun ha => no fun q => by have := (okNm_iff.1 q).2; rw [ha] at this; cases this)
  have hlt := (List.getElem?_eq_some_iff.1 hx).1
  refine str_len (ifB_t (decide_eq_true (by simp only; omega)) ?_)
  refine JD (H := H) (¬ nmB b = true) (fun j hj => str_at rfl hx (ifN (fun h1 => str_at rfl hx (ifD (fun h2 => hj _ ?_) (fun h2 => str_at rfl hx (hj _ ?_)))) (fun h1 => hj _ ?_))) (ifD (fun h => k2 (by simpa using h)) (fun h => ?_))
  ·rw [nmB_iff]; simp; omega
  ·rw [nmB_iff]; simp; omega
  ·rw [nmB_iff]; simp; omega
  ·dsimp only
   rw [i64w (by omega) (by omega)]
   exact k1 (by simpa using h)
theorem r7name_c {s : ByteArray} {Q : Bool × Unit -> Heap -> Prop} (hq : Q (decide (okNm s), ()) H) : CALL P [T_bool] n_ref07_Name [.string s] H Q := by
 apply c_ref07_Name
 unfold S_ref07_Name
 have no : ¬ okNm s -> Q (false, ()) H := fun hn => by rwa [decide_eq_false hn] at hq
 refine JD (H := H) (s.data.toList.length < 1 ∨ 20 < s.data.toList.length ∨ ∃ b, s.data.toList.head? = some b ∧ (b.toNat < 97 ∨ 122 < b.toNat)) (fun j hj => str_len (ifD (fun h1 => hj _ ?_) (fun h1 => str_len (ifD (fun h2 => hj _ ?_) (fun h2 => ?_))))) (ifD (fun hbad => no fun q => ?_) (fun hgood => JOIN_of ?_))
 ·simp only [true_iff]; exact .inl (by omega)
 ·simp only [true_iff]; exact .inr (.inl (by omega))
 ·cases hl : s.data.toList with
  | nil => rw [hl] at h1; simp at h1
  | cons b r =>
   rw [hl] at h2 h1
   have key : (1 + r.length < 1 ∨ 20 < 1 + r.length ∨ ∃ b', (b :: r).head? = some b' ∧ (b'.toNat < 97 ∨ 122 < b'.toNat)) ↔ (b.toNat < 97 ∨ 122 < b.toNat) := by
    simp only [List.length_cons] at h2
    constructor
    ·rintro (q | q | ⟨b', e, q⟩)
     ·omega
     ·omega
     ·cases e; exact q
    ·exact fun q => .inr (.inr ⟨b, rfl, q⟩)
   refine str_at (n := 0) rfl (b := b) (by rw [hl]; rfl) (ifD (fun h3 => hj _ ?_) (fun h3 => str_at (n := 0) rfl (b := b) (by rw [hl]; rfl) (hj _ ?_)))
   ·rw [hl, List.length_cons, Nat.add_comm, key]; simp; omega
   ·rw [hl, List.length_cons, Nat.add_comm, key]; simp; omega
 ·obtain ⟨q1, q2⟩ := okNm_iff.1 q
  rcases hbad with e | e | ⟨b, e, h⟩
  ·exact q1 (.inl e)
  ·exact q1 (.inr (.inl e))
  ·have hb : nmB b = true := List.all_eq_true.1 q2 b (List.mem_of_mem_head? e)
   have h45 : b ≠ 45 := fun e2 => q1 (.inr (.inr (by rw [e, e2])))
   have := nmB_iff.1 hb
   have := mt head45.2 h45
   omega
 ·have hgood' : ¬ (s.data.toList.length < 1 ∨ 20 < s.data.toList.length ∨ s.data.toList.head? = some 45) := by
   rintro (e | e | e)
   ·exact hgood (.inl e)
   ·exact hgood (.inr (.inl e))
   ·exact hgood (.inr (.inr ⟨45, e, .inl (by decide)⟩))
  refine sign_loop (L := s.data.toList) (Qf := Q (false, ()) H) (Qt := Q (true, ()) H) (fun G n => ⟨fun b hx k1 k2 => ?_, fun e k => str_len (ifB_f (decide_eq_false (by simp only; omega)) k)⟩) (fun ha => by rwa [decide_eq_true (okNm_iff.2 ⟨hgood', ha⟩)] at hq) (fun ha => no fun q => by have := (okNm_iff.1 q).2; rw [ha] at this; cases this)
  have hlt := (List.getElem?_eq_some_iff.1 hx).1
  refine str_len (ifB_t (decide_eq_true (by simp only; omega)) ?_)
  refine JD (H := H) (¬ nmB b = true) (fun j hj => str_at rfl hx (ifD (fun h1 => str_at rfl hx (hj _ ?_)) (fun h1 => str_at rfl hx (ifD (fun h2 => str_at rfl hx (hj _ ?_)) (fun h2 => hj _ ?_))))) (ifD (fun h => k2 (by simpa using h)) (fun h => ?_))
  ·rw [nmB_iff]; simp; omega
  ·rw [nmB_iff]; simp; omega
  ·rw [nmB_iff]; simp; omega
  ·dsimp only
   rw [i64w (by omega) (by omega)]
   exact k1 (by simpa using h)
end
end Go.Proofs.YtolekmhhkopooaaGreatDoor.Zq
end
section
namespace Go.Proofs.YtolekmhhkopooaaGreatDoor.Zq
open Zv
section
variable {H : Heap}
structure OkP (p : Pt) : Prop where
 nm : p.Name.size ≤ 9223372036854775807
 s : 0 ≤ p.Suit ∧ p.Suit ≤ 255
 t : 0 ≤ p.Trait ∧ p.Trait ≤ 255
 m : 0 ≤ p.Mark ∧ p.Mark ≤ 255
theorem pw_g {u : Prop} [Decidable u] {x lo hi : Int} {Q : Bool × Unit -> Heap -> Prop} (hq : ∀ r : Bool, (r = true ↔ if u then lo ≤ x ∧ x ≤ hi else x = 0) -> Q (r, ()) H) :
  ifB (!decide u) (Q (x == 0, ()) H) (JOIN (fun (j1 : (Bool × Unit) × (Unit) -> Heap -> Prop) => ifB (decide (x ≥ lo)) (j1 ((decide (x ≤ hi), ()), (())) H) (j1 ((false, ()), (())) H)) fun (y2 : (Bool × Unit) × (Unit)) H1 => Q (y2.1.1, ()) H1) :=
 pwithin_c (hq _ (by simp))
theorem wint_c {u : Prop} [Decidable u] {x lo hi : Int} {Q : Bool × Unit -> Heap -> Prop} (hq : ∀ r : Bool, (r = true ↔ if u then lo ≤ x ∧ x ≤ hi else x = 0) -> Q (r, ()) H) : CALL P [T_bool] n_effect_within_int [.int .i64 x, .bool (decide u), .int .i64 lo, .int .i64 hi] H Q := by
 apply c_effect_within_int
 unfold S_effect_within_int
 exact pw_g hq
theorem wsuit_c {u : Prop} [Decidable u] {x lo hi : Int} {Q : Bool × Unit -> Heap -> Prop} (hq : ∀ r : Bool, (r = true ↔ if u then lo ≤ x ∧ x ≤ hi else x = 0) -> Q (r, ()) H) : CALL P [T_bool] n_effect_within_api_Suit [.int .u8 x, .bool (decide u), .int .u8 lo, .int .u8 hi] H Q := by
 apply c_effect_within_api_Suit
 unfold S_effect_within_api_Suit
 exact pw_g hq
theorem wtrait_c {u : Prop} [Decidable u] {x lo hi : Int} {Q : Bool × Unit -> Heap -> Prop} (hq : ∀ r : Bool, (r = true ↔ if u then lo ≤ x ∧ x ≤ hi else x = 0) -> Q (r, ()) H) : CALL P [T_bool] n_effect_within_api_Trait [.int .u8 x, .bool (decide u), .int .u8 lo, .int .u8 hi] H Q := by
 apply c_effect_within_api_Trait
 unfold S_effect_within_api_Trait
 exact pw_g hq
theorem wmark_c {u : Prop} [Decidable u] {x lo hi : Int} {Q : Bool × Unit -> Heap -> Prop} (hq : ∀ r : Bool, (r = true ↔ if u then lo ≤ x ∧ x ≤ hi else x = 0) -> Q (r, ()) H) : CALL P [T_bool] n_effect_within_api_Mark [.int .u8 x, .bool (decide u), .int .u8 lo, .int .u8 hi] H Q := by
 apply c_effect_within_api_Mark
 unfold S_effect_within_api_Mark
 exact pw_g hq
theorem rwithin_c {u : Prop} [Decidable u] {x hi : Int} {Q : Bool × Unit -> Heap -> Prop} (hq : ∀ r : Bool, (r = true ↔ inU u x hi) -> Q (r, ()) H) : CALL P [T_bool] n_ref05_within [.bool (decide u), .int .i64 x, .int .i64 hi] H Q := by
 apply c_ref05_within
 unfold S_ref05_within
 exact pw_g (lo := 1) hq
theorem bnot {r : Bool} : r = false ↔ ¬ r = true := by cases r <;> simp
def okF (p : Pt) : Prop := inU (sU p.Verb p.Whom) p.Suit 6 ∧ inU (tU p.Verb p.Whom) p.Trait 8 ∧ inU (p.Verb = 9) p.Mark 4
def badN (p : Pt) : Prop := if p.Verb = 7 then ¬ okNm p.Name else p.Name.data.toList ≠ []
def out6 (p : Pt) : Prop := p.When < 1 ∨ 6 < p.When ∨ p.Verb < 1 ∨ 19 < p.Verb ∨ p.Whom < 1 ∨ 10 < p.Whom
def bad8 (p : Pt) : Prop := kindV p.Verb ≠ wantW p.When ∨ p.Verb = 11 ∧ p.Whom = 9
open Classical in
theorem chkP_eq (p : Pt) : chkP p = if out6 p then 2 else if bad8 p then 8 else if ¬ okAbout p then 13 else if ¬ okCount p.Verb p.Count then 2 else if ¬ okF p then 2 else if badN p then 4 else 0 := by
 unfold chkP out6 bad8 okF badN
 congr
theorem hJ {H : Heap} {A : ((Bool × Unit) × Unit -> Heap -> Prop) -> Prop} {X Y : Heap -> Prop} (c : Prop) (hA : ∀ j : (Bool × Unit) × Unit -> Heap -> Prop, (∀ r : Bool, (r = true ↔ c) -> j ((r, ()), ()) H) -> A j) (h1 : c -> X H) (h2 : ¬ c -> Y H) : JOIN A fun (y : (Bool × Unit) × Unit) H' => ifB y.1.1 (X H') (Y H') :=
 hA _ fun r hr => ifB_of (fun e => h1 (hr.1 e)) (fun e => h2 fun q => by
  have e : r = false := e
  rw [hr.2 q] at e; cases e)
theorem pchk_c {p : Pt} (ok : OkP p) {Q : Int × Unit -> Heap -> Prop} (hq : Q (chkP p, ()) H) : CALL P [T_int .i64] n_effect_Check [T_G_api_Part.enc p] H Q := by
 apply c_effect_Check
 unfold S_effect_Check
 rw [chkP_eq] at hq
 refine uses_c (bounds_c ?_)
 refine hJ (out6 p) (fun j hj => ?_) (fun h => by rwa [if_pos h] at hq) (fun h1 => ?_)
 ·unfold out6 at hj
  exact ifD (fun h => hj _ (by simp; omega)) (fun h1 => ifD (fun h => hj _ (by simp; omega)) (fun h2 => ifD (fun h => hj _ (by simp; omega)) (fun h3 => ifD (fun h => hj _ (by simp; omega)) (fun h4 => ifD (fun h => hj _ (by simp; omega)) (fun h5 => hj _ (by simp; omega))))))
 rw [if_neg h1] at hq
 have hr : 1 ≤ p.When ∧ p.When ≤ 6 ∧ 1 ≤ p.Verb ∧ p.Verb ≤ 19 := by unfold out6 at h1; omega
 refine hJ (bad8 p) (fun j hj => ?_) (fun h => by rwa [if_pos h] at hq) (fun h2 => ?_)
 ·unfold bad8 at hj
  exact wanted_c (by omega) (ifQ (fun h => hj _ (by simp; omega)) (fun h => ifE (fun h2 => hj _ (by simp; omega)) (fun h2 => hj _ (by simp; omega))))
 rw [if_neg h2] at hq
 refine about_c (by omega) fun r hr2 => ifB_of (fun e => ?_) (fun e => ?_)
 ·rw [if_pos (fun q => by rw [hr2.2 q] at e; cases e)] at hq; exact hq
 have e3 : okAbout p := hr2.1 (by simpa using e)
 rw [if_neg (fun q => q e3)] at hq
 refine hJ (¬ okCount p.Verb p.Count) (fun j hj => ?_) (fun h => by rwa [if_pos h] at hq) (fun h4 => ?_)
 ·refine wint_c fun r hr3 => ?_
  dsimp only at hr3
  unfold okCount at hj
  by_cases hu : cU p.Verb
  ·rw [if_pos hu] at hr3
   rw [if_pos hu] at hj
   refine ifB_of (fun e => hj _ ?_) (fun e => ifB_t (decide_eq_true hu) (ifQ (fun h14 => hj _ ?_) (fun h14 => hj _ ?_)))
   ·have : ¬ (lowV p.Verb ≤ p.Count ∧ p.Count ≤ highV p.Verb) := fun q => by rw [hr3.2 q] at e; cases e
    simp only [true_iff]; exact fun q => this ⟨q.1, q.2.1⟩
   ·have := hr3.1 (by simpa using e)
    simp only [beq_iff_eq]; omega
   ·have := hr3.1 (by simpa using e)
    simp only [Bool.false_eq_true, false_iff]; omega
  ·rw [if_neg hu] at hr3
   rw [if_neg hu] at hj
   refine ifB_of (fun e => hj _ ?_) (fun e => ifB_f (decide_eq_false hu) (hj _ ?_))
   ·simp only [true_iff]; exact fun q => by rw [hr3.2 q] at e; cases e
   ·have := hr3.1 (by simpa using e)
    simp only [Bool.false_eq_true, false_iff]; exact fun q => q this
 rw [if_neg h4] at hq
 refine hJ (¬ okF p) (fun j hj => ?_) (fun h => by rwa [if_pos h] at hq) (fun h5 => ?_)
 ·refine wsuit_c fun r1 hr1 => ifB_of (fun e => hj _ ?_) (fun e => wtrait_c fun r2 hr2 => ifB_of (fun e2 => hj _ ?_) (fun e2 => wmark_c fun r3 hr3 => hj _ ?_))
  ·simp only [true_iff]; exact fun q => by rw [hr1.2 q.1] at e; cases e
  ·simp only [true_iff]; exact fun q => by rw [hr2.2 q.2.1] at e2; cases e2
  ·have g1 := hr1.1 (by simpa using e)
   have g2 := hr2.1 (by simpa using e2)
   rw [Bool.not_eq_true', bnot, hr3]
   exact ⟨fun q k => q k.2.2, fun q k => q ⟨g1, g2, k⟩⟩
 rw [if_neg h5] at hq
 refine hJ (badN p) (fun j hj => ?_) (fun h => by rwa [if_pos h] at hq) (fun h6 => by rwa [if_neg h6] at hq)
 have hn : p.Name.toList = p.Name.data.toList := ByteArray.toList_eq _
 rw [hn, tl_empty]
 unfold badN at hj
 by_cases h7 : p.Verb = 7
 ·rw [if_pos h7] at hj
  simp only [h7, decide_true]
  refine ifB_of (fun e => hj _ ?_) (fun e => ifB_t rfl (ename_c ok.nm (hj _ ?_)))
  ·simp only [true_iff]
   intro q
   have : p.Name.data.toList = [] := by simpa using e
   have := q.1
   simp_all
  ·simp
 ·rw [if_neg h7] at hj
  simp only [h7, decide_false]
  refine ifB_of (fun e => hj _ ?_) (fun e => ifB_f rfl (hj _ ?_))
  ·simp only [true_iff]; simpa using e
  ·have : p.Name.data.toList = [] := by simpa using e
   simp [this]
theorem rkind_c {v : Int} {Q : Int × Unit -> Heap -> Prop} (hq : Q (kindV v, ()) H) : CALL P [T_int .i64] n_ref05_kind [.int .u8 v] H Q := by
 apply c_ref05_kind
 unfold S_ref05_kind
 unfold kindV at hq
 refine hJ (1 ≤ v ∧ v ≤ 9) (fun j hj => ifD (fun h => hj _ (by simp; omega)) (fun h => hj _ (by simp; omega))) (fun h => by rwa [if_pos h] at hq) (fun h => ?_)
 rw [if_neg h] at hq
 refine hJ (10 ≤ v ∧ v ≤ 15) (fun j hj => ifD (fun h => hj _ (by simp; omega)) (fun h => hj _ (by simp; omega))) (fun h => by rwa [if_pos h] at hq) (fun h => ?_)
 rw [if_neg h] at hq
 refine hJ (16 ≤ v ∧ v ≤ 19) (fun j hj => ifD (fun h => hj _ (by simp; omega)) (fun h => hj _ (by simp; omega))) (fun h => by rwa [if_pos h] at hq) (fun h => by rwa [if_neg h] at hq)
theorem rwants_c {v : Int} {Q : Int × Unit -> Heap -> Prop} (hq : Q (wantW v, ()) H) : CALL P [T_int .i64] n_ref05_wants [.int .u8 v] H Q := by
 apply c_ref05_wants
 unfold S_ref05_wants
 unfold wantW at hq
 refine hJ (1 ≤ v ∧ v ≤ 4) (fun j hj => ifD (fun h => hj _ (by simp; omega)) (fun h => hj _ (by simp; omega))) (fun h => by rwa [if_pos h] at hq) (fun h => ?_)
 rw [if_neg h] at hq
 exact ifE (fun h => by rwa [if_pos h] at hq) (fun h => ifE (fun h2 => by rwa [if_neg h, if_pos h2] at hq) (fun h2 => by rwa [if_neg h, if_neg h2] at hq))
theorem rabout_c {p : Pt} {Q : Bool × Unit -> Heap -> Prop} (hq : ∀ r : Bool, (r = true ↔ okAbout p) -> Q (r, ()) H) : CALL P [T_bool] n_ref05_about [T_G_api_Part.enc p] H Q := by
 apply c_ref05_about
 unfold S_ref05_about
 unfold okAbout at hq
 refine JD (H := H) (p.Whom = 1 ∨ p.Whom = 2) (fun j hj => ifE (fun h => hj _ (by simp; omega)) (fun h => hj _ (by simp; omega))) (rkind_c (ifE (fun h1 => ?_) (fun h1 => ifE (fun h2 => ?_) (fun h2 => ?_))))
 ·dsimp only at h1
  rw [if_pos h1] at hq
  refine hJ ((p.Whom = 1 ∨ p.Whom = 2) ∧ (p.Verb = 6 ∨ p.Verb = 8 ∨ p.Verb = 9)) (fun j hj => ifD (fun h => ifE (fun h6 => hj _ (by simp; omega)) (fun h6 => ifE (fun h8 => hj _ (by simp; omega)) (fun h8 => hj _ (by simp; omega)))) (fun h => hj _ (by simp; omega))) (fun h => hq _ ?_) (fun h => ?_)
  ·rw [if_neg (by omega)]; simp only [Bool.false_eq_true, false_iff]; exact fun q => q h
  ·refine JD (H := H) (p.Whom ≠ 3 ∨ p.When = 1) (fun j hj => ifN (fun h => hj _ (by simp; omega)) (fun h => hj _ (by simp; omega))) (hq _ ?_)
   rw [decide_eq_true_eq]
   split <;> omega
 ·dsimp only at h1 h2
  rw [if_neg h1, if_pos h2] at hq
  refine JD (H := H) (¬ (p.Whom = 1 ∨ p.Whom = 2) ∧ p.Whom ≠ 3) (fun j hj => ifQ (fun h => hj _ (by simp; omega)) (fun h => hj _ (by simp; omega))) (hq _ (by rw [decide_eq_true_eq]))
 ·dsimp only at h1 h2
  rw [if_neg h1, if_neg h2] at hq
  exact hq _ (by simp)
def leastV (v : Int) : Int := if cU v then lowV v else 0
def mostV (v : Int) : Int := if cU v then highV v else 0
theorem rcounts_c {v : Int} {Q : Int × Int × Unit -> Heap -> Prop} (hq : Q (leastV v, mostV v, ()) H) : CALL P [T_int .i64, T_int .i64] n_ref05_counts [.int .u8 v] H Q := by
 apply c_ref05_counts
 unfold S_ref05_counts
 have fin : ∀ a b, leastV v = a -> mostV v = b -> Q (a, b, ()) H := fun a b h1 h2 => by rw [h1, h2] at hq; exact hq
 refine hJ (H := H) (v = 1 ∨ v = 2 ∨ v = 3 ∨ v = 4 ∨ v = 7 ∨ v = 16 ∨ v = 19) (fun j hj => ?_) (fun h => fin _ _ ?_ ?_) (fun h => ?_)
 ·exact ifE (fun h => hj _ (by simp; omega)) (fun h1 => JOIN_of (ifE (fun h => hj _ (by simp; omega)) (fun h2 => JOIN_of (ifE (fun h => hj _ (by simp; omega)) (fun h3 => JOIN_of (ifE (fun h => hj _ (by simp; omega)) (fun h4 => JOIN_of (ifE (fun h => hj _ (by simp; omega)) (fun h5 => JOIN_of (ifE (fun h => hj _ (by simp; omega)) (fun h6 => hj _ (by simp; omega))))))))))))
 ·unfold leastV lowV; repeat' split
  all_goals first | rfl | (exfalso; simp only [cU] at *; omega)
 ·unfold mostV highV; repeat' split
  all_goals first | rfl | (exfalso; simp only [cU] at *; omega)
 ·refine hJ (v = 9 ∨ v = 15) (fun j hj => ifE (fun h => hj _ (by simp; omega)) (fun h => hj _ (by simp; omega))) (fun h2 => fin _ _ ?_ ?_) (fun h2 => ifE (fun h3 => fin _ _ ?_ ?_) (fun h3 => ifE (fun h4 => fin _ _ ?_ ?_) (fun h4 => fin _ _ ?_ ?_)))
  all_goals
   first
   | (unfold leastV lowV; repeat' split) <;> first | rfl | (exfalso; simp only [cU] at *; omega)
   | (unfold mostV highV; repeat' split) <;> first | rfl | (exfalso; simp only [cU] at *; omega)
theorem most_pos {v : Int} : mostV v > 0 ↔ cU v := by
 unfold mostV highV
 split
 ·rename_i h; refine ⟨fun _ => h, fun _ => ?_⟩; split <;> omega
 ·rename_i h; refine ⟨fun q => by omega, fun q => absurd q h⟩
theorem rcounted_c {p : Pt} {Q : Bool × Unit -> Heap -> Prop} (hq : ∀ r : Bool, (r = true ↔ okCount p.Verb p.Count) -> Q (r, ()) H) : CALL P [T_bool] n_ref05_counted [T_G_api_Part.enc p] H Q := by
 apply c_ref05_counted
 unfold S_ref05_counted
 have key : okCount p.Verb p.Count ↔ leastV p.Verb ≤ p.Count ∧ p.Count ≤ mostV p.Verb ∧ (0 ≤ leastV p.Verb ∨ p.Count ≠ 0) := by
  have hl : (lowV p.Verb = -99 ∨ lowV p.Verb = -9 ∨ (lowV p.Verb = 0 ∧ p.Verb = 14) ∨ lowV p.Verb = 1) ∧ (p.Verb = 14 -> lowV p.Verb = 0) := by
   unfold lowV
   repeat' split
   all_goals omega
  unfold okCount leastV mostV
  by_cases hu : cU p.Verb
  ·simp only [if_pos hu]; omega
  ·simp only [if_neg hu]; omega
 refine rcounts_c (JD (H := H) (leastV p.Verb ≤ p.Count ∧ p.Count ≤ mostV p.Verb ∧ (0 ≤ leastV p.Verb ∨ p.Count ≠ 0)) (fun j hj => ifD (fun h1 => ifD (fun h2 => ifD (fun h3 => hj _ ?_) (fun h3 => hj _ ?_)) (fun h2 => hj _ ?_)) (fun h1 => hj _ ?_)) (hq _ (by rw [decide_eq_true_eq, key])))
 all_goals (dsimp only at *; simp; omega)
theorem ruses_c {v w : Int} {Q : Bool × Bool × Bool × Bool × Bool × Unit -> Heap -> Prop} (hq : Q (decide (cU v), decide (sU v w), decide (tU v w), decide (v = 9), decide (v = 7), ()) H) : CALL P [T_bool, T_bool, T_bool, T_bool, T_bool] n_ref05_Uses [.int .u8 v, .int .u8 w] H Q := by
 apply c_ref05_Uses
 unfold S_ref05_Uses
 have fin : ∀ a b c d e : Bool, (a = true ↔ cU v) -> (b = true ↔ sU v w) -> (c = true ↔ tU v w) -> (d = true ↔ v = 9) -> (e = true ↔ v = 7) -> Q (a, b, c, d, e, ()) H := fun a b c d e h1 h2 h3 h4 h5 => by
  have e1 : a = decide (cU v) := by rw [Bool.eq_iff_iff, h1]; simp
  have e2 : b = decide (sU v w) := by rw [Bool.eq_iff_iff, h2]; simp
  have e3 : c = decide (tU v w) := by rw [Bool.eq_iff_iff, h3]; simp
  have e4 : d = decide (v = 9) := by rw [Bool.eq_iff_iff, h4]; simp
  have e5 : e = decide (v = 7) := by rw [Bool.eq_iff_iff, h5]; simp
  rw [e1, e2, e3, e4, e5]; exact hq
 have hc : (decide (mostV v > 0)) = true ↔ cU v := by rw [decide_eq_true_eq, most_pos]
 refine rcounts_c (JOIN_of (ifE (fun h11 => ifE (fun h12 => ?_) (fun h12 => ifE (fun h13 => ?_) (fun h13 => ?_))) (fun h11 => ifE (fun h12 => ?_) (fun h12 => ifE (fun h13 => ?_) (fun h13 => ?_)))))
 all_goals exact fin _ _ _ _ _ hc (by simp [sU]; try omega) (by simp [tU]; try omega) (by simp) (by simp)
theorem rchk_c {p : Pt} (ok : OkP p) {Q : Int × Unit -> Heap -> Prop} (hq : Q (chkP p, ()) H) : CALL P [T_int .i64] n_ref05_Check [T_G_api_Part.enc p] H Q := by
 apply c_ref05_Check
 unfold S_ref05_Check
 rw [chkP_eq] at hq
 refine hJ (out6 p) (fun j hj => ?_) (fun h => by rwa [if_pos h] at hq) (fun h1 => ?_)
 ·unfold out6 at hj
  exact ifD (fun h => hj _ (by simp; omega)) (fun h1 => ifD (fun h => hj _ (by simp; omega)) (fun h2 => ifD (fun h => hj _ (by simp; omega)) (fun h3 => ifD (fun h => hj _ (by simp; omega)) (fun h4 => ifD (fun h => hj _ (by simp; omega)) (fun h5 => hj _ (by simp; omega))))))
 rw [if_neg h1] at hq
 refine ruses_c ?_
 refine hJ (bad8 p) (fun j hj => ?_) (fun h => by rwa [if_pos h] at hq) (fun h2 => ?_)
 ·unfold bad8 at hj
  exact rkind_c ⟨rfl, rwants_c (ifN (fun h => hj _ (by dsimp only at h; simp; omega)) (fun h => ifE (fun h2 => hj _ (by dsimp only at h; simp; omega)) (fun h2 => hj _ (by dsimp only at h; simp; omega))))⟩
 rw [if_neg h2] at hq
 refine rabout_c fun r hr2 => ifB_of (fun e => ?_) (fun e => ?_)
 ·rw [if_pos (fun q => by rw [hr2.2 q] at e; cases e)] at hq; exact hq
 have e3 : okAbout p := hr2.1 (by simpa using e)
 rw [if_neg (fun q => q e3)] at hq
 refine rcounted_c fun r hr3 => ifB_of (fun e => ?_) (fun e => ?_)
 ·rw [if_pos (fun q => by rw [hr3.2 q] at e; cases e)] at hq; exact hq
 have e4 : okCount p.Verb p.Count := hr3.1 (by simpa using e)
 rw [if_neg (fun q => q e4)] at hq
 have hs := ok.s
 have ht := ok.t
 have hm := ok.m
 rw [i64w (x := p.Suit) (by omega) (by omega), i64w (x := p.Trait) (by omega) (by omega), i64w (x := p.Mark) (by omega) (by omega)]
 refine hJ (¬ okF p) (fun j hj => ?_) (fun h => by rwa [if_pos h] at hq) (fun h5 => ?_)
 ·refine rwithin_c fun r1 hr1 => ifB_of (fun e => hj _ ?_) (fun e => rwithin_c fun r2 hr2 => ifB_of (fun e2 => hj _ ?_) (fun e2 => rwithin_c fun r3 hr3 => hj _ ?_))
  ·simp only [true_iff]; exact fun q => by rw [hr1.2 q.1] at e; cases e
  ·simp only [true_iff]; exact fun q => by rw [hr2.2 q.2.1] at e2; cases e2
  ·have g1 := hr1.1 (by simpa using e)
   have g2 := hr2.1 (by simpa using e2)
   rw [Bool.not_eq_true', bnot, hr3]
   exact ⟨fun q k => q k.2.2, fun q k => q ⟨g1, g2, k⟩⟩
 rw [if_neg h5] at hq
 refine hJ (badN p) (fun j hj => ?_) (fun h => by rwa [if_pos h] at hq) (fun h6 => by rwa [if_neg h6] at hq)
 have hn : p.Name.toList = p.Name.data.toList := ByteArray.toList_eq _
 rw [hn, tl_empty]
 unfold badN at hj
 by_cases h7 : p.Verb = 7
 ·rw [if_pos h7] at hj
  simp only [h7, decide_true]
  refine ifB_t rfl (r5name_c (ifQ (fun h => hj _ (by simpa using h)) (fun h => ifB_f rfl (hj _ (by simpa using h)))))
 ·rw [if_neg h7] at hj
  simp only [h7, decide_false]
  exact ifB_f rfl (ifB_t rfl (hj _ (by simp)))
end
end Go.Proofs.YtolekmhhkopooaaGreatDoor.Zq
end
section
namespace Go.Proofs.YtolekmhhkopooaaGreatDoor.Zq
section
end
section
def bl (B : Option Addr) : List Nat := match B with | some a => [a.block] | none => []
def OwJ (T : Tag) (H : Heap) (s : Sl) (l : List T.α) : Prop :=
 s.len = l.length ∧ s.len ≤ s.cap ∧ s.cap ≤ 9223372036854775807 ∧ (s.p = none ∧ l = [] ∧ s.cap = 0 ∨ ∃ c r, s.p = some ⟨c, 0, none⟩ ∧ H[c]? = some (.row (fl T r) T.n false false true) ∧ s.cap ≤ r.length ∧ r.take s.len = l)
theorem Ow.j {T : Tag} {H : Heap} {s : Sl} {l sp : List T.α} (h : Ow T H s l sp) : OwJ T H s l := by
 obtain ⟨h1, h2, h0, ⟨h3, h4, h5⟩ | ⟨c, h4, h5⟩⟩ := h
 ·subst h4; subst h5; exact ⟨h1, by omega, h0, .inl ⟨h3, rfl, by simpa using h2⟩⟩
 ·exact ⟨h1, by omega, h0, .inr ⟨c, l ++ sp, h4, h5, by simp [h2], by rw [h1]; simp⟩⟩
theorem OwJ.nil (T : Tag) (H : Heap) : OwJ T H ⟨none, 0, 0⟩ [] := (Ow.nil T H).j
theorem OwJ.slf {T : Tag} {H : Heap} {s : Sl} {l : List T.α} (h : OwJ T H s l) : SlF T H s l := by
 obtain ⟨h1, _, _, ⟨h3, h4, h5⟩ | ⟨c, r, h3, h4, _, h6⟩⟩ := h
 ·exact ⟨h1, .inl ⟨h3, h4, h5⟩⟩
 ·refine ⟨h1, .inr (.inr ⟨c, [], fl T (r.drop s.len), T.n, false, false, h3, ?_⟩)⟩
  rw [h4, ← h6, List.nil_append, ← fl_app, List.take_append_drop]
theorem OwJ.frs {T : Tag} {H H' : Heap} {s : Sl} {l : List T.α} {B : List Nat} (h : OwJ T H s l) (f : Frs B H H') (o : ∀ d ∈ bl s.p, d ∉ B) : OwJ T H' s l := by
 obtain ⟨h1, h2, h0, h3 | ⟨c, r, h4, h5, h6⟩⟩ := h
 ·exact ⟨h1, h2, h0, .inl h3⟩
 ·exact ⟨h1, h2, h0, .inr ⟨c, r, h4, f.get (o c (by rw [h4]; simp [bl])) h5, h6⟩⟩
theorem OwJ.lt {T : Tag} {H : Heap} {s : Sl} {l : List T.α} (h : OwJ T H s l) : ∀ d ∈ bl s.p, d < H.length := by
 obtain ⟨_, _, _, ⟨h3, _⟩ | ⟨c, r, h4, h5, _⟩⟩ := h
 ·rw [h3]; simp [bl]
 ·rw [h4]; simp [bl]; exact get_lt h5
theorem OwJ.ptr {T : Tag} {H : Heap} {s : Sl} {l : List T.α} (h : OwJ T H s l) : s.p = none ∨ ∃ c, s.p = some ⟨c, 0, none⟩ ∧ bl s.p = [c] := by
 obtain ⟨_, _, _, ⟨h3, _⟩ | ⟨c, r, h4, h5, _⟩⟩ := h
 ·exact .inl h3
 ·exact .inr ⟨c, h4, by rw [h4]; rfl⟩
theorem OwJ.drop {E : Env} {T : Tag} {ts : TypeId} {z : T.α} (ty : TyS E T ts z) {H : Heap} {s : Sl} {l : List T.α} (h : OwJ T H s l) {i : Int} {n : Nat} (hi : i = n) (hn : n ≤ l.length) (hp : s.p ≠ none) {k : Sl -> Prop} (hk : ∀ s', SlF T H s' (l.drop n) -> k s') : GENV T_sl (aSlice E ts s.v (some (.int .i64 i)) none none H) k := by
 obtain ⟨⟨ti, e, te, e1, e2, e3, e4, e5, e6, e7⟩, hn0, hT, hone⟩ := ty
 subst hi
 obtain ⟨p, m, c⟩ := s
 obtain ⟨g1, g2, g0, ⟨g3, g4, g5⟩ | ⟨d, r, g3, g4, g5, g6⟩⟩ := h
 ·exact absurd g3 hp
 ·simp only at g1 g2 g3 g5 g6 g0; subst g3
  refine ⟨⟨some ⟨d, if c = n then 0 else 0 + n * te.size, none⟩, m - n, c - n⟩, ?_, hk _ ⟨by simp; omega, ?_⟩⟩
  ·unfold aSlice
   have hex : Zq.exact H d 0 c = true := by unfold Zq.exact; rw [g4]; rfl
   simp only [e1, e2, e3, Option.bind_some, Sl.v, natOf, Option.isSome_none, Bool.false_and, Bool.false_eq_true, if_false, hex, or_true, if_true]
   rw [if_pos (by omega)]
   simp only [Option.bind_some, Int.toNat_natCast]
   rw [if_pos (by omega)]
   simp [Tag.enc, encC]
  ·refine .inr (.inr ?_)
   by_cases ec : c = n
   ·have : l.drop n = [] := by rw [List.drop_eq_nil_iff]; omega
    exact ⟨d, [], fl T r, T.n, false, false, by simp [ec], by rw [g4, this]; rfl⟩
   ·refine ⟨d, fl T (r.take n), fl T (r.drop m), T.n, false, false, ?_, ?_⟩
    ·simp only [if_neg ec, fl_len hT, List.length_take, e4, Nat.zero_add]
     rw [Nat.min_eq_left (by omega)]
    ·have : r = r.take n ++ (l.drop n ++ r.drop m) := by
      rw [← g6]
      conv => lhs; rw [← List.take_append_drop n r]
      congr 1
      rw [← List.take_append_drop m r, List.take_append_drop]
      conv => lhs; rw [← List.take_append_drop m r]
      rw [List.drop_append_of_le_length (by simp; omega)]
     rw [g4]
     conv => lhs; rw [this]
     rw [fl_app, fl_app]
theorem Ow.st {T : Tag} (hT : ∀ x, (T.cells x).length = T.n) (hone : ∀ x, (T.cells x).all cell1 = true) {H : Heap} {s : Sl} {l sp : List T.α} (h : Ow T H s l sp) {i : Int} {k : Nat} (hi : i = k) (hk : k < l.length) (x : T.α) {sz : Nat} (hz : sz = T.n) {K : Heap -> Prop}
  (hK : ∀ H', Ow T H' s (l.set k x) sp -> After s H H' -> H'.length = H.length -> K H') : IDX s.p s.len i sz fun b o => ST H b o (T.cells x) K := by
 obtain ⟨h1, h2, h0, ⟨_, h3, _⟩ | ⟨c, h3, h4⟩⟩ := h
 ·rw [h3] at hk; simp at hk
 ·have hlt := get_lt h4
  unfold IDX NIL
  rw [h3]
  subst hi
  refine ⟨⟨by omega, by omega⟩, ?_⟩
  have hcut := fl_cut l k l[k] (List.getElem?_eq_getElem hk)
  refine ST_of (fl T (l.take k)) (T.cells l[k]) (fl T (l.drop (k + 1)) ++ fl T sp) h4 (by rw [fl_app, hcut]; simp [List.append_assoc]) (by rw [fl_len hT, List.length_take, Nat.min_eq_left (by omega), hz]; simp) (by rw [hT, hT]) (hone x) ?_
  refine hK _ ⟨by simpa using h1, by simpa using h2, h0, .inr ⟨c, h3, ?_⟩⟩ ⟨by simp, fun d _ hd => by rw [List.getElem?_set_ne (by rintro rfl; exact hd h3)]⟩ (by simp)
  rw [set_get hlt, fl_app, List.set_eq_take_append_cons_drop, if_pos hk]
  simp [fl]
end
end Go.Proofs.YtolekmhhkopooaaGreatDoor.Zq
end
section
namespace Go.Proofs.YtolekmhhkopooaaGreatDoor.Zq
open Zv
abbrev TP : Tag := T_G_api_Part
abbrev TC : Tag := T_G_api_Card
theorem hTP (x : Pt) : (TP.cells x).length = TP.n := rfl
theorem hTC (x : G_api_Card) : (TC.cells x).length = TC.n := rfl
def zP : Pt := ⟨0, 0, 0, 0, 0, 0, 0, ByteArray.mk #[]⟩
theorem tyP : TyS E TP 111 zP := ⟨⟨_, _, _, rfl, rfl, rfl, rfl, by decide, by decide, rfl⟩, by decide, hTP, fun _ => rfl⟩
section
variable {H : Heap}
structure OkG (g : G_api_Card) : Prop where
 nm : g.Name.size ≤ 9223372036854775807
 s : 0 ≤ g.Suit ∧ g.Suit ≤ 255
 k : 0 ≤ g.Kind ∧ g.Kind ≤ 255
 t : 0 ≤ g.Traits ∧ g.Traits ≤ 65535
theorem bnil (l : List UInt8) : ((ByteArray.mk l.toArray).toList == (ByteArray.mk #[]).toList) = l.isEmpty := by
 rw [ByteArray.toList_mk, tl_empty]; cases l <;> rfl
theorem suitName_c {s : Int} {Q : ByteArray × Unit -> Heap -> Prop} (hq : ∀ n : ByteArray, ((n.toList == (ByteArray.mk #[]).toList) = true ↔ ¬ (1 ≤ s ∧ s ≤ 6)) -> Q (n, ()) H) : CALL P [T_str] n_suit_Name [.int .u8 s] H Q := by
 apply c_suit_Name
 unfold S_suit_Name
 refine ifE (fun h => hq _ ?_) (fun h1 => ifE (fun h => hq _ ?_) (fun h2 => ifE (fun h => hq _ ?_) (fun h3 => ifE (fun h => hq _ ?_) (fun h4 => ifE (fun h => hq _ ?_) (fun h5 => ifE (fun h => hq _ ?_) (fun h6 => hq _ ?_))))))
 ·rw [bnil [97, 105, 114]]; simp; omega
 ·rw [bnil [101, 97, 114, 116, 104]]; simp; omega
 ·rw [bnil [102, 105, 114, 101]]; simp; omega
 ·rw [bnil [119, 97, 116, 101, 114]]; simp; omega
 ·rw [bnil [118, 111, 105, 100]]; simp; omega
 ·rw [bnil [103, 111, 108, 100]]; simp; omega
 ·rw [bnil []]; simp; omega
theorem word_c {s : Int} {Q : ByteArray × Unit -> Heap -> Prop} (hq : ∀ n : ByteArray, ((n.toList == (ByteArray.mk #[]).toList) = true ↔ ¬ (1 ≤ s ∧ s ≤ 3)) -> Q (n, ()) H) : CALL P [T_str] n_card_word [.int .u8 s] H Q := by
 apply c_card_word
 unfold S_card_word
 refine ifE (fun h => hq _ ?_) (fun h1 => ifE (fun h => hq _ ?_) (fun h2 => ifE (fun h => hq _ ?_) (fun h3 => hq _ ?_)))
 ·rw [bnil [117, 110, 105, 116]]; simp; omega
 ·rw [bnil [115, 112, 101, 108, 108]]; simp; omega
 ·rw [bnil [114, 101, 108, 105, 99]]; simp; omega
 ·rw [bnil []]; simp; omega
theorem cwithin_c {x m : Int} {Q : Bool × Unit -> Heap -> Prop} (hq : Q (decide (0 ≤ x ∧ x ≤ m), ()) H) : CALL P [T_bool] n_card_within [.int .i64 x, .int .i64 m] H Q := by
 apply c_card_within
 unfold S_card_within
 exact JD (H := H) (0 ≤ x ∧ x ≤ m) (fun j hj => ifD (fun h => hj _ (by simp; omega)) (fun h => hj _ (by simp; omega))) hq
theorem r6within_c {x lo m : Int} {Q : Bool × Unit -> Heap -> Prop} (hq : Q (decide (lo ≤ x ∧ x ≤ m), ()) H) : CALL P [T_bool] n_ref06_within [.int .i64 x, .int .i64 lo, .int .i64 m] H Q := by
 apply c_ref06_within
 unfold S_ref06_within
 exact JD (H := H) (lo ≤ x ∧ x ≤ m) (fun j hj => ifD (fun h => hj _ (by simp; omega)) (fun h => hj _ (by simp; omega))) hq
theorem traits_c {x : Int} (h0 : 0 ≤ x) {Q : Bool × Unit -> Heap -> Prop} (hq : Q (decide (x < 256), ()) H) : CALL P [T_bool] n_trait_Check [.int .u16 x] H Q := by
 apply c_trait_Check
 unfold S_trait_Check
 refine ⟨by omega, Qd (Q := fun r => Q r H) hq ?_⟩
 have e : (2 : Int) ^ (min (8 : Int).toNat (IntKind.bits .u16)) = 256 := by decide
 rw [e, Int.fdiv_eq_ediv_of_nonneg _ (by omega)]
 congr 1
 rw [Bool.eq_iff_iff]; simp only [decide_eq_true_eq, beq_iff_eq]; omega
theorem rtraits_c {x : Int} {Q : Bool × Unit -> Heap -> Prop} (hq : Q (decide (x < 256), ()) H) : CALL P [T_bool] n_ref04_Check [.int .u16 x] H Q := by
 apply c_ref04_Check
 unfold S_ref04_Check
 exact hq
def bad1 (g : G_api_Card) : Prop := ¬ (1 ≤ g.Suit ∧ g.Suit ≤ 6) ∨ ¬ (1 ≤ g.Kind ∧ g.Kind ≤ 3)
def bad2 (g : G_api_Card) : Prop := ¬ (0 ≤ g.Cost ∧ g.Cost ≤ 10) ∨ ¬ (0 ≤ g.Power ∧ g.Power ≤ 99) ∨ ¬ (0 ≤ g.Health ∧ g.Health ≤ 99)
def bad3 (g : G_api_Card) : Prop := g.Kind = 1 ∧ g.Health = 0 ∨ g.Kind ≠ 1 ∧ (g.Power ≠ 0 ∨ g.Health ≠ 0)
def bad4 (g : G_api_Card) : Prop := ¬ (g.Traits < 256) ∨ g.Kind = 2 ∧ g.Token = true
open Classical in
theorem chkF_eq (g : G_api_Card) (ps : List Pt) : chkF ⟨g, ps⟩ = if ¬ okNm g.Name then 4 else if bad1 g then 8 else if bad2 g then 2 else if bad3 g then 8 else if bad4 g then 8 else if 4 < ps.length then 3 else 0 := by
 unfold chkF bad1 bad2 bad3 bad4
 congr
theorem kind_g {g : G_api_Card} {j : (Bool × Unit) × Unit -> Heap -> Prop} (hj : ∀ r : Bool, (r = true ↔ bad3 g) -> j ((r, ()), ()) H) :
  ifB (g.Kind == 1) (ifB (g.Health == 0) (j ((true, ()), (())) H) (ifB (!(g.Kind == 1)) (ifB (g.Power != 0) (j ((true, ()), (())) H) (j ((g.Health != 0, ()), (())) H)) (j ((false, ()), (())) H))) (ifB (!(g.Kind == 1)) (ifB (g.Power != 0) (j ((true, ()), (())) H) (j ((g.Health != 0, ()), (())) H)) (j ((false, ()), (())) H)) := by
 unfold bad3 at hj
 refine ifE (fun h => ifE (fun h2 => hj _ (by simp; omega)) (fun h2 => ifB_f (by simp [h]) (hj _ (by simp; omega)))) (fun h => ifB_t (by simpa using h) (ifN (fun h2 => hj _ (by simp; omega)) (fun h2 => hj _ (by simp; omega))))
theorem tok_g {g : G_api_Card} {j : (Bool × Unit) × Unit -> Heap -> Prop} (hj : ∀ r : Bool, (r = true ↔ bad4 g) -> j ((r, ()), ()) H) :
  ifB (!decide (g.Traits < 256)) (j ((true, ()), (())) H) (ifB (g.Kind == 2) (j ((g.Token, ()), (())) H) (j ((false, ()), (())) H)) := by
 unfold bad4 at hj
 refine ifQ (fun h => hj _ (by simp; omega)) (fun h => ifE (fun h2 => hj _ ?_) (fun h2 => hj _ (by simp; omega)))
 constructor
 ·exact fun q => .inr ⟨h2, q⟩
 ·rintro (q | q)
  ·exact absurd h q
  ·exact q.2
theorem face_c {g : G_api_Card} {ps : List Pt} (ok : OkG g) (hl : g.Parts.len = ps.length) {Q : Int × Unit -> Heap -> Prop} (hq : Q (chkF ⟨g, ps⟩, ()) H) : CALL P [T_int .i64] n_card_face [TC.enc g] H Q := by
 apply c_card_face
 unfold S_card_face
 rw [chkF_eq] at hq
 refine cnamed_c ok.nm (ifQ (fun h => by rwa [if_pos h] at hq) (fun h0 => ?_))
 rw [if_neg (fun q => q h0)] at hq
 refine hJ (bad1 g) (fun j hj => ?_) (fun h => by rwa [if_pos h] at hq) (fun h1 => ?_)
 ·unfold bad1 at hj
  refine suitName_c fun n hn => ifB_of (fun e => hj _ ?_) (fun e => word_c fun m hm => hj _ ?_)
  ·have := hn.1 e; simp; omega
  ·have : 1 ≤ g.Suit ∧ g.Suit ≤ 6 := Classical.byContradiction fun q => by rw [hn.2 q] at e; cases e
   rw [hm]; omega
 rw [if_neg h1] at hq
 refine hJ (bad2 g) (fun j hj => ?_) (fun h => by rwa [if_pos h] at hq) (fun h2 => ?_)
 ·unfold bad2 at hj
  exact cwithin_c (ifQ (fun h => hj _ (by simp; omega)) (fun h => cwithin_c (ifQ (fun h => hj _ (by simp; omega)) (fun h => cwithin_c (hj _ (by simp; omega))))))
 rw [if_neg h2] at hq
 refine hJ (bad3 g) (fun j hj => kind_g hj) (fun h => by rwa [if_pos h] at hq) (fun h3 => ?_)
 rw [if_neg h3] at hq
 refine hJ (bad4 g) (fun j hj => traits_c ok.t.1 (tok_g hj)) (fun h => by rwa [if_pos h] at hq) (fun h4 => ?_)
 rw [if_neg h4] at hq
 exact ifD (fun h => by rwa [if_pos (by omega)] at hq) (fun h => by rwa [if_neg (by omega)] at hq)
def badK (k : Int) (p : Pt) : Prop := k = 2 ∧ p.When ≠ 1 ∨ k = 3 ∧ p.When = 4
open Classical in
theorem chkPs_cons (k : Int) (p : Pt) (r : List Pt) : chkPs k (p :: r) = if chkP p ≠ 0 then chkP p else if badK k p then 8 else chkPs k r := by
 unfold badK
 rw [chkPs]
 congr
theorem parts_loop {k : Int} {ps : List Pt} {Qv : Int -> Prop} {F : ((Int × Unit) × Unit -> Heap -> Prop) -> (Int × Unit) × Unit -> Heap -> Prop}
  (hF : ∀ (G : (Int × Unit) × Unit -> Heap -> Prop) (n : Nat), (∀ p, ps[n]? = some p -> (chkP p ≠ 0 -> Qv (chkP p)) -> (chkP p = 0 -> badK k p -> Qv 8) -> (chkP p = 0 -> ¬ badK k p -> G (((n : Int) + 1, ()), ()) H) -> F G (((n : Int), ()), ()) H) ∧ (n = ps.length -> Qv 0 -> F G (((n : Int), ()), ()) H))
  (hq : Qv (chkPs k ps)) : LOOP F ((0, ()), ()) H := by
 refine loop_of (fun (t : (Int × Unit) × Unit) H' => H' = H ∧ ∃ n : Nat, t.1.1 = n ∧ n ≤ ps.length ∧ Qv (chkPs k (ps.drop n))) (fun t => ps.length - t.1.1.toNat) ?_ ⟨rfl, 0, rfl, Nat.zero_le _, by simpa using hq⟩
 rintro G ⟨⟨i, _⟩, _⟩ H' ⟨rfl, n, hi, hn, ha⟩ hG
 simp only at hi; subst hi
 dsimp only at hG
 obtain ⟨k1, k2⟩ := hF G n
 by_cases e : n = ps.length
 ·refine k2 e ?_
  rw [e, List.drop_length] at ha
  exact ha
 ·have hlt : n < ps.length := by omega
  rw [List.drop_eq_getElem_cons hlt, chkPs_cons] at ha
  refine k1 _ (List.getElem?_eq_getElem hlt) (fun h => by rwa [if_pos h] at ha) (fun h h2 => by rwa [if_neg (fun q => q h), if_pos h2] at ha) (fun h h2 => hG _ _ ⟨rfl, n + 1, by simp, hlt, by rwa [if_neg (fun q => q h), if_neg h2] at ha⟩ (by simp; omega))
theorem kind2_g {k : Int} {w : Int} {p : Pt} (hw : p.When = w) {j : (Bool × Unit) × Unit -> Heap -> Prop} (hj : ∀ r : Bool, (r = true ↔ badK k p) -> j ((r, ()), ()) H) :
  ifB (k == 2) (ifB (w != 1) (j ((true, ()), (())) H) (ifB (k == 3) (j ((w == 4, ()), (())) H) (j ((false, ()), (())) H))) (ifB (k == 3) (j ((w == 4, ()), (())) H) (j ((false, ()), (())) H)) := by
 subst hw
 unfold badK at hj
 exact ifE (fun h => ifN (fun h2 => hj _ (by simp; omega)) (fun h2 => ifE (fun h3 => by omega) (fun h3 => hj _ (by simp; omega)))) (fun h => ifE (fun h3 => hj _ (by simp; omega)) (fun h3 => hj _ (by simp; omega)))
theorem ccheck_c {g : G_api_Card} {ps : List Pt} (ok : OkG g) (hs : SlF TP H g.Parts ps) (op : ∀ p ∈ ps, OkP p) {Q : Int × Unit -> Heap -> Prop} (hq : Q (chkC ⟨g, ps⟩, ()) H) : CALL P [T_int .i64] n_card_Check [TC.enc g] H Q := by
 apply c_card_Check
 unfold S_card_Check
 have hl := hs.1
 unfold chkC at hq
 refine face_c ok hl (ifN (fun h => by rwa [if_neg h] at hq) (fun h => JOIN_of ?_))
 dsimp only at h
 have h4 : ps.length ≤ 4 := chkF_len (c := ⟨g, ps⟩) h
 rw [if_pos h] at hq
 refine parts_loop (k := g.Kind) (ps := ps) (Qv := fun r => Q (r, ()) H) (fun G n => ⟨fun p hx k1 k2 k3 => ?_, fun e k => ifB_f (decide_eq_false (by simp only; omega)) k⟩) hq
 have hlt := (List.getElem?_eq_some_iff.1 hx).1
 refine ifB_t (decide_eq_true (by simp only; omega)) ?_
 refine idx_ldF (T := TP) hTP hs rfl hx rfl (pchk_c (op p (List.mem_of_getElem? hx)) (ifN (fun h => k1 h) (fun h => ?_)))
 dsimp only at h
 refine hJ (badK g.Kind p) (fun j hj => kind2_g rfl hj) (fun h2 => k2 h h2) (fun h2 => ?_)
 dsimp only
 rw [i64w (by omega) (by omega)]
 exact k3 h h2
theorem idx_when {s : Sl} {ps : List Pt} (h : SlF TP H s ps) {n : Nat} {p : Pt} (hx : ps[n]? = some p) {K : Int -> Prop} (hk : K p.When) : IDX s.p s.len (n : Int) 8 fun b o => LD (T_int .u8) H b (o + 0) K := by
 have hl := (List.getElem?_eq_some_iff.1 hx).1
 obtain ⟨h1, ⟨_, h2, _⟩ | ⟨_, _, _, h2, _⟩ | ⟨b, A, B, z, o, ro, h3, h4⟩⟩ := h
 ·subst h2; simp at hl
 ·subst h2; simp at hl
 ·unfold IDX NIL
  rw [h3]
  refine ⟨⟨by omega, by omega⟩, ?_⟩
  refine LD_of (T := T_int .u8) p.When (A ++ fl TP (ps.take n)) ((TP.cells p).drop 1 ++ (fl TP (ps.drop (n + 1)) ++ B)) h4 ?_ ?_ rfl hk
  ·rw [fl_cut (T := TP) ps n p hx]; simp [List.append_assoc]
  ·rw [List.length_append, fl_len hTP, List.length_take, Nat.min_eq_left (by omega), Int.toNat_natCast]; rfl
theorem r6check_c {g : G_api_Card} {ps : List Pt} (ok : OkG g) (hs : SlF TP H g.Parts ps) (op : ∀ p ∈ ps, OkP p) {Q : Int × Unit -> Heap -> Prop} (hq : Q (chkC ⟨g, ps⟩, ()) H) : CALL P [T_int .i64] n_ref06_Check [TC.enc g] H Q := by
 apply c_ref06_Check
 unfold S_ref06_Check
 have hl := hs.1
 have o1 := ok.s
 have o2 := ok.k
 unfold chkC at hq
 have fin : ∀ r, r ≠ 0 -> chkF ⟨g, ps⟩ = r -> Q (r, ()) H := fun r h e => by rw [e, if_neg h] at hq; exact hq
 have e := chkF_eq g ps
 refine r6name_c (ifQ (fun h => fin 4 (by decide) (by rw [e, if_pos h])) (fun h0 => ?_))
 rw [if_neg (fun q => q h0)] at e
 rw [i64w (x := g.Suit) (by omega) (by omega), i64w (x := g.Kind) (by omega) (by omega)]
 refine hJ (bad1 g) (fun j hj => ?_) (fun h => fin 8 (by decide) (by rw [e, if_pos h])) (fun h1 => ?_)
 ·unfold bad1 at hj
  exact r6within_c (ifQ (fun h => hj _ (by simp; omega)) (fun h => r6within_c (hj _ (by simp; omega))))
 rw [if_neg h1] at e
 refine hJ (bad2 g) (fun j hj => ?_) (fun h => fin 2 (by decide) (by rw [e, if_pos h])) (fun h2 => ?_)
 ·unfold bad2 at hj
  exact r6within_c (ifQ (fun h => hj _ (by simp; omega)) (fun h => r6within_c (ifQ (fun h => hj _ (by simp; omega)) (fun h => r6within_c (hj _ (by simp; omega))))))
 rw [if_neg h2] at e
 refine hJ (bad3 g) (fun j hj => kind_g hj) (fun h => fin 8 (by decide) (by rw [e, if_pos h])) (fun h3 => ?_)
 rw [if_neg h3] at e
 refine hJ (bad4 g) (fun j hj => rtraits_c (tok_g hj)) (fun h => fin 8 (by decide) (by rw [e, if_pos h])) (fun h4 => ?_)
 rw [if_neg h4] at e
 refine ifD (fun h => fin 3 (by decide) (by rw [e, if_pos (by omega)])) (fun h => JOIN_of ?_)
 rw [if_neg (by omega)] at e
 have h4 : ps.length ≤ 4 := by omega
 rw [if_pos e] at hq
 refine parts_loop (k := g.Kind) (ps := ps) (Qv := fun r => Q (r, ()) H) (fun G n => ⟨fun p hx k1 k2 k3 => ?_, fun e k => ifB_f (decide_eq_false (by simp only; omega)) k⟩) hq
 have hlt := (List.getElem?_eq_some_iff.1 hx).1
 refine ifB_t (decide_eq_true (by simp only; omega)) ?_
 refine idx_ldF (T := TP) hTP hs rfl hx rfl (rchk_c (op p (List.mem_of_getElem? hx)) (ifN (fun h => k1 h) (fun h => ?_)))
 dsimp only at h
 refine hJ (badK g.Kind p) (fun j hj => ?_) (fun h2 => k2 h h2) (fun h2 => ?_)
 ·unfold badK at hj
  refine ifE (fun h => idx_when hs hx (ifN (fun h2 => hj _ (by simp; omega)) (fun h2 => ifE (fun h3 => by omega) (fun h3 => hj _ (by simp; omega))))) (fun h => ifE (fun h3 => idx_when hs hx (hj _ (by simp; omega))) (fun h3 => hj _ (by simp; omega)))
 ·dsimp only
  rw [i64w (by omega) (by omega)]
  exact k3 h h2
end
end Go.Proofs.YtolekmhhkopooaaGreatDoor.Zq
end
section
namespace Go.Proofs.YtolekmhhkopooaaGreatDoor.Zq
open Zv
abbrev TM : Tag := T_G_api_MarkInfo
theorem hTM (x : G_api_MarkInfo) : (TM.cells x).length = TM.n := rfl
theorem hTStr (x : ByteArray) : (T_str.cells x).length = T_str.n := rfl
section
variable {H : Heap} {b : Nat}
def bkRow (se : Bool) (n : Int) (cs : List G_api_Card) (ns : List ByteArray) (ms : List G_api_MarkInfo) : List Value := .bool true :: .bool se :: .int .i64 n :: (fl TC cs ++ (fl T_str ns ++ fl TM ms))
structure BW (H : Heap) (b : Nat) (se : Bool) (n : Int) (cs : List G_api_Card) (ns : List ByteArray) (ms : List G_api_MarkInfo) : Prop where
 row : ∃ sz, H[b]? = some (.row (bkRow se n cs ns ms) sz false false true)
 c : cs.length = 64
 n : ns.length = 9
 m : ms.length = 5
variable {se : Bool} {n : Int} {cs : List G_api_Card} {ns : List ByteArray} {ms : List G_api_MarkInfo}
theorem BW.lt (h : BW H b se n cs ns ms) : b < H.length := by obtain ⟨sz, r⟩ := h.row; exact get_lt r
theorem BW.frs {H' : Heap} {F : List Nat} (h : BW H b se n cs ns ms) (f : Frs F H H') (hb : b ∉ F) : BW H' b se n cs ns ms := by
 obtain ⟨sz, r⟩ := h.row
 exact ⟨⟨sz, f.get hb r⟩, h.c, h.n, h.m⟩
theorem BW.ld_made (h : BW H b se n cs ns ms) {o : Nat} (ho : o = 0) {K : Bool -> Prop} (hk : K true) : LD T_bool H b o K := by
 obtain ⟨sz, r⟩ := h.row
 exact LD_of (T := T_bool) true [] _ r rfl ho rfl hk
theorem BW.ld_se (h : BW H b se n cs ns ms) {o : Nat} (ho : o = 1) {K : Bool -> Prop} (hk : K se) : LD T_bool H b o K := by
 obtain ⟨sz, r⟩ := h.row
 exact LD_of (T := T_bool) se [.bool true] _ r rfl ho rfl hk
theorem BW.ld_n (h : BW H b se n cs ns ms) {o : Nat} (ho : o = 2) {K : Int -> Prop} (hk : K n) : LD (T_int .i64) H b o K := by
 obtain ⟨sz, r⟩ := h.row
 exact LD_of (T := T_int .i64) n [.bool true, .bool se] _ r rfl ho rfl hk
theorem BW.cut (h : BW H b se n cs ns ms) {i : Nat} {g : G_api_Card} (hx : cs[i]? = some g) : bkRow se n cs ns ms = (.bool true :: .bool se :: .int .i64 n :: fl TC (cs.take i)) ++ (TC.cells g ++ (fl TC (cs.drop (i + 1)) ++ (fl T_str ns ++ fl TM ms))) ∧ (.bool true :: .bool se :: .int .i64 n :: fl TC (cs.take i) : List Value).length = 3 + i * 9 := by
 have hi := (List.getElem?_eq_some_iff.1 hx).1
 have hc := h.c
 refine ⟨?_, ?_⟩
 ·unfold bkRow
  rw [fl_cut (T := TC) cs i g hx]; simp [List.append_assoc]
 ·simp only [List.length_cons]
  rw [fl_len hTC, List.length_take, Nat.min_eq_left (by omega)]
  show i * 9 + 1 + 1 + 1 = _; omega
theorem BW.ld_card (h : BW H b se n cs ns ms) {i : Nat} {g : G_api_Card} (hx : cs[i]? = some g) {o : Nat} (ho : o = 3 + i * 9) {K : G_api_Card -> Prop} (hk : K g) : LD TC H b o K := by
 obtain ⟨sz, r⟩ := h.row
 obtain ⟨e1, e2⟩ := h.cut hx
 exact LD_of (T := TC) g _ _ r e1 (by rw [e2, ho]) rfl hk
theorem BW.ld_name (h : BW H b se n cs ns ms) {i : Nat} {g : G_api_Card} (hx : cs[i]? = some g) {o : Nat} (ho : o = 3 + i * 9) {K : ByteArray -> Prop} (hk : K g.Name) : LD T_str H b o K := by
 obtain ⟨sz, r⟩ := h.row
 obtain ⟨e1, e2⟩ := h.cut hx
 exact LD_of (T := T_str) g.Name _ ((TC.cells g).drop 1 ++ (fl TC (cs.drop (i + 1)) ++ (fl T_str ns ++ fl TM ms))) r (by rw [e1]; rfl) (by rw [e2, ho]) rfl hk
theorem BW.ld_kind (h : BW H b se n cs ns ms) {i : Nat} {g : G_api_Card} (hx : cs[i]? = some g) {o : Nat} (ho : o = 3 + i * 9 + 2) {K : Int -> Prop} (hk : K g.Kind) : LD (T_int .u8) H b o K := by
 obtain ⟨sz, r⟩ := h.row
 obtain ⟨e1, e2⟩ := h.cut hx
 exact LD_of (T := T_int .u8) g.Kind ((.bool true :: .bool se :: .int .i64 n :: fl TC (cs.take i)) ++ [.string g.Name, .int .u8 g.Suit]) ((TC.cells g).drop 3 ++ (fl TC (cs.drop (i + 1)) ++ (fl T_str ns ++ fl TM ms))) r (by rw [e1]; simp [List.append_assoc]) (by rw [List.length_append, e2, ho]; rfl) rfl hk
theorem BW.put_card (h : BW H b se n cs ns ms) {i : Nat} (hi : i < 64) (g : G_api_Card) {o : Nat} (ho : o = 3 + i * 9) {K : Heap -> Prop} (hk : ∀ H', BW H' b se n (cs.set i g) ns ms -> Frs [b] H H' -> K H') : ST H b o (TC.cells g) K := by
 obtain ⟨sz, r⟩ := h.row
 have hc := h.c
 have hx : cs[i]? = some cs[i] := List.getElem?_eq_getElem (by omega)
 obtain ⟨e1, e2⟩ := h.cut hx
 refine ST_of _ (TC.cells cs[i]) _ r e1 (by rw [e2, ho]) rfl rfl (hk _ ⟨⟨sz, ?_⟩, by simpa using hc, h.n, h.m⟩ (Frs.set _ _ (by simp)))
 rw [set_get (get_lt r)]
 have hx2 : (cs.set i g)[i]? = some g := List.getElem?_set_self (by omega)
 have hb : BW (H.set b (.row (bkRow se n (cs.set i g) ns ms) sz false false true)) b se n (cs.set i g) ns ms := ⟨⟨sz, set_get (get_lt r)⟩, by simpa using hc, h.n, h.m⟩
 rw [(hb.cut hx2).1, List.take_set_of_le (Nat.le_refl _), List.drop_set_of_lt (by omega)]
theorem BW.put_n (h : BW H b se n cs ns ms) (n' : Int) {o : Nat} (ho : o = 2) {K : Heap -> Prop} (hk : ∀ H', BW H' b se n' cs ns ms -> Frs [b] H H' -> K H') : ST H b o [.int .i64 n'] K := by
 obtain ⟨sz, r⟩ := h.row
 exact ST_of [.bool true, .bool se] [.int .i64 n] _ r rfl ho rfl rfl (hk _ ⟨⟨sz, by rw [set_get (get_lt r)]; rfl⟩, h.c, h.n, h.m⟩ (Frs.set _ _ (by simp)))
theorem BW.put_se (h : BW H b se n cs ns ms) (se' : Bool) {o : Nat} (ho : o = 1) {K : Heap -> Prop} (hk : ∀ H', BW H' b se' n cs ns ms -> Frs [b] H H' -> K H') : ST H b o [.bool se'] K := by
 obtain ⟨sz, r⟩ := h.row
 exact ST_of [.bool true] [.bool se] _ r rfl ho rfl rfl (hk _ ⟨⟨sz, by rw [set_get (get_lt r)]; rfl⟩, h.c, h.n, h.m⟩ (Frs.set _ _ (by simp)))
theorem nbl {T : Tag} {H H' : Heap} {s : Sl} {l sp : List T.α} (n : NewO T H s H' l sp) : ∀ d ∈ bl s.p, H.length ≤ d := fun d hd => by
 obtain ⟨_, _, _, ⟨q, _⟩ | ⟨c, q, _⟩⟩ := n.1
 ·rw [q] at hd; simp [bl] at hd
 ·have := n.2.1 c q
  rw [q] at hd; simp [bl] at hd; omega
structure CR (m : Nat) (H : Heap) (g : G_api_Card) (c : Cd) : Prop where
 e : bare g = c.g
 p : SlF TP H g.Parts c.ps
 lo : ∀ d ∈ bl g.Parts.p, m ≤ d
theorem CR.frs {m : Nat} {H' : Heap} {F : List Nat} {g : G_api_Card} {c : Cd} (h : CR m H g c) (f : Frs F H H') (hF : ∀ d ∈ F, d < m) : CR m H' g c :=
 ⟨h.e, h.p.frs f fun d hd o e => by have := h.lo d (by rw [e]; simp [bl]); have := hF d hd; omega, h.lo⟩
structure BP (m : Nat) (H : Heap) (b : Nat) (se : Bool) (B : List Cd) (ms : List G_api_MarkInfo) : Prop where
 w : ∃ cs ns, BW H b se B.length cs ns ms ∧ ∀ (i : Nat) (c : Cd), B[i]? = some c -> ∃ g, cs[i]? = some g ∧ CR m H g c
 few : B.length ≤ 64
 lt : b < m
 ml : m ≤ H.length
variable {m : Nat} {B : List Cd}
theorem BP.frs {H' : Heap} {F : List Nat} (h : BP m H b se B ms) (f : Frs F H H') (hF : ∀ d ∈ F, d < m ∧ d ≠ b) : BP m H' b se B ms := by
 obtain ⟨⟨cs, ns, w, hc⟩, h2, h3, h4⟩ := h
 exact ⟨⟨cs, ns, w.frs f fun hm => (hF b hm).2 rfl, fun i c hx => by obtain ⟨g, q1, q2⟩ := hc i c hx; exact ⟨g, q1, q2.frs f fun d hd => (hF d hd).1⟩⟩, h2, h3, by have := f.1; omega⟩
theorem BP.new {H' : Heap} (h : BP m H b se B ms) (f : Frs [] H H') : BP m H' b se B ms := h.frs f (by simp)
theorem pnone_c (h : BP m H b se B ms) {Q : Bool × Unit -> Heap -> Prop} (hq : Q (false, ()) H) : CALL P [T_bool] n_book_Book_none [.pointer (some ⟨b, 0, none⟩)] H Q := by
 obtain ⟨⟨cs, ns, w, hc⟩, _⟩ := h
 apply c_book_Book_none
 unfold S_book_Book_none
 exact JOIN_of (ifB_f rfl (w.ld_made rfl hq))
theorem pshut_c (h : BP m H b se B ms) {Q : Int × Unit -> Heap -> Prop} (hq : Q (if se then 7 else 0, ()) H) : CALL P [T_int .i64] n_book_Book_shut [.pointer (some ⟨b, 0, none⟩)] H Q := by
 apply c_book_Book_shut
 unfold S_book_Book_shut
 refine pnone_c h (ifB_f rfl ?_)
 obtain ⟨⟨cs, ns, w, hc⟩, _⟩ := h
 refine w.ld_se rfl (ifB_of (fun e => ?_) (fun e => ?_))
 ·rw [e] at hq; exact hq
 ·rw [e] at hq; exact hq
theorem psealed_c (h : BP m H b se B ms) {Q : Bool × Unit -> Heap -> Prop} (hq : Q (se, ()) H) : CALL P [T_bool] n_book_Book_Sealed [.pointer (some ⟨b, 0, none⟩)] H Q := by
 apply c_book_Book_Sealed
 unfold S_book_Book_Sealed
 refine pnone_c h (ifB_f rfl ?_)
 obtain ⟨⟨cs, ns, w, hc⟩, _⟩ := h
 exact w.ld_se rfl hq
def placeI (B : List Cd) (s : ByteArray) : Int := match nameIn B s with | some i => i | none => -1
theorem findIdx?_at {α : Type} {p : α -> Bool} : ∀ {l : List α} {n : Nat}, (∀ (j : Nat) x, j < n -> l[j]? = some x -> p x = false) -> (∀ x, l[n]? = some x -> p x = true) -> n < l.length -> l.findIdx? p = some n
 | [], _, _, _, h => by simp at h
 | a :: l, 0, _, h2, _ => by
  have := h2 a rfl
  simp [List.findIdx?_cons, this]
 | a :: l, n + 1, h1, h2, h => by
  have ha := h1 0 a (by omega) rfl
  have ih := findIdx?_at (l := l) (n := n) (fun j x hj hx => h1 (j + 1) x (by omega) (by simpa using hx)) (fun x hx => h2 x (by simpa using hx)) (by simpa using h)
  simp [List.findIdx?_cons, ha, ih]
theorem placeI_at {B : List Cd} {s : ByteArray} {n : Nat} (h1 : ∀ (j : Nat) x, j < n -> B[j]? = some x -> (x.g.Name.toList == s.toList) = false) {c : Cd} (hx : B[n]? = some c) (h2 : (c.g.Name.toList == s.toList) = true) : placeI B s = n := by
 unfold placeI nameIn
 rw [findIdx?_at (n := n) h1 (fun x hy => by rw [hx] at hy; cases hy; exact h2) (List.getElem?_eq_some_iff.1 hx).1]
theorem placeI_none {B : List Cd} {s : ByteArray} (h1 : ∀ (j : Nat) x, j < B.length -> B[j]? = some x -> (x.g.Name.toList == s.toList) = false) : placeI B s = -1 := by
 have : nameIn B s = none := by
  unfold nameIn
  rw [List.findIdx?_eq_none_iff]
  intro x hx
  obtain ⟨j, hj⟩ := List.mem_iff_getElem?.1 hx
  exact h1 j x (List.getElem?_eq_some_iff.1 hj).1 hj
 unfold placeI
 rw [this]
theorem pplace_c (h : BP m H b se B ms) {s : ByteArray} {Q : Int × Unit -> Heap -> Prop} (hq : Q (placeI B s, ()) H) : CALL P [T_int .i64] n_book_Book_place [.pointer (some ⟨b, 0, none⟩), .string s] H Q := by
 apply c_book_Book_place
 unfold S_book_Book_place
 obtain ⟨⟨cs, ns, w, hc⟩, few, _⟩ := h
 refine w.ld_n rfl (JOIN_of ?_)
 refine loop_of (fun (t : (Int × Unit) × Unit) H' => H' = H ∧ ∃ n : Nat, t.1.1 = n ∧ n ≤ B.length ∧ ∀ (j : Nat) x, j < n -> B[j]? = some x -> (x.g.Name.toList == s.toList) = false) (fun t => B.length - t.1.1.toNat) ?_ ⟨rfl, 0, rfl, Nat.zero_le _, fun j x hj => by omega⟩
 rintro G ⟨⟨i, _⟩, _⟩ H' ⟨rfl, n, hi, hn, hno⟩ hG
 simp only at hi; subst hi
 dsimp only at hG ⊢
 refine ifD (fun hlt => ?_) (fun hge => ?_)
 ·have hlt : n < B.length := by omega
  have hx : B[n]? = some B[n] := List.getElem?_eq_getElem hlt
  generalize B[n] = c at hx
  obtain ⟨g, hg, cr⟩ := hc n c hx
  have hnm : g.Name = c.g.Name := by rw [← cr.e]; rfl
  refine ⟨⟨by omega, by omega⟩, w.ld_name hg (by simp) ?_⟩
  rw [hnm]
  refine ifB_of (fun e => ?_) (fun e => ?_)
  ·rw [placeI_at hno hx e] at hq; exact hq
  ·rw [i64w (by omega) (by omega)]
   refine hG _ _ ⟨rfl, n + 1, by simp, hlt, fun j x hj hy => ?_⟩ (by simp; omega)
   by_cases ej : j = n
   ·subst ej; rw [hx] at hy; cases hy; exact e
   ·exact hno j x (by omega) hy
 ·have hge : n = B.length := by omega
  subst hge
  rw [placeI_none hno] at hq; exact hq
theorem ahd_bare (g h : G_api_Card) (ps qs : List Pt) : ahd ⟨bare g, ps⟩ ⟨bare h, qs⟩ = (decide (g.Suit < h.Suit) || (g.Suit == h.Suit && Op.bytesLess g.Name.toList h.Name.toList)) := rfl
theorem pahead_c {g h : G_api_Card} {c d : Cd} (hg : bare g = c.g) (hh : bare h = d.g) {Q : Bool × Unit -> Heap -> Prop} (hq : Q (ahd c d, ()) H) : CALL P [T_bool] n_book_ahead [TC.enc g, TC.enc h] H Q := by
 apply c_book_ahead
 unfold S_book_ahead
 obtain ⟨c, cp⟩ := c
 obtain ⟨d, dp⟩ := d
 simp only at hg hh; subst hg; subst hh
 rw [ahd_bare] at hq
 refine ifN (fun e => Qd (Q := fun r => Q r H) hq ?_) (fun e => Qd (Q := fun r => Q r H) hq ?_)
 ·congr 1
  rw [show (g.Suit == h.Suit) = false by simpa using e]; simp
 ·congr 1
  rw [show decide (g.Suit < h.Suit) = false by simp; omega, show (g.Suit == h.Suit) = true by simpa using e]; simp
theorem ccopy_c {g : G_api_Card} {ps : List Pt} (hs : SlF TP H g.Parts ps) (hl : ps.length ≤ 1048600) {Q : G_api_Card × Unit -> Heap -> Prop} (hq : ∀ s H', SlF TP H' s ps -> (∀ d ∈ bl s.p, H.length ≤ d) -> Frs [] H H' -> Q ({ g with Parts := s }, ()) H') : CALL P [TC] n_card_Copy [TC.enc g] H Q := by
 apply c_card_Copy
 unfold S_card_Copy
 exact copy_g tyP rfl (fun _ => by simp) hs hl fun s' H' sp n => hq s' H' n.1.slf (nbl n) n.2.2
end
end Go.Proofs.YtolekmhhkopooaaGreatDoor.Zq
end
section
namespace Go.Proofs.YtolekmhhkopooaaGreatDoor.Zq
open Zv
section
variable {H : Heap} {b m : Nat} {B : List Cd} {ms : List G_api_MarkInfo}
theorem placeI_ge {B : List Cd} {s : ByteArray} : placeI B s ≥ 0 ↔ (nameIn B s).isSome = true := by
 unfold placeI
 cases nameIn B s with
 | none => simp
 | some i => simp
set_option maxRecDepth 100000 in
theorem pnew_b {Q : (Option Addr) × Unit -> Heap -> Prop} (hq : ∀ H', (∀ m, H.length < m -> m ≤ H'.length -> BP m H' H.length false [] (List.replicate 5 ⟨0, ByteArray.mk #[], 0, 0⟩)) -> Frs [] H H' -> H'.length = H.length + 1 -> Q (some ⟨H.length, 0, none⟩, ()) H') : CALL P [T_ptr] n_book_New [] H Q := by
 apply c_book_New
 unfold S_book_New
 refine hq _ (fun m h1 h2 => ⟨⟨List.replicate 64 ⟨ByteArray.mk #[], 0, 0, 0, 0, 0, 0, false, ⟨none, 0, 0⟩⟩, List.replicate 9 (ByteArray.mk #[]), ⟨⟨608, ?_⟩, rfl, rfl, rfl⟩, fun i c h => by simp at h⟩, by simp, h1, h2⟩) (Frs.app _ _ _) (by show (H ++ [_]).length = _; rw [List.length_append]; rfl)
 show (H ++ [_])[H.length]? = _
 rw [List.getElem?_append_right (Nat.le_refl _), Nat.sub_self]
 rfl
theorem pcard_c (h : BP m H b false B ms) (okB : OkB B) {g : G_api_Card} {ps : List Pt} (ok : OkG g) (hs : SlF TP H g.Parts ps) (op : ∀ p ∈ ps, OkP p) (hpb : ∀ d ∈ bl g.Parts.p, d ≠ b) {Q : Int × Unit -> Heap -> Prop}
  (hq : ∀ H', BP m H' b false (addC B ⟨bare g, ps⟩) ms -> Frs [b] H H' -> Q (addE B ⟨bare g, ps⟩, ()) H') : CALL P [T_int .i64] n_book_Book_Card [.pointer (some ⟨b, 0, none⟩), TC.enc g] H Q := by
 apply c_book_Book_Card
 unfold S_book_Book_Card
 have hcc : chkC ⟨g, ps⟩ = chkC ⟨bare g, ps⟩ := rfl
 generalize hc0 : (⟨bare g, ps⟩ : Cd) = c at hq hcc
 have cg : bare g = c.g := by rw [← hc0]
 have cps : ps = c.ps := by rw [← hc0]
 have cnm : c.g.Name = g.Name := by rw [← cg]; rfl
 have same : ∀ e : Int, e ≠ 0 -> addE B c = e -> Q (e, ()) H := fun e he ha => by
  have a : addC B c = B := by unfold addC; rw [if_neg (by rw [ha]; exact he)]
  have := hq H (by rw [a]; exact h) (.refl _ _)
  rwa [ha] at this
 refine pshut_c h (ifB_f rfl (ccheck_c ok hs op (ifN (fun h1 => ?_) (fun h1 => ?_))))
 ·dsimp only at h1
  rw [hcc] at h1
  dsimp only; rw [hcc]
  exact same _ h1 (by unfold addE; rw [if_pos h1])
 dsimp only at h1
 rw [hcc] at h1
 refine pplace_c h (ifD (fun h2 => ?_) (fun h2 => ?_))
 ·dsimp only at h2
  refine same 5 (by decide) ?_
  unfold addE
  rw [if_neg (fun q => q h1), if_pos (by rw [cnm]; exact placeI_ge.1 h2)]
 dsimp only at h2
 have hnin : ¬ (nameIn B c.g.Name).isSome = true := fun q => h2 (placeI_ge.2 (by rw [← cnm]; exact q))
 have few := h.few
 obtain ⟨⟨cs, ns, w, hc⟩, _, lt, ml⟩ := id h
 refine w.ld_n rfl (ifD (fun h3 => ?_) (fun h3 => ?_))
 ·refine same 14 (by decide) ?_
  unfold addE
  rw [if_neg (fun q => q h1), if_neg hnin, if_pos (by omega)]
 have e0 : addE B c = 0 := by unfold addE; rw [if_neg (fun q => q h1), if_neg hnin, if_neg (by omega)]
 have hps4 : ps.length ≤ 4 := by
  have : chkF c = 0 := by
   unfold chkC at h1
   by_cases hf : chkF c = 0
   ·exact hf
   ·rw [if_neg hf] at h1; exact h1
  rw [cps]; exact chkF_len this
 refine w.ld_n rfl ?_
 refine JOIN_inv (fun y H' => ∃ (i : Nat) (cs' : List G_api_Card), (y : (Int × Unit) × Unit).1.1 = i ∧ i ≤ B.length ∧ BW H' b false B.length cs' ns ms ∧ Frs [b] H H' ∧ (∀ j, j ≤ i -> cs'[j]? = cs[j]?) ∧ (∀ j, i < j -> j ≤ B.length -> cs'[j]? = cs[j - 1]?) ∧ (∀ (j : Nat) d, i ≤ j -> B[j]? = some d -> ahd c d = true) ∧ ∀ d, 0 < i -> B[i - 1]? = some d -> ahd c d = false) (fun j hj => ?_) ?_
 ·refine loop_of (fun (s : (Int × Unit) × Unit) H' => ∃ (i : Nat) (cs' : List G_api_Card), s.1.1 = i ∧ i ≤ B.length ∧ BW H' b false B.length cs' ns ms ∧ Frs [b] H H' ∧ (∀ j, j ≤ i -> cs'[j]? = cs[j]?) ∧ (∀ j, i < j -> j ≤ B.length -> cs'[j]? = cs[j - 1]?) ∧ ∀ (j : Nat) d, i ≤ j -> B[j]? = some d -> ahd c d = true) (fun s => s.1.1.toNat) ?_
   ⟨B.length, cs, rfl, Nat.le_refl _, w, .refl _ _, fun _ _ => rfl, fun j h1 h2 => by omega, fun j d h1 h2 => by have := (List.getElem?_eq_some_iff.1 h2).1; omega⟩
  rintro G ⟨⟨i, _⟩, _⟩ H' ⟨i, cs', hi, hil, w', f', k1, k2, k3⟩ hG
  simp only at hi; subst hi
  dsimp only at hG ⊢
  have at1 : 0 < i -> ∃ g1 d, B[i - 1]? = some d ∧ cs'[i - 1]? = some g1 ∧ CR m H' g1 d ∧ cs[i - 1]? = some g1 := fun h0 => by
   have hx : B[i - 1]? = some (B[i - 1]'(by omega)) := List.getElem?_eq_getElem (by omega)
   obtain ⟨g1, q1, q2⟩ := hc (i - 1) _ hx
   exact ⟨g1, _, hx, by rw [k1 _ (by omega)]; exact q1, q2.frs f' fun d hd => by simp at hd; omega, q1⟩
  refine hJ (H := H') (∃ d, 0 < i ∧ B[i - 1]? = some d ∧ ahd c d = true) (fun j hj => ifD (fun h0 => ?_) (fun h0 => hj _ ?_)) (fun hA => ?_) (fun hN => ?_)
  ·have h0 : 0 < i := by omega
   obtain ⟨g1, d, hx, hg1, cr, _⟩ := at1 h0
   rw [i64w (by omega) (by omega)]
   refine ⟨⟨by omega, by omega⟩, w'.ld_card hg1 (by omega) (pahead_c cg cr.e (hj _ ?_))⟩
   constructor
   ·exact fun e => ⟨d, h0, hx, e⟩
   ·rintro ⟨d', _, hx', e⟩
    rw [hx] at hx'; cases hx'; exact e
  ·simp only [Bool.false_eq_true, false_iff]
   rintro ⟨d, q, _⟩; omega
  ·obtain ⟨d, h0, hx, ha⟩ := hA
   obtain ⟨g1, d', hx', hg1, cr, hg0⟩ := at1 h0
   rw [hx] at hx'; cases hx'
   rw [i64w (by omega) (by omega)]
   refine ⟨⟨by omega, by omega⟩, w'.ld_card hg1 (by omega) ⟨⟨by omega, by omega⟩, w'.put_card (i := i) (by omega) g1 (by simp) fun H2 w2 f2 => ?_⟩⟩
   have hcl := w'.c
   refine hG _ _ ⟨i - 1, _, by simp; omega, by omega, w2, f'.trans f2, fun j hj => ?_, fun j hj hj2 => ?_, fun j d2 hj hd2 => ?_⟩ (by simp; omega)
   ·rw [List.getElem?_set_ne (by omega)]; exact k1 j (by omega)
   ·by_cases ej : j = i
    ·subst ej; rw [List.getElem?_set_self (by omega), hg0]
    ·rw [List.getElem?_set_ne (by omega)]; exact k2 j (by omega) hj2
   ·by_cases ej : j = i - 1
    ·subst ej; rw [hx] at hd2; cases hd2; exact ha
    ·exact k3 j d2 (by omega) hd2
  ·refine hj _ _ ⟨i, cs', rfl, hil, w', f', k1, k2, k3, fun d h0 hx => ?_⟩
   cases ha : ahd c d with
   | false => rfl
   | true => exact absurd ⟨d, h0, hx, ha⟩ hN
 rintro ⟨⟨i, _⟩, _⟩ H4 ⟨i, cs', hi, hil, w4, f4, k1, k2, k3, k4⟩
 simp only at hi; subst hi
 dsimp only
 refine ccopy_c (hs.frs f4 fun d hd o e => ?_) (by omega) fun s H9 hs9 lo9 f9 => ⟨⟨by omega, by omega⟩, ?_⟩
 ·simp at hd; subst hd; exact hpb d (by rw [e]; simp [bl]) rfl
 have w9 := w4.frs f9 (by simp)
 have hcl := w9.c
 refine w9.put_card (i := i) (by omega) { g with Parts := s } (by simp) fun H10 w10 f10 => w10.ld_n rfl ?_
 rw [i64w (x := (B.length : Int) + 1) (by omega) (by omega)]
 refine w10.put_n _ rfl fun H11 w11 f11 => ?_
 have fr : Frs [b] H H11 := (f4.trans (f9.mono (by simp))).trans (f10.trans f11)
 have ea : addC B c = B.take i ++ c :: B.drop i := by
  unfold addC
  rw [if_pos e0]
  exact insL_end (lt := ahd) (fun h k => ahd_tr h k) okB.srt hil (fun j hj h => k3 j _ h (List.getElem?_eq_getElem hj)) (fun h0 => k4 _ h0 (List.getElem?_eq_getElem (by omega)))
 have hln : (addC B c).length = B.length + 1 := by rw [ea]; simp; omega
 have res := hq H11 ⟨⟨_, ns, by rw [hln]; exact w11, fun k d hk => ?_⟩, by omega, lt, by have := fr.1; omega⟩ fr
 ·rwa [e0] at res
 ·have f49 := f4.1
  rw [ea] at hk
  rcases Nat.lt_trichotomy k i with q | q | q
  ·rw [List.getElem?_append_left (by simp; omega), List.getElem?_take, if_pos q] at hk
   obtain ⟨g1, q1, q2⟩ := hc k d hk
   exact ⟨g1, by rw [List.getElem?_set_ne (by omega), k1 k (by omega)]; exact q1, q2.frs fr fun d hd => by simp at hd; omega⟩
  ·subst q
   rw [List.getElem?_append_right (by simp; omega), List.length_take, Nat.min_eq_left hil, Nat.sub_self] at hk
   simp at hk; subst hk
   refine ⟨_, List.getElem?_set_self (by omega), ⟨by rw [← cg]; rfl, ?_, fun d hd => by have := lo9 d hd; omega⟩⟩
   rw [← cps]
   refine (hs9.frs f10 fun d hd o e => ?_).frs f11 fun d hd o e => ?_
   ·simp at hd; subst hd; have := lo9 d (by rw [e]; simp [bl]); have := w4.lt; omega
   ·simp at hd; subst hd; have := lo9 d (by rw [e]; simp [bl]); have := w4.lt; omega
  ·have e2 : k - i = (k - 1 - i) + 1 := by omega
   rw [List.getElem?_append_right (by simp; omega), List.length_take, Nat.min_eq_left hil, e2, List.getElem?_cons_succ, List.getElem?_drop, show i + (k - 1 - i) = k - 1 by omega] at hk
   have hkl := (List.getElem?_eq_some_iff.1 hk).1
   obtain ⟨g1, q1, q2⟩ := hc (k - 1) d hk
   exact ⟨g1, by rw [List.getElem?_set_ne (by omega), k2 k q (by omega)]; exact q1, q2.frs fr fun d hd => by simp at hd; omega⟩
end
end Go.Proofs.YtolekmhhkopooaaGreatDoor.Zq
end
section
namespace Go.Proofs.YtolekmhhkopooaaGreatDoor.Zq
open Zv
section
variable {H : Heap} {b m : Nat} {B : List Cd} {ms : List G_api_MarkInfo} {se : Bool} {n : Int} {cs : List G_api_Card} {ns : List ByteArray}
theorem BW.mcut (h : BW H b se n cs ns ms) {i : Nat} {x : G_api_MarkInfo} (hx : ms[i]? = some x) : bkRow se n cs ns ms = (.bool true :: .bool se :: .int .i64 n :: (fl TC cs ++ (fl T_str ns ++ fl TM (ms.take i)))) ++ (TM.cells x ++ fl TM (ms.drop (i + 1))) ∧ (.bool true :: .bool se :: .int .i64 n :: (fl TC cs ++ (fl T_str ns ++ fl TM (ms.take i))) : List Value).length = 588 + i * 4 := by
 have hi := (List.getElem?_eq_some_iff.1 hx).1
 refine ⟨?_, ?_⟩
 ·unfold bkRow
  rw [fl_cut (T := TM) ms i x hx]; simp [List.append_assoc]
 ·simp only [List.length_cons, List.length_append]
  rw [fl_len hTC, fl_len hTStr, fl_len hTM, List.length_take, Nat.min_eq_left (by omega), h.c, h.n]
  show 64 * 9 + (9 * 1 + i * 4) + 1 + 1 + 1 = _; omega
theorem BW.ld_mark (h : BW H b se n cs ns ms) {i : Nat} {x : G_api_MarkInfo} (hx : ms[i]? = some x) {o : Nat} (ho : o = 588 + i * 4) {K : Int -> Prop} (hk : K x.Mark) : LD (T_int .u8) H b o K := by
 obtain ⟨sz, r⟩ := h.row
 obtain ⟨e1, e2⟩ := h.mcut hx
 exact LD_of (T := T_int .u8) x.Mark _ ((TM.cells x).drop 1 ++ fl TM (ms.drop (i + 1))) r (by rw [e1]; rfl) (by rw [e2, ho]) rfl hk
theorem BW.put_mark (h : BW H b se n cs ns ms) {i : Nat} (hi : i < 5) (x : G_api_MarkInfo) {o : Nat} (ho : o = 588 + i * 4) {K : Heap -> Prop} (hk : ∀ H', BW H' b se n cs ns (ms.set i x) -> Frs [b] H H' -> K H') : ST H b o (TM.cells x) K := by
 obtain ⟨sz, r⟩ := h.row
 have hm := h.m
 have hx : ms[i]? = some ms[i] := List.getElem?_eq_getElem (by omega)
 obtain ⟨e1, e2⟩ := h.mcut hx
 refine ST_of _ (TM.cells ms[i]) _ r e1 (by rw [e2, ho]) rfl rfl (hk _ ⟨⟨sz, ?_⟩, h.c, h.n, by simpa using hm⟩ (Frs.set _ _ (by simp)))
 rw [set_get (get_lt r)]
 have hx2 : (ms.set i x)[i]? = some x := List.getElem?_set_self (by omega)
 have hb : BW (H.set b (.row (bkRow se n cs ns (ms.set i x)) sz false false true)) b se n cs ns (ms.set i x) := ⟨⟨sz, set_get (get_lt r)⟩, h.c, h.n, by simpa using hm⟩
 rw [(hb.mcut hx2).1, List.take_set_of_le (Nat.le_refl _), List.drop_set_of_lt (by omega)]
theorem five {ms : List G_api_MarkInfo} (h : ms.length = 5) : ∃ a b c d e, ms = [a, b, c, d, e] := by
 match ms, h with
 | [a, b, c, d, e], _ => exact ⟨a, b, c, d, e, rfl⟩
theorem pbwithin_c {x : Int} {Q : Bool × Unit -> Heap -> Prop} (hq : Q (decide (-9 ≤ x ∧ x ≤ 9), ()) H) : CALL P [T_bool] n_book_within [.int .i64 x] H Q := by
 apply c_book_within
 unfold S_book_within
 exact JD (H := H) (-9 ≤ x ∧ x ≤ 9) (fun j hj => ifD (fun h => hj _ (by simp; omega)) (fun h => hj _ (by simp; omega))) hq
def badM (m : G_api_MarkInfo) : Prop := m.Mark < 1 ∨ 4 < m.Mark ∨ m.Power < -9 ∨ 9 < m.Power ∨ m.Health < -9 ∨ 9 < m.Health
def mkThere (ms : List G_api_MarkInfo) (m : G_api_MarkInfo) : Prop := (∃ x, ms[m.Mark.toNat]? = some x ∧ x.Mark ≠ 0) ∨ ∃ x ∈ ms, x.Name.toList = m.Name.toList
open Classical in
theorem markE_eq (ms : List G_api_MarkInfo) (m : G_api_MarkInfo) : markE ms m = if badM m then 2 else if ¬ okNm m.Name then 4 else if mkThere ms m then 5 else 0 := by
 unfold markE badM mkThere
 congr
theorem pmark_c (h : BP m H b false B ms) {x : G_api_MarkInfo} {Q : Int × Unit -> Heap -> Prop} (hq : ∀ H', BP m H' b false B (addM ms x) -> Frs [b] H H' -> Q (markE ms x, ()) H') : CALL P [T_int .i64] n_book_Book_Mark [.pointer (some ⟨b, 0, none⟩), TM.enc x] H Q := by
 apply c_book_Book_Mark
 unfold S_book_Book_Mark
 have e := markE_eq ms x
 have same : ∀ (r : Int) H', r ≠ 0 -> markE ms x = r -> Frs [] H H' -> Q (r, ()) H' := fun r H' hr hm f => by
  have a : addM ms x = ms := by unfold addM; rw [if_neg (by rw [hm]; exact hr)]
  have := hq H' (by rw [a]; exact h.new f) (f.mono (by simp))
  rwa [hm] at this
 refine pshut_c h (ifB_f rfl ?_)
 refine hJ (badM x) (fun j hj => ?_) (fun h1 => same 2 H (by decide) (by rw [e, if_pos h1]) (.refl _ _)) (fun h1 => ?_)
 ·unfold badM at hj
  exact ifD (fun h => hj _ (by simp; omega)) (fun h => ifD (fun h => hj _ (by simp; omega)) (fun h => pbwithin_c (ifQ (fun h => hj _ (by simp; omega)) (fun h => pbwithin_c (hj _ (by simp; omega))))))
 rw [if_neg h1] at e
 have hr : 1 ≤ x.Mark ∧ x.Mark ≤ 4 := by unfold badM at h1; omega
 refine bname_c fun H5 f5 => ifQ (fun h2 => same 4 H5 (by decide) (by rw [e, if_pos h2]) f5) (fun h2 => ?_)
 rw [if_neg (fun q => q h2)] at e
 have h5 := h.new f5
 obtain ⟨⟨cs, ns, w, hc⟩, few, lt, ml⟩ := h5
 have hm5 := w.m
 have hi5 : x.Mark.toNat < 5 := by omega
 have hx : ms[x.Mark.toNat]? = some (ms[x.Mark.toNat]'(by omega)) := List.getElem?_eq_getElem (by omega)
 generalize (ms[x.Mark.toNat]'(by omega)) = y at hx
 refine ⟨⟨by omega, by omega⟩, w.ld_mark hx (by simp) (ifN (fun h3 => same 5 H5 (by decide) (by rw [e, if_pos (.inl ⟨y, hx, h3⟩)]) f5) (fun h3 => ?_))⟩
 obtain ⟨m0, m1, m2, m3, m4, rfl⟩ := five hm5
 have ld5 : ∀ {K : G_api_MarkInfo × G_api_MarkInfo × G_api_MarkInfo × G_api_MarkInfo × G_api_MarkInfo -> Prop}, K (m0, m1, m2, m3, m4) -> LD T_arr5_T_G_api_MarkInfo H5 b (0 + 588) K := fun hk => by
  obtain ⟨sz, r⟩ := w.row
  obtain ⟨e1, e2⟩ := w.mcut (i := 0) (x := m0) rfl
  exact LD_of (T := T_arr5_T_G_api_MarkInfo) (m0, m1, m2, m3, m4) _ [] r (by rw [e1]; rfl) (by rw [e2]) rfl hk
 refine ld5 ?_
 have hat : ∀ n : Nat, n < 5 -> ∃ z, aIndex E 158 (.agg #[(.int .u8 m0.Mark), (.string m0.Name), (.int .i64 m0.Power), (.int .i64 m0.Health), (.int .u8 m1.Mark), (.string m1.Name), (.int .i64 m1.Power), (.int .i64 m1.Health), (.int .u8 m2.Mark), (.string m2.Name), (.int .i64 m2.Power), (.int .i64 m2.Health), (.int .u8 m3.Mark), (.string m3.Name), (.int .i64 m3.Power), (.int .i64 m3.Health), (.int .u8 m4.Mark), (.string m4.Name), (.int .i64 m4.Power), (.int .i64 m4.Health)]) (.int .i64 (n : Int)) = some (TM.enc z) ∧ [m0, m1, m2, m3, m4][n]? = some z := by
  intro n hn
  rcases (by omega : n = 0 ∨ n = 1 ∨ n = 2 ∨ n = 3 ∨ n = 4) with rfl | rfl | rfl | rfl | rfl
  ·exact ⟨m0, rfl, rfl⟩
  ·exact ⟨m1, rfl, rfl⟩
  ·exact ⟨m2, rfl, rfl⟩
  ·exact ⟨m3, rfl, rfl⟩
  ·exact ⟨m4, rfl, rfl⟩
 refine JOIN_inv (fun _ H' => H' = H5 ∧ ¬ ∃ z ∈ [m0, m1, m2, m3, m4], z.Name.toList = x.Name.toList) (fun j hj => ?_) ?_
 ·refine loop_of (fun (s : (Int × Unit) × Unit) H' => H' = H5 ∧ ∃ n : Nat, s.1.1 = n ∧ n ≤ 5 ∧ ∀ z ∈ [m0, m1, m2, m3, m4].take n, z.Name.toList ≠ x.Name.toList) (fun s => 5 - s.1.1.toNat) ?_ ⟨rfl, 0, rfl, by omega, by simp⟩
  rintro G ⟨⟨i, _⟩, _⟩ H' ⟨rfl, n, hi, hn, hno⟩ hG
  simp only at hi; subst hi
  dsimp only at hG ⊢
  refine ifD (fun hlt => ?_) (fun hge => hj _ _ ⟨rfl, ?_⟩)
  ·have hlt : n < 5 := by omega
   obtain ⟨z, g1, g2⟩ := hat n hlt
   refine ⟨z, g1, ifB_of (fun e2 => same 5 H' (by decide) (by rw [e, if_pos (.inr ⟨z, List.mem_of_getElem? g2, by simpa using e2⟩)]) f5) (fun e2 => ?_)⟩
   rw [i64w (by omega) (by omega)]
   refine hG _ _ ⟨rfl, n + 1, by simp, hlt, fun y hy => ?_⟩ (by simp; omega)
   obtain ⟨g3, g4⟩ := List.getElem?_eq_some_iff.1 g2
   rw [List.take_succ_eq_append_getElem g3, List.mem_append, List.mem_singleton] at hy
   rcases hy with q | q
   ·exact hno y q
   ·rw [q, g4]; simpa using e2
  ·have : n = 5 := by omega
   subst this
   rintro ⟨z, hz, q⟩
   exact hno z (by simpa using hz) q
 rintro _ H6 ⟨rfl, hno⟩
 have e0 : markE [m0, m1, m2, m3, m4] x = 0 := by
  rw [e, if_neg]
  rintro (⟨z, hz, q⟩ | q)
  ·rw [hx] at hz; cases hz; exact q h3
  ·exact hno q
 refine ⟨⟨by omega, by omega⟩, w.put_mark hi5 x (by simp) fun H8 w8 f8 => ?_⟩
 have fr : Frs [b] H H8 := (f5.mono (by simp)).trans f8
 have ea : addM [m0, m1, m2, m3, m4] x = [m0, m1, m2, m3, m4].set x.Mark.toNat x := by unfold addM; rw [if_pos e0]
 have res := hq H8 ⟨⟨cs, ns, by rw [ea]; exact w8, fun k d hk => ?_⟩, few, lt, by have := f8.1; omega⟩ fr
 ·rwa [e0] at res
 ·obtain ⟨g1, q1, q2⟩ := hc k d hk
  exact ⟨g1, q1, q2.frs f8 fun d hd => by simp at hd; omega⟩
theorem callE_none {p : Pt} (h : p.Verb ≠ 7) : callE B p = 0 := by unfold callE; rw [if_neg h]
theorem callE_6 {p : Pt} (h : p.Verb = 7) (hn : placeI B p.Name < 0) : callE B p = 6 := by
 unfold callE; rw [if_pos h]
 unfold placeI at hn
 cases hx : nameIn B p.Name with
 | none => rfl
 | some i => rw [hx] at hn; simp only at hn; omega
theorem place_some {s : ByteArray} (hn : ¬ placeI B s < 0) : ∃ i c, nameIn B s = some i ∧ placeI B s = (i : Int) ∧ B[i]? = some c := by
 unfold placeI at hn ⊢
 cases hx : nameIn B s with
 | none => rw [hx] at hn; simp at hn
 | some i =>
  have hi : i < B.length := by
   unfold nameIn at hx
   obtain ⟨h, _⟩ := List.findIdx?_eq_some_iff_getElem.1 hx
   exact h
  exact ⟨i, B[i], rfl, rfl, List.getElem?_eq_getElem hi⟩
theorem callE_some {p : Pt} (h : p.Verb = 7) {i : Nat} {c : Cd} (hn : nameIn B p.Name = some i) (hx : B[i]? = some c) : callE B p = if c.g.Kind = 2 then 8 else 0 := by
 unfold callE; rw [if_pos h, hn]
 simp only [hx, Option.map_some, Option.some.injEq]
theorem firstE_cons (p : Pt) (r : List Pt) : firstE B (p :: r) = if callE B p ≠ 0 then callE B p else firstE B r := rfl
theorem restE_step {i k : Nat} {c : Cd} (hk : c.ps.length ≤ k) : firstE B (c.ps.drop k ++ (B.drop (i + 1)).flatMap (·.ps)) = firstE B ((B.drop (i + 1)).flatMap (·.ps)) := by
 rw [List.drop_eq_nil_of_le hk, List.nil_append]
theorem pseal_c (h : BP m H b false B ms) (okB : OkB B) {Q : Int × Unit -> Heap -> Prop} (hq : ∀ H', BP m H' b (decide (sealE B = 0)) B ms -> Frs [b] H H' -> Q (sealE B, ()) H') : CALL P [T_int .i64] n_book_Book_Seal [.pointer (some ⟨b, 0, none⟩)] H Q := by
 apply c_book_Book_Seal
 unfold S_book_Book_Seal
 have same : ∀ r : Int, r ≠ 0 -> sealE B = r -> Q (r, ()) H := fun r hr e => by
  have := hq H (by rw [e, decide_eq_false hr]; exact h) (.refl _ _)
  rwa [e] at this
 refine pshut_c h (ifB_f rfl ?_)
 obtain ⟨⟨cs, ns, w, hc⟩, few, lt, ml⟩ := id h
 refine w.ld_n rfl ?_
 have hsl : aSlice E 156 (.pointer (some ⟨b, 0 + 3, none⟩)) none (some (.int .i64 (B.length : Int))) none H = some (Value.slice (some ⟨b, 3, none⟩) B.length 64) := by
  obtain ⟨ti, te, e, hti, hk, hte⟩ : ∃ ti te e, E.ty 156 = some ti ∧ ti.k = .array 64 e ∧ E.ty e = some te := ⟨_, _, _, rfl, rfl, rfl⟩
  unfold aSlice
  simp only [hti, hk, hte, Option.bind_some]
  simp [natOf, few]
 refine ⟨⟨some ⟨b, 3, none⟩, B.length, 64⟩, hsl, ?_⟩
 refine JOIN_inv (fun _ H' => H' = H ∧ sealE B = 0) (fun j hj => ?_) ?_
 ·refine loop_of (fun (s : (Int × Unit) × Unit) H' => H' = H ∧ ∃ i : Nat, s.1.1 = i ∧ i ≤ B.length ∧ sealE B = firstE B ((B.drop i).flatMap (·.ps))) (fun s => B.length - s.1.1.toNat) ?_ ⟨rfl, 0, rfl, Nat.zero_le _, by simp [sealE]⟩
  rintro G ⟨⟨i, _⟩, _⟩ H' ⟨rfl, i, hi, hil, hse⟩ hG
  simp only at hi; subst hi
  dsimp only at hG ⊢
  refine ifD (fun hlt => ?_) (fun hge => hj _ _ ⟨rfl, ?_⟩)
  ·have hlt : i < B.length := by omega
   have hx : B[i]? = some B[i] := List.getElem?_eq_getElem hlt
   rw [List.drop_eq_getElem_cons hlt, List.flatMap_cons] at hse
   generalize B[i] = c at hx hse
   obtain ⟨g, hg, cr⟩ := hc i c hx
   have hp := cr.p
   have hpl := hp.1
   have hp4 : c.ps.length ≤ 4 := by
    have := okB.ok c (List.mem_of_getElem? hx)
    unfold chkC at this
    by_cases hf : chkF c = 0
    ·exact chkF_len hf
    ·rw [if_neg hf] at this; exact absurd this hf
   refine JOIN_of ⟨⟨by omega, by omega⟩, w.ld_card hg (by simp) (JOIN_of ?_)⟩
   refine loop_of (fun (s : (Int × Unit) × Unit) H2 => H2 = H' ∧ ∃ k : Nat, s.1.1 = k ∧ k ≤ c.ps.length ∧ sealE B = firstE B (c.ps.drop k ++ (B.drop (i + 1)).flatMap (·.ps))) (fun s => c.ps.length - s.1.1.toNat) ?_ ⟨rfl, 0, rfl, Nat.zero_le _, by simpa using hse⟩
   rintro G2 ⟨⟨k, _⟩, _⟩ H2 ⟨rfl, k, hk, hkl, hse2⟩ hG2
   simp only at hk; subst hk
   dsimp only at hG2 ⊢
   refine ifD (fun hlt2 => ?_) (fun hge2 => ?_)
   ·have hlt2 : k < c.ps.length := by omega
    have hy : c.ps[k]? = some c.ps[k] := List.getElem?_eq_getElem hlt2
    rw [List.drop_eq_getElem_cons hlt2, List.cons_append, firstE_cons] at hse2
    generalize c.ps[k] = p at hy hse2
    refine JOIN_of (idx_ldF (T := TP) hTP hp rfl hy rfl ?_)
    have next : callE B p = 0 -> G2 ((IntKind.wrap .i64 ((k : Int) + 1), ()), ()) H2 := fun hz => by
     rw [if_neg (fun q => q hz)] at hse2
     rw [i64w (by omega) (by omega)]
     exact hG2 _ _ ⟨rfl, k + 1, by simp, hlt2, hse2⟩ (by simp; omega)
    refine ifN (fun hv => next (callE_none hv)) (fun hv => pplace_c h (ifD (fun hn => ?_) (fun hn => ?_)))
    ·dsimp only at hn
     have := callE_6 hv hn
     exact same 6 (by decide) (by rw [hse2, if_pos (by rw [this]; decide), this])
    ·dsimp only at hn
     obtain ⟨i2, c2, q1, q2, q3⟩ := place_some hn
     have hi2 := (List.getElem?_eq_some_iff.1 q3).1
     obtain ⟨g2, hg2, cr2⟩ := hc i2 c2 q3
     have hkd : g2.Kind = c2.g.Kind := by rw [← cr2.e]; rfl
     have hce := callE_some hv q1 q3
     dsimp only
     rw [q2]
     refine ⟨⟨by omega, by omega⟩, w.ld_kind hg2 (by simp) ?_⟩
     rw [hkd]
     refine ifE (fun e2 => ?_) (fun e2 => next (by rw [hce, if_neg e2]))
     rw [if_pos e2] at hce
     exact same 8 (by decide) (by rw [hse2, if_pos (by rw [hce]; decide), hce])
   ·rw [restE_step (by omega)] at hse2
    rw [i64w (by omega) (by omega)]
    exact hG _ _ ⟨rfl, i + 1, by simp, hlt, hse2⟩ (by simp; omega)
  ·have hge : i = B.length := by omega
   subst hge
   rw [hse, List.drop_length]; rfl
 rintro _ H2 ⟨rfl, e0⟩
 refine w.put_se true rfl fun H9 w9 f9 => ?_
 have res := hq H9 (by rw [e0]; exact ⟨⟨cs, ns, w9, fun k d hk => by obtain ⟨g1, q1, q2⟩ := hc k d hk; exact ⟨g1, q1, q2.frs f9 fun d hd => by simp at hd; omega⟩⟩, few, lt, by have := f9.1; omega⟩) f9
 rwa [e0] at res
end
end Go.Proofs.YtolekmhhkopooaaGreatDoor.Zq
end
section
namespace Go.Proofs.YtolekmhhkopooaaGreatDoor.Zq
open Zv
section
variable {H : Heap} {b m : Nat} {B : List Cd} {ms : List G_api_MarkInfo} {se : Bool} {s : Sl} {ns : List ByteArray}
def zC : G_api_Card := ⟨ByteArray.mk #[], 0, 0, 0, 0, 0, 0, false, ⟨none, 0, 0⟩⟩
theorem tyC : TyS E TC 22 zC := ⟨⟨_, _, _, rfl, rfl, rfl, rfl, by decide, by decide, rfl⟩, by decide, hTC, fun _ => rfl⟩
def rbRow (se : Bool) (s : Sl) (ns : List ByteArray) (ms : List G_api_MarkInfo) : List Value := .bool true :: .bool se :: s.v :: (fl T_str ns ++ fl TM ms)
structure RW (H : Heap) (b : Nat) (se : Bool) (s : Sl) (ns : List ByteArray) (ms : List G_api_MarkInfo) : Prop where
 row : ∃ sz, H[b]? = some (.row (rbRow se s ns ms) sz false false true)
 n : ns.length = 9
 m : ms.length = 5
theorem RW.frs {H' : Heap} {F : List Nat} (h : RW H b se s ns ms) (f : Frs F H H') (hb : b ∉ F) : RW H' b se s ns ms := by
 obtain ⟨sz, r⟩ := h.row
 exact ⟨⟨sz, f.get hb r⟩, h.n, h.m⟩
theorem RW.ld_made (h : RW H b se s ns ms) {o : Nat} (ho : o = 0) {K : Bool -> Prop} (hk : K true) : LD T_bool H b o K := by
 obtain ⟨sz, r⟩ := h.row
 exact LD_of (T := T_bool) true [] _ r rfl ho rfl hk
theorem RW.ld_se (h : RW H b se s ns ms) {o : Nat} (ho : o = 1) {K : Bool -> Prop} (hk : K se) : LD T_bool H b o K := by
 obtain ⟨sz, r⟩ := h.row
 exact LD_of (T := T_bool) se [.bool true] _ r rfl ho rfl hk
theorem RW.ld_l (h : RW H b se s ns ms) {o : Nat} (ho : o = 2) {K : Sl -> Prop} (hk : K s) : LD T_sl H b o K := by
 obtain ⟨sz, r⟩ := h.row
 exact LD_of (T := T_sl) s [.bool true, .bool se] _ r rfl ho rfl hk
theorem RW.put_l (h : RW H b se s ns ms) (s' : Sl) {o : Nat} (ho : o = 2) {K : Heap -> Prop} (hk : ∀ H', RW H' b se s' ns ms -> Frs [b] H H' -> K H') : ST H b o [.slice s'.p s'.len s'.cap] K := by
 obtain ⟨sz, r⟩ := h.row
 exact ST_of [.bool true, .bool se] [s.v] _ r rfl ho rfl rfl (hk _ ⟨⟨sz, by rw [set_get (get_lt r)]; rfl⟩, h.n, h.m⟩ (Frs.set _ _ (by simp)))
theorem RW.put_se (h : RW H b se s ns ms) (se' : Bool) {o : Nat} (ho : o = 1) {K : Heap -> Prop} (hk : ∀ H', RW H' b se' s ns ms -> Frs [b] H H' -> K H') : ST H b o [.bool se'] K := by
 obtain ⟨sz, r⟩ := h.row
 exact ST_of [.bool true] [.bool se] _ r rfl ho rfl rfl (hk _ ⟨⟨sz, by rw [set_get (get_lt r)]; rfl⟩, h.n, h.m⟩ (Frs.set _ _ (by simp)))
theorem RW.mcut (h : RW H b se s ns ms) {i : Nat} {x : G_api_MarkInfo} (hx : ms[i]? = some x) : rbRow se s ns ms = (.bool true :: .bool se :: s.v :: (fl T_str ns ++ fl TM (ms.take i))) ++ (TM.cells x ++ fl TM (ms.drop (i + 1))) ∧ (.bool true :: .bool se :: s.v :: (fl T_str ns ++ fl TM (ms.take i)) : List Value).length = 12 + i * 4 := by
 have hi := (List.getElem?_eq_some_iff.1 hx).1
 refine ⟨?_, ?_⟩
 ·unfold rbRow
  rw [fl_cut (T := TM) ms i x hx]; simp [List.append_assoc]
 ·simp only [List.length_cons, List.length_append]
  rw [fl_len hTStr, fl_len hTM, List.length_take, Nat.min_eq_left (by omega), h.n]
  show (9 * 1 + i * 4) + 1 + 1 + 1 = _; omega
theorem RW.ld_mark (h : RW H b se s ns ms) {i : Nat} {x : G_api_MarkInfo} (hx : ms[i]? = some x) {o : Nat} (ho : o = 12 + i * 4) {K : Int -> Prop} (hk : K x.Mark) : LD (T_int .u8) H b o K := by
 obtain ⟨sz, r⟩ := h.row
 obtain ⟨e1, e2⟩ := h.mcut hx
 exact LD_of (T := T_int .u8) x.Mark _ ((TM.cells x).drop 1 ++ fl TM (ms.drop (i + 1))) r (by rw [e1]; rfl) (by rw [e2, ho]) rfl hk
theorem RW.ld_mname (h : RW H b se s ns ms) {i : Nat} {x : G_api_MarkInfo} (hx : ms[i]? = some x) {o : Nat} (ho : o = 12 + i * 4 + 1) {K : ByteArray -> Prop} (hk : K x.Name) : LD T_str H b o K := by
 obtain ⟨sz, r⟩ := h.row
 obtain ⟨e1, e2⟩ := h.mcut hx
 exact LD_of (T := T_str) x.Name ((.bool true :: .bool se :: s.v :: (fl T_str ns ++ fl TM (ms.take i))) ++ [.int .u8 x.Mark]) ((TM.cells x).drop 2 ++ fl TM (ms.drop (i + 1))) r (by rw [e1]; simp [List.append_assoc]) (by rw [List.length_append, e2, ho]; rfl) rfl hk
theorem RW.put_mark (h : RW H b se s ns ms) {i : Nat} (hi : i < 5) (x : G_api_MarkInfo) {o : Nat} (ho : o = 12 + i * 4) {K : Heap -> Prop} (hk : ∀ H', RW H' b se s ns (ms.set i x) -> Frs [b] H H' -> K H') : ST H b o (TM.cells x) K := by
 obtain ⟨sz, r⟩ := h.row
 have hm := h.m
 have hx : ms[i]? = some ms[i] := List.getElem?_eq_getElem (by omega)
 obtain ⟨e1, e2⟩ := h.mcut hx
 refine ST_of _ (TM.cells ms[i]) _ r e1 (by rw [e2, ho]) rfl rfl (hk _ ⟨⟨sz, ?_⟩, h.n, by simpa using hm⟩ (Frs.set _ _ (by simp)))
 rw [set_get (get_lt r)]
 have hx2 : (ms.set i x)[i]? = some x := List.getElem?_set_self (by omega)
 have hb : RW (H.set b (.row (rbRow se s ns (ms.set i x)) sz false false true)) b se s ns (ms.set i x) := ⟨⟨sz, set_get (get_lt r)⟩, h.n, by simpa using hm⟩
 rw [(hb.mcut hx2).1, List.take_set_of_le (Nat.le_refl _), List.drop_set_of_lt (by omega)]
def CL (m : Nat) (H : Heap) (L : List G_api_Card) (B : List Cd) : Prop := L.length = B.length ∧ ∀ (k : Nat) d, B[k]? = some d -> ∃ g, L[k]? = some g ∧ CR m H g d
theorem CL.frs {H' : Heap} {F : List Nat} {L : List G_api_Card} (h : CL m H L B) (f : Frs F H H') (hF : ∀ d ∈ F, d < m) : CL m H' L B :=
 ⟨h.1, fun k d hk => by obtain ⟨g, q1, q2⟩ := h.2 k d hk; exact ⟨g, q1, q2.frs f hF⟩⟩
structure BD (m : Nat) (H : Heap) (b : Nat) (se : Bool) (B : List Cd) (ms : List G_api_MarkInfo) : Prop where
 w : ∃ s gs ns, RW H b se s ns ms ∧ SlF TC H s gs ∧ (∀ d ∈ bl s.p, m ≤ d) ∧ CL m H gs B
 few : B.length ≤ 64
 lt : b < m
 ml : m ≤ H.length
theorem slF_off {T : Tag} {H H' : Heap} {s : Sl} {l : List T.α} {F : List Nat} (h : SlF T H s l) (lo : ∀ d ∈ bl s.p, m ≤ d) (f : Frs F H H') (hF : ∀ d ∈ F, d < m) : SlF T H' s l :=
 h.frs f fun d hd o e => by have := lo d (by rw [e]; simp [bl]); have := hF d hd; omega
theorem BD.frs {H' : Heap} {F : List Nat} (h : BD m H b se B ms) (f : Frs F H H') (hF : ∀ d ∈ F, d < m ∧ d ≠ b) : BD m H' b se B ms := by
 obtain ⟨⟨s, gs, ns, w, hs, lo, hc⟩, h2, h3, h4⟩ := h
 exact ⟨⟨s, gs, ns, w.frs f fun hm => (hF b hm).2 rfl, slF_off hs lo f fun d hd => (hF d hd).1, lo, hc.frs f fun d hd => (hF d hd).1⟩, h2, h3, by have := f.1; omega⟩
theorem BD.new {H' : Heap} (h : BD m H b se B ms) (f : Frs [] H H') : BD m H' b se B ms := h.frs f (by simp)
theorem rnew_b {Q : (Option Addr) × Unit -> Heap -> Prop} (hq : ∀ H', (∀ m, H.length < m -> m ≤ H'.length -> BD m H' H.length false [] (List.replicate 5 ⟨0, ByteArray.mk #[], 0, 0⟩)) -> Frs [] H H' -> H'.length = H.length + 1 -> Q (some ⟨H.length, 0, none⟩, ()) H') : CALL P [T_ptr] n_ref07_New [] H Q := by
 apply c_ref07_New
 unfold S_ref07_New
 refine hq _ (fun m h1 h2 => ⟨⟨⟨none, 0, 0⟩, [], List.replicate 9 (ByteArray.mk #[]), ⟨⟨32, ?_⟩, rfl, rfl⟩, ⟨rfl, .inl ⟨rfl, rfl, rfl⟩⟩, by simp [bl], ⟨rfl, fun k d h => by simp at h⟩⟩, by simp, h1, h2⟩) (Frs.app _ _ _) (by show (H ++ [_]).length = _; rw [List.length_append]; rfl)
 show (H ++ [_])[H.length]? = _
 rw [List.getElem?_append_right (Nat.le_refl _), Nat.sub_self]
 rfl
theorem rnone_b (h : BD m H b se B ms) {Q : Bool × Unit -> Heap -> Prop} (hq : Q (false, ()) H) : CALL P [T_bool] n_ref07_Book_None [.pointer (some ⟨b, 0, none⟩)] H Q := by
 obtain ⟨⟨s, gs, ns, w, _⟩, _⟩ := h
 apply c_ref07_Book_None
 unfold S_ref07_Book_None
 exact JOIN_of (ifB_f rfl (w.ld_made rfl hq))
theorem rsealed_c (h : BD m H b se B ms) {Q : Bool × Unit -> Heap -> Prop} (hq : Q (se, ()) H) : CALL P [T_bool] n_ref07_Book_Sealed [.pointer (some ⟨b, 0, none⟩)] H Q := by
 apply c_ref07_Book_Sealed
 unfold S_ref07_Book_Sealed
 refine JOIN_of (rnone_b h (ifB_t rfl ?_))
 obtain ⟨⟨s, gs, ns, w, _⟩, _⟩ := h
 exact w.ld_se rfl hq
theorem rahead_c {g h : G_api_Card} {c d : Cd} (hg : bare g = c.g) (hh : bare h = d.g) {Q : Bool × Unit -> Heap -> Prop} (hq : ∀ r : Bool, (r = true ↔ ahd c d = true) -> Q (r, ()) H) : CALL P [T_bool] n_ref07_Ahead [TC.enc g, TC.enc h] H Q := by
 apply c_ref07_Ahead
 unfold S_ref07_Ahead
 obtain ⟨c, cp⟩ := c
 obtain ⟨d, dp⟩ := d
 simp only at hg hh; subst hg; subst hh
 have key := ahd_bare g h cp dp
 refine JD (H := H) (ahd ⟨bare g, cp⟩ ⟨bare h, dp⟩ = true) (fun j hj => ifD (fun e => hj _ ?_) (fun e => ifE (fun e2 => hj _ ?_) (fun e2 => hj _ ?_))) (hq _ (by simp))
 ·rw [key]; simp [e]
 ·rw [key]; simp [e2]
 ·rw [key]; simp [e2]; omega
theorem rcopy_b {g : G_api_Card} {ps : List Pt} (hs : SlF TP H g.Parts ps) (hl : ps.length ≤ 1048600) {Q : G_api_Card × Unit -> Heap -> Prop} (hq : ∀ s H', SlF TP H' s ps -> (∀ d ∈ bl s.p, H.length ≤ d) -> Frs [] H H' -> Q ({ g with Parts := s }, ()) H') : CALL P [TC] n_ref06_Copy [TC.enc g] H Q := by
 apply c_ref06_Copy
 unfold S_ref06_Copy
 exact copy_g tyP rfl (fun _ => by simp) hs hl fun s' H' sp n => hq s' H' n.1.slf (nbl n) n.2.2
theorem kcopyc_c {g : G_api_Card} {ps : List Pt} (hs : SlF TP H g.Parts ps) (hl : ps.length ≤ 1048600) {Q : G_api_Card × Unit -> Heap -> Prop} (hq : ∀ s H', SlF TP H' s ps -> (∀ d ∈ bl s.p, H.length ≤ d) -> Frs [] H H' -> Q ({ g with Parts := s }, ()) H') : CALL P [TC] n_kit_CopyCard [TC.enc g] H Q := by
 apply c_kit_CopyCard
 unfold S_kit_CopyCard
 apply c_kit_CopyParts
 unfold S_kit_CopyParts
 exact copy_g tyP rfl (fun _ => by simp) hs hl fun s' H' sp n => hq s' H' n.1.slf (nbl n) n.2.2
theorem idx_name {s : Sl} {gs : List G_api_Card} (h : SlF TC H s gs) {n : Nat} {g : G_api_Card} (hx : gs[n]? = some g) {K : ByteArray -> Prop} (hk : K g.Name) : IDX s.p s.len (n : Int) 9 fun b o => LD T_str H b (o + 0) K := by
 have hl := (List.getElem?_eq_some_iff.1 hx).1
 obtain ⟨h1, ⟨_, h2, _⟩ | ⟨_, _, _, h2, _⟩ | ⟨b, A, B, z, o, ro, h3, h4⟩⟩ := h
 ·subst h2; simp at hl
 ·subst h2; simp at hl
 ·unfold IDX NIL
  rw [h3]
  refine ⟨⟨by omega, by omega⟩, ?_⟩
  refine LD_of (T := T_str) g.Name (A ++ fl TC (gs.take n)) ((TC.cells g).drop 1 ++ (fl TC (gs.drop (n + 1)) ++ B)) h4 ?_ ?_ rfl hk
  ·rw [fl_cut (T := TC) gs n g hx]; simp [List.append_assoc]
  ·rw [List.length_append, fl_len hTC, List.length_take, Nat.min_eq_left (by omega), Int.toNat_natCast]; rfl
theorem idx_kind {s : Sl} {gs : List G_api_Card} (h : SlF TC H s gs) {n : Nat} {g : G_api_Card} (hx : gs[n]? = some g) {K : Int -> Prop} (hk : K g.Kind) : IDX s.p s.len (n : Int) 9 fun b o => LD (T_int .u8) H b (o + 2) K := by
 have hl := (List.getElem?_eq_some_iff.1 hx).1
 obtain ⟨h1, ⟨_, h2, _⟩ | ⟨_, _, _, h2, _⟩ | ⟨b, A, B, z, o, ro, h3, h4⟩⟩ := h
 ·subst h2; simp at hl
 ·subst h2; simp at hl
 ·unfold IDX NIL
  rw [h3]
  refine ⟨⟨by omega, by omega⟩, ?_⟩
  refine LD_of (T := T_int .u8) g.Kind (A ++ (fl TC (gs.take n) ++ [.string g.Name, .int .u8 g.Suit])) ((TC.cells g).drop 3 ++ (fl TC (gs.drop (n + 1)) ++ B)) h4 ?_ ?_ rfl hk
  ·rw [fl_cut (T := TC) gs n g hx]; simp [List.append_assoc]
  ·rw [List.length_append, List.length_append, fl_len hTC, List.length_take, Nat.min_eq_left (by omega), Int.toNat_natCast]
   show A.length + n * 9 + 2 = A.length + (n * 9 + 2); omega
theorem idx_parts {s : Sl} {gs : List G_api_Card} (h : SlF TC H s gs) {n : Nat} {g : G_api_Card} (hx : gs[n]? = some g) {K : Sl -> Prop} (hk : K g.Parts) : IDX s.p s.len (n : Int) 9 fun b o => LD T_sl H b (o + 8) K := by
 have hl := (List.getElem?_eq_some_iff.1 hx).1
 obtain ⟨h1, ⟨_, h2, _⟩ | ⟨_, _, _, h2, _⟩ | ⟨b, A, B, z, o, ro, h3, h4⟩⟩ := h
 ·subst h2; simp at hl
 ·subst h2; simp at hl
 ·unfold IDX NIL
  rw [h3]
  refine ⟨⟨by omega, by omega⟩, ?_⟩
  refine LD_of (T := T_sl) g.Parts (A ++ (fl TC (gs.take n) ++ (TC.cells g).take 8)) (fl TC (gs.drop (n + 1)) ++ B) h4 ?_ ?_ rfl hk
  ·rw [fl_cut (T := TC) gs n g hx]; simp [List.append_assoc]
  ·rw [List.length_append, List.length_append, fl_len hTC, List.length_take, Nat.min_eq_left (by omega), Int.toNat_natCast]
   show A.length + n * 9 + 8 = A.length + (n * 9 + 8); omega
theorem rplace_b (h : BD m H b se B ms) {t : ByteArray} {Q : Int × Unit -> Heap -> Prop} (hq : Q (placeI B t, ()) H) : CALL P [T_int .i64] n_ref07_Book_place [.pointer (some ⟨b, 0, none⟩), .string t] H Q := by
 apply c_ref07_Book_place
 unfold S_ref07_Book_place
 obtain ⟨⟨s, gs, ns, w, hs, lo, hc⟩, few, _⟩ := h
 have hsl := hs.1
 have hgl := hc.1
 refine JOIN_of ?_
 refine loop_of (fun (u : (Int × Unit) × Unit) H' => H' = H ∧ ∃ n : Nat, u.1.1 = n ∧ n ≤ B.length ∧ ∀ (j : Nat) x, j < n -> B[j]? = some x -> (x.g.Name.toList == t.toList) = false) (fun u => B.length - u.1.1.toNat) ?_ ⟨rfl, 0, rfl, Nat.zero_le _, fun j x hj => by omega⟩
 rintro G ⟨⟨i, _⟩, _⟩ H' ⟨rfl, n, hi, hn, hno⟩ hG
 simp only at hi; subst hi
 dsimp only at hG ⊢
 refine w.ld_l rfl (ifD (fun hlt => w.ld_l rfl ?_) (fun hge => ?_))
 ·have hlt : n < B.length := by omega
  have hx : B[n]? = some B[n] := List.getElem?_eq_getElem hlt
  generalize B[n] = c at hx
  obtain ⟨g, hg, cr⟩ := hc.2 n c hx
  have hnm : g.Name = c.g.Name := by rw [← cr.e]; rfl
  refine idx_name hs hg ?_
  rw [hnm]
  refine ifB_of (fun e => ?_) (fun e => ?_)
  ·rw [placeI_at hno hx e] at hq; exact hq
  ·rw [i64w (by omega) (by omega)]
   refine hG _ _ ⟨rfl, n + 1, by simp, hlt, fun j x hj hy => ?_⟩ (by simp; omega)
   by_cases ej : j = n
   ·subst ej; rw [hx] at hy; cases hy; exact e
   ·exact hno j x (by omega) hy
 ·have hge : n = B.length := by omega
  subst hge
  rw [placeI_none hno] at hq; exact hq
end
end Go.Proofs.YtolekmhhkopooaaGreatDoor.Zq
end
section
namespace Go.Proofs.YtolekmhhkopooaaGreatDoor.Zq
open Zv
section
variable {H : Heap} {b m : Nat} {B : List Cd} {ms : List G_api_MarkInfo} {se : Bool} {s : Sl} {ns : List ByteArray}
theorem slF_lt {T : Tag} {s : Sl} {l : List T.α} (h : SlF T H s l) {x off : Nat} (e : s.p = some ⟨x, off, none⟩) : x < H.length := by
 obtain ⟨_, ⟨q, _⟩ | ⟨c, o, q, _⟩ | ⟨c, A, D, sz, o, ro, q, r⟩⟩ := h
 ·rw [q] at e; cases e
 ·rw [q] at e; cases e
 ·rw [q] at e; cases e; exact get_lt r
theorem RW.lt' (h : RW H b se s ns ms) : b < H.length := by obtain ⟨sz, r⟩ := h.row; exact get_lt r
structure Bld (m : Nat) (H0 H : Heap) (out : Sl) (L : List G_api_Card) (Bl : List Cd) : Prop where
 n : ∃ sp, NewO TC H0 out H L sp
 len : L.length = Bl.length
 c : ∀ (k : Nat) d, Bl[k]? = some d -> ∃ g, L[k]? = some g ∧ CR m H g d ∧ ∀ x off, g.Parts.p = some ⟨x, off, none⟩ -> out.p ≠ some ⟨x, 0, none⟩
theorem Bld.nil (m : Nat) (H : Heap) : Bld m H H ⟨none, 0, 0⟩ [] [] := ⟨⟨[], Ow.nil TC H, by simp, .refl _ _⟩, rfl, fun k d h => by simp at h⟩
theorem Bld.fr {H0 H' : Heap} {out : Sl} {L : List G_api_Card} {Bl : List Cd} (h : Bld m H0 H' out L Bl) : Frs [] H0 H' := by obtain ⟨sp, n⟩ := h.n; exact n.2.2
theorem Bld.new {H0 H1 H2 : Heap} {out : Sl} {L : List G_api_Card} {Bl : List Cd} (h : Bld m H0 H1 out L Bl) (f : Frs [] H1 H2) : Bld m H0 H2 out L Bl := by
 obtain ⟨⟨sp, n⟩, h2, h3⟩ := h
 exact ⟨⟨sp, n.1.frs f (by simp [Sl.off]), n.2.1, n.2.2.trans f⟩, h2, fun k d hk => by obtain ⟨g, q1, q2, q3⟩ := h3 k d hk; exact ⟨g, q1, q2.frs f (by simp), q3⟩⟩
theorem CR.after {H1 H2 : Heap} {out : Sl} {g : G_api_Card} {d : Cd} (h : CR m H1 g d) (a : After out H1 H2) (ap : ∀ x off, g.Parts.p = some ⟨x, off, none⟩ -> out.p ≠ some ⟨x, 0, none⟩) : CR m H2 g d := by
 refine ⟨h.e, ?_, h.lo⟩
 by_cases hq : ∃ d, out.p = some ⟨d, 0, none⟩
 ·obtain ⟨d0, hd0⟩ := hq
  refine h.p.frs (a.frs (B := [d0]) fun d hd => by rw [hd0] at hd; cases hd; simp) fun x hx o e => ?_
  simp at hx; subst hx
  exact ap _ o e hd0
 ·exact h.p.frs (a.frs (B := []) fun d hd => absurd ⟨d, hd⟩ hq) (by simp)
theorem Bld.app {H0 H1 : Heap} {out : Sl} {L : List G_api_Card} {Bl : List Cd} (h : Bld m H0 H1 out L Bl) {g : G_api_Card} {d : Cd} (cr : CR m H1 g d) (ap : ∀ x off, g.Parts.p = some ⟨x, off, none⟩ -> out.p ≠ some ⟨x, 0, none⟩) (hl : Bl.length ≤ 100) {K : Sl -> Heap -> Prop}
  (hk : ∀ s' H2, Bld m H0 H2 s' (L ++ [g]) (Bl ++ [d]) -> K s' H2) : APP T_sl (lenV out.v + 1) (aAppE E [22, 22] out.v 1 (TC.cells g) H1) K := by
 obtain ⟨⟨sp, n⟩, h2, h3⟩ := h
 refine app_c tyC rfl (fun _ => by simp) (m := 1) [g] rfl (by simp [fl]) (by show 2 * (L.length + 1) * 4096 ≤ _; omega) n.1 fun s2 H2 sp2 k1 k2 k3 => hk s2 H2 ⟨⟨sp2, n.app k1 k2 k3⟩, by simp [h2], fun k d' hk' => ?_⟩
 have far : ∀ (g' : G_api_Card) d', CR m H1 g' d' -> (∀ x off, g'.Parts.p = some ⟨x, off, none⟩ -> out.p ≠ some ⟨x, 0, none⟩) -> ∀ x off, g'.Parts.p = some ⟨x, off, none⟩ -> s2.p ≠ some ⟨x, 0, none⟩ := fun g' d' c' a' x off e e2 => by
  rcases k2 with q | ⟨q, _⟩
  ·exact a' x off e (by rw [← q]; exact e2)
  ·rw [q] at e2
   have := slF_lt c'.p e
   cases e2; omega
 by_cases e : k < Bl.length
 ·rw [List.getElem?_append_left e] at hk'
  obtain ⟨g', q1, q2, q3⟩ := h3 k d' hk'
  exact ⟨g', by rw [List.getElem?_append_left (by omega)]; exact q1, q2.after k3 q3, far g' d' q2 q3⟩
 ·have hkl := (List.getElem?_eq_some_iff.1 hk').1
  simp at hkl
  have ek : k = Bl.length := by omega
  subst ek
  simp at hk'; subst hk'
  exact ⟨g, by rw [← h2]; simp, cr.after k3 ap, far g d cr ap⟩
def Std (c : Cd) (B : List Cd) (i : Nat) (put : Bool) (Bl : List Cd) : Prop :=
 (put = false ∧ Bl = B.take i ∧ ∀ (j : Nat) d, j < i -> B[j]? = some d -> ahd c d = false) ∨
 (put = true ∧ ∃ p, p < i ∧ Bl = B.take p ++ c :: (B.take i).drop p ∧ (∀ (j : Nat) d, j < p -> B[j]? = some d -> ahd c d = false) ∧ ∀ d, B[p]? = some d -> ahd c d = true)
theorem Std.len {c : Cd} {i : Nat} {put : Bool} {Bl : List Cd} (h : Std c B i put Bl) (hi : i ≤ B.length) : Bl.length ≤ i + 1 := by
 rcases h with ⟨_, rfl, _⟩ | ⟨_, p, hp, rfl, _⟩
 ·simp; omega
 ·simp; omega
theorem take_drop_succ {α : Type} {l : List α} {i p : Nat} (hi : i < l.length) (hp : p ≤ i) : (l.take (i + 1)).drop p = (l.take i).drop p ++ [l[i]] := by
 rw [List.take_succ_eq_append_getElem hi, List.drop_append_of_le_length (by simp; omega)]
theorem Std.fin {c : Cd} {put : Bool} {Bl : List Cd} (h : Std c B B.length put Bl) : insL ahd c B = if put = true then Bl else Bl ++ [c] := by
 rcases h with ⟨rfl, rfl, h3⟩ | ⟨rfl, p, hp, rfl, h3, h4⟩
 ·rw [if_neg (by decide), List.take_length]
  rw [insL_head (lt := ahd) (i := B.length) (Nat.le_refl _) (fun j hj hji => h3 j _ hj (List.getElem?_eq_getElem hj)) (fun h => by omega)]
  simp
 ·rw [if_pos rfl, List.take_length]
  exact insL_head (lt := ahd) (by omega) (fun j hj hji => h3 j _ hji (List.getElem?_eq_getElem hj)) (fun h => h4 _ (List.getElem?_eq_getElem h))
theorem rcard_b (h : BD m H b false B ms) {g : G_api_Card} {ps : List Pt} (ok : OkG g) (hs : SlF TP H g.Parts ps) (op : ∀ p ∈ ps, OkP p) {Q : Int × Unit -> Heap -> Prop}
  (hq : ∀ H', BD m H' b false (addC B ⟨bare g, ps⟩) ms -> Frs [b] H H' -> Q (addE B ⟨bare g, ps⟩, ()) H') : CALL P [T_int .i64] n_ref07_Book_Card [.pointer (some ⟨b, 0, none⟩), TC.enc g] H Q := by
 apply c_ref07_Book_Card
 unfold S_ref07_Book_Card
 have hcc : chkC ⟨g, ps⟩ = chkC ⟨bare g, ps⟩ := rfl
 generalize hc0 : (⟨bare g, ps⟩ : Cd) = c at hq hcc
 have cg : bare g = c.g := by rw [← hc0]
 have cps : ps = c.ps := by rw [← hc0]
 have cnm : c.g.Name = g.Name := by rw [← cg]; rfl
 have same : ∀ e : Int, e ≠ 0 -> addE B c = e -> Q (e, ()) H := fun e he ha => by
  have a : addC B c = B := by unfold addC; rw [if_neg (by rw [ha]; exact he)]
  have := hq H (by rw [a]; exact h) (.refl _ _)
  rwa [ha] at this
 have few := h.few
 refine rnone_b h (ifB_f rfl ?_)
 obtain ⟨⟨s, gs, ns, w, hsl, slo, hc⟩, _, lt, ml⟩ := id h
 have hsl1 := hsl.1
 have hgl := hc.1
 refine w.ld_se rfl (ifB_f rfl (r6check_c ok hs op (ifN (fun h1 => ?_) (fun h1 => ?_))))
 ·dsimp only at h1
  rw [hcc] at h1
  dsimp only; rw [hcc]
  exact same _ h1 (by unfold addE; rw [if_pos h1])
 dsimp only at h1
 rw [hcc] at h1
 refine rplace_b h (ifD (fun h2 => ?_) (fun h2 => ?_))
 ·dsimp only at h2
  refine same 5 (by decide) ?_
  unfold addE
  rw [if_neg (fun q => q h1), if_pos (by rw [cnm]; exact placeI_ge.1 h2)]
 dsimp only at h2
 have hnin : ¬ (nameIn B c.g.Name).isSome = true := fun q => h2 (placeI_ge.2 (by rw [← cnm]; exact q))
 refine w.ld_l rfl (ifD (fun h3 => ?_) (fun h3 => ?_))
 ·refine same 14 (by decide) ?_
  unfold addE
  rw [if_neg (fun q => q h1), if_neg hnin, if_pos (by omega)]
 have e0 : addE B c = 0 := by unfold addE; rw [if_neg (fun q => q h1), if_neg hnin, if_neg (by omega)]
 have hps4 : ps.length ≤ 4 := by
  have : chkF c = 0 := by
   unfold chkC at h1
   by_cases hf : chkF c = 0
   ·exact hf
   ·rw [if_neg hf] at h1; exact h1
  rw [cps]; exact chkF_len this
 have copy : ∀ {H1 : Heap} {out : Sl} {L : List G_api_Card} {Bl : List Cd} {K : Sl -> Heap -> Prop}, Bld m H H1 out L Bl -> Bl.length ≤ 100 -> (∀ s' H2 L', Bld m H H2 s' L' (Bl ++ [c]) -> K s' H2) -> CALL P [TC] n_ref06_Copy [TC.enc g] H1 fun (x28 : G_api_Card × Unit) H9 => APP T_sl (lenV out.v + 1) (aAppE E [22, 22] out.v 1 (TC.cells x28.1) H9) K := by
  intro H1 out L Bl K bd hbl hK
  have hH1 := bd.fr.1
  refine rcopy_b (hs.frs bd.fr (by simp)) (by omega) fun s' H9 hs9 lo9 f9 => ?_
  have crn : CR m H9 { g with Parts := s' } c := ⟨by rw [← cg]; rfl, by rw [← cps]; exact hs9, fun d hd => by have := lo9 d hd; omega⟩
  refine (bd.new f9).app crn (fun x off e e2 => ?_) hbl fun s2 H2 bd2 => hK s2 H2 _ bd2
  obtain ⟨sp, n⟩ := bd.n
  have := n.1.lt e2
  have := lo9 x (by rw [e]; simp [bl])
  omega
 have old : ∀ {H1 : Heap} {out : Sl} {L : List G_api_Card} {Bl : List Cd} {i : Nat} {g1 : G_api_Card} {d : Cd} {K : Sl -> Heap -> Prop}, Bld m H H1 out L Bl -> Bl.length ≤ 100 -> gs[i]? = some g1 -> CR m H g1 d -> (∀ s' H2 L', Bld m H H2 s' L' (Bl ++ [d]) -> K s' H2) -> APP T_sl (lenV out.v + 1) (aAppE E [22, 22] out.v 1 (TC.cells g1) H1) K := by
  intro H1 out L Bl i g1 d K bd hbl hg1 cr hK
  refine bd.app (cr.frs bd.fr (by simp)) (fun x off e e2 => ?_) hbl fun s2 H2 bd2 => hK s2 H2 _ bd2
  obtain ⟨sp, n⟩ := bd.n
  have := n.2.1 x e2
  have := slF_lt cr.p e
  omega
 refine JOIN_inv (fun y H' => ∃ L Bl, Bld m H H' (y : (Sl × Bool × Unit) × Unit).1.1 L Bl ∧ Std c B B.length y.1.2.1 Bl) (fun j hj => ?_) ?_
 ·refine loop_of (fun (t : (Sl × Bool × Int × Unit) × Unit) H' => ∃ (i : Nat) (L : List G_api_Card) (Bl : List Cd), t.1.2.2.1 = i ∧ i ≤ B.length ∧ Bld m H H' t.1.1 L Bl ∧ Std c B i t.1.2.1 Bl) (fun t => B.length - t.1.2.2.1.toNat) ?_ ⟨0, [], [], rfl, Nat.zero_le _, .nil m H, .inl ⟨rfl, by simp, fun j d hj => by omega⟩⟩
  rintro G ⟨⟨out, put, i, _⟩, _⟩ H' ⟨i, L, Bl, hi, hil, bd, st⟩ hG
  simp only at hi bd st; subst hi
  dsimp only at hG ⊢
  have f' := bd.fr
  have w' := w.frs f' (by simp)
  have hs' := hsl.frs f' (by simp)
  have hbl := st.len hil
  refine w'.ld_l rfl (ifD (fun hlt => ?_) (fun hge => ?_))
  ·have hlt : i < B.length := by omega
   have hx : B[i]? = some B[i] := List.getElem?_eq_getElem hlt
   have tds : ∀ p, p ≤ i -> (B.take (i + 1)).drop p = (B.take i).drop p ++ [B[i]] := fun p hp => take_drop_succ hlt hp
   have tks : B.take (i + 1) = B.take i ++ [B[i]] := List.take_succ_eq_append_getElem hlt
   generalize B[i] = d at hx tds tks
   obtain ⟨g1, hg1, cr1⟩ := hc.2 i d hx
   refine JD (H := H') (put = false ∧ ahd c d = true) (fun j2 hj2 => ?_) ?_
   ·cases put with
    | true => exact ifB_f rfl (hj2 _ (by simp))
    | false => exact ifB_t rfl (w'.ld_l rfl (idx_ldF (T := TC) hTC hs' rfl hg1 rfl (rahead_c cg cr1.e fun r hr => hj2 _ (by simpa using hr))))
   ·refine JOIN_inv (fun y H8 => ∃ L' Bl', Bld m H H8 (y : (Sl × Bool × Unit) × Unit).1.1 L' Bl' ∧ Bl'.length ≤ 90 ∧ Std c B (i + 1) y.1.2.1 (Bl' ++ [d])) (fun j3 hj3 => ?_) ?_
    ·refine ifD (fun hy => ?_) (fun hy => hj3 _ _ ⟨L, Bl, bd, by omega, ?_⟩)
     ·obtain ⟨hp, ha⟩ := hy
      subst hp
      refine copy bd (by omega) fun s' H2 L' bd2 => hj3 _ _ ⟨L', _, bd2, by simp; omega, ?_⟩
      rcases st with ⟨_, rfl, k3⟩ | ⟨k, _⟩
      ·refine .inr ⟨rfl, i, by omega, ?_, k3, fun d' hd' => by rw [hx] at hd'; cases hd'; exact ha⟩
       rw [tds i (Nat.le_refl _), List.drop_eq_nil_of_le (by simp; omega)]; simp
      ·cases k
     ·rcases st with ⟨k1, rfl, k3⟩ | ⟨k1, p, hp, rfl, k3, k4⟩
      ·refine .inl ⟨k1, tks.symm, fun j d' hj hd' => ?_⟩
       by_cases ej : j = i
       ·subst ej; rw [hx] at hd'; cases hd'
        cases ha : ahd c d with
        | false => rfl
        | true => exact absurd ⟨k1, ha⟩ hy
       ·exact k3 j d' (by omega) hd'
      ·refine .inr ⟨k1, p, by omega, ?_, k3, k4⟩
       rw [tds p (by omega)]; simp
    ·rintro ⟨⟨out2, put2, _⟩, _⟩ H8 ⟨L2, Bl2, bd2, hb2, st2⟩
     simp only at bd2 st2
     dsimp only
     have f8 := bd2.fr
     refine (w.frs f8 (by simp)).ld_l rfl (idx_ldF (T := TC) hTC (hsl.frs f8 (by simp)) rfl hg1 rfl (old bd2 (by omega) hg1 cr1 fun s' H2 L' bd3 => ?_))
     rw [i64w (by omega) (by omega)]
     exact hG _ _ ⟨i + 1, _, _, by simp, hlt, bd3, st2⟩ (by simp; omega)
  ·have hge : i = B.length := by omega
   subst hge
   exact hj _ _ ⟨L, Bl, bd, st⟩
 rintro ⟨⟨out, put, _⟩, _⟩ H4 ⟨L, Bl, bd, st⟩
 simp only at bd st
 dsimp only
 have hbl := st.len (Nat.le_refl _)
 have hfin := st.fin
 refine JOIN_inv (fun y H' => ∃ L', Bld m H H' (y : (Sl × Unit) × Unit).1.1 L' (insL ahd c B)) (fun j hj => ?_) ?_
 ·cases put with
  | false =>
   rw [if_neg (by decide)] at hfin
   exact ifB_t rfl (copy bd (by omega) fun s' H2 L' bd2 => hj _ _ ⟨L', by rw [hfin]; exact bd2⟩)
  | true =>
   rw [if_pos rfl] at hfin
   exact ifB_f rfl (hj _ _ ⟨L, by rw [hfin]; exact bd⟩)
 rintro ⟨⟨out2, _⟩, _⟩ H12 ⟨L', bd2⟩
 simp only at bd2
 dsimp only
 have f12 := bd2.fr
 refine (w.frs f12 (by simp)).put_l out2 (by simp) fun H15 w15 f15 => ?_
 have ea : addC B c = insL ahd c B := by unfold addC; rw [if_pos e0]
 have fr : Frs [b] H H15 := (f12.mono (by simp)).trans f15
 obtain ⟨sp, n⟩ := bd2.n
 have hbl := w.lt'
 have res := hq H15 (by
  rw [ea]
  refine ⟨⟨out2, L', ns, w15, ?_, fun d hd => by have := nbl n d hd; omega, bd2.len, fun k d hk => ?_⟩, by rw [insL_len]; omega, lt, by have := fr.1; omega⟩
  ·refine n.1.slf.frs f15 fun d hd o e => ?_
   simp at hd; subst hd
   have := nbl n d (by rw [e]; simp [bl]); omega
  ·obtain ⟨g', q1, q2, _⟩ := bd2.c k d hk
   exact ⟨g', q1, q2.frs f15 fun d hd => by simp at hd; omega⟩) fr
 rwa [e0] at res
end
end Go.Proofs.YtolekmhhkopooaaGreatDoor.Zq
end
section
namespace Go.Proofs.YtolekmhhkopooaaGreatDoor.Zq
open Zv
section
variable {H : Heap} {b m : Nat} {B : List Cd} {ms : List G_api_MarkInfo}
theorem rmark_b (h : BD m H b false B ms) (h0 : ∀ y, ms[0]? = some y -> y.Name.toList = []) {x : G_api_MarkInfo} {Q : Int × Unit -> Heap -> Prop} (hq : ∀ H', BD m H' b false B (addM ms x) -> Frs [b] H H' -> Q (markE ms x, ()) H') : CALL P [T_int .i64] n_ref07_Book_Mark [.pointer (some ⟨b, 0, none⟩), TM.enc x] H Q := by
 apply c_ref07_Book_Mark
 unfold S_ref07_Book_Mark
 have e := markE_eq ms x
 have same : ∀ r : Int, r ≠ 0 -> markE ms x = r -> Q (r, ()) H := fun r hr hm => by
  have a : addM ms x = ms := by unfold addM; rw [if_neg (by rw [hm]; exact hr)]
  have := hq H (by rw [a]; exact h) (.refl _ _)
  rwa [hm] at this
 refine rnone_b h (ifB_f rfl ?_)
 obtain ⟨⟨s, gs, ns, w, hsl, slo, hc⟩, few, lt, ml⟩ := id h
 refine w.ld_se rfl (ifB_f rfl ?_)
 refine hJ (badM x) (fun j hj => ?_) (fun h1 => same 2 (by decide) (by rw [e, if_pos h1])) (fun h1 => ?_)
 ·unfold badM at hj
  exact ifD (fun h => hj _ (by simp; omega)) (fun h => ifD (fun h => hj _ (by simp; omega)) (fun h => ifD (fun h => hj _ (by simp; omega)) (fun h => ifD (fun h => hj _ (by simp; omega)) (fun h => ifD (fun h => hj _ (by simp; omega)) (fun h => hj _ (by simp; omega))))))
 rw [if_neg h1] at e
 have hr : 1 ≤ x.Mark ∧ x.Mark ≤ 4 := by unfold badM at h1; omega
 refine r7name_c (ifQ (fun h2 => same 4 (by decide) (by rw [e, if_pos h2])) (fun h2 => ?_))
 rw [if_neg (fun q => q h2)] at e
 have hm5 := w.m
 have hnm : x.Name.toList ≠ [] := by
  rw [ByteArray.toList_eq]
  intro q
  have := h2.1
  rw [q] at this; simp at this
 refine JOIN_inv (fun _ H' => H' = H ∧ ∀ (j : Nat) y, 1 ≤ j -> ms[j]? = some y -> ¬ ((j : Int) = x.Mark ∧ y.Mark ≠ 0) ∧ y.Name.toList ≠ x.Name.toList) (fun j hj => ?_) ?_
 ·refine loop_of (fun (t : (Int × Unit) × Unit) H' => H' = H ∧ ∃ n : Nat, t.1.1 = n ∧ 1 ≤ n ∧ n ≤ 5 ∧ ∀ (j : Nat) y, 1 ≤ j -> j < n -> ms[j]? = some y -> ¬ ((j : Int) = x.Mark ∧ y.Mark ≠ 0) ∧ y.Name.toList ≠ x.Name.toList) (fun t => 5 - t.1.1.toNat) ?_ ⟨rfl, 1, rfl, by omega, by omega, fun j y h1 h2 => by omega⟩
  rintro G ⟨⟨i, _⟩, _⟩ H' ⟨rfl, n, hi, hn1, hn5, hno⟩ hG
  simp only at hi; subst hi
  dsimp only at hG ⊢
  refine ifD (fun hlt => ?_) (fun hge => hj _ _ ⟨rfl, fun j y q1 q2 => hno j y q1 (by have := (List.getElem?_eq_some_iff.1 q2).1; omega) q2⟩)
  have hlt : n < 5 := by omega
  have hy : ms[n]? = some (ms[n]'(by omega)) := List.getElem?_eq_getElem (by omega)
  generalize (ms[n]'(by omega)) = y at hy
  have hw8 : IntKind.wrap .u8 (n : Int) = n := by rcases (by omega : n = 1 ∨ n = 2 ∨ n = 3 ∨ n = 4) with rfl | rfl | rfl | rfl <;> decide
  rw [hw8]
  have hA : (0 : Int) ≤ n ∧ (n : Int) < 5 := by omega
  have bad : ((n : Int) = x.Mark ∧ y.Mark ≠ 0) ∨ y.Name.toList = x.Name.toList -> mkThere ms x := fun q => by
   rcases q with ⟨q1, q2⟩ | q
   ·exact .inl ⟨y, by rw [show x.Mark.toNat = n by omega]; exact hy, q2⟩
   ·exact .inr ⟨y, List.mem_of_getElem? hy, q⟩
  refine hJ (((n : Int) = x.Mark ∧ y.Mark ≠ 0) ∨ y.Name.toList = x.Name.toList) (fun j2 hj2 => ifE (fun e1 => ⟨hA, w.ld_mark hy (by simp) (ifN (fun e2 => hj2 _ (by simp [e1, e2])) (fun e2 => ⟨hA, w.ld_mname hy (by simp) (hj2 _ (by simp [e2]))⟩))⟩) (fun e1 => ⟨hA, w.ld_mname hy (by simp) (hj2 _ (by simp [e1]))⟩)) (fun q => same 5 (by decide) (by rw [e, if_pos (bad q)])) (fun q => ?_)
  rw [i64w (by omega) (by omega)]
  refine hG _ _ ⟨rfl, n + 1, by simp, by omega, by omega, fun j z q1 q2 q3 => ?_⟩ (by simp; omega)
  by_cases ej : j = n
  ·subst ej; rw [hy] at q3; cases q3
   exact ⟨fun k => q (.inl k), fun k => q (.inr k)⟩
  ·exact hno j z q1 (by omega) q3
 rintro _ H4 ⟨rfl, hno⟩
 have e0 : markE ms x = 0 := by
  rw [e, if_neg]
  rintro (⟨z, hz, q⟩ | ⟨z, hz, q⟩)
  ·exact (hno x.Mark.toNat z (by omega) hz).1 ⟨by omega, q⟩
  ·obtain ⟨j, hj⟩ := List.mem_iff_getElem?.1 hz
   by_cases ej : j = 0
   ·subst ej; rw [h0 z hj] at q; exact hnm q.symm
   ·exact (hno j z (by omega) hj).2 q
 refine ⟨⟨by omega, by omega⟩, w.put_mark (i := x.Mark.toNat) (by omega) x (by simp) fun H7 w7 f7 => ?_⟩
 have ea : addM ms x = ms.set x.Mark.toNat x := by unfold addM; rw [if_pos e0]
 have hF : ∀ d ∈ [b], d < m := fun d hd => by simp at hd; omega
 have res := hq H7 ⟨⟨s, gs, ns, by rw [ea]; exact w7, slF_off hsl slo f7 hF, slo, hc.frs f7 hF⟩, few, lt, by have := f7.1; omega⟩ f7
 rwa [e0] at res
theorem rseal_b (h : BD m H b false B ms) {Q : Int × Unit -> Heap -> Prop} (okB : OkB B) (hq : ∀ H', BD m H' b (decide (sealE B = 0)) B ms -> Frs [b] H H' -> Q (sealE B, ()) H') : CALL P [T_int .i64] n_ref07_Book_Seal [.pointer (some ⟨b, 0, none⟩)] H Q := by
 apply c_ref07_Book_Seal
 unfold S_ref07_Book_Seal
 have same : ∀ r : Int, r ≠ 0 -> sealE B = r -> Q (r, ()) H := fun r hr e => by
  have := hq H (by rw [e, decide_eq_false hr]; exact h) (.refl _ _)
  rwa [e] at this
 refine rnone_b h (ifB_f rfl ?_)
 obtain ⟨⟨s, gs, ns, w, hsl, slo, hc⟩, few, lt, ml⟩ := id h
 have hsl1 := hsl.1
 have hgl := hc.1
 refine w.ld_se rfl (ifB_f rfl ?_)
 refine JOIN_inv (fun _ H' => H' = H ∧ sealE B = 0) (fun j hj => ?_) ?_
 ·refine loop_of (fun (s : (Int × Unit) × Unit) H' => H' = H ∧ ∃ i : Nat, s.1.1 = i ∧ i ≤ B.length ∧ sealE B = firstE B ((B.drop i).flatMap (·.ps))) (fun s => B.length - s.1.1.toNat) ?_ ⟨rfl, 0, rfl, Nat.zero_le _, by simp [sealE]⟩
  rintro G ⟨⟨i, _⟩, _⟩ H' ⟨rfl, i, hi, hil, hse⟩ hG
  simp only at hi; subst hi
  dsimp only at hG ⊢
  refine w.ld_l rfl (ifD (fun hlt => ?_) (fun hge => hj _ _ ⟨rfl, ?_⟩))
  ·have hlt : i < B.length := by omega
   have hx : B[i]? = some B[i] := List.getElem?_eq_getElem hlt
   rw [List.drop_eq_getElem_cons hlt, List.flatMap_cons] at hse
   generalize B[i] = c at hx hse
   obtain ⟨g, hg, cr⟩ := hc.2 i c hx
   have hp := cr.p
   have hpl := hp.1
   have hp4 : c.ps.length ≤ 4 := by
    have := okB.ok c (List.mem_of_getElem? hx)
    unfold chkC at this
    by_cases hf : chkF c = 0
    ·exact chkF_len hf
    ·rw [if_neg hf] at this; exact absurd this hf
   refine JOIN_of (JOIN_of ?_)
   refine loop_of (fun (s : (Int × Unit) × Unit) H2 => H2 = H' ∧ ∃ k : Nat, s.1.1 = k ∧ k ≤ c.ps.length ∧ sealE B = firstE B (c.ps.drop k ++ (B.drop (i + 1)).flatMap (·.ps))) (fun s => c.ps.length - s.1.1.toNat) ?_ ⟨rfl, 0, rfl, Nat.zero_le _, by simpa using hse⟩
   rintro G2 ⟨⟨k, _⟩, _⟩ H2 ⟨rfl, k, hk, hkl, hse2⟩ hG2
   simp only at hk; subst hk
   dsimp only at hG2 ⊢
   refine w.ld_l rfl (idx_parts hsl hg (ifD (fun hlt2 => ?_) (fun hge2 => ?_)))
   ·have hlt2 : k < c.ps.length := by omega
    have hy : c.ps[k]? = some c.ps[k] := List.getElem?_eq_getElem hlt2
    rw [List.drop_eq_getElem_cons hlt2, List.cons_append, firstE_cons] at hse2
    generalize c.ps[k] = p at hy hse2
    refine JOIN_of (w.ld_l rfl (idx_parts hsl hg (idx_ldF (T := TP) hTP hp rfl hy rfl ?_)))
    have next : callE B p = 0 -> G2 ((IntKind.wrap .i64 ((k : Int) + 1), ()), ()) H2 := fun hz => by
     rw [if_neg (fun q => q hz)] at hse2
     rw [i64w (by omega) (by omega)]
     exact hG2 _ _ ⟨rfl, k + 1, by simp, hlt2, hse2⟩ (by simp; omega)
    refine ifN (fun hv => next (callE_none hv)) (fun hv => rplace_b h (ifD (fun hn => ?_) (fun hn => ?_)))
    ·dsimp only at hn
     have := callE_6 hv hn
     exact same 6 (by decide) (by rw [hse2, if_pos (by rw [this]; decide), this])
    ·dsimp only at hn
     obtain ⟨i2, c2, q1, q2, q3⟩ := place_some hn
     obtain ⟨g2, hg2, cr2⟩ := hc.2 i2 c2 q3
     have hkd : g2.Kind = c2.g.Kind := by rw [← cr2.e]; rfl
     have hce := callE_some hv q1 q3
     dsimp only
     rw [q2]
     refine w.ld_l rfl (idx_kind hsl hg2 ?_)
     rw [hkd]
     refine ifE (fun e2 => ?_) (fun e2 => next (by rw [hce, if_neg e2]))
     rw [if_pos e2] at hce
     exact same 8 (by decide) (by rw [hse2, if_pos (by rw [hce]; decide), hce])
   ·rw [restE_step (by omega)] at hse2
    rw [i64w (by omega) (by omega)]
    exact hG _ _ ⟨rfl, i + 1, by simp, hlt, hse2⟩ (by simp; omega)
  ·have hge : i = B.length := by omega
   subst hge
   rw [hse, List.drop_length]; rfl
 rintro _ H2 ⟨rfl, e0⟩
 refine w.put_se true (by simp) fun H9 w9 f9 => ?_
 have hF : ∀ d ∈ [b], d < m := fun d hd => by simp at hd; omega
 have res := hq H9 (by rw [e0]; exact ⟨⟨s, gs, ns, w9, slF_off hsl slo f9 hF, slo, hc.frs f9 hF⟩, few, lt, by have := f9.1; omega⟩) f9
 rwa [e0] at res
end
end Go.Proofs.YtolekmhhkopooaaGreatDoor.Zq
end
section
namespace Go.Proofs.YtolekmhhkopooaaGreatDoor.Zq
open Zv
section
variable {H : Heap}
theorem idx_all {T : Tag} (hT : ∀ x, (T.cells x).length = T.n) {s : Sl} {l : List T.α} (h : SlF T H s l) {i : Int} {n : Nat} {x : T.α} (hi : i = n) (hx : l[n]? = some x) {sz : Nat} (hz : sz = T.n) {K : Nat -> Nat -> Prop} (hk : ∀ b o, (∀ H2, SlF T H2 s l -> ∀ k : T.α -> Prop, k x -> LD T H2 b o k) -> K b o) : IDX s.p s.len i sz K := by
 have t := idx_ldF hT h hi hx (k := fun _ => True) hz trivial
 have hl := (List.getElem?_eq_some_iff.1 hx).1
 obtain ⟨h1, ⟨_, h2, _⟩ | ⟨_, _, _, h2, _⟩ | ⟨b, A, B, z, o, ro, h3, h4⟩⟩ := id h
 ·subst h2; simp at hl
 ·subst h2; simp at hl
 ·unfold IDX NIL at t ⊢
  rw [h3] at t ⊢
  refine ⟨t.1, hk _ _ fun H2 h2 k hk => ?_⟩
  have t2 := idx_ldF hT h2 hi hx (k := k) hz hk
  unfold IDX NIL at t2
  rw [h3] at t2
  exact t2.2
structure OkMs (ms : List G_api_MarkInfo) : Prop where
 l : ms.length = 5
 z : ∀ y, ms[0]? = some y -> y.Name.toList = [] ∧ y.Mark = 0
 b : ∀ y ∈ ms, -9 ≤ y.Power ∧ y.Power ≤ 9 ∧ -9 ≤ y.Health ∧ y.Health ≤ 9
theorem OkMs.zero : OkMs (List.replicate 5 ⟨0, ByteArray.mk #[], 0, 0⟩) := by
 refine ⟨rfl, fun y h => ?_, fun y h => ?_⟩
 ·cases h; exact ⟨tl_empty, rfl⟩
 ·have := List.eq_of_mem_replicate h; subst this; simp
theorem OkMs.add {ms : List G_api_MarkInfo} (h : OkMs ms) (x : G_api_MarkInfo) : OkMs (addM ms x) := by
 unfold addM
 split
 ·rename_i e
  rw [markE_eq] at e
  have hb : ¬ badM x := fun q => by rw [if_pos q] at e; cases e
  unfold badM at hb
  refine ⟨by simpa using h.l, fun y hy => ?_, fun y hy => ?_⟩
  ·rw [List.getElem?_set_ne (by omega)] at hy; exact h.z y hy
  ·rcases List.mem_or_eq_of_mem_set hy with q | rfl
   ·exact h.b y q
   ·omega
 ·exact h
structure InC (H : Heap) (g : G_api_Card) : Prop where
 ok : OkG g
 p : ∃ ps : List Pt, SlF TP H g.Parts ps ∧ ps.length ≤ 1048576 ∧ ∀ p ∈ ps, OkP p
def OkR (B : List Cd) : Prop := ∀ c ∈ B, OkG c.g ∧ ∀ p ∈ c.ps, OkP p
theorem OkR.add {B : List Cd} (h : OkR B) {c : Cd} (hc : OkG c.g ∧ ∀ p ∈ c.ps, OkP p) : OkR (addC B c) := by
 unfold addC
 split
 ·intro d hd
  rcases mem_insL.1 hd with rfl | q
  ·exact hc
  ·exact h d q
 ·exact h
structure Bks (H0 H : Heap) (a b m : Nat) (se : Bool) (B : List Cd) (ms : List G_api_MarkInfo) : Prop where
 p : BP m H a se B ms
 r : BD m H b se B ms
 ok : OkB B
 km : OkMs ms
 og : OkR B
 ab : a ≠ b
 la : H0.length ≤ a
 lb : H0.length ≤ b
 f : Frs [] H0 H
theorem Bks.new {H0 H H' : Heap} {a b m : Nat} {se : Bool} {B : List Cd} {ms : List G_api_MarkInfo} (h : Bks H0 H a b m se B ms) (f : Frs [] H H') : Bks H0 H' a b m se B ms := ⟨h.p.new f, h.r.new f, h.ok, h.km, h.og, h.ab, h.la, h.lb, h.f.trans f⟩
theorem BP.up {b m m' : Nat} {se : Bool} {ms : List G_api_MarkInfo} (h : BP m H b se [] ms) (h1 : m ≤ m') (h2 : m' ≤ H.length) : BP m' H b se [] ms := by
 obtain ⟨⟨cs, ns, w, hc⟩, q1, q2, q3⟩ := h
 exact ⟨⟨cs, ns, w, fun i c hx => by simp at hx⟩, q1, by omega, h2⟩
theorem Bks.step {H0 H1 H2 H3 : Heap} {a b m : Nat} {se se' : Bool} {B B' : List Cd} {ms ms' : List G_api_MarkInfo} (h : Bks H0 H1 a b m se B ms) (p : BP m H2 a se' B' ms') (f1 : Frs [a] H1 H2) (r : BD m H3 b se' B' ms') (f2 : Frs [b] H2 H3) (ok : OkB B') (km : OkMs ms') (og : OkR B') : Bks H0 H3 a b m se' B' ms' :=
 ⟨p.frs f2 fun d hd => by simp at hd; subst hd; exact ⟨r.lt, fun e => h.ab e.symm⟩, r, ok, km, og, h.ab, h.la, h.lb, (h.f.then f1 fun c hc => by simp at hc; exact .inr (by rw [hc]; exact h.la)).then f2 fun c hc => by simp at hc; exact .inr (by rw [hc]; exact h.lb)⟩
theorem books_c {x : G_kit_Fill} {gs : List G_api_Card} {mks : List G_api_MarkInfo} (hC : SlF TC H x.Cards gs) (hl : gs.length ≤ 1048576) (hG' : ∀ g ∈ gs, InC H g) (hM : SlF TM H x.Marks mks) (hml : mks.length ≤ 1048576) {Q : (Option Addr) × (Option Addr) × Bool × Unit -> Heap -> Prop}
  (hq : ∀ H' a b m se B ms, Bks H H' a b m se B ms -> Q (some ⟨a, 0, none⟩, some ⟨b, 0, none⟩, true, ()) H') : CALL P [T_ptr, T_ptr, T_bool] n_kit_Books [T_G_kit_Fill.enc x] H Q := by
 apply c_kit_Books
 unfold S_kit_Books
 have hcl := hC.1
 have hmk := hM.1
 refine pnew_b fun H1 hp1 f1 l1 => rnew_b fun H2 hr2 f2 l2 => ?_
 have bk2 : Bks H H2 H.length H1.length (H.length + 2) false [] (List.replicate 5 ⟨0, ByteArray.mk #[], 0, 0⟩) :=
  ⟨((hp1 (H.length + 1) (by omega) (by omega)).new f2).up (by omega) (by omega), hr2 (H.length + 2) (by omega) (by omega), ⟨by simp, List.Pairwise.nil, by simp⟩, OkMs.zero, (fun _ h => nomatch h), by omega, Nat.le_refl _, by omega, f1.trans f2⟩
 generalize H.length + 2 = m at bk2
 generalize H1.length = b at bk2
 generalize ha : H.length = a at bk2
 refine JOIN_inv (fun _ H' => ∃ B, Bks H H' a b m false B (List.replicate 5 ⟨0, ByteArray.mk #[], 0, 0⟩)) (fun j hj => ?_) ?_
 ·refine loop_of (fun (t : (Int × Unit) × Unit) H' => ∃ (i : Nat) (B : List Cd), t.1.1 = i ∧ i ≤ gs.length ∧ Bks H H' a b m false B (List.replicate 5 ⟨0, ByteArray.mk #[], 0, 0⟩)) (fun t => gs.length - t.1.1.toNat) ?_ ⟨0, [], rfl, Nat.zero_le _, bk2⟩
  rintro G ⟨⟨i, _⟩, _⟩ H' ⟨i, B, hi, hil, bk⟩ hG
  simp only at hi; subst hi
  dsimp only at hG ⊢
  refine ifD (fun hlt => ?_) (fun hge => hj _ _ ⟨B, bk⟩)
  have hlt : i < gs.length := by omega
  have hx : gs[i]? = some gs[i] := List.getElem?_eq_getElem hlt
  have ig := hG' gs[i] (List.getElem_mem hlt)
  generalize gs[i] = g at hx ig
  obtain ⟨ok, ps, hs, hpl, op⟩ := ig
  refine idx_ldF (T := TC) hTC (hC.frs bk.f (by simp)) rfl hx rfl (idx_all (T := TC) hTC hC rfl hx rfl fun b10 o11 rd => ?_)
  have rd' : ∀ H2, Frs [] H H2 -> ∀ K : G_api_Card -> Prop, K g -> LD TC H2 b10 o11 K := fun H2 f K hk => rd H2 (hC.frs f (by simp)) K hk
  refine rd' H' bk.f _ (kcopyc_c (hs.frs bk.f (by simp)) (by omega) fun s1 H5 hs1 lo1 f5 => ⟨rfl, rd' H5 (bk.f.trans f5) _ ⟨rfl, ?_⟩⟩)
  have bk5 := bk.new f5
  have okg : ∀ s, OkG { g with Parts := s } := fun s => ⟨ok.nm, ok.s, ok.k, ok.t⟩
  have haH : a < H'.length := by have := bk.p.lt; have := bk.p.ml; omega
  refine pcard_c bk5.p bk5.ok (okg s1) hs1 op (fun d hd => by have := lo1 d hd; omega) fun H6 p6 f6 => ⟨rfl, ?_⟩
  have f06 : Frs [] H H6 := bk5.f.then f6 fun c hc => by simp at hc; exact .inr (by rw [hc]; exact bk.la)
  refine rd' H6 f06 _ ⟨rfl, kcopyc_c (hs.frs f06 (by simp)) (by omega) fun s2 H7 hs2 lo2 f7 => ?_⟩
  have r7 : BD m H7 b false B _ := (bk5.r.frs f6 fun d hd => by simp at hd; subst hd; exact ⟨bk5.p.lt, bk5.ab⟩).new f7
  refine rcard_b r7 (okg s2) hs2 op fun H8 r8 f8 => ifB_f (by simp [bare]) ?_
  rw [i64w (by omega) (by omega)]
  exact hG _ _ ⟨i + 1, _, by simp, hlt, bk5.step (p6.new f7) (f6.trans (f7.mono (by simp))) r8 f8 (addC_ok bk5.ok _) bk5.km (bk5.og.add ⟨⟨ok.nm, ok.s, ok.k, ok.t⟩, op⟩)⟩ (by simp; omega)
 rintro _ H3 ⟨B, bk3⟩
 refine JOIN_inv (fun _ H' => ∃ ms, Bks H H' a b m false B ms) (fun j hj => ?_) ?_
 ·refine loop_of (fun (t : (Int × Unit) × Unit) H' => ∃ (i : Nat) (ms : List G_api_MarkInfo), t.1.1 = i ∧ i ≤ mks.length ∧ Bks H H' a b m false B ms) (fun t => mks.length - t.1.1.toNat) ?_ ⟨0, _, rfl, Nat.zero_le _, bk3⟩
  rintro G ⟨⟨i, _⟩, _⟩ H' ⟨i, ms, hi, hil, bk⟩ hG
  simp only at hi; subst hi
  dsimp only at hG ⊢
  refine ifD (fun hlt => ?_) (fun hge => hj _ _ ⟨ms, bk⟩)
  have hlt : i < mks.length := by omega
  have hx : mks[i]? = some mks[i] := List.getElem?_eq_getElem hlt
  generalize mks[i] = g at hx
  refine idx_ldF (T := TM) hTM (hM.frs bk.f (by simp)) rfl hx rfl (idx_all (T := TM) hTM hM rfl hx rfl fun b10 o11 rd => ?_)
  have rd' : ∀ H2, Frs [] H H2 -> ∀ K : G_api_MarkInfo -> Prop, K g -> LD TM H2 b10 o11 K := fun H2 f K hk => rd H2 (hM.frs f (by simp)) K hk
  refine rd' H' bk.f _ (pmark_c bk.p fun H6 p6 f6 => ⟨rfl, ?_⟩)
  have f06 : Frs [] H H6 := bk.f.then f6 fun c hc => by simp at hc; exact .inr (by rw [hc]; exact bk.la)
  refine rd' H6 f06 _ ⟨rfl, ?_⟩
  have r6 : BD m H6 b false B ms := bk.r.frs f6 fun d hd => by simp at hd; subst hd; exact ⟨bk.p.lt, bk.ab⟩
  refine rmark_b r6 (fun y hy => (bk.km.z y hy).1) fun H8 r8 f8 => ifB_f (by simp) ?_
  rw [i64w (by omega) (by omega)]
  exact hG _ _ ⟨i + 1, _, by simp, hlt, bk.step p6 f6 r8 f8 bk.ok (bk.km.add g) bk.og⟩ (by simp; omega)
 rintro _ H9 ⟨ms, bk9⟩
 refine JOIN_inv (fun y H' => (y : (Bool × Unit) × Unit).1.1 = false ∧ ∃ se, Bks H H' a b m se B ms) (fun j hj => ?_) ?_
 ·refine ifB_of (fun _ => ?_) (fun _ => hj _ _ ⟨rfl, false, bk9⟩)
  refine pseal_c bk9.p bk9.ok fun H14 p14 f14 => ?_
  have r14 : BD m H14 b false B ms := bk9.r.frs f14 fun d hd => by simp at hd; subst hd; exact ⟨bk9.p.lt, bk9.ab⟩
  exact rseal_b r14 bk9.ok fun H15 r15 f15 => hj _ _ ⟨by simp, _, bk9.step p14 f14 r15 f15 bk9.ok bk9.km bk9.og⟩
 rintro ⟨⟨r, _⟩, _⟩ H13 ⟨hr, se, bk13⟩
 simp only at hr; subst hr
 refine ifB_f rfl (psealed_c bk13.p (rsealed_c bk13.r ?_))
 have := hq H13 a b m se B ms bk13
 simpa using this
end
end Go.Proofs.YtolekmhhkopooaaGreatDoor.Zq
end
