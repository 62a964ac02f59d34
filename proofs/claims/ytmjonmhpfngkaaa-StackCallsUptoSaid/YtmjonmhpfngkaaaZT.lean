/- Printed by gen2.py: Go's types as Lean's; the environment of the propositions. -/
import Derived.Test.YtmjonmhpfngkaaaZwTags
import Derived.Test.YtmjonmhpfngkaaaZEnv
namespace Go.Proofs.Ytmjonmhpfngkaaa
open Go Zq
namespace Zv
structure G_api_Item where
  Thing : Int
  Part : Int
  Holder : Int
  Meant : Int
abbrev T_G_api_Item : Tag := ⟨G_api_Item, true, 4, fun x => [(.int .i64 x.Thing), (.int .i64 x.Part), (.int .i64 x.Holder), (.int .i64 x.Meant)], fun cs => match cs with | [.int kc0 c0, .int kc1 c1, .int kc2 c2, .int kc3 c3] => if kc0 = .i64 ∧ kc1 = .i64 ∧ kc2 = .i64 ∧ kc3 = .i64 then some (G_api_Item.mk c0 c1 c2 c3) else none | _ => none, fun cs x h => by
  split at h
  · split at h
    · rename_i e
      obtain ⟨rfl, rfl, rfl, rfl⟩ := e
      have h := Option.some.inj h; subst h; rfl
    · cases h
  · cases h⟩
structure G_law23_Op where
  Call : Int
  I : G_api_Item
  L : Sl
  N : Int
abbrev T_G_law23_Op : Tag := ⟨G_law23_Op, true, 7, fun x => [(.int .i64 x.Call), (.int .i64 x.I.Thing), (.int .i64 x.I.Part), (.int .i64 x.I.Holder), (.int .i64 x.I.Meant), (.slice x.L.p x.L.len x.L.cap), (.int .i64 x.N)], fun cs => match cs with | [.int kc0 c0, .int kc1 c1, .int kc2 c2, .int kc3 c3, .int kc4 c4, .slice c5p c5n c5k, .int kc6 c6] => if kc0 = .i64 ∧ kc1 = .i64 ∧ kc2 = .i64 ∧ kc3 = .i64 ∧ kc4 = .i64 ∧ kc6 = .i64 then some (G_law23_Op.mk c0 (G_api_Item.mk c1 c2 c3 c4) (Sl.mk c5p c5n c5k) c6) else none | _ => none, fun cs x h => by
  split at h
  · split at h
    · rename_i e
      obtain ⟨rfl, rfl, rfl, rfl, rfl, rfl⟩ := e
      have h := Option.some.inj h; subst h; rfl
    · cases h
  · cases h⟩
structure G_ref23_Stack where
  L : Sl
  Made : Bool
abbrev T_G_ref23_Stack : Tag := ⟨G_ref23_Stack, true, 2, fun x => [(.slice x.L.p x.L.len x.L.cap), (.bool x.Made)], fun cs => match cs with | [.slice c0p c0n c0k, .bool c1] => some (G_ref23_Stack.mk (Sl.mk c0p c0n c0k) c1) | _ => none, fun cs x h => by
  split at h
  · have h := Option.some.inj h; subst h; rfl
  · cases h⟩
noncomputable abbrev P : Program := Try.prog
noncomputable abbrev E : Env := Try.env
def tagOf : TypeId → Tag := fun t => match t with
  | 3 => (T_int .i64)
  | 4 => T_bool
  | 23 => T_G_api_Item
  | 24 => T_ptr
  | 28 => T_sl
  | 29 => (T_int .i64)
  | 32 => T_sl
  | 42 => T_sl
  | 46 => T_ptr
  | 51 => T_any
  | 52 => T_any
  | 55 => T_G_law23_Op
  | 58 => T_sl
  | 64 => T_G_ref23_Stack
  | 65 => T_any
  | _ => T_any
def resOf : FuncId → List Tag := fun f => match f with
  | 3 => [T_bool]
  | 4 => [T_bool]
  | 5 => [(T_int .i64), (T_int .i64)]
  | 6 => [T_G_api_Item, T_bool]
  | 7 => [T_G_api_Item, T_bool]
  | 8 => [(T_int .i64)]
  | 9 => [T_sl]
  | 10 => [(T_int .i64)]
  | 11 => [T_sl, T_bool]
  | 12 => [T_bool]
  | 13 => [T_sl]
  | 14 => [T_ptr, (T_int .i64)]
  | 15 => [T_ptr, (T_int .i64)]
  | 16 => [T_bool]
  | 18 => [T_any]
  | 19 => [T_sl]
  | 20 => [T_bool]
  | 21 => [(T_int .i64)]
  | 22 => [T_bool]
  | 23 => [T_sl]
  | 24 => [T_bool]
  | 25 => [T_bool]
  | 26 => [T_bool]
  | 27 => [T_ptr]
  | 28 => [T_bool]
  | 29 => [T_ptr]
  | 30 => [T_sl]
  | 32 => [(T_int .i64)]
  | 33 => [(T_int .i64), (T_int .i64)]
  | 34 => [T_G_api_Item, T_bool]
  | 35 => [T_G_api_Item, T_bool]
  | 36 => [T_bool]
  | 37 => [T_G_api_Item]
  | 38 => [T_bool]
  | _ => []
def lkpOf : TypeId → Option Tag := fun t => match t with
  | _ => none
def rtOf : TypeId → List Tag := fun t => match t with
  | 0 => []
  | 30 => [(T_int .i64), (T_int .i64)]
  | 33 => [T_G_api_Item, T_bool]
  | 38 => [T_sl, T_bool]
  | 44 => [T_ptr, (T_int .i64)]
  | 47 => [T_ptr, (T_int .i64)]
  | t => [tagOf t]
noncomputable def C : CEnv := { E := E, P := P, tag := tagOf, res := resOf, lkp := lkpOf, rt := rtOf }
theorem hE : C.E.Ok C.P := Try.envOk
abbrev n_law23_StackNil : FuncId := 3
abbrev n_law23_StackCalls : FuncId := 4
abbrev n_stack_Stack_Lay : FuncId := 5
abbrev n_stack_Stack_Pop : FuncId := 6
abbrev n_stack_Stack_Top : FuncId := 7
abbrev n_stack_Stack_Push : FuncId := 8
abbrev n_stack_Stack_Items : FuncId := 9
abbrev n_stack_Stack_Len : FuncId := 10
abbrev n_law23_down : FuncId := 11
abbrev n_law23_lives : FuncId := 12
abbrev n_kit_LentItems : FuncId := 13
abbrev n_stack_From : FuncId := 14
abbrev n_ref23_From : FuncId := 15
abbrev n_kit_KeptItems : FuncId := 16
abbrev n_kit_OverItems : FuncId := 17
abbrev n_stack_Stack_Down : FuncId := 18
abbrev n_ref23_Stack_Down : FuncId := 19
abbrev n_law23_call : FuncId := 20
abbrev n_ref23_Stack_Len : FuncId := 21
abbrev n_kit_SameItems : FuncId := 22
abbrev n_ref23_Stack_Items : FuncId := 23
abbrev n_kit_ApartItems : FuncId := 24
abbrev n_stack_Stack_is : FuncId := 25
abbrev n_stack_may : FuncId := 26
abbrev n_stack_New : FuncId := 27
abbrev n_ref23_all : FuncId := 28
abbrev n_ref23_New : FuncId := 29
abbrev n_kit_CopyItems : FuncId := 30
abbrev n_stack_Stack_Down_1 : FuncId := 31
abbrev n_ref23_Stack_Push : FuncId := 32
abbrev n_ref23_Stack_Lay : FuncId := 33
abbrev n_ref23_Stack_Pop : FuncId := 34
abbrev n_ref23_Stack_Top : FuncId := 35
abbrev n_ref23_Stack_none : FuncId := 36
abbrev n_kit_markItems : FuncId := 37
abbrev n_ref23_May : FuncId := 38
abbrev n_api_Errno_Error : FuncId := 54
end Zv
end Go.Proofs.Ytmjonmhpfngkaaa
