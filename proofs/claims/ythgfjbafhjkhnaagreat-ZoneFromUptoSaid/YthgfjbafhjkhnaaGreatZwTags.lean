/- Lean's types for plain Go types. -/
import Derived.Test.YthgfjbafhjkhnaaGreatZwFn
namespace Go.Proofs.YthgfjbafhjkhnaaGreat.Zq

abbrev T_int (k : IntKind) : Tag := ⟨Int, false, 1, fun x => [.int k x], fun cs => match cs with | [.int k' x] => if k' = k then some x else none | _ => none, fun cs x h => by
  split at h
  · split at h
    · rename_i e; subst e; simp at h; subst h; rfl
    · simp at h
  · simp at h⟩
abbrev T_bool : Tag := ⟨Bool, false, 1, fun x => [.bool x], fun cs => match cs with | [.bool x] => some x | _ => none, fun cs x h => by
  split at h
  · simp at h; subst h; rfl
  · simp at h⟩
abbrev T_str : Tag := ⟨ByteArray, false, 1, fun x => [.string x], fun cs => match cs with | [.string x] => some x | _ => none, fun cs x h => by
  split at h
  · simp at h; subst h; rfl
  · simp at h⟩
abbrev T_ptr : Tag := ⟨Option Addr, false, 1, fun x => [.pointer x], fun cs => match cs with | [.pointer x] => some x | _ => none, fun cs x h => by
  split at h
  · simp at h; subst h; rfl
  · simp at h⟩
abbrev T_map : Tag := ⟨Option Nat, false, 1, fun x => [.map x], fun cs => match cs with | [.map x] => some x | _ => none, fun cs x h => by
  split at h
  · simp at h; subst h; rfl
  · simp at h⟩
/-- A slice: where it lies, its length, its capacity as far as it is known. -/
structure Sl where
  p : Option Addr
  len : Nat
  cap : Nat
def Sl.v (s : Sl) : Value := .slice s.p s.len s.cap
abbrev T_sl : Tag := ⟨Sl, false, 1, fun x => [.slice x.p x.len x.cap], fun cs => match cs with | [.slice p n c] => some ⟨p, n, c⟩ | _ => none, fun cs x h => by
  split at h
  · simp at h; subst h; rfl
  · simp at h⟩
/-- Whatever lies in one cell. -/
abbrev T_any : Tag := ⟨Value, false, 1, fun x => [x], fun cs => match cs with | [x] => some x | _ => none, fun cs x h => by
  split at h
  · simp at h; subst h; rfl
  · simp at h⟩

/-- New rows; a new map. -/
def NEW (H : Heap) (cs : List Value) (sz : Nat) (k : Heap → Prop) : Prop := k (mk H cs sz false)
def NEWM (H : Heap) (k : Heap → Prop) : Prop := k (H ++ [.map [] 0])

def bodyOf (fn : Func) : Code := match fn.body with | some c => c | none => .skip

/-- A call out of the function's printed proposition. -/
theorem call_print {C : CEnv} (hE : C.E.Ok C.P) {f : FuncId} {fn : Func} {h : Hnt} {loc : List Nat} {rs : List Tag} {args : List Value} {H : Heap} {k : Tup rs → Heap → Prop} {p : Prop} (hf : C.P.funcs[f]? = some fn) (hb : fn.body = some (bodyOf fn)) (hn : (fn.name == "runtime.NumGoroutine") = false)
    (he : p = cFn C loc fn.ntmps fn.results.toList rs (bodyOf fn) h args H k) (hp : p) : CALL C.P rs f args H k :=
  call_of hE hf hb hn (he ▸ hp)
end Go.Proofs.YthgfjbafhjkhnaaGreat.Zq
