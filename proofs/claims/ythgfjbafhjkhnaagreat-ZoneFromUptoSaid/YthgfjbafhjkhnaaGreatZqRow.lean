/- From the evaluator's answer to the call's, for a law. -/
import Derived.Test.YthgfjbafhjkhnaaGreatZqCheck
import Derived.Below
namespace Go.Proofs.YthgfjbafhjkhnaaGreat.Zq
open Go.RowKit

def isTrue : Option (Value × Heap) → Bool
  | some (.bool true, _) => true
  | _ => false
theorem isTrue_ok {x : Option (Value × Heap)} (h : isTrue x = true) : ∃ H, x = some (.bool true, H) := by
  unfold isTrue at h
  split at h
  · exact ⟨_, rfl⟩
  · simp at h

/-- No block that was there may be written: all is as it was. -/
theorem Stp.below {M M' : Mp} {H H' : Heap} {w w' : World} (h : Stp M H w M' H' w') (hn : ∀ b, ¬ writB H b) : Below w.heap.size w w' :=
  ⟨h.os, h.tape, h.output, h.size, fun k hk => h.frame k hk fun b _ _ hw => absurd hw (hn b)⟩

theorem HR.nil (w : World) : HR [] [] w := ⟨rfl, fun b e k h => by simp at h, fun b b' e e' _ h => by simp at h⟩
theorem writB_nil (b : Nat) : ¬ writB [] b := by unfold writB; simp

/-- A law's call, out of the evaluator's answer. -/
theorem law_calls {P : Program} {call : CallT} (hC : CallOk P call) {f : FuncId} {args args' : List Value} {M : Mp} {H H' : Heap} {w : World} (h : call (.fn f) args H = some (.bool true, H')) (hr : HR M H w) (hv : VL M args args')
    (hn : ∀ b, ¬ writB H b) : Calls P f args'.toArray w fun e w' => e = .returned (.bool true) ∧ Below w.heap.size w w' := by
  refine (callsIn_wide (n := 0)).1 (((hC.fn f args H _ H' h).2 0 M w args' hr hv).mono ?_)
  rintro e w' ⟨v', M', rfl, hs, hb⟩
  have := hb.of_bool
  subst this
  exact ⟨rfl, hs.below hn⟩

/-- A closed law's. -/
theorem closed_calls {P : Program} {call : CallT} (hC : CallOk P call) {f : FuncId} (h : isTrue (call (.fn f) [] []) = true) (w : World) :
    Calls P f #[] w fun e w' => e = .returned (.bool true) ∧ Below w.heap.size w w' := by
  obtain ⟨H', h⟩ := isTrue_ok h
  exact law_calls hC h (HR.nil w) (VL.nil []) writB_nil

end Go.Proofs.YthgfjbafhjkhnaaGreat.Zq
