/- A law's call, out of its contract. -/
import Derived.Test.YtocciejfnddddaaZwOpen
import Derived.Test.YtocciejfnddddaaZwHeap
namespace Go.Proofs.Ytocciejfnddddaa.Zq
variable {P : Program}
theorem RoH.nil : RoH [] := fun b hb => by unfold writB at hb; simp at hb

theorem CALL.law {M : Mp} {H : Heap} {w : World} {g : FuncId} {args args' : List Value} (h : CALL P [T_bool] g args H fun x _ => x.1 = true) (hr : HR M H w) (hv : VL M args args') (hn : RoH H) :
    Calls P g args'.toArray w fun e w' => e = .returned (.bool true) ∧ RowKit.Below w.heap.size w w' := by
  refine EV.law (EV.mono h ?_) hr hv hn
  rintro v H' ⟨x, rfl, hx⟩
  show Value.bool x.1 = _
  rw [hx]
theorem RoH.adds {M N : Mp} {H K : Heap} {w : World} (h : RoH H) (a : Adds M H w N K) : RoH (H ++ K) := h.app a.ro
end Go.Proofs.Ytocciejfnddddaa.Zq
