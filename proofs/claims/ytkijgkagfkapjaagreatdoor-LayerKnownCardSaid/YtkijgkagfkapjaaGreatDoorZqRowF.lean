/- A closed law's call, by the fast evaluator. -/
import Derived.Test.YtkijgkagfkapjaaGreatDoorZqRow
import Derived.Test.YtkijgkagfkapjaaGreatDoorZqFast3
namespace Go.Proofs.YtkijgkagfkapjaaGreatDoor.Zq
open Go.RowKit
theorem closed_callsF {P : Program} {E : Env} {k : Nat} (hC : CallOk P (aFn E k)) {f : FuncId} (h : yes (fFn E k (.fn f) [] 0 .nil trueK) = true) (w : World) :
    Calls P f #[] w fun e w' => e = .returned (.bool true) ∧ Below w.heap.size w w' := by
  obtain ⟨H', h⟩ := fast_true h
  exact law_calls hC h (HR.nil w) (VL.nil []) writB_nil
end Go.Proofs.YtkijgkagfkapjaaGreatDoor.Zq
