/- StackNil of the set: the call of the Go function returns true and leaves all memory that was there as it was. Condition: what is handed in is of the bulk that the given statement's second form has. -/
import Derived.Test.YtmjonmhpfngkaaaRows
import Derived.Test.YtmjonmhpfngkaaaZS0
import Derived.Test.YtmjonmhpfngkaaaZwClosed
import Derived.Test.YtmjonmhpfngkaaaZcOpen
import Derived.WalkKit
import Derived.ProofKit
import Derived.OpenShut
import Derived.ShutString
import Derived.ChangeOld
import Derived.Below
import Derived.SizedLaws
import Derived.JoinedCond
import Derived.Deep.CondSized
namespace Go.Proofs.Ytmjonmhpfngkaaa.stackNil
open Go.ChangeShapes Go.WideShapes Go.ChangeAt Go.RowKit
open Zq Zv
theorem cells_slice {P : Program} {W : World} {base : Nat} {t e : TypeId} {v : Value} (ht : P.underlying t = some (.slice e)) (h : Value.okWide P W .any base t v) : v.cells.toList = [v] := by
  obtain ⟨a, len, cap, rfl⟩ := okWide_slice ht h
  rfl
theorem cells_G_api_Item {H : Heap} {a : List Value} (h : WTc Try.prog H 8 23 a) : ∃ x : G_api_Item, a = T_G_api_Item.cells x := by
  have h2 := WTc.shp (ss := [.i .i64, .i .i64, .i .i64, .i .i64]) h (by kernel_rfl)
  obtain ⟨y0, _, rfl, y1, _, rfl, y2, _, rfl, y3, _, rfl, rfl⟩ := h2
  exact ⟨(G_api_Item.mk y0 y1 y2 y3), rfl⟩
theorem walk {HH : Type} {enc : TypeId × Value → HH} {W : World} {v0 : Value} {d0 : DataW HH} {p0 : List MemPlace} {ts : List TypeId} {ds : List (DataW HH)} (_hz : (DataW.weightsEach Try.prog ts ds).all (· ≤ reachBytes) = true) (c0 : ∃ us, v0 = .agg us)
    (h0 : DataW.Trod enc Try.prog W 0 (fun _ => true) true 23 v0 d0 p0) :
    Calls Try.prog 3 #[v0] W fun e w' => e = .returned (.bool true) ∧ Below W.heap.size W w' := by
  obtain ⟨f0, q0⟩ := h0
  obtain ⟨N0, K0, a0, g0, l0, w0⟩ := openT 8 23 (by kernel_rfl) f0 _ _ _ _ q0 (HR.nil W) RoH.nil
  have ro0 := (RoH.nil).adds g0
  have L0 := l0
  obtain ⟨x0, rfl⟩ := cells_G_api_Item (w0)
  obtain ⟨u0, rfl⟩ := c0
  have e0 := VL.flat_eq rfl L0
  obtain ⟨H9, hh⟩ := Zq.fast_trueA (E := Try.env) (k := 100) (f := 3) (args := [T_G_api_Item.enc x0]) (by kernel_rfl)
  refine Zq.law_calls (M := []) (Try.fnOk 100) hh (HR.nil W) ?_ writB_nil
  exact VL.cons (VL.agg (by have e : u0.toList = _ := e0; rw [e]; exact VL.flat_refl rfl)) (VL.nil _)
theorem own : ownKnob Try.prog.godebug = none := by kernel_rfl
theorem laidB : laidOutB Try.prog = true := by kernel_rfl
set_option maxRecDepth 100000 in
theorem lifted (os : Os) (started : os.Started) (H : Type) (enc : TypeId × Value → H) (F : Stop.Interp) :
    ReturnsInHanded {} Try.checked os 3 .any ((Rows.OpenSpec.upto Rows.stackNilSpec).pre6 enc Try.prog Try.f3 Rows.stackNilUptoRow.domain false) (((Rows.OpenSpec.upto Rows.stackNilSpec).at F).post enc Try.prog Try.f3 false true false false) := by
  refine returnsInHanded_of_cond_sized (C := Try.checked) (s := Rows.OpenSpec.upto Rows.stackNilSpec) (k := Rows.uptoSmall) rfl own started (by kernel_rfl) Try.func3
    (OpenSpec.witness (enc := enc) (C := Try.checked) (s := Rows.OpenSpec.upto Rows.stackNilSpec) (k := Rows.uptoSmall) rfl false ⟨#[], #[.agg #[.int .i64 0, .int .i64 0, .int .i64 0, .int .i64 0]], []⟩ 8 (by kernel_rfl) (by kernel_rfl) (by kernel_rfl)
      (x := ([.agg [.lit (.int .i64 0), .lit (.int .i64 0), .lit (.int .i64 0), .lit (.int .i64 0)]], [], [])) (by kernel_rfl) rfl (by kernel_rfl)) ?_
  intro W base args ds gs before hval0 hW _ hk hz _
  have hval : ∀ (j : Nat) t v, Try.f3.params[j]? = some t → args[j]? = some v → Value.okWide Try.prog W .any base t v := hval0
  have hW' := hW
  obtain ⟨p, q, hA0, hV, rfl, _, _⟩ := hW
  have hA : DataW.TrodAll enc Try.prog W 0 (fun _ => true) true Try.f3.params.toList args.toList ds p := hA0
  rw [Try.params3] at hA hval hz
  obtain ⟨v0, d0, rfl, rfl, h0⟩ := trodAll_one hA
  obtain ⟨p0, rfl⟩ : ∃ p0, p0 = p := ⟨_, rfl⟩
  obtain ⟨rfl, rfl⟩ := trodVars_none hV
  clear hA0 hval0
  have c0 : ∃ us, v0 = .agg us := by obtain ⟨us, rfl, _⟩ := okWide_struct Try.underlying23 (hval 0 23 v0 rfl rfl); exact ⟨us, rfl⟩
  have hlt0 : ∀ x ∈ p0, x.block < W.heap.size := fun x hx => hW'.lt x (by simp [hx])
  refine (walk (ts := _) (ds := _) hz c0 h0).mono fun e W' ⟨he, bel⟩ => ?_
  subst he
  exact ⟨_, rfl, _, _, _, [], _, [], hW', trodAll_mk1 (shut_bool Try.underlying4 _), trodAll_mk1 (Below.trod laidB (by kernel_rfl) (of_decide_eq_true (by kernel_rfl)) h0 bel hlt0), rfl, bel.frame _, fun h => by cases h⟩
theorem proved : Rows.StackNilUptoSaid :=
  OpenClaim.holds_of_cond 3 Try.f3 rfl rfl rfl rfl rfl rfl rfl ⟨rfl, rfl, rfl, rfl, rfl⟩ rfl rfl rfl rfl rfl (by kernel_rfl) Try.func3 (by kernel_rfl)
    (of_decide_eq_true (by kernel_rfl)) (by unfold Func.isWrapper; first | (rw [if_pos (by decide +kernel)]; kernel_rfl) | (rw [if_neg (by decide +kernel)]; exact ⟨rfl, rfl⟩))
    (fun os started H enc _ F => lifted os started H enc F)
#print axioms proved
end Go.Proofs.Ytmjonmhpfngkaaa.stackNil
namespace Go.Proofs.Ytmjonmhpfngkaaa
/-- The row, under a short name, for the claim. -/
theorem stackNilUpto_holds : Rows.StackNilUptoSaid := stackNil.proved
end Go.Proofs.Ytmjonmhpfngkaaa
