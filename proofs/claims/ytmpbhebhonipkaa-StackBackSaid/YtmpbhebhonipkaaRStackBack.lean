/- StackBack of the set: the call of the Go function returns true and leaves all memory that was there as it was. No condition. -/
import Derived.Test.YtmpbhebhonipkaaRows
import Derived.Test.YtmpbhebhonipkaaZcBack
import Derived.Test.YtmpbhebhonipkaaZcArgs
import Derived.Test.YtmpbhebhonipkaaZwLaw
import Derived.WalkKit
import Derived.ProofKit
import Derived.OpenShut
import Derived.ShutString
import Derived.ChangeOld
import Derived.Below
import Derived.SizedLaws
namespace Go.Proofs.Ytmpbhebhonipkaa.stackBack
open Go.ChangeShapes Go.WideShapes Go.ChangeAt Go.RowKit
open Zq Zv
theorem cells_slice {P : Program} {W : World} {base : Nat} {t e : TypeId} {v : Value} (ht : P.underlying t = some (.slice e)) (h : Value.okWide P W .any base t v) : v.cells.toList = [v] := by
  obtain ⟨a, len, cap, rfl⟩ := okWide_slice ht h
  rfl
theorem walk {HH : Type} {enc : TypeId × Value → HH} {W : World} {v0 v1 : Value} {d0 d1 : DataW HH} {p0 p1 : List MemPlace} (c0 : v0.cells.toList = [v0]) (c1 : v1.cells.toList = [v1])
    (h0 : DataW.Trod enc Try.prog W 0 (fun _ => true) true 22 v0 d0 p0) (h1 : DataW.Trod enc Try.prog W 0 (fun _ => true) true 22 v1 d1 p1) :
    Calls Try.prog 3 #[v0, v1] W fun e w' => e = .returned (.bool true) ∧ Below W.heap.size W w' := by
  obtain ⟨f0, h0⟩ := h0
  obtain ⟨f1, h1⟩ := h1
  obtain ⟨N, K, acs, g1, g2, g3⟩ := openT 4 22 (by kernel_rfl) f0 _ _ [] [] h0 (HR.nil W) RoH.nil
  have r1 := RoH.nil.adds g1
  obtain ⟨N', K', acs', k1, k2, k3⟩ := openT 4 22 (by kernel_rfl) f1 _ _ _ _ h1 g1.hr r1
  obtain ⟨s, l, rfl, s1, _, _⟩ := WTc.slice (T := TI4) Try.underlying22 (fun _ _ h => item_cells h) (g3.app (K := K'))
  obtain ⟨s', l', rfl, s1', s2', s3'⟩ := WTc.slice (T := TI4) Try.underlying22 (fun _ _ h => item_cells h) k3
  have hv : VL (([] ++ N) ++ N') [s.v, s'.v] [v0, v1] := by
    rw [c0] at g2; rw [c1] at k2
    exact (g2.mono (Ext.app _ _)).append k2
  exact CALL.law (back_c s1 s1' s3' s2' fun _ => rfl) k1.hr hv (r1.adds k1)
theorem own : ownKnob Try.prog.godebug = none := by kernel_rfl
theorem laid : laidOutB Try.prog = true := by kernel_rfl
set_option maxRecDepth 100000 in
theorem lifted (os : Os) (started : os.Started) (H : Type) (enc : TypeId × Value → H) :
    ReturnsInHanded {} Try.checked os 3 .any (Rows.stackBackSpec.pre6 enc Try.prog Try.f3 Rows.stackBackRow.domain false) (Rows.stackBackSpec.post enc Try.prog Try.f3 false true false false) := by
  refine returnsInHanded_of_change_sized (C := Try.checked) own started (by kernel_rfl) Try.func3
    (ChangeSpec.witness6 (enc := enc) (C := Try.checked) false ⟨#[], #[.slice none 0 0, .slice none 0 0], []⟩ 8 (by kernel_rfl) (by kernel_rfl) (by kernel_rfl) (by kernel_rfl)) ?_
  intro W base args ds gs before hval0 hW _ _ _
  have hval : ∀ (j : Nat) t v, Try.f3.params[j]? = some t → args[j]? = some v → Value.okWide Try.prog W .any base t v := hval0
  have hW' := hW
  obtain ⟨p, q, hA0, hV, rfl, _, _⟩ := hW
  have hA : DataW.TrodAll enc Try.prog W 0 (fun _ => true) true Try.f3.params.toList args.toList ds p := hA0
  rw [Try.params3] at hA hval
  obtain ⟨v0, v1, d0, d1, p0, p1, rfl, rfl, rfl, h0, h1⟩ := trodAll_two hA
  obtain ⟨rfl, rfl⟩ := trodVars_none hV
  clear hA0 hval0
  have c0 := cells_slice Try.underlying22 (hval 0 22 v0 rfl rfl)
  have c1 := cells_slice Try.underlying22 (hval 1 22 v1 rfl rfl)
  have hlt0 : ∀ x ∈ p0, x.block < W.heap.size := fun x hx => hW'.lt x (by simp [hx])
  have hlt1 : ∀ x ∈ p1, x.block < W.heap.size := fun x hx => hW'.lt x (by simp [hx])
  refine (walk c0 c1 h0 h1).mono fun e W' ⟨he, bel⟩ => ?_
  subst he
  exact ⟨_, rfl, _, _, _, [], _, [], hW', trodAll_mk1 (shut_bool Try.underlying4 _), trodAll_mk2 (Below.trod laid (by kernel_rfl) (of_decide_eq_true (by kernel_rfl)) h0 bel hlt0) (Below.trod laid (by kernel_rfl) (of_decide_eq_true (by kernel_rfl)) h1 bel hlt1), rfl, bel.frame _, fun h => by cases h⟩
theorem over : Rows.stackBackRow.holds Try.pinned (OpenSpec.ofChange Rows.stackBackSpec) :=
  OpenClaim.holds_of_wide 3 Try.f3 rfl rfl rfl rfl rfl rfl rfl ⟨rfl, rfl, rfl, rfl, rfl⟩ rfl rfl rfl rfl rfl (by kernel_rfl) Try.func3 (by kernel_rfl)
    (of_decide_eq_true (by kernel_rfl)) (by unfold Func.isWrapper; first | (rw [if_pos (by decide +kernel)]; kernel_rfl) | (rw [if_neg (by decide +kernel)]; exact ⟨rfl, rfl⟩))
    (fun os started H enc _ => lifted os started H enc)
theorem proved : Rows.StackBackSaid := over
#print axioms proved
end Go.Proofs.Ytmpbhebhonipkaa.stackBack
namespace Go.Proofs.Ytmpbhebhonipkaa
/-- The row, under a short name, for the claim. -/
theorem stackBack_holds : Rows.StackBackSaid := stackBack.proved
end Go.Proofs.Ytmpbhebhonipkaa
