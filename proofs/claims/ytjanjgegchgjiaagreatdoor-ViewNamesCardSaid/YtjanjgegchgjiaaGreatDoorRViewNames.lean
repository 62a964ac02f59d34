/- ViewNames of the set: the call of the Go function returns true and leaves all memory that was there as it was. No condition is used. The kernel runs an abstract evaluator of the program's code; that what it answers is what the call answers, whatever Go leaves open, is proved once for all programs. The card's tie is the given one. -/
import Derived.Test.YtjanjgegchgjiaaGreatDoorCards
import Derived.Test.YtjanjgegchgjiaaGreatDoorTie
import Derived.Test.YtjanjgegchgjiaaGreatDoorZEnv
import Derived.Test.YtjanjgegchgjiaaGreatDoorZqRow
import Derived.Test.YtjanjgegchgjiaaGreatDoorZOViewNames0
import Derived.Test.YtjanjgegchgjiaaGreatDoorZOViewNames1
import Derived.Test.YtjanjgegchgjiaaGreatDoorZOViewNames2
import Derived.Test.YtjanjgegchgjiaaGreatDoorZOViewNames3
import Derived.WalkKit
import Derived.ProofKit
import Derived.OpenShut
import Derived.ChangeOld
import Derived.Below
import Derived.SizedLaws
import Derived.Lay
import Derived.LaidMore
import Derived.SevenTiedAt
namespace Go.Proofs.YtjanjgegchgjiaaGreatDoor.viewNames
open Go.ChangeShapes Go.WideShapes Go.ChangeAt Go.RowKit
theorem walk (w : World) : Calls Tryz.prog 4 #[] w fun e w' => e = .returned (.bool true) ∧ Below w.heap.size w w' := by
  obtain ⟨H', h⟩ := Zq.orc_true (E := Tryz.env) (k := 99) (es := [OViewNames.en0, OViewNames.en1, OViewNames.en2, OViewNames.en3, OViewNames.en4, OViewNames.en5, OViewNames.en6, OViewNames.en7, OViewNames.en8, OViewNames.en9, OViewNames.en10, OViewNames.en11]) (List.forall_mem_cons.2 ⟨OViewNames.va0, (List.forall_mem_cons.2 ⟨OViewNames.va1, (List.forall_mem_cons.2 ⟨OViewNames.va2, (List.forall_mem_cons.2 ⟨OViewNames.va3, (List.forall_mem_cons.2 ⟨OViewNames.va4, (List.forall_mem_cons.2 ⟨OViewNames.va5, (List.forall_mem_cons.2 ⟨OViewNames.va6, (List.forall_mem_cons.2 ⟨OViewNames.va7, (List.forall_mem_cons.2 ⟨OViewNames.va8, (List.forall_mem_cons.2 ⟨OViewNames.va9, (List.forall_mem_cons.2 ⟨OViewNames.va10, (List.forall_mem_cons.2 ⟨OViewNames.va11, (fun e h => by cases h)⟩)⟩)⟩)⟩)⟩)⟩)⟩)⟩)⟩)⟩)⟩)⟩) (f := 4) (by kernel_rfl)
  exact Zq.law_calls (Tryz.fnOk 100) h (Zq.HR.nil w) (Zq.VL.nil []) Zq.writB_nil
theorem own : ownKnob Tryz.prog.godebug = none := by kernel_rfl
set_option maxRecDepth 100000 in
theorem lifted (os : Os) (started : os.Started) (H : Type) (enc : TypeId × Value → H) :
    ReturnsInHanded {} Tryz.checked os 4 .any (fun w args => (Rows.viewNamesSpec.pre enc Tryz.prog Tryz.f4 [] false w args ∧ laidMetH Tryz.prog Rows.viewNamesRow.laid w) ∧ sizedMet enc Tryz.prog Tryz.f4 (OpenSpec.ofChange Rows.viewNamesSpec) false w args)
      (Rows.viewNamesSpec.post enc Tryz.prog Tryz.f4 false true false false) := by
  refine returnsInHanded_of_change_and (C := Tryz.checked) (X := fun w _ => laidMetH Tryz.prog Rows.viewNamesRow.laid w) (fun _ _ _ hh h => h.of_heap hh) own started (by kernel_rfl) Tryz.func4
    (ChangeSpec.witness_shaped (enc := enc) (C := Tryz.checked) (os := os) (X := fun w _ => laidMetH Tryz.prog Rows.viewNamesRow.laid w) false (World.laidAll Tryz.prog os Rows.viewNamesRow.laid) #[] 8 (World.laidAll_os _ _ _)
      (World.shaped_of_ZipB (by kernel_rfl) (by kernel_rfl)) (by kernel_rfl) (by kernel_rfl) (by kernel_rfl)
      (by rw [MakeChecks.laidMetH_plain _ _ _ (by kernel_rfl)]; exact laidMet_laidAll _ (by kernel_rfl) (by kernel_rfl))) ?_
  intro W base args ds gs before _ hW _ _ _ _
  have hW' := hW
  obtain ⟨p, q, hA0, hV, rfl, _, _⟩ := hW
  have hA : DataW.TrodAll enc Tryz.prog W 0 (fun _ => true) true Tryz.f4.params.toList args.toList ds p := hA0
  rw [Tryz.params4] at hA
  obtain ⟨rfl, rfl, rfl⟩ := trodAll_none hA
  obtain ⟨rfl, rfl⟩ := trodVars_none hV
  clear hA0
  refine (walk W).mono fun e W' ⟨he, bel⟩ => ?_
  subst he
  exact ⟨_, rfl, _, _, _, [], _, [], hW', trodAll_mk1 (shut_bool Tryz.underlying4 _), trodAll_mk0, rfl, bel.frame _, fun h => by cases h⟩
theorem over : Rows.ViewNamesSaid :=
  OpenClaim.holds_of_wide 4 Tryz.f4 rfl rfl rfl rfl rfl rfl rfl ⟨rfl, rfl, rfl, rfl, rfl⟩ rfl rfl rfl rfl rfl (by kernel_rfl) Tryz.func4 (by kernel_rfl)
    (of_decide_eq_true (by kernel_rfl)) (by unfold Func.isWrapper; first | (rw [if_pos (by decide +kernel)]; kernel_rfl) | (rw [if_neg (by decide +kernel)]; exact ⟨rfl, rfl⟩))
    (fun os started H enc _ => lifted os started H enc)
theorem proved : Rows.ViewNamesCardSaid :=
  Claim7.holds_tied_plain_at .later [] [.data, .pinned] true (true, "e611d1d34139b985bcbf1478d46d7c8c2038f8df6440ba1179e06cc278a53764") false over (fun _ h => by cases h) (by kernel_rfl) (fun _ h => by cases h) viewNames_row_tie rfl ⟨rfl, rfl⟩ (by kernel_rfl) rfl
    (fun f fn hf hfn => by
      obtain rfl : f = 4 := Option.some.inj ((show Tryz.prog.funcNamed "gambit/gambitlaw20.ViewNames" = some 4 by kernel_rfl).symm.trans hf) |>.symm
      obtain rfl : fn = Tryz.f4 := (Option.some.inj (Tryz.func4.symm.trans hfn)).symm
      exact ⟨by kernel_rfl, fun j t ht => by
        rw [Tryz.params4] at ht
        simp at ht⟩)
    (by kernel_rfl)
#print axioms proved
end Go.Proofs.YtjanjgegchgjiaaGreatDoor.viewNames
namespace Go.Proofs.YtjanjgegchgjiaaGreatDoor
/-- The card, under a short name, for the claim. -/
theorem viewNames_card : Rows.ViewNamesCardSaid := viewNames.proved
end Go.Proofs.YtjanjgegchgjiaaGreatDoor
