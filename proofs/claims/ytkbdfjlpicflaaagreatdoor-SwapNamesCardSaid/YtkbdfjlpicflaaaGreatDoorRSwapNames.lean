/- SwapNames of the set: the call of the Go function returns true and leaves all memory that was there as it was. No condition is used. The kernel runs an abstract evaluator of the program's code; that what it answers is what the call answers, whatever Go leaves open, is proved once for all programs. The card's tie is the given one. -/
import Derived.Test.YtkbdfjlpicflaaaGreatDoorCards
import Derived.Test.YtkbdfjlpicflaaaGreatDoorTie
import Derived.Test.YtkbdfjlpicflaaaGreatDoorZEnv
import Derived.Test.YtkbdfjlpicflaaaGreatDoorZqRow
import Derived.Test.YtkbdfjlpicflaaaGreatDoorZOSwapNames0
import Derived.Test.YtkbdfjlpicflaaaGreatDoorZOSwapNames1
import Derived.Test.YtkbdfjlpicflaaaGreatDoorZOSwapNames2
import Derived.Test.YtkbdfjlpicflaaaGreatDoorZOSwapNames3
import Derived.WalkKit
import Derived.ProofKit
import Derived.OpenShut
import Derived.ChangeOld
import Derived.Below
import Derived.SizedLaws
import Derived.Lay
import Derived.LaidMore
import Derived.SevenTiedAt
namespace Go.Proofs.YtkbdfjlpicflaaaGreatDoor.swapNames
open Go.ChangeShapes Go.WideShapes Go.ChangeAt Go.RowKit
theorem walk (w : World) : Calls Tryz.prog 3 #[] w fun e w' => e = .returned (.bool true) ∧ Below w.heap.size w w' := by
  obtain ⟨H', h⟩ := Zq.orc_true (E := Tryz.env) (k := 99) (es := [OSwapNames.en0, OSwapNames.en1, OSwapNames.en2, OSwapNames.en3, OSwapNames.en4, OSwapNames.en5, OSwapNames.en6, OSwapNames.en7, OSwapNames.en8, OSwapNames.en9, OSwapNames.en10, OSwapNames.en11, OSwapNames.en12, OSwapNames.en13, OSwapNames.en14, OSwapNames.en15, OSwapNames.en16, OSwapNames.en17, OSwapNames.en18]) (List.forall_mem_cons.2 ⟨OSwapNames.va0, (List.forall_mem_cons.2 ⟨OSwapNames.va1, (List.forall_mem_cons.2 ⟨OSwapNames.va2, (List.forall_mem_cons.2 ⟨OSwapNames.va3, (List.forall_mem_cons.2 ⟨OSwapNames.va4, (List.forall_mem_cons.2 ⟨OSwapNames.va5, (List.forall_mem_cons.2 ⟨OSwapNames.va6, (List.forall_mem_cons.2 ⟨OSwapNames.va7, (List.forall_mem_cons.2 ⟨OSwapNames.va8, (List.forall_mem_cons.2 ⟨OSwapNames.va9, (List.forall_mem_cons.2 ⟨OSwapNames.va10, (List.forall_mem_cons.2 ⟨OSwapNames.va11, (List.forall_mem_cons.2 ⟨OSwapNames.va12, (List.forall_mem_cons.2 ⟨OSwapNames.va13, (List.forall_mem_cons.2 ⟨OSwapNames.va14, (List.forall_mem_cons.2 ⟨OSwapNames.va15, (List.forall_mem_cons.2 ⟨OSwapNames.va16, (List.forall_mem_cons.2 ⟨OSwapNames.va17, (List.forall_mem_cons.2 ⟨OSwapNames.va18, (fun e h => by cases h)⟩)⟩)⟩)⟩)⟩)⟩)⟩)⟩)⟩)⟩)⟩)⟩)⟩)⟩)⟩)⟩)⟩)⟩)⟩) (f := 3) (by kernel_rfl)
  exact Zq.law_calls (Tryz.fnOk 100) h (Zq.HR.nil w) (Zq.VL.nil []) Zq.writB_nil
theorem own : ownKnob Tryz.prog.godebug = none := by kernel_rfl
set_option maxRecDepth 100000 in
theorem lifted (os : Os) (started : os.Started) (H : Type) (enc : TypeId × Value → H) :
    ReturnsInHanded {} Tryz.checked os 3 .any (fun w args => (Rows.swapNamesSpec.pre enc Tryz.prog Tryz.f3 [] false w args ∧ laidMetH Tryz.prog Rows.swapNamesRow.laid w) ∧ sizedMet enc Tryz.prog Tryz.f3 (OpenSpec.ofChange Rows.swapNamesSpec) false w args)
      (Rows.swapNamesSpec.post enc Tryz.prog Tryz.f3 false true false false) := by
  refine returnsInHanded_of_change_and (C := Tryz.checked) (X := fun w _ => laidMetH Tryz.prog Rows.swapNamesRow.laid w) (fun _ _ _ hh h => h.of_heap hh) own started (by kernel_rfl) Tryz.func3
    (ChangeSpec.witness_shaped (enc := enc) (C := Tryz.checked) (os := os) (X := fun w _ => laidMetH Tryz.prog Rows.swapNamesRow.laid w) false (World.laidAll Tryz.prog os Rows.swapNamesRow.laid) #[] 8 (World.laidAll_os _ _ _)
      (World.shaped_of_ZipB (by kernel_rfl) (by kernel_rfl)) (by kernel_rfl) (by kernel_rfl) (by kernel_rfl)
      (by rw [MakeChecks.laidMetH_plain _ _ _ (by kernel_rfl)]; exact laidMet_laidAll _ (by kernel_rfl) (by kernel_rfl))) ?_
  intro W base args ds gs before _ hW _ _ _ _
  have hW' := hW
  obtain ⟨p, q, hA0, hV, rfl, _, _⟩ := hW
  have hA : DataW.TrodAll enc Tryz.prog W 0 (fun _ => true) true Tryz.f3.params.toList args.toList ds p := hA0
  rw [Tryz.params3] at hA
  obtain ⟨rfl, rfl, rfl⟩ := trodAll_none hA
  obtain ⟨rfl, rfl⟩ := trodVars_none hV
  clear hA0
  refine (walk W).mono fun e W' ⟨he, bel⟩ => ?_
  subst he
  exact ⟨_, rfl, _, _, _, [], _, [], hW', trodAll_mk1 (shut_bool Tryz.underlying4 _), trodAll_mk0, rfl, bel.frame _, fun h => by cases h⟩
theorem over : Rows.SwapNamesSaid :=
  OpenClaim.holds_of_wide 3 Tryz.f3 rfl rfl rfl rfl rfl rfl rfl ⟨rfl, rfl, rfl, rfl, rfl⟩ rfl rfl rfl rfl rfl (by kernel_rfl) Tryz.func3 (by kernel_rfl)
    (of_decide_eq_true (by kernel_rfl)) (by unfold Func.isWrapper; first | (rw [if_pos (by decide +kernel)]; kernel_rfl) | (rw [if_neg (by decide +kernel)]; exact ⟨rfl, rfl⟩))
    (fun os started H enc _ => lifted os started H enc)
theorem proved : Rows.SwapNamesCardSaid :=
  Claim7.holds_tied_plain_at .later [] [.data, .pinned] true (true, "a43b6c5814731dd9f725c84c8151445704790f091e3a6791de751d640a5e4438") false over (fun _ h => by cases h) (by kernel_rfl) (fun _ h => by cases h) swapNames_row_tie rfl ⟨rfl, rfl⟩ (by kernel_rfl) rfl
    (fun f fn hf hfn => by
      obtain rfl : f = 3 := Option.some.inj ((show Tryz.prog.funcNamed "gambit/gambitlaw21.SwapNames" = some 3 by kernel_rfl).symm.trans hf) |>.symm
      obtain rfl : fn = Tryz.f3 := (Option.some.inj (Tryz.func3.symm.trans hfn)).symm
      exact ⟨by kernel_rfl, fun j t ht => by
        rw [Tryz.params3] at ht
        simp at ht⟩)
    (by kernel_rfl)
#print axioms proved
end Go.Proofs.YtkbdfjlpicflaaaGreatDoor.swapNames
namespace Go.Proofs.YtkbdfjlpicflaaaGreatDoor
/-- The card, under a short name, for the claim. -/
theorem swapNames_card : Rows.SwapNamesCardSaid := swapNames.proved
end Go.Proofs.YtkbdfjlpicflaaaGreatDoor
