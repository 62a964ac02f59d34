/- EventKnown of the set: the call of the Go function returns true and leaves all memory that was there as it was. No condition is used. The kernel runs an abstract evaluator of the program's code; that what it answers is what the call answers, whatever Go leaves open, is proved once for all programs. The card's tie is the given one. -/
import Derived.Test.YtmpdpfkdebbngaaGreatDoorCards
import Derived.Test.YtmpdpfkdebbngaaGreatDoorTie
import Derived.Test.YtmpdpfkdebbngaaGreatDoorZEnv
import Derived.Test.YtmpdpfkdebbngaaGreatDoorZqRow
import Derived.Test.YtmpdpfkdebbngaaGreatDoorZOEventKnown0
import Derived.Test.YtmpdpfkdebbngaaGreatDoorZOEventKnown1
import Derived.Test.YtmpdpfkdebbngaaGreatDoorZOEventKnown2
import Derived.Test.YtmpdpfkdebbngaaGreatDoorZOEventKnown3
import Derived.Test.YtmpdpfkdebbngaaGreatDoorZOEventKnown4
import Derived.WalkKit
import Derived.ProofKit
import Derived.OpenShut
import Derived.ChangeOld
import Derived.Below
import Derived.SizedLaws
import Derived.Lay
import Derived.LaidMore
import Derived.SevenTiedAt
namespace Go.Proofs.YtmpdpfkdebbngaaGreatDoor.eventKnown
open Go.ChangeShapes Go.WideShapes Go.ChangeAt Go.RowKit
theorem walk (w : World) : Calls Tryz.prog 4 #[] w fun e w' => e = .returned (.bool true) ∧ Below w.heap.size w w' := by
  obtain ⟨H', h⟩ := Zq.orc_true (E := Tryz.env) (k := 99) (es := [OEventKnown.en4, OEventKnown.en5, OEventKnown.en14, OEventKnown.en24]) (List.forall_mem_cons.2 ⟨OEventKnown.va4, (List.forall_mem_cons.2 ⟨OEventKnown.va5, (List.forall_mem_cons.2 ⟨OEventKnown.va14, (List.forall_mem_cons.2 ⟨OEventKnown.va24, (fun e h => by cases h)⟩)⟩)⟩)⟩) (f := 4) (by kernel_rfl)
  exact Zq.law_calls (Tryz.fnOk 100) h (Zq.HR.nil w) (Zq.VL.nil []) Zq.writB_nil
theorem own : ownKnob Tryz.prog.godebug = none := by kernel_rfl
set_option maxRecDepth 100000 in
theorem lifted (os : Os) (started : os.Started) (H : Type) (enc : TypeId × Value → H) :
    ReturnsInHanded {} Tryz.checked os 4 .any (fun w args => (Rows.eventKnownSpec.pre enc Tryz.prog Tryz.f4 [] false w args ∧ laidMetH Tryz.prog Rows.eventKnownRow.laid w) ∧ sizedMet enc Tryz.prog Tryz.f4 (OpenSpec.ofChange Rows.eventKnownSpec) false w args)
      (Rows.eventKnownSpec.post enc Tryz.prog Tryz.f4 false true false false) := by
  refine returnsInHanded_of_change_and (C := Tryz.checked) (X := fun w _ => laidMetH Tryz.prog Rows.eventKnownRow.laid w) (fun _ _ _ hh h => h.of_heap hh) own started (by kernel_rfl) Tryz.func4
    (ChangeSpec.witness_shaped (enc := enc) (C := Tryz.checked) (os := os) (X := fun w _ => laidMetH Tryz.prog Rows.eventKnownRow.laid w) false (World.laidAll Tryz.prog os Rows.eventKnownRow.laid) #[] 8 (World.laidAll_os _ _ _)
      (World.shaped_of_ZipB (by kernel_rfl) (by kernel_rfl)) (by kernel_rfl) (by kernel_rfl) (by kernel_rfl)
      (by rw [MakeChecks.laidMetH_plain _ _ _ (by kernel_rfl)]; exact laidMet_laidAll _ (by kernel_rfl) (by kernel_rfl))) ?_
  intro W base args ds gs before _ hW _ _ _ _
  have hW' := hW
  obtain ⟨p, q, hA0, hV, rfl, _, _⟩ := hW
  have hA : DataW.TrodAll enc Tryz.prog W 0 (fun _ => true) true Tryz.f4.params.toList args.toList ds p := hA0
  rw [Tryz.params4] at hA
  obtain ⟨rfl, rfl, rfl⟩ := trodAll_none hA
  obtain ⟨rfl, rfl⟩ := trodVars_none hV
  clear hA0
  refine (walk W).mono fun e W' ⟨he, bel⟩ => ?_
  subst he
  exact ⟨_, rfl, _, _, _, [], _, [], hW', trodAll_mk1 (shut_bool Tryz.underlying4 _), trodAll_mk0, rfl, bel.frame _, fun h => by cases h⟩
theorem over : Rows.EventKnownSaid :=
  OpenClaim.holds_of_wide 4 Tryz.f4 rfl rfl rfl rfl rfl rfl rfl ⟨rfl, rfl, rfl, rfl, rfl⟩ rfl rfl rfl rfl rfl (by kernel_rfl) Tryz.func4 (by kernel_rfl)
    (of_decide_eq_true (by kernel_rfl)) (by unfold Func.isWrapper; first | (rw [if_pos (by decide +kernel)]; kernel_rfl) | (rw [if_neg (by decide +kernel)]; exact ⟨rfl, rfl⟩))
    (fun os started H enc _ => lifted os started H enc)
theorem proved : Rows.EventKnownCardSaid :=
  Claim7.holds_tied_plain_at .later [] [.data, .pinned] true (true, "f1a74cb4bd20997636fc3ad1cfb56cbd4f5e7723e781922e9bb2b346f7e09b68") false over (fun _ h => by cases h) (by kernel_rfl) (fun _ h => by cases h) eventKnown_row_tie rfl ⟨rfl, rfl⟩ (by kernel_rfl) rfl
    (fun f fn hf hfn => by
      obtain rfl : f = 4 := Option.some.inj ((show Tryz.prog.funcNamed "gambit/gambitlaw22.EventKnown" = some 4 by kernel_rfl).symm.trans hf) |>.symm
      obtain rfl : fn = Tryz.f4 := (Option.some.inj (Tryz.func4.symm.trans hfn)).symm
      exact ⟨by kernel_rfl, fun j t ht => by
        rw [Tryz.params4] at ht
        simp at ht⟩)
    (by kernel_rfl)
#print axioms proved
end Go.Proofs.YtmpdpfkdebbngaaGreatDoor.eventKnown
namespace Go.Proofs.YtmpdpfkdebbngaaGreatDoor
/-- The card, under a short name, for the claim. -/
theorem eventKnown_card : Rows.EventKnownCardSaid := eventKnown.proved
end Go.Proofs.YtmpdpfkdebbngaaGreatDoor
