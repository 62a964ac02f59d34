/- EventNone of the set: the call of the Go function returns true and leaves all memory that was there as it was. Condition: what is handed in is within the machine's reach, as the given statement has it. The card's tie is the given one. -/
import Derived.Test.YtkbdfjlpicflaaaGreatDoorCards
import Derived.Test.YtkbdfjlpicflaaaGreatDoorTie
import Derived.Test.YtkbdfjlpicflaaaGreatDoorZcEvent
import Derived.Test.YtkbdfjlpicflaaaGreatDoorZcOpen
import Derived.WalkKit
import Derived.ProofKit
import Derived.OpenShut
import Derived.ShutString
import Derived.ChangeOld
import Derived.Below
import Derived.SizedLaws
import Derived.Lay
import Derived.LaidMore
import Derived.SevenTiedAt
namespace Go.Proofs.YtkbdfjlpicflaaaGreatDoor.eventNone
open Go.ChangeShapes Go.WideShapes Go.ChangeAt Go.RowKit
open Zq Zv
theorem cells_slice {P : Program} {W : World} {base : Nat} {t e : TypeId} {v : Value} (ht : P.underlying t = some (.slice e)) (h : Value.okWide P W .any base t v) : v.cells.toList = [v] := by
  obtain ⟨a, len, cap, rfl⟩ := okWide_slice ht h
  rfl
theorem cells_G_api_State {H : Heap} {a : List Value} (h : WTc Tryz.prog H 8 71 a) : ∃ x : G_api_State, a = T_G_api_State.cells x := by
  have h2 := WTc.shp (ss := [.i .i64, .i .i64, .i .i64, .i .i64, .i .i64, .i .i64, .i .i64, .i .i64, .sl, .sl, .sl, .sl, .sl, .sl, .i .i64, .i .u8, .i .i64, .i .i64, .i .i64, .i .i64, .b, .i .i64]) h (by kernel_rfl)
  obtain ⟨y0, _, rfl, y1, _, rfl, y2, _, rfl, y3, _, rfl, y4, _, rfl, y5, _, rfl, y6, _, rfl, y7, _, rfl, y8, _, rfl, y9, _, rfl, y10, _, rfl, y11, _, rfl, y12, _, rfl, y13, _, rfl, y14, _, rfl, y15, _, rfl, y16, _, rfl, y17, _, rfl, y18, _, rfl, y19, _, rfl, y20, _, rfl, y21, _, rfl, rfl⟩ := h2
  exact ⟨(G_api_State.mk (y0, y1) (y2, y3) (y4, y5) (y6, y7) y8 (y9, y10) (y11, y12) y13 y14 y15 y16 y17 y18 y19 y20 y21), rfl⟩
theorem cells_G_law22_Act {H : Heap} {a : List Value} (h : WTc Tryz.prog H 8 89 a) : ∃ x : G_law22_Act, a = T_G_law22_Act.cells x := by
  have h2 := WTc.shp (ss := [.i .i64, .i .i64, .i .u8, .i .i64, .i .i64, .i .u8, .s, .i .i64, .b, .b, .i .i64, .sl]) h (by kernel_rfl)
  obtain ⟨y0, _, rfl, y1, _, rfl, y2, _, rfl, y3, _, rfl, y4, _, rfl, y5, _, rfl, y6, _, rfl, y7, _, rfl, y8, _, rfl, y9, _, rfl, y10, _, rfl, y11, _, rfl, rfl⟩ := h2
  exact ⟨(G_law22_Act.mk y0 y1 (G_api_Deed.mk y2 y3 y4 y5 y6 y7 y8 y9) y10 y11), rfl⟩
theorem walk {HH : Type} {enc : TypeId × Value → HH} {W : World} {v0 v1 : Value} {d0 d1 : DataW HH} {p0 p1 : List MemPlace} {ts : List TypeId} {ds : List (DataW HH)} (_hz : (DataW.weightsEach Tryz.prog ts ds).all (· ≤ reachBytes) = true) (c0 : ∃ us, v0 = .agg us) (c1 : ∃ us, v1 = .agg us)
    (h0 : DataW.Trod enc Tryz.prog W 0 (fun _ => true) true 71 v0 d0 p0) (h1 : DataW.Trod enc Tryz.prog W 0 (fun _ => true) true 89 v1 d1 p1) :
    Calls Tryz.prog 5 #[v0, v1] W fun e w' => e = .returned (.bool true) ∧ Below W.heap.size W w' := by
  obtain ⟨f0, q0⟩ := h0
  obtain ⟨N0, K0, a0, g0, l0, w0⟩ := openT 8 71 (by kernel_rfl) f0 _ _ _ _ q0 (HR.nil W) RoH.nil
  have ro0 := (RoH.nil).adds g0
  obtain ⟨f1, q1⟩ := h1
  obtain ⟨N1, K1, a1, g1, l1, w1⟩ := openT 8 89 (by kernel_rfl) f1 _ _ _ _ q1 g0.hr ro0
  have ro1 := (ro0).adds g1
  have L0 := (l0.mono (Ext.app _ N1))
  obtain ⟨x0, rfl⟩ := cells_G_api_State (w0.app (K := K1))
  obtain ⟨u0, rfl⟩ := c0
  have L1 := l1
  obtain ⟨x1, rfl⟩ := cells_G_law22_Act (w1)
  obtain ⟨u1, rfl⟩ := c1
  refine CALL.law (args := [T_G_api_State.enc x0, T_G_law22_Act.enc x1]) (eventNone_c (fun _ => rfl)) g1.hr ?_ ro1
  exact VL.cons (VL.agg L0) (VL.cons (VL.agg L1) (VL.nil _))
theorem own : ownKnob Tryz.prog.godebug = none := by kernel_rfl
theorem laidB : laidOutB Tryz.prog = true := by kernel_rfl
set_option maxRecDepth 100000 in
theorem lifted (os : Os) (started : os.Started) (H : Type) (enc : TypeId × Value → H) :
    ReturnsInHanded {} Tryz.checked os 5 .any (fun w args => (Rows.eventNoneSpec.pre enc Tryz.prog Tryz.f5 [] false w args ∧ laidMetH Tryz.prog Rows.eventNoneRow.laid w) ∧ sizedMet enc Tryz.prog Tryz.f5 (OpenSpec.ofChange Rows.eventNoneSpec) false w args)
      (Rows.eventNoneSpec.post enc Tryz.prog Tryz.f5 false true false false) := by
  refine returnsInHanded_of_change_and (C := Tryz.checked) (X := fun w _ => laidMetH Tryz.prog Rows.eventNoneRow.laid w) (fun _ _ _ hh h => h.of_heap hh) own started (by kernel_rfl) Tryz.func5
    (ChangeSpec.witness_shaped (enc := enc) (C := Tryz.checked) (os := os) (X := fun w _ => laidMetH Tryz.prog Rows.eventNoneRow.laid w) false (World.laidAll Tryz.prog os Rows.eventNoneRow.laid) #[.agg #[.int .i64 0, .int .i64 0, .int .i64 0, .int .i64 0, .int .i64 0, .int .i64 0, .int .i64 0, .int .i64 0, .slice none 0 0, .slice none 0 0, .slice none 0 0, .slice none 0 0, .slice none 0 0, .slice none 0 0, .int .i64 0, .int .u8 0, .int .i64 0, .int .i64 0, .int .i64 0, .int .i64 0, .bool false, .int .i64 0], .agg #[.int .i64 0, .int .i64 0, .int .u8 0, .int .i64 0, .int .i64 0, .int .u8 0, .string ⟨#[]⟩, .int .i64 0, .bool false, .bool false, .int .i64 0, .slice none 0 0]] 8 (World.laidAll_os _ _ _)
      (World.shaped_of_ZipB (by kernel_rfl) (by kernel_rfl)) (by kernel_rfl) (by kernel_rfl) (by kernel_rfl)
      (by rw [MakeChecks.laidMetH_plain _ _ _ (by kernel_rfl)]; exact laidMet_laidAll _ (by kernel_rfl) (by kernel_rfl))) ?_
  intro W base args ds gs before hval0 hW _ hz _ _
  have hval : ∀ (j : Nat) t v, Tryz.f5.params[j]? = some t → args[j]? = some v → Value.okWide Tryz.prog W .any base t v := hval0
  have hW' := hW
  obtain ⟨p, q, hA0, hV, rfl, _, _⟩ := hW
  have hA : DataW.TrodAll enc Tryz.prog W 0 (fun _ => true) true Tryz.f5.params.toList args.toList ds p := hA0
  rw [Tryz.params5] at hA hval hz
  obtain ⟨v0, v1, d0, d1, p0, p1, rfl, rfl, rfl, h0, h1⟩ := trodAll_two hA
  obtain ⟨rfl, rfl⟩ := trodVars_none hV
  clear hA0 hval0
  have c0 : ∃ us, v0 = .agg us := by obtain ⟨us, rfl, _⟩ := okWide_struct Tryz.underlying71 (hval 0 71 v0 rfl rfl); exact ⟨us, rfl⟩
  have c1 : ∃ us, v1 = .agg us := by obtain ⟨us, rfl, _⟩ := okWide_struct Tryz.underlying89 (hval 1 89 v1 rfl rfl); exact ⟨us, rfl⟩
  have hlt0 : ∀ x ∈ p0, x.block < W.heap.size := fun x hx => hW'.lt x (by simp [hx])
  have hlt1 : ∀ x ∈ p1, x.block < W.heap.size := fun x hx => hW'.lt x (by simp [hx])
  refine (walk (ts := _) (ds := _) hz c0 c1 h0 h1).mono fun e W' ⟨he, bel⟩ => ?_
  subst he
  exact ⟨_, rfl, _, _, _, [], _, [], hW', trodAll_mk1 (shut_bool Tryz.underlying4 _), trodAll_mk2 (Below.trod laidB (by kernel_rfl) (of_decide_eq_true (by kernel_rfl)) h0 bel hlt0) (Below.trod laidB (by kernel_rfl) (of_decide_eq_true (by kernel_rfl)) h1 bel hlt1), rfl, bel.frame _, fun h => by cases h⟩
theorem over : Rows.EventNoneSaid :=
  OpenClaim.holds_of_wide 5 Tryz.f5 rfl rfl rfl rfl rfl rfl rfl ⟨rfl, rfl, rfl, rfl, rfl⟩ rfl rfl rfl rfl rfl (by kernel_rfl) Tryz.func5 (by kernel_rfl)
    (of_decide_eq_true (by kernel_rfl)) (by unfold Func.isWrapper; first | (rw [if_pos (by decide +kernel)]; kernel_rfl) | (rw [if_neg (by decide +kernel)]; exact ⟨rfl, rfl⟩))
    (fun os started H enc _ => lifted os started H enc)
theorem proved : Rows.EventNoneCardSaid :=
  Claim7.holds_tied_plain_at .later [] [.data, .pinned] true (true, "a43b6c5814731dd9f725c84c8151445704790f091e3a6791de751d640a5e4438") false over (fun _ h => by cases h) (by kernel_rfl) (fun _ h => by cases h) eventNone_row_tie rfl ⟨rfl, rfl⟩ (by kernel_rfl) rfl
    (fun f fn hf hfn => by
      obtain rfl : f = 5 := Option.some.inj ((show Tryz.prog.funcNamed "gambit/gambitlaw22.EventNone" = some 5 by kernel_rfl).symm.trans hf) |>.symm
      obtain rfl : fn = Tryz.f5 := (Option.some.inj (Tryz.func5.symm.trans hfn)).symm
      exact ⟨by kernel_rfl, fun j t ht => by
        rw [Tryz.params5] at ht
        match j, ht with
        | 0, ht => cases ht; show Program.wantsStandIn _ _ = false; kernel_rfl
        | 1, ht => cases ht; show Program.wantsStandIn _ _ = false; kernel_rfl
        | j + 2, ht => simp at ht⟩)
    (by kernel_rfl)
#print axioms proved
end Go.Proofs.YtkbdfjlpicflaaaGreatDoor.eventNone
namespace Go.Proofs.YtkbdfjlpicflaaaGreatDoor
/-- The card, under a short name, for the claim. -/
theorem eventNone_card : Rows.EventNoneCardSaid := eventNone.proved
end Go.Proofs.YtkbdfjlpicflaaaGreatDoor
