/- StrikeNil of the set: the call of the Go function returns true and leaves all memory that was there as it was. Condition: what is handed in is within the machine's reach, as the given statement has it. The card's tie is the given one. -/
import Derived.Test.YtngdmjajgeobhaaGreatDoorCards
import Derived.Test.YtngdmjajgeobhaaGreatDoorTie
import Derived.Test.YtngdmjajgeobhaaGreatDoorZcStrike
import Derived.Test.YtngdmjajgeobhaaGreatDoorZcOpen
import Derived.WalkKit
import Derived.ProofKit
import Derived.OpenShut
import Derived.ShutString
import Derived.ChangeOld
import Derived.Below
import Derived.SizedLaws
import Derived.Lay
import Derived.LaidMore
import Derived.SevenTiedAt
namespace Go.Proofs.YtngdmjajgeobhaaGreatDoor.strikeNil
open Go.ChangeShapes Go.WideShapes Go.ChangeAt Go.RowKit
open Zq Zv
theorem cells_slice {P : Program} {W : World} {base : Nat} {t e : TypeId} {v : Value} (ht : P.underlying t = some (.slice e)) (h : Value.okWide P W .any base t v) : v.cells.toList = [v] := by
  obtain ⟨a, len, cap, rfl⟩ := okWide_slice ht h
  rfl
theorem cells_G_law26_Ask {H : Heap} {a : List Value} (h : WTc Tryz.prog H 8 29 a) : ∃ x : G_law26_Ask, a = T_G_law26_Ask.cells x := by
  have h2 := WTc.shp (ss := [.i .i64, .i .i64, .i .i64]) h (by kernel_rfl)
  obtain ⟨y0, _, rfl, y1, _, rfl, y2, _, rfl, rfl⟩ := h2
  exact ⟨(G_law26_Ask.mk y0 y1 y2), rfl⟩
theorem cells_G_api_Thing {H : Heap} {a : List Value} (h : WTc Tryz.prog H 7 52 a) : ∃ x : G_api_Thing, a = T_G_api_Thing.cells x := by
  have h2 := WTc.shp (ss := [.i .i64, .i .i64, .i .u8, .i .i64, .i .i64, .i .i64, .i .i64, .i .i64, .i .i64, .i .i64, .b]) h (by kernel_rfl)
  obtain ⟨y0, _, rfl, y1, _, rfl, y2, _, rfl, y3, _, rfl, y4, _, rfl, y5, _, rfl, y6, _, rfl, y7, _, rfl, y8, _, rfl, y9, _, rfl, y10, _, rfl, rfl⟩ := h2
  exact ⟨(G_api_Thing.mk y0 y1 y2 y3 y4 (y5, y6, y7, y8) y9 y10), rfl⟩
theorem cells_G_api_Feature {H : Heap} {a : List Value} (h : WTc Tryz.prog H 7 108 a) : ∃ x : G_api_Feature, a = T_G_api_Feature.cells x := by
  have h2 := WTc.shp (ss := [.i .i64, .i .u8, .i .u16, .i .i64, .i .i64]) h (by kernel_rfl)
  obtain ⟨y0, _, rfl, y1, _, rfl, y2, _, rfl, y3, _, rfl, y4, _, rfl, rfl⟩ := h2
  exact ⟨(G_api_Feature.mk y0 y1 y2 y3 y4), rfl⟩
theorem walk {HH : Type} {enc : TypeId × Value → HH} {W : World} {v0 v1 v2 : Value} {d0 d1 d2 : DataW HH} {p0 p1 p2 : List MemPlace} {ts : List TypeId} {ds : List (DataW HH)} (hz : (DataW.weightsEach Tryz.prog ts ds).all (· ≤ reachBytes) = true) (c0 : v0.cells.toList = [v0]) (hj0 : ts[0]? = some 23) (hd0 : ds[0]? = some d0) (c1 : v1.cells.toList = [v1]) (hj1 : ts[1]? = some 24) (hd1 : ds[1]? = some d1) (c2 : ∃ us, v2 = .agg us)
    (h0 : DataW.Trod enc Tryz.prog W 0 (fun _ => true) true 23 v0 d0 p0) (h1 : DataW.Trod enc Tryz.prog W 0 (fun _ => true) true 24 v1 d1 p1) (h2 : DataW.Trod enc Tryz.prog W 0 (fun _ => true) true 29 v2 d2 p2) :
    Calls Tryz.prog 4 #[v0, v1, v2] W fun e w' => e = .returned (.bool true) ∧ Below W.heap.size W w' := by
  obtain ⟨f0, q0⟩ := h0
  obtain ⟨N0, K0, a0, g0, l0, w0⟩ := openT 8 23 (by kernel_rfl) f0 _ _ _ _ q0 (HR.nil W) RoH.nil
  have ro0 := (RoH.nil).adds g0
  obtain ⟨f1, q1⟩ := h1
  obtain ⟨N1, K1, a1, g1, l1, w1⟩ := openT 8 24 (by kernel_rfl) f1 _ _ _ _ q1 g0.hr ro0
  have ro1 := (ro0).adds g1
  obtain ⟨f2, q2⟩ := h2
  obtain ⟨N2, K2, a2, g2, l2, w2⟩ := openT 8 29 (by kernel_rfl) f2 _ _ _ _ q2 g1.hr ro1
  have ro2 := (ro1).adds g2
  have L0 := ((l0.mono (Ext.app _ N1)).mono (Ext.app _ N2))
  obtain ⟨s0, m0, rfl, r0, z0, o0⟩ := WTc.sliceD (T := T_G_api_Thing) Tryz.underlying23 (fun _ h => cells_G_api_Thing h) (w0.app (K := K1).app (K := K2))
  rw [c0] at L0
  have b0 := sl_bound Tryz.underlying23 c0 ⟨f0, q0⟩ hz hj0 hd0 (L0.2 0 _ _ rfl rfl)
  rw [show Tryz.prog.bytesOf 52 = 88 by kernel_rfl] at b0
  have L1 := (l1.mono (Ext.app _ N2))
  obtain ⟨s1, m1, rfl, r1, z1, o1⟩ := WTc.sliceD (T := T_G_api_Feature) Tryz.underlying24 (fun _ h => cells_G_api_Feature h) (w1.app (K := K2))
  rw [c1] at L1
  have b1 := sl_bound Tryz.underlying24 c1 ⟨f1, q1⟩ hz hj1 hd1 (L1.2 0 _ _ rfl rfl)
  rw [show Tryz.prog.bytesOf 108 = 32 by kernel_rfl] at b1
  have L2 := l2
  obtain ⟨x2, rfl⟩ := cells_G_law26_Ask (w2)
  obtain ⟨u2, rfl⟩ := c2
  refine CALL.law (args := [s0.v, s1.v, T_G_law26_Ask.enc x2]) (strikeNil_c (by have := b0; unfold reachBytes at this; omega) (fun _ => rfl)) g2.hr ?_ ro2
  exact VL.cons (L0.2 0 _ _ rfl rfl) (VL.cons (L1.2 0 _ _ rfl rfl) (VL.cons (VL.agg L2) (VL.nil _)))
theorem own : ownKnob Tryz.prog.godebug = none := by kernel_rfl
theorem laidB : laidOutB Tryz.prog = true := by kernel_rfl
set_option maxRecDepth 100000 in
theorem lifted (os : Os) (started : os.Started) (H : Type) (enc : TypeId × Value → H) :
    ReturnsInHanded {} Tryz.checked os 4 .any (fun w args => (Rows.strikeNilSpec.pre enc Tryz.prog Tryz.f4 [] false w args ∧ laidMetH Tryz.prog Rows.strikeNilRow.laid w) ∧ sizedMet enc Tryz.prog Tryz.f4 (OpenSpec.ofChange Rows.strikeNilSpec) false w args)
      (Rows.strikeNilSpec.post enc Tryz.prog Tryz.f4 false true false false) := by
  refine returnsInHanded_of_change_and (C := Tryz.checked) (X := fun w _ => laidMetH Tryz.prog Rows.strikeNilRow.laid w) (fun _ _ _ hh h => h.of_heap hh) own started (by kernel_rfl) Tryz.func4
    (ChangeSpec.witness_shaped (enc := enc) (C := Tryz.checked) (os := os) (X := fun w _ => laidMetH Tryz.prog Rows.strikeNilRow.laid w) false (World.laidAll Tryz.prog os Rows.strikeNilRow.laid) #[.slice none 0 0, .slice none 0 0, .agg #[.int .i64 0, .int .i64 0, .int .i64 0]] 8 (World.laidAll_os _ _ _)
      (World.shaped_of_ZipB (by kernel_rfl) (by kernel_rfl)) (by kernel_rfl) (by kernel_rfl) (by kernel_rfl)
      (by rw [MakeChecks.laidMetH_plain _ _ _ (by kernel_rfl)]; exact laidMet_laidAll _ (by kernel_rfl) (by kernel_rfl))) ?_
  intro W base args ds gs before hval0 hW _ hz _ _
  have hval : ∀ (j : Nat) t v, Tryz.f4.params[j]? = some t → args[j]? = some v → Value.okWide Tryz.prog W .any base t v := hval0
  have hW' := hW
  obtain ⟨p, q, hA0, hV, rfl, _, _⟩ := hW
  have hA : DataW.TrodAll enc Tryz.prog W 0 (fun _ => true) true Tryz.f4.params.toList args.toList ds p := hA0
  rw [Tryz.params4] at hA hval hz
  obtain ⟨v0, v1, v2, d0, d1, d2, p0, p1, p2, rfl, rfl, rfl, h0, h1, h2⟩ := trodAll_three hA
  obtain ⟨rfl, rfl⟩ := trodVars_none hV
  clear hA0 hval0
  have c0 := cells_slice Tryz.underlying23 (hval 0 23 v0 rfl rfl)
  have c1 := cells_slice Tryz.underlying24 (hval 1 24 v1 rfl rfl)
  have c2 : ∃ us, v2 = .agg us := by obtain ⟨us, rfl, _⟩ := okWide_struct Tryz.underlying29 (hval 2 29 v2 rfl rfl); exact ⟨us, rfl⟩
  have hlt0 : ∀ x ∈ p0, x.block < W.heap.size := fun x hx => hW'.lt x (by simp [hx])
  have hlt1 : ∀ x ∈ p1, x.block < W.heap.size := fun x hx => hW'.lt x (by simp [hx])
  have hlt2 : ∀ x ∈ p2, x.block < W.heap.size := fun x hx => hW'.lt x (by simp [hx])
  refine (walk (ts := _) (ds := _) hz c0 rfl rfl c1 rfl rfl c2 h0 h1 h2).mono fun e W' ⟨he, bel⟩ => ?_
  subst he
  exact ⟨_, rfl, _, _, _, [], _, [], hW', trodAll_mk1 (shut_bool Tryz.underlying4 _), trodAll_mk3 (Below.trod laidB (by kernel_rfl) (of_decide_eq_true (by kernel_rfl)) h0 bel hlt0) (Below.trod laidB (by kernel_rfl) (of_decide_eq_true (by kernel_rfl)) h1 bel hlt1) (Below.trod laidB (by kernel_rfl) (of_decide_eq_true (by kernel_rfl)) h2 bel hlt2), rfl, bel.frame _, fun h => by cases h⟩
theorem over : Rows.StrikeNilSaid :=
  OpenClaim.holds_of_wide 4 Tryz.f4 rfl rfl rfl rfl rfl rfl rfl ⟨rfl, rfl, rfl, rfl, rfl⟩ rfl rfl rfl rfl rfl (by kernel_rfl) Tryz.func4 (by kernel_rfl)
    (of_decide_eq_true (by kernel_rfl)) (by unfold Func.isWrapper; first | (rw [if_pos (by decide +kernel)]; kernel_rfl) | (rw [if_neg (by decide +kernel)]; exact ⟨rfl, rfl⟩))
    (fun os started H enc _ => lifted os started H enc)
theorem proved : Rows.StrikeNilCardSaid :=
  Claim7.holds_tied_plain_at .later [] [.data, .pinned] true (true, "3e27f091ef175af7e8142e61b3f96c167ed8e706becfd61498e5a44d8c09a766") false over (fun _ h => by cases h) (by kernel_rfl) (fun _ h => by cases h) strikeNil_row_tie rfl ⟨rfl, rfl⟩ (by kernel_rfl) rfl
    (fun f fn hf hfn => by
      obtain rfl : f = 4 := Option.some.inj ((show Tryz.prog.funcNamed "gambit/gambitlaw26.StrikeNil" = some 4 by kernel_rfl).symm.trans hf) |>.symm
      obtain rfl : fn = Tryz.f4 := (Option.some.inj (Tryz.func4.symm.trans hfn)).symm
      exact ⟨by kernel_rfl, fun j t ht => by
        rw [Tryz.params4] at ht
        match j, ht with
        | 0, ht => cases ht; show Program.wantsStandIn _ _ = false; kernel_rfl
        | 1, ht => cases ht; show Program.wantsStandIn _ _ = false; kernel_rfl
        | 2, ht => cases ht; show Program.wantsStandIn _ _ = false; kernel_rfl
        | j + 3, ht => simp at ht⟩)
    (by kernel_rfl)
#print axioms proved
end Go.Proofs.YtngdmjajgeobhaaGreatDoor.strikeNil
namespace Go.Proofs.YtngdmjajgeobhaaGreatDoor
/-- The card, under a short name, for the claim. -/
theorem strikeNil_card : Rows.StrikeNilCardSaid := strikeNil.proved
end Go.Proofs.YtngdmjajgeobhaaGreatDoor
