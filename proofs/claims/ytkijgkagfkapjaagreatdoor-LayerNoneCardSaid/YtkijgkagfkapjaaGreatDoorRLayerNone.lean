/- LayerNone of the set: the call of the Go function returns true and leaves all memory that was there as it was. Condition: what is handed in is within the machine's reach, as the given statement has it. The card's tie is the given one. -/
import Derived.Test.YtkijgkagfkapjaaGreatDoorCards
import Derived.Test.YtkijgkagfkapjaaGreatDoorTie
import Derived.Test.YtkijgkagfkapjaaGreatDoorZcLayer
import Derived.Test.YtkijgkagfkapjaaGreatDoorZcOpen
import Derived.WalkKit
import Derived.ProofKit
import Derived.OpenShut
import Derived.ShutString
import Derived.ChangeOld
import Derived.Below
import Derived.SizedLaws
import Derived.Lay
import Derived.LaidMore
import Derived.SevenTiedAt
namespace Go.Proofs.YtkijgkagfkapjaaGreatDoor.layerNone
open Go.ChangeShapes Go.WideShapes Go.ChangeAt Go.RowKit
open Zq Zv
theorem cells_slice {P : Program} {W : World} {base : Nat} {t e : TypeId} {v : Value} (ht : P.underlying t = some (.slice e)) (h : Value.okWide P W .any base t v) : v.cells.toList = [v] := by
  obtain ⟨a, len, cap, rfl⟩ := okWide_slice ht h
  rfl
theorem cells_G_law19_Table {H : Heap} {a : List Value} (h : WTc Tryz.prog H 8 29 a) : ∃ x : G_law19_Table, a = T_G_law19_Table.cells x := by
  have h2 := WTc.shp (ss := [.sl, .sl]) h (by kernel_rfl)
  obtain ⟨y0, _, rfl, y1, _, rfl, rfl⟩ := h2
  exact ⟨(G_law19_Table.mk y0 y1), rfl⟩
theorem cells_G_api_Standing {H : Heap} {a : List Value} (h : WTc Tryz.prog H 8 70 a) : ∃ x : G_api_Standing, a = T_G_api_Standing.cells x := by
  have h2 := WTc.shp (ss := [.i .i64, .i .i64, .i .u8, .i .u8, .i .u8, .i .i64, .i .u8, .i .u8, .i .u8, .s]) h (by kernel_rfl)
  obtain ⟨y0, _, rfl, y1, _, rfl, y2, _, rfl, y3, _, rfl, y4, _, rfl, y5, _, rfl, y6, _, rfl, y7, _, rfl, y8, _, rfl, y9, _, rfl, rfl⟩ := h2
  exact ⟨(G_api_Standing.mk y0 y1 (G_api_Part.mk y2 y3 y4 y5 y6 y7 y8 y9)), rfl⟩
theorem walk {HH : Type} {enc : TypeId × Value → HH} {W : World} {v0 v1 v2 : Value} {d0 d1 d2 : DataW HH} {p0 p1 p2 : List MemPlace} {ts : List TypeId} {ds : List (DataW HH)} (hz : (DataW.weightsEach Tryz.prog ts ds).all (· ≤ reachBytes) = true) (c0 : ∃ us, v0 = .agg us) (hj0 : ts[0]? = some 29) (hd0 : ds[0]? = some d0) (c1 : ∃ us, v1 = .agg us) (c2 : v2.cells.toList = [v2])
    (h0 : DataW.Trod enc Tryz.prog W 0 (fun _ => true) true 29 v0 d0 p0) (h1 : DataW.Trod enc Tryz.prog W 0 (fun _ => true) true 70 v1 d1 p1) (h2 : DataW.Trod enc Tryz.prog W 0 (fun _ => true) true 3 v2 d2 p2) :
    Calls Tryz.prog 6 #[v0, v1, v2] W fun e w' => e = .returned (.bool true) ∧ Below W.heap.size W w' := by
  obtain ⟨f0, q0⟩ := h0
  obtain ⟨N0, K0, a0, g0, l0, w0⟩ := openT 8 29 (by kernel_rfl) f0 _ _ _ _ q0 (HR.nil W) RoH.nil
  have ro0 := (RoH.nil).adds g0
  obtain ⟨f1, q1⟩ := h1
  obtain ⟨N1, K1, a1, g1, l1, w1⟩ := openT 8 70 (by kernel_rfl) f1 _ _ _ _ q1 g0.hr ro0
  have ro1 := (ro0).adds g1
  obtain ⟨f2, q2⟩ := h2
  obtain ⟨N2, K2, a2, g2, l2, w2⟩ := openT 8 3 (by kernel_rfl) f2 _ _ _ _ q2 g1.hr ro1
  have ro2 := (ro1).adds g2
  have L0 := ((l0.mono (Ext.app _ N1)).mono (Ext.app _ N2))
  obtain ⟨x0, rfl⟩ := cells_G_law19_Table (w0.app (K := K1).app (K := K2))
  obtain ⟨u0, rfl⟩ := c0
  obtain ⟨y0_0, hy0_0⟩ : ∃ y, u0[0]? = some y := by have := L0.1; exact ⟨u0[0]'(by simp [T_G_law19_Table, Value.cells] at this; omega), by simp⟩
  have b0_0 := st_bound (i := 0) (off := 0) (t' := 26) Tryz.underlying29 (by kernel_rfl) (by kernel_rfl) Tryz.underlying26 ⟨f0, q0⟩ hz hj0 hd0 hy0_0 (L0.2 0 _ _ rfl (by simpa [Value.cells] using hy0_0))
  rw [show Tryz.prog.bytesOf 41 = 88 by kernel_rfl] at b0_0
  obtain ⟨y0_1, hy0_1⟩ : ∃ y, u0[1]? = some y := by have := L0.1; exact ⟨u0[1]'(by simp [T_G_law19_Table, Value.cells] at this; omega), by simp⟩
  have b0_1 := st_bound (i := 1) (off := 1) (t' := 27) Tryz.underlying29 (by kernel_rfl) (by kernel_rfl) Tryz.underlying27 ⟨f0, q0⟩ hz hj0 hd0 hy0_1 (L0.2 1 _ _ rfl (by simpa [Value.cells] using hy0_1))
  rw [show Tryz.prog.bytesOf 59 = 32 by kernel_rfl] at b0_1
  have L1 := (l1.mono (Ext.app _ N2))
  obtain ⟨x1, rfl⟩ := cells_G_api_Standing (w1.app (K := K2))
  obtain ⟨u1, rfl⟩ := c1
  have L2 := l2
  obtain ⟨i2, _, rfl, rfl⟩ := WTc.shp (ss := [.i .i64]) (w2) (by kernel_rfl)
  rw [c2] at L2
  refine CALL.law (args := [T_G_law19_Table.enc x0, T_G_api_Standing.enc x1, .int .i64 i2]) (layerNone_c (by have := b0_0; unfold reachBytes at this; omega) (fun _ => rfl)) g2.hr ?_ ro2
  exact VL.cons (VL.agg L0) (VL.cons (VL.agg L1) (VL.cons (L2.2 0 _ _ rfl rfl) (VL.nil _)))
theorem own : ownKnob Tryz.prog.godebug = none := by kernel_rfl
theorem laidB : laidOutB Tryz.prog = true := by kernel_rfl
set_option maxRecDepth 100000 in
theorem lifted (os : Os) (started : os.Started) (H : Type) (enc : TypeId × Value → H) :
    ReturnsInHanded {} Tryz.checked os 6 .any (fun w args => (Rows.layerNoneSpec.pre enc Tryz.prog Tryz.f6 [] false w args ∧ laidMetH Tryz.prog Rows.layerNoneRow.laid w) ∧ sizedMet enc Tryz.prog Tryz.f6 (OpenSpec.ofChange Rows.layerNoneSpec) false w args)
      (Rows.layerNoneSpec.post enc Tryz.prog Tryz.f6 false true false false) := by
  refine returnsInHanded_of_change_and (C := Tryz.checked) (X := fun w _ => laidMetH Tryz.prog Rows.layerNoneRow.laid w) (fun _ _ _ hh h => h.of_heap hh) own started (by kernel_rfl) Tryz.func6
    (ChangeSpec.witness_shaped (enc := enc) (C := Tryz.checked) (os := os) (X := fun w _ => laidMetH Tryz.prog Rows.layerNoneRow.laid w) false (World.laidAll Tryz.prog os Rows.layerNoneRow.laid) #[.agg #[.slice none 0 0, .slice none 0 0], .agg #[.int .i64 0, .int .i64 0, .int .u8 0, .int .u8 0, .int .u8 0, .int .i64 0, .int .u8 0, .int .u8 0, .int .u8 0, .string ⟨#[]⟩], .int .i64 0] 8 (World.laidAll_os _ _ _)
      (World.shaped_of_ZipB (by kernel_rfl) (by kernel_rfl)) (by kernel_rfl) (by kernel_rfl) (by kernel_rfl)
      (by rw [MakeChecks.laidMetH_plain _ _ _ (by kernel_rfl)]; exact laidMet_laidAll _ (by kernel_rfl) (by kernel_rfl))) ?_
  intro W base args ds gs before hval0 hW _ hz _ _
  have hval : ∀ (j : Nat) t v, Tryz.f6.params[j]? = some t → args[j]? = some v → Value.okWide Tryz.prog W .any base t v := hval0
  have hW' := hW
  obtain ⟨p, q, hA0, hV, rfl, _, _⟩ := hW
  have hA : DataW.TrodAll enc Tryz.prog W 0 (fun _ => true) true Tryz.f6.params.toList args.toList ds p := hA0
  rw [Tryz.params6] at hA hval hz
  obtain ⟨v0, v1, v2, d0, d1, d2, p0, p1, p2, rfl, rfl, rfl, h0, h1, h2⟩ := trodAll_three hA
  obtain ⟨rfl, rfl⟩ := trodVars_none hV
  clear hA0 hval0
  have c0 : ∃ us, v0 = .agg us := by obtain ⟨us, rfl, _⟩ := okWide_struct Tryz.underlying29 (hval 0 29 v0 rfl rfl); exact ⟨us, rfl⟩
  have c1 : ∃ us, v1 = .agg us := by obtain ⟨us, rfl, _⟩ := okWide_struct Tryz.underlying70 (hval 1 70 v1 rfl rfl); exact ⟨us, rfl⟩
  have c2 : v2.cells.toList = [v2] := by obtain ⟨y, rfl⟩ := okWide_int Tryz.underlying3 (hval 2 3 v2 rfl rfl); rfl
  have hlt0 : ∀ x ∈ p0, x.block < W.heap.size := fun x hx => hW'.lt x (by simp [hx])
  have hlt1 : ∀ x ∈ p1, x.block < W.heap.size := fun x hx => hW'.lt x (by simp [hx])
  have hlt2 : ∀ x ∈ p2, x.block < W.heap.size := fun x hx => hW'.lt x (by simp [hx])
  refine (walk (ts := _) (ds := _) hz c0 rfl rfl c1 c2 h0 h1 h2).mono fun e W' ⟨he, bel⟩ => ?_
  subst he
  exact ⟨_, rfl, _, _, _, [], _, [], hW', trodAll_mk1 (shut_bool Tryz.underlying4 _), trodAll_mk3 (Below.trod laidB (by kernel_rfl) (of_decide_eq_true (by kernel_rfl)) h0 bel hlt0) (Below.trod laidB (by kernel_rfl) (of_decide_eq_true (by kernel_rfl)) h1 bel hlt1) (Below.trod laidB (by kernel_rfl) (of_decide_eq_true (by kernel_rfl)) h2 bel hlt2), rfl, bel.frame _, fun h => by cases h⟩
theorem over : Rows.LayerNoneSaid :=
  OpenClaim.holds_of_wide 6 Tryz.f6 rfl rfl rfl rfl rfl rfl rfl ⟨rfl, rfl, rfl, rfl, rfl⟩ rfl rfl rfl rfl rfl (by kernel_rfl) Tryz.func6 (by kernel_rfl)
    (of_decide_eq_true (by kernel_rfl)) (by unfold Func.isWrapper; first | (rw [if_pos (by decide +kernel)]; kernel_rfl) | (rw [if_neg (by decide +kernel)]; exact ⟨rfl, rfl⟩))
    (fun os started H enc _ => lifted os started H enc)
theorem proved : Rows.LayerNoneCardSaid :=
  Claim7.holds_tied_plain_at .later [] [.data, .pinned] true (true, "234996609dc992c569c46f00131bd47ab1b4202afcac1ebe21744ffe2dccd7c7") false over (fun _ h => by cases h) (by kernel_rfl) (fun _ h => by cases h) layerNone_row_tie rfl ⟨rfl, rfl⟩ (by kernel_rfl) rfl
    (fun f fn hf hfn => by
      obtain rfl : f = 6 := Option.some.inj ((show Tryz.prog.funcNamed "gambit/gambitlaw19.LayerNone" = some 6 by kernel_rfl).symm.trans hf) |>.symm
      obtain rfl : fn = Tryz.f6 := (Option.some.inj (Tryz.func6.symm.trans hfn)).symm
      exact ⟨by kernel_rfl, fun j t ht => by
        rw [Tryz.params6] at ht
        match j, ht with
        | 0, ht => cases ht; show Program.wantsStandIn _ _ = false; kernel_rfl
        | 1, ht => cases ht; show Program.wantsStandIn _ _ = false; kernel_rfl
        | 2, ht => cases ht; show Program.wantsStandIn _ _ = false; kernel_rfl
        | j + 3, ht => simp at ht⟩)
    (by kernel_rfl)
#print axioms proved
end Go.Proofs.YtkijgkagfkapjaaGreatDoor.layerNone
namespace Go.Proofs.YtkijgkagfkapjaaGreatDoor
/-- The card, under a short name, for the claim. -/
theorem layerNone_card : Rows.LayerNoneCardSaid := layerNone.proved
end Go.Proofs.YtkijgkagfkapjaaGreatDoor
