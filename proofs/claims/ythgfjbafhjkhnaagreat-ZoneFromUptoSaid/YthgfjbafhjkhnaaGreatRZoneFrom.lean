/- ZoneFrom of the set: the call of the Go function returns true and leaves all memory that was there as it was. Condition: what is handed in is of the bulk that the given statement's second form has. -/
import Derived.Test.YthgfjbafhjkhnaaGreatRows
import Derived.Test.YthgfjbafhjkhnaaGreatZcZoneF
import Derived.Test.YthgfjbafhjkhnaaGreatZcOpen
import Derived.Test.YthgfjbafhjkhnaaGreatZcOpen2
import Derived.WalkKit
import Derived.ProofKit
import Derived.OpenShut
import Derived.ShutString
import Derived.ChangeOld
import Derived.Below
import Derived.SizedLaws
import Derived.JoinedCond
import Derived.Deep.CondSized
namespace Go.Proofs.YthgfjbafhjkhnaaGreat.zoneFrom
open Go.ChangeShapes Go.WideShapes Go.ChangeAt Go.RowKit
open Zq Zv
theorem cells_slice {P : Program} {W : World} {base : Nat} {t e : TypeId} {v : Value} (ht : P.underlying t = some (.slice e)) (h : Value.okWide P W .any base t v) : v.cells.toList = [v] := by
  obtain ⟨a, len, cap, rfl⟩ := okWide_slice ht h
  rfl
theorem cells6_G_api_Thing {H : Heap} {a : List Value} (h : WTcB 1048576 Tryz.prog H 6 39 a) : ∃ x : G_api_Thing, a = Tag.cells T_G_api_Thing x := by
  have h2 := WTc.shp (ss := [.i .i64, .i .i64, .i .u8, .i .i64, .i .i64, .i .i64, .i .i64, .i .i64, .i .i64, .i .i64, .b]) h.wt (by kernel_rfl)
  obtain ⟨y0, _, rfl, y1, _, rfl, y2, _, rfl, y3, _, rfl, y4, _, rfl, y5, _, rfl, y6, _, rfl, y7, _, rfl, y8, _, rfl, y9, _, rfl, y10, _, rfl, rfl⟩ := h2
  exact ⟨(G_api_Thing.mk y0 y1 y2 y3 y4 (y5, y6, y7, y8) y9 y10), rfl⟩
theorem cells5_int_i64 {H : Heap} {a : List Value} (h : WTcB 1048576 Tryz.prog H 5 3 a) : ∃ x : Int, a = Tag.cells (T_int .i64) x := by
  have h2 := WTc.shp (ss := [.i .i64]) h.wt (by kernel_rfl)
  obtain ⟨y0, _, rfl, rfl⟩ := h2
  exact ⟨y0, rfl⟩
theorem cells8_G_law17_World {H : Heap} {a : List Value} (h : WTcB 1048576 Tryz.prog H 8 48 a) : ∃ x : G_law17_World, a = Tag.cells T_G_law17_World x ∧ (∃ li : List G_api_Thing, SlF T_G_api_Thing H x.Things li ∧ li.length ≤ 1048576) ∧ (∃ li : List Int, SlF (T_int .i64) H x.Decks.1 li ∧ li.length ≤ 1048576) ∧ (∃ li : List Int, SlF (T_int .i64) H x.Decks.2 li ∧ li.length ≤ 1048576) ∧ (∃ li : List Int, SlF (T_int .i64) H x.Hands.1 li ∧ li.length ≤ 1048576) ∧ (∃ li : List Int, SlF (T_int .i64) H x.Hands.2 li ∧ li.length ≤ 1048576) := by
  have h2 := WTc.shp (ss := [.sl, .sl, .sl, .sl, .sl, .i .i64]) h.wt (by kernel_rfl)
  obtain ⟨y0, _, rfl, y1, _, rfl, y2, _, rfl, y3, _, rfl, y4, _, rfl, y5, _, rfl, rfl⟩ := h2
  have w1 : WTcB 1048576 Tryz.prog H 7 45 [Sl.v y0] := by
    have h9 : WTcB 1048576 Tryz.prog H 7 45 (List.take (Tryz.prog.cellsOf 45) (List.drop _ _)) := WTcB.fld (i := 0) (off := 0) Tryz.underlying48 rfl (by kernel_rfl) h
    rw [show Tryz.prog.cellsOf 45 = 1 by kernel_rfl] at h9
    exact h9
  obtain ⟨s0, l0, e0, f0, _, n0⟩ := WTcB.sliceR (T := T_G_api_Thing) (R := fun _ => True) Tryz.underlying45 (fun _ h => by obtain ⟨x, hx⟩ := cells6_G_api_Thing h; exact ⟨x, hx, trivial⟩) w1
  have q0 : y0 = s0 := Sl.v_inj (by simpa using e0)
  subst q0
  have w2 : WTcB 1048576 Tryz.prog H 7 46 [Sl.v y1, Sl.v y2] := by
    have h9 : WTcB 1048576 Tryz.prog H 7 46 (List.take (Tryz.prog.cellsOf 46) (List.drop _ _)) := WTcB.fld (i := 1) (off := 1) Tryz.underlying48 rfl (by kernel_rfl) h
    rw [show Tryz.prog.cellsOf 46 = 2 by kernel_rfl] at h9
    exact h9
  have w3 : WTcB 1048576 Tryz.prog H 6 22 [Sl.v y1] := WTcB.eltN (k := 1) (i := 0) Tryz.underlying46 (by kernel_rfl) (by decide) w2
  obtain ⟨s1, l1, e1, f1, _, n1⟩ := WTcB.sliceR (T := (T_int .i64)) (R := fun _ => True) Tryz.underlying22 (fun _ h => by obtain ⟨x, hx⟩ := cells5_int_i64 h; exact ⟨x, hx, trivial⟩) w3
  have q1 : y1 = s1 := Sl.v_inj (by simpa using e1)
  subst q1
  have w4 : WTcB 1048576 Tryz.prog H 6 22 [Sl.v y2] := WTcB.eltN (k := 1) (i := 1) Tryz.underlying46 (by kernel_rfl) (by decide) w2
  obtain ⟨s2, l2, e2, f2, _, n2⟩ := WTcB.sliceR (T := (T_int .i64)) (R := fun _ => True) Tryz.underlying22 (fun _ h => by obtain ⟨x, hx⟩ := cells5_int_i64 h; exact ⟨x, hx, trivial⟩) w4
  have q2 : y2 = s2 := Sl.v_inj (by simpa using e2)
  subst q2
  have w5 : WTcB 1048576 Tryz.prog H 7 46 [Sl.v y3, Sl.v y4] := by
    have h9 : WTcB 1048576 Tryz.prog H 7 46 (List.take (Tryz.prog.cellsOf 46) (List.drop _ _)) := WTcB.fld (i := 2) (off := 3) Tryz.underlying48 rfl (by kernel_rfl) h
    rw [show Tryz.prog.cellsOf 46 = 2 by kernel_rfl] at h9
    exact h9
  have w6 : WTcB 1048576 Tryz.prog H 6 22 [Sl.v y3] := WTcB.eltN (k := 1) (i := 0) Tryz.underlying46 (by kernel_rfl) (by decide) w5
  obtain ⟨s3, l3, e3, f3, _, n3⟩ := WTcB.sliceR (T := (T_int .i64)) (R := fun _ => True) Tryz.underlying22 (fun _ h => by obtain ⟨x, hx⟩ := cells5_int_i64 h; exact ⟨x, hx, trivial⟩) w6
  have q3 : y3 = s3 := Sl.v_inj (by simpa using e3)
  subst q3
  have w7 : WTcB 1048576 Tryz.prog H 6 22 [Sl.v y4] := WTcB.eltN (k := 1) (i := 1) Tryz.underlying46 (by kernel_rfl) (by decide) w5
  obtain ⟨s4, l4, e4, f4, _, n4⟩ := WTcB.sliceR (T := (T_int .i64)) (R := fun _ => True) Tryz.underlying22 (fun _ h => by obtain ⟨x, hx⟩ := cells5_int_i64 h; exact ⟨x, hx, trivial⟩) w7
  have q4 : y4 = s4 := Sl.v_inj (by simpa using e4)
  subst q4
  exact ⟨(G_law17_World.mk y0 (y1, y2) (y3, y4) y5), rfl, ⟨l0, f0, n0⟩, ⟨l1, f1, n1⟩, ⟨l2, f2, n2⟩, ⟨l3, f3, n3⟩, ⟨l4, f4, n4⟩⟩
theorem cells7_G_law17_Op {H : Heap} {a : List Value} (h : WTcB 1048576 Tryz.prog H 7 41 a) : ∃ x : G_law17_Op, a = Tag.cells T_G_law17_Op x ∧ (∃ li : List Int, SlF (T_int .i64) H x.L li ∧ li.length ≤ 1048576) := by
  have h2 := WTc.shp (ss := [.i .i64, .i .i64, .i .u8, .i .i64, .i .i64, .i .i64, .i .u8, .i .i64, .i .i64, .i .i64, .i .i64, .i .i64, .i .i64, .i .i64, .b, .sl]) h.wt (by kernel_rfl)
  obtain ⟨y0, _, rfl, y1, _, rfl, y2, _, rfl, y3, _, rfl, y4, _, rfl, y5, _, rfl, y6, _, rfl, y7, _, rfl, y8, _, rfl, y9, _, rfl, y10, _, rfl, y11, _, rfl, y12, _, rfl, y13, _, rfl, y14, _, rfl, y15, _, rfl, rfl⟩ := h2
  have w1 : WTcB 1048576 Tryz.prog H 6 22 [Sl.v y15] := by
    have h9 : WTcB 1048576 Tryz.prog H 6 22 (List.take (Tryz.prog.cellsOf 22) (List.drop _ _)) := WTcB.fld (i := 5) (off := 15) Tryz.underlying41 rfl (by kernel_rfl) h
    rw [show Tryz.prog.cellsOf 22 = 1 by kernel_rfl] at h9
    exact h9
  obtain ⟨s15, l15, e15, f15, _, n15⟩ := WTcB.sliceR (T := (T_int .i64)) (R := fun _ => True) Tryz.underlying22 (fun _ h => by obtain ⟨x, hx⟩ := cells5_int_i64 h; exact ⟨x, hx, trivial⟩) w1
  have q15 : y15 = s15 := Sl.v_inj (by simpa using e15)
  subst q15
  exact ⟨(G_law17_Op.mk y0 y1 y2 y3 (G_api_Thing.mk y4 y5 y6 y7 y8 (y9, y10, y11, y12) y13 y14) y15), rfl, ⟨l15, f15, n15⟩⟩
theorem bulk_pos {H : Type} (d : DataW H) : 1 ≤ Rows.uptoBulk d := by cases d <;> (try rename_i l; cases l) <;> simp [Rows.uptoBulk]
theorem bulk_mem {H : Type} : ∀ (l : List (DataW H)) (d : DataW H), d ∈ l → Rows.uptoBulk d ≤ Rows.uptoBulkAll l
  | x :: r, d, h => by
    simp only [Rows.uptoBulkAll]
    rcases List.mem_cons.1 h with rfl | h
    · omega
    · have := bulk_mem r d h; omega
theorem bulk_len {H : Type} : ∀ l : List (DataW H), l.length ≤ Rows.uptoBulkAll l
  | [] => Nat.zero_le _
  | x :: r => by
    have := bulk_len r; have := bulk_pos x
    simp only [Rows.uptoBulkAll, List.length_cons]; omega
theorem bulk1 {H : Type} (e r : List (DataW H)) (h : Rows.uptoBulk (.slice e r) ≤ 1048576) : e.length ≤ 1048576 ∧ ∀ d ∈ e ++ r, Rows.uptoBulk d ≤ 1048576 := by
  simp only [Rows.uptoBulk] at h
  have := bulk_len e
  refine ⟨by omega, fun d hd => ?_⟩
  rcases List.mem_append.1 hd with q | q
  · have := bulk_mem _ _ q; omega
  · have := bulk_mem _ _ q; omega
theorem bulk2 {H : Type} (l : List (DataW H)) (h : Rows.uptoBulk (.agg l) ≤ 1048576) : ∀ d ∈ l, Rows.uptoBulk d ≤ 1048576 := fun d hd => by
  simp only [Rows.uptoBulk] at h
  have := bulk_mem _ _ hd; omega
theorem bulk_at {H : Type} {l : List (DataW H)} {j : Nat} {d : DataW H} (h : Rows.uptoBulkAll l ≤ 1048576) (hj : l[j]? = some d) : Rows.uptoBulk d ≤ 1048576 := Nat.le_trans (bulk_mem _ _ (List.mem_of_getElem? hj)) h
theorem walk {HH : Type} {enc : TypeId × Value → HH} {W : World} {v0 v1 : Value} {d0 d1 : DataW HH} {p0 p1 : List MemPlace} {ds : List (DataW HH)} (hz : Rows.uptoBulkAll ds ≤ 1048576) (c0 : ∃ us, v0 = .agg us) (hd0 : ds[0]? = some d0) (c1 : v1.cells.toList = [v1]) (hd1 : ds[1]? = some d1)
    (h0 : DataW.Trod enc Tryz.prog W 0 (fun _ => true) true 48 v0 d0 p0) (h1 : DataW.Trod enc Tryz.prog W 0 (fun _ => true) true 23 v1 d1 p1) :
    Calls Tryz.prog 4 #[v0, v1] W fun e w' => e = .returned (.bool true) ∧ Below W.heap.size W w' := by
  obtain ⟨f0, q0⟩ := h0
  obtain ⟨N0, K0, a0, g0, l0, w0⟩ := openB (B := 1048576) (S := fun d => Rows.uptoBulk d ≤ 1048576) bulk1 bulk2 8 48 (by kernel_rfl) f0 _ _ _ _ q0 (bulk_at hz hd0) (HR.nil W) RoH.nil
  have ro0 := (RoH.nil).adds g0
  obtain ⟨f1, q1⟩ := h1
  obtain ⟨N1, K1, a1, g1, l1, w1⟩ := openB (B := 1048576) (S := fun d => Rows.uptoBulk d ≤ 1048576) bulk1 bulk2 8 23 (by kernel_rfl) f1 _ _ _ _ q1 (bulk_at hz hd1) g0.hr ro0
  have ro1 := (ro0).adds g1
  have L0 := (l0.mono (Ext.app _ N1))
  obtain ⟨x0, rfl, z0⟩ := cells8_G_law17_World (w0.app (K := K1))
  obtain ⟨v0u, rfl⟩ := c0
  have L1 := l1
  obtain ⟨s1, m1, rfl, r1, z1, u1⟩ := WTcB.sliceR (T := T_G_law17_Op) Tryz.underlying23 (fun _ h => cells7_G_law17_Op h) (w1)
  rw [c1] at L1
  refine CALL.law (args := [T_G_law17_World.enc x0, s1.v]) (zoneFrom_w z0 r1 (fun op hop => z1 op hop) fun _ => rfl) g1.hr ?_ ro1
  exact VL.cons (VL.agg L0) (VL.cons (L1.2 0 _ _ rfl rfl) (VL.nil _))
theorem own : ownKnob Tryz.prog.godebug = none := by kernel_rfl
theorem laidB : laidOutB Tryz.prog = true := by kernel_rfl
set_option maxRecDepth 100000 in
theorem lifted (os : Os) (started : os.Started) (H : Type) (enc : TypeId × Value → H) (F : Stop.Interp) :
    ReturnsInHanded {} Tryz.checked os 4 .any ((Rows.OpenSpec.upto Rows.zoneFromSpec).pre6 enc Tryz.prog Tryz.f4 Rows.zoneFromUptoRow.domain false) (((Rows.OpenSpec.upto Rows.zoneFromSpec).at F).post enc Tryz.prog Tryz.f4 false true false false) := by
  refine returnsInHanded_of_cond_sized (C := Tryz.checked) (s := Rows.OpenSpec.upto Rows.zoneFromSpec) (k := Rows.uptoSmall) rfl own started (by kernel_rfl) Tryz.func4
    (OpenSpec.witness (enc := enc) (C := Tryz.checked) (s := Rows.OpenSpec.upto Rows.zoneFromSpec) (k := Rows.uptoSmall) rfl false ⟨#[], #[.agg #[.slice none 0 0, .slice none 0 0, .slice none 0 0, .slice none 0 0, .slice none 0 0, .int .i64 0], .slice none 0 0], []⟩ 8 (by kernel_rfl) (by kernel_rfl) (by kernel_rfl)
      (x := ([.agg [.nil, .agg [.nil, .nil], .agg [.nil, .nil], .lit (.int .i64 0)], .nil], [], [])) (by kernel_rfl) rfl (by kernel_rfl)) ?_
  intro W base args ds gs before hval0 hW _ hk _ _
  have hval : ∀ (j : Nat) t v, Tryz.f4.params[j]? = some t → args[j]? = some v → Value.okWide Tryz.prog W .any base t v := hval0
  have hW' := hW
  obtain ⟨p, q, hA0, hV, rfl, _, _⟩ := hW
  have hA : DataW.TrodAll enc Tryz.prog W 0 (fun _ => true) true Tryz.f4.params.toList args.toList ds p := hA0
  rw [Tryz.params4] at hA hval
  obtain ⟨v0, v1, d0, d1, p0, p1, rfl, rfl, rfl, h0, h1⟩ := trodAll_two hA
  obtain ⟨rfl, rfl⟩ := trodVars_none hV
  clear hA0 hval0
  have c0 : ∃ us, v0 = .agg us := by obtain ⟨us, rfl, _⟩ := okWide_struct Tryz.underlying48 (hval 0 48 v0 rfl rfl); exact ⟨us, rfl⟩
  have c1 := cells_slice Tryz.underlying23 (hval 1 23 v1 rfl rfl)
  have hlt0 : ∀ x ∈ p0, x.block < W.heap.size := fun x hx => hW'.lt x (by simp [hx])
  have hlt1 : ∀ x ∈ p1, x.block < W.heap.size := fun x hx => hW'.lt x (by simp [hx])
  refine (walk (ds := _) (of_decide_eq_true hk) c0 rfl c1 rfl h0 h1).mono fun e W' ⟨he, bel⟩ => ?_
  subst he
  exact ⟨_, rfl, _, _, _, [], _, [], hW', trodAll_mk1 (shut_bool Tryz.underlying4 _), trodAll_mk2 (Below.trod laidB (by kernel_rfl) (of_decide_eq_true (by kernel_rfl)) h0 bel hlt0) (Below.trod laidB (by kernel_rfl) (of_decide_eq_true (by kernel_rfl)) h1 bel hlt1), rfl, bel.frame _, fun h => by cases h⟩
theorem proved : Rows.ZoneFromUptoSaid :=
  OpenClaim.holds_of_cond 4 Tryz.f4 rfl rfl rfl rfl rfl rfl rfl ⟨rfl, rfl, rfl, rfl, rfl⟩ rfl rfl rfl rfl rfl (by kernel_rfl) Tryz.func4 (by kernel_rfl)
    (of_decide_eq_true (by kernel_rfl)) (by unfold Func.isWrapper; first | (rw [if_pos (by decide +kernel)]; kernel_rfl) | (rw [if_neg (by decide +kernel)]; exact ⟨rfl, rfl⟩))
    (fun os started H enc _ F => lifted os started H enc F)
#print axioms proved
end Go.Proofs.YthgfjbafhjkhnaaGreat.zoneFrom
namespace Go.Proofs.YthgfjbafhjkhnaaGreat
/-- The row, under a short name, for the claim. -/
theorem zoneFromUpto_holds : Rows.ZoneFromUptoSaid := zoneFrom.proved
end Go.Proofs.YthgfjbafhjkhnaaGreat
