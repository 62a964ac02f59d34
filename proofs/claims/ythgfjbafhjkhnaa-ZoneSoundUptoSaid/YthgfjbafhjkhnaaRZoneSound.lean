/- ZoneSound of the set: the call of the Go function returns true and leaves all memory that was there as it was. Condition: what is handed in is of the bulk that the given statement's second form has. -/
import Derived.Test.YthgfjbafhjkhnaaRows
import Derived.Test.YthgfjbafhjkhnaaZcSo
import Derived.Test.YthgfjbafhjkhnaaZcOpen
import Derived.Test.YthgfjbafhjkhnaaZcOpen2
import Derived.WalkKit
import Derived.ProofKit
import Derived.OpenShut
import Derived.ShutString
import Derived.ChangeOld
import Derived.Below
import Derived.SizedLaws
import Derived.JoinedCond
import Derived.Deep.CondSized
namespace Go.Proofs.Ythgfjbafhjkhnaa.zoneSound
open Go.ChangeShapes Go.WideShapes Go.ChangeAt Go.RowKit
open Zq Zv
theorem cells_slice {P : Program} {W : World} {base : Nat} {t e : TypeId} {v : Value} (ht : P.underlying t = some (.slice e)) (h : Value.okWide P W .any base t v) : v.cells.toList = [v] := by
  obtain ⟨a, len, cap, rfl⟩ := okWide_slice ht h
  rfl
theorem cells7_int_i64 {H : Heap} {a : List Value} (h : WTcB 1048576 Try.prog H 7 3 a) : ∃ x : Int, a = Tag.cells (T_int .i64) x := by
  have h2 := WTc.shp (ss := [.i .i64]) h.wt (by kernel_rfl)
  obtain ⟨y0, _, rfl, rfl⟩ := h2
  exact ⟨y0, rfl⟩
theorem cells5_int_i64 {H : Heap} {a : List Value} (h : WTcB 1048576 Try.prog H 5 3 a) : ∃ x : Int, a = Tag.cells (T_int .i64) x := by
  have h2 := WTc.shp (ss := [.i .i64]) h.wt (by kernel_rfl)
  obtain ⟨y0, _, rfl, rfl⟩ := h2
  exact ⟨y0, rfl⟩
theorem cells7_G_law17_Op {H : Heap} {a : List Value} (h : WTcB 1048576 Try.prog H 7 40 a) : ∃ x : G_law17_Op, a = Tag.cells T_G_law17_Op x ∧ (∃ li : List Int, SlF (T_int .i64) H x.L li ∧ li.length ≤ 1048576) := by
  have h2 := WTc.shp (ss := [.i .i64, .i .i64, .i .u8, .i .i64, .i .i64, .i .i64, .i .u8, .i .i64, .i .i64, .i .i64, .i .i64, .i .i64, .i .i64, .i .i64, .b, .sl]) h.wt (by kernel_rfl)
  obtain ⟨y0, _, rfl, y1, _, rfl, y2, _, rfl, y3, _, rfl, y4, _, rfl, y5, _, rfl, y6, _, rfl, y7, _, rfl, y8, _, rfl, y9, _, rfl, y10, _, rfl, y11, _, rfl, y12, _, rfl, y13, _, rfl, y14, _, rfl, y15, _, rfl, rfl⟩ := h2
  have w1 : WTcB 1048576 Try.prog H 6 22 [Sl.v y15] := by
    have h9 : WTcB 1048576 Try.prog H 6 22 (List.take (Try.prog.cellsOf 22) (List.drop _ _)) := WTcB.fld (i := 5) (off := 15) Try.underlying40 rfl (by kernel_rfl) h
    rw [show Try.prog.cellsOf 22 = 1 by kernel_rfl] at h9
    exact h9
  obtain ⟨s15, l15, e15, f15, _, n15⟩ := WTcB.sliceR (T := (T_int .i64)) (R := fun _ => True) Try.underlying22 (fun _ h => by obtain ⟨x, hx⟩ := cells5_int_i64 h; exact ⟨x, hx, trivial⟩) w1
  have q15 : y15 = s15 := Sl.v_inj (by simpa using e15)
  subst q15
  exact ⟨(G_law17_Op.mk y0 y1 y2 y3 (G_api_Thing.mk y4 y5 y6 y7 y8 (y9, y10, y11, y12) y13 y14) y15), rfl, ⟨l15, f15, n15⟩⟩
theorem bulk_pos {H : Type} (d : DataW H) : 1 ≤ Rows.uptoBulk d := by cases d <;> (try rename_i l; cases l) <;> simp [Rows.uptoBulk]
theorem bulk_mem {H : Type} : ∀ (l : List (DataW H)) (d : DataW H), d ∈ l → Rows.uptoBulk d ≤ Rows.uptoBulkAll l
  | x :: r, d, h => by
    simp only [Rows.uptoBulkAll]
    rcases List.mem_cons.1 h with rfl | h
    · omega
    · have := bulk_mem r d h; omega
theorem bulk_len {H : Type} : ∀ l : List (DataW H), l.length ≤ Rows.uptoBulkAll l
  | [] => Nat.zero_le _
  | x :: r => by
    have := bulk_len r; have := bulk_pos x
    simp only [Rows.uptoBulkAll, List.length_cons]; omega
theorem bulk1 {H : Type} (e r : List (DataW H)) (h : Rows.uptoBulk (.slice e r) ≤ 1048576) : e.length ≤ 1048576 ∧ ∀ d ∈ e ++ r, Rows.uptoBulk d ≤ 1048576 := by
  simp only [Rows.uptoBulk] at h
  have := bulk_len e
  refine ⟨by omega, fun d hd => ?_⟩
  rcases List.mem_append.1 hd with q | q
  · have := bulk_mem _ _ q; omega
  · have := bulk_mem _ _ q; omega
theorem bulk2 {H : Type} (l : List (DataW H)) (h : Rows.uptoBulk (.agg l) ≤ 1048576) : ∀ d ∈ l, Rows.uptoBulk d ≤ 1048576 := fun d hd => by
  simp only [Rows.uptoBulk] at h
  have := bulk_mem _ _ hd; omega
theorem bulk_at {H : Type} {l : List (DataW H)} {j : Nat} {d : DataW H} (h : Rows.uptoBulkAll l ≤ 1048576) (hj : l[j]? = some d) : Rows.uptoBulk d ≤ 1048576 := Nat.le_trans (bulk_mem _ _ (List.mem_of_getElem? hj)) h
theorem walk {HH : Type} {enc : TypeId × Value → HH} {W : World} {v0 v1 v2 : Value} {d0 d1 d2 : DataW HH} {p0 p1 p2 : List MemPlace} {ds : List (DataW HH)} (hz : Rows.uptoBulkAll ds ≤ 1048576) (c0 : v0.cells.toList = [v0]) (hd0 : ds[0]? = some d0) (c1 : v1.cells.toList = [v1]) (hd1 : ds[1]? = some d1) (c2 : v2.cells.toList = [v2]) (hd2 : ds[2]? = some d2)
    (h0 : DataW.Trod enc Try.prog W 0 (fun _ => true) true 22 v0 d0 p0) (h1 : DataW.Trod enc Try.prog W 0 (fun _ => true) true 22 v1 d1 p1) (h2 : DataW.Trod enc Try.prog W 0 (fun _ => true) true 23 v2 d2 p2) :
    Calls Try.prog 3 #[v0, v1, v2] W fun e w' => e = .returned (.bool true) ∧ Below W.heap.size W w' := by
  obtain ⟨f0, q0⟩ := h0
  obtain ⟨N0, K0, a0, g0, l0, w0⟩ := openB (B := 1048576) (S := fun d => Rows.uptoBulk d ≤ 1048576) bulk1 bulk2 8 22 (by kernel_rfl) f0 _ _ _ _ q0 (bulk_at hz hd0) (HR.nil W) RoH.nil
  have ro0 := (RoH.nil).adds g0
  obtain ⟨f1, q1⟩ := h1
  obtain ⟨N1, K1, a1, g1, l1, w1⟩ := openB (B := 1048576) (S := fun d => Rows.uptoBulk d ≤ 1048576) bulk1 bulk2 8 22 (by kernel_rfl) f1 _ _ _ _ q1 (bulk_at hz hd1) g0.hr ro0
  have ro1 := (ro0).adds g1
  obtain ⟨f2, q2⟩ := h2
  obtain ⟨N2, K2, a2, g2, l2, w2⟩ := openB (B := 1048576) (S := fun d => Rows.uptoBulk d ≤ 1048576) bulk1 bulk2 8 23 (by kernel_rfl) f2 _ _ _ _ q2 (bulk_at hz hd2) g1.hr ro1
  have ro2 := (ro1).adds g2
  have L0 := ((l0.mono (Ext.app _ N1)).mono (Ext.app _ N2))
  obtain ⟨s0, m0, rfl, r0, z0, u0⟩ := WTcB.sliceR (T := (T_int .i64)) (R := fun _ => True) Try.underlying22 (fun _ h => by obtain ⟨x, hx⟩ := cells7_int_i64 h; exact ⟨x, hx, trivial⟩) (w0.app (K := K1).app (K := K2))
  rw [c0] at L0
  have L1 := (l1.mono (Ext.app _ N2))
  obtain ⟨s1, m1, rfl, r1, z1, u1⟩ := WTcB.sliceR (T := (T_int .i64)) (R := fun _ => True) Try.underlying22 (fun _ h => by obtain ⟨x, hx⟩ := cells7_int_i64 h; exact ⟨x, hx, trivial⟩) (w1.app (K := K2))
  rw [c1] at L1
  have L2 := l2
  obtain ⟨s2, m2, rfl, r2, z2, u2⟩ := WTcB.sliceR (T := T_G_law17_Op) Try.underlying23 (fun _ h => cells7_G_law17_Op h) (w2)
  rw [c2] at L2
  refine CALL.law (args := [s0.v, s1.v, s2.v]) (zoneSound_c r0 r1 r2 u0 u1 (fun op hop => z2 op hop) fun _ => rfl) g2.hr ?_ ro2
  exact VL.cons (L0.2 0 _ _ rfl rfl) (VL.cons (L1.2 0 _ _ rfl rfl) (VL.cons (L2.2 0 _ _ rfl rfl) (VL.nil _)))
theorem own : ownKnob Try.prog.godebug = none := by kernel_rfl
theorem laidB : laidOutB Try.prog = true := by kernel_rfl
set_option maxRecDepth 100000 in
theorem lifted (os : Os) (started : os.Started) (H : Type) (enc : TypeId × Value → H) (F : Stop.Interp) :
    ReturnsInHanded {} Try.checked os 3 .any ((Rows.OpenSpec.upto Rows.zoneSoundSpec).pre6 enc Try.prog Try.f3 Rows.zoneSoundUptoRow.domain false) (((Rows.OpenSpec.upto Rows.zoneSoundSpec).at F).post enc Try.prog Try.f3 false true false false) := by
  refine returnsInHanded_of_cond_sized (C := Try.checked) (s := Rows.OpenSpec.upto Rows.zoneSoundSpec) (k := Rows.uptoSmall) rfl own started (by kernel_rfl) Try.func3
    (OpenSpec.witness (enc := enc) (C := Try.checked) (s := Rows.OpenSpec.upto Rows.zoneSoundSpec) (k := Rows.uptoSmall) rfl false ⟨#[], #[.slice none 0 0, .slice none 0 0, .slice none 0 0], []⟩ 8 (by kernel_rfl) (by kernel_rfl) (by kernel_rfl)
      (x := ([.nil, .nil, .nil], [], [])) (by kernel_rfl) rfl (by kernel_rfl)) ?_
  intro W base args ds gs before hval0 hW _ hk _ _
  have hval : ∀ (j : Nat) t v, Try.f3.params[j]? = some t → args[j]? = some v → Value.okWide Try.prog W .any base t v := hval0
  have hW' := hW
  obtain ⟨p, q, hA0, hV, rfl, _, _⟩ := hW
  have hA : DataW.TrodAll enc Try.prog W 0 (fun _ => true) true Try.f3.params.toList args.toList ds p := hA0
  rw [Try.params3] at hA hval
  obtain ⟨v0, v1, v2, d0, d1, d2, p0, p1, p2, rfl, rfl, rfl, h0, h1, h2⟩ := trodAll_three hA
  obtain ⟨rfl, rfl⟩ := trodVars_none hV
  clear hA0 hval0
  have c0 := cells_slice Try.underlying22 (hval 0 22 v0 rfl rfl)
  have c1 := cells_slice Try.underlying22 (hval 1 22 v1 rfl rfl)
  have c2 := cells_slice Try.underlying23 (hval 2 23 v2 rfl rfl)
  have hlt0 : ∀ x ∈ p0, x.block < W.heap.size := fun x hx => hW'.lt x (by simp [hx])
  have hlt1 : ∀ x ∈ p1, x.block < W.heap.size := fun x hx => hW'.lt x (by simp [hx])
  have hlt2 : ∀ x ∈ p2, x.block < W.heap.size := fun x hx => hW'.lt x (by simp [hx])
  refine (walk (ds := _) (of_decide_eq_true hk) c0 rfl c1 rfl c2 rfl h0 h1 h2).mono fun e W' ⟨he, bel⟩ => ?_
  subst he
  exact ⟨_, rfl, _, _, _, [], _, [], hW', trodAll_mk1 (shut_bool Try.underlying4 _), trodAll_mk3 (Below.trod laidB (by kernel_rfl) (of_decide_eq_true (by kernel_rfl)) h0 bel hlt0) (Below.trod laidB (by kernel_rfl) (of_decide_eq_true (by kernel_rfl)) h1 bel hlt1) (Below.trod laidB (by kernel_rfl) (of_decide_eq_true (by kernel_rfl)) h2 bel hlt2), rfl, bel.frame _, fun h => by cases h⟩
theorem proved : Rows.ZoneSoundUptoSaid :=
  OpenClaim.holds_of_cond 3 Try.f3 rfl rfl rfl rfl rfl rfl rfl ⟨rfl, rfl, rfl, rfl, rfl⟩ rfl rfl rfl rfl rfl (by kernel_rfl) Try.func3 (by kernel_rfl)
    (of_decide_eq_true (by kernel_rfl)) (by unfold Func.isWrapper; first | (rw [if_pos (by decide +kernel)]; kernel_rfl) | (rw [if_neg (by decide +kernel)]; exact ⟨rfl, rfl⟩))
    (fun os started H enc _ F => lifted os started H enc F)
#print axioms proved
end Go.Proofs.Ythgfjbafhjkhnaa.zoneSound
namespace Go.Proofs.Ythgfjbafhjkhnaa
/-- The row, under a short name, for the claim. -/
theorem zoneSoundUpto_holds : Rows.ZoneSoundUptoSaid := zoneSound.proved
end Go.Proofs.Ythgfjbafhjkhnaa
