/- StackCalls of the set: the call of the Go function returns true and leaves all memory that was there as it was. Condition: what is handed in is of the bulk that the given statement's second form has. -/
import Derived.Test.YtmjonmhpfngkaaaRows
import Derived.Test.YtmjonmhpfngkaaaZcCalls
import Derived.Test.YtmjonmhpfngkaaaZcOpen
import Derived.Test.YtmjonmhpfngkaaaZcOpen2
import Derived.WalkKit
import Derived.ProofKit
import Derived.OpenShut
import Derived.ShutString
import Derived.ChangeOld
import Derived.Below
import Derived.SizedLaws
import Derived.JoinedCond
import Derived.Deep.CondSized
namespace Go.Proofs.Ytmjonmhpfngkaaa.stackCalls
open Go.ChangeShapes Go.WideShapes Go.ChangeAt Go.RowKit
open Zq Zv
theorem cells_slice {P : Program} {W : World} {base : Nat} {t e : TypeId} {v : Value} (ht : P.underlying t = some (.slice e)) (h : Value.okWide P W .any base t v) : v.cells.toList = [v] := by
  obtain ⟨a, len, cap, rfl⟩ := okWide_slice ht h
  rfl
theorem cells_G_api_Item {H : Heap} {a : List Value} (h : WTc Try.prog H 7 23 a) : ∃ x : G_api_Item, a = T_G_api_Item.cells x := by
  have h2 := WTc.shp (ss := [.i .i64, .i .i64, .i .i64, .i .i64]) h (by kernel_rfl)
  obtain ⟨y0, _, rfl, y1, _, rfl, y2, _, rfl, y3, _, rfl, rfl⟩ := h2
  exact ⟨(G_api_Item.mk y0 y1 y2 y3), rfl⟩
theorem cells5_G_api_Item {H : Heap} {a : List Value} (h : WTc Try.prog H 5 23 a) : ∃ x : G_api_Item, a = T_G_api_Item.cells x := by
  have h2 := WTc.shp (ss := [.i .i64, .i .i64, .i .i64, .i .i64]) h (by kernel_rfl)
  obtain ⟨y0, _, rfl, y1, _, rfl, y2, _, rfl, y3, _, rfl, rfl⟩ := h2
  exact ⟨(G_api_Item.mk y0 y1 y2 y3), rfl⟩
theorem cells_G_law23_Op {H : Heap} {a : List Value} (h : WTc Try.prog H 7 55 a) : ∃ x : G_law23_Op, a = T_G_law23_Op.cells x ∧ (∃ li : List G_api_Item, SlF T_G_api_Item H x.L li) := by
  have h2 := WTc.shp (ss := [.i .i64, .i .i64, .i .i64, .i .i64, .i .i64, .sl, .i .i64]) h (by kernel_rfl)
  obtain ⟨y0, _, rfl, y1, _, rfl, y2, _, rfl, y3, _, rfl, y4, _, rfl, y5, _, rfl, y6, _, rfl, rfl⟩ := h2
  obtain ⟨s2, l2, e2, f2, _⟩ := WTc.sliceR (T := T_G_api_Item) (R := fun _ => True) Try.underlying32 (fun _ h => by obtain ⟨x, hx⟩ := cells5_G_api_Item h; exact ⟨x, hx, trivial⟩) (WTc.fld (d := 6) (i := 2) (off := 5) Try.underlying55 rfl (by kernel_rfl) h)
  replace e2 : (List.drop 5 (_ : List Value)).take (Try.prog.cellsOf 32) = [s2.v] := e2
  rw [show Try.prog.cellsOf 32 = 1 by kernel_rfl] at e2
  have q2 : y5 = s2 := Sl.v_inj (by simpa using e2)
  subst q2
  exact ⟨(G_law23_Op.mk y0 (G_api_Item.mk y1 y2 y3 y4) y5 y6), rfl, ⟨l2, f2⟩⟩
theorem walk {HH : Type} {enc : TypeId × Value → HH} {W : World} {v0 v1 : Value} {d0 d1 : DataW HH} {p0 p1 : List MemPlace} {ts : List TypeId} {ds : List (DataW HH)} (hz : (DataW.weightsEach Try.prog ts ds).all (· ≤ reachBytes) = true) (c0 : v0.cells.toList = [v0]) (hj0 : ts[0]? = some 32) (hd0 : ds[0]? = some d0) (c1 : v1.cells.toList = [v1]) (hj1 : ts[1]? = some 42) (hd1 : ds[1]? = some d1)
    (h0 : DataW.Trod enc Try.prog W 0 (fun _ => true) true 32 v0 d0 p0) (h1 : DataW.Trod enc Try.prog W 0 (fun _ => true) true 42 v1 d1 p1) :
    Calls Try.prog 4 #[v0, v1] W fun e w' => e = .returned (.bool true) ∧ Below W.heap.size W w' := by
  obtain ⟨f0, q0⟩ := h0
  obtain ⟨N0, K0, a0, g0, l0, w0⟩ := openT 8 32 (by kernel_rfl) f0 _ _ _ _ q0 (HR.nil W) RoH.nil
  have ro0 := (RoH.nil).adds g0
  obtain ⟨f1, q1⟩ := h1
  obtain ⟨N1, K1, a1, g1, l1, w1⟩ := openT 8 42 (by kernel_rfl) f1 _ _ _ _ q1 g0.hr ro0
  have ro1 := (ro0).adds g1
  have L0 := (l0.mono (Ext.app _ N1))
  obtain ⟨s0, m0, rfl, r0, z0⟩ := WTc.sliceR (T := T_G_api_Item) (R := fun _ => True) Try.underlying32 (fun _ h => by obtain ⟨x, hx⟩ := cells_G_api_Item h; exact ⟨x, hx, trivial⟩) (w0.app (K := K1))
  rw [c0] at L0
  have b0 := sl_bound Try.underlying32 c0 ⟨f0, q0⟩ hz hj0 hd0 (L0.2 0 _ _ rfl rfl)
  rw [show Try.prog.bytesOf 23 = 32 by kernel_rfl] at b0
  have L1 := l1
  obtain ⟨s1, m1, rfl, r1, z1⟩ := WTc.sliceR (T := T_G_law23_Op) Try.underlying42 (fun _ h => cells_G_law23_Op h) (w1)
  rw [c1] at L1
  have b1 := sl_bound Try.underlying42 c1 ⟨f1, q1⟩ hz hj1 hd1 (L1.2 0 _ _ rfl rfl)
  rw [show Try.prog.bytesOf 55 = 72 by kernel_rfl] at b1
  refine CALL.law (args := [s0.v, s1.v]) (stackCalls_c r0 r1 (fun op hop => z1 op hop) fun _ => rfl) g1.hr ?_ ro1
  exact VL.cons (L0.2 0 _ _ rfl rfl) (VL.cons (L1.2 0 _ _ rfl rfl) (VL.nil _))
theorem own : ownKnob Try.prog.godebug = none := by kernel_rfl
theorem laidB : laidOutB Try.prog = true := by kernel_rfl
set_option maxRecDepth 100000 in
theorem lifted (os : Os) (started : os.Started) (H : Type) (enc : TypeId × Value → H) (F : Stop.Interp) :
    ReturnsInHanded {} Try.checked os 4 .any ((Rows.OpenSpec.upto Rows.stackCallsSpec).pre6 enc Try.prog Try.f4 Rows.stackCallsUptoRow.domain false) (((Rows.OpenSpec.upto Rows.stackCallsSpec).at F).post enc Try.prog Try.f4 false true false false) := by
  refine returnsInHanded_of_cond_sized (C := Try.checked) (s := Rows.OpenSpec.upto Rows.stackCallsSpec) (k := Rows.uptoSmall) rfl own started (by kernel_rfl) Try.func4
    (OpenSpec.witness (enc := enc) (C := Try.checked) (s := Rows.OpenSpec.upto Rows.stackCallsSpec) (k := Rows.uptoSmall) rfl false ⟨#[], #[.slice none 0 0, .slice none 0 0], []⟩ 8 (by kernel_rfl) (by kernel_rfl) (by kernel_rfl)
      (x := ([.nil, .nil], [], [])) (by kernel_rfl) rfl (by kernel_rfl)) ?_
  intro W base args ds gs before hval0 hW _ hk hz _
  have hval : ∀ (j : Nat) t v, Try.f4.params[j]? = some t → args[j]? = some v → Value.okWide Try.prog W .any base t v := hval0
  have hW' := hW
  obtain ⟨p, q, hA0, hV, rfl, _, _⟩ := hW
  have hA : DataW.TrodAll enc Try.prog W 0 (fun _ => true) true Try.f4.params.toList args.toList ds p := hA0
  rw [Try.params4] at hA hval hz
  obtain ⟨v0, v1, d0, d1, p0, p1, rfl, rfl, rfl, h0, h1⟩ := trodAll_two hA
  obtain ⟨rfl, rfl⟩ := trodVars_none hV
  clear hA0 hval0
  have c0 := cells_slice Try.underlying32 (hval 0 32 v0 rfl rfl)
  have c1 := cells_slice Try.underlying42 (hval 1 42 v1 rfl rfl)
  have hlt0 : ∀ x ∈ p0, x.block < W.heap.size := fun x hx => hW'.lt x (by simp [hx])
  have hlt1 : ∀ x ∈ p1, x.block < W.heap.size := fun x hx => hW'.lt x (by simp [hx])
  refine (walk (ts := _) (ds := _) hz c0 rfl rfl c1 rfl rfl h0 h1).mono fun e W' ⟨he, bel⟩ => ?_
  subst he
  exact ⟨_, rfl, _, _, _, [], _, [], hW', trodAll_mk1 (shut_bool Try.underlying4 _), trodAll_mk2 (Below.trod laidB (by kernel_rfl) (of_decide_eq_true (by kernel_rfl)) h0 bel hlt0) (Below.trod laidB (by kernel_rfl) (of_decide_eq_true (by kernel_rfl)) h1 bel hlt1), rfl, bel.frame _, fun h => by cases h⟩
theorem proved : Rows.StackCallsUptoSaid :=
  OpenClaim.holds_of_cond 4 Try.f4 rfl rfl rfl rfl rfl rfl rfl ⟨rfl, rfl, rfl, rfl, rfl⟩ rfl rfl rfl rfl rfl (by kernel_rfl) Try.func4 (by kernel_rfl)
    (of_decide_eq_true (by kernel_rfl)) (by unfold Func.isWrapper; first | (rw [if_pos (by decide +kernel)]; kernel_rfl) | (rw [if_neg (by decide +kernel)]; exact ⟨rfl, rfl⟩))
    (fun os started H enc _ F => lifted os started H enc F)
#print axioms proved
end Go.Proofs.Ytmjonmhpfngkaaa.stackCalls
namespace Go.Proofs.Ytmjonmhpfngkaaa
/-- The row, under a short name, for the claim. -/
theorem stackCallsUpto_holds : Rows.StackCallsUptoSaid := stackCalls.proved
end Go.Proofs.Ytmjonmhpfngkaaa
