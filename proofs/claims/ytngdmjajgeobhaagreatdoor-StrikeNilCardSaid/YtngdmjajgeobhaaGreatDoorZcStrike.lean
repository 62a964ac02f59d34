/- What is told of no book (layer 26). -/
import Derived.Test.YtngdmjajgeobhaaGreatDoorZcNil
namespace Go.Proofs.YtngdmjajgeobhaaGreatDoor.Zq
open Zv
variable {H : Heap} {p : Option Addr}
theorem nextN (h : NoB H p) {a1 a2 a3 : Sl} (hl : a1.len * 88 ≤ 281474976710656) {Q : Int × Int × Unit → Heap → Prop} (hq : ∀ H', Ap H H' → Q (0, 1, ()) H') : CALL P [T_int .i64, T_int .i64] n_layer_Next [.pointer p, a1.v, a2.v, a3.v] H Q := by
  apply c_layer_Next
  unfold S_layer_Next
  exact setupN h hl fun x H' ha => ifB_t rfl (hq H' ha)
theorem wrongN (h : NoB H p) {a1 a2 : Sl} {w : Int} (hl : a1.len * 88 ≤ 281474976710656) {Q : Int × Unit → Heap → Prop} (hq : ∀ H', Ap H H' → Q (1, ()) H') : CALL P [T_int .i64] n_strike_wrong [.pointer p, a1.v, a2.v, .int .i64 w] H Q := by
  apply c_strike_wrong
  unfold S_strike_wrong
  exact nextN (a3 := ⟨none, 0, 0⟩) h hl fun H' ha => ifB_t rfl (hq H' ha)
theorem readyN (h : NoB H p) {a1 a2 : Sl} {w n : Int} (hl : a1.len * 88 ≤ 281474976710656) {Q : Int × Unit → Heap → Prop} (hq : ∀ H', Ap H H' → Q (1, ()) H') : CALL P [T_int .i64] n_strike_ready [.pointer p, a1.v, a2.v, .int .i64 w, .int .i64 n] H Q := by
  apply c_strike_ready
  unfold S_strike_ready
  exact wrongN h hl fun H' ha => ifB_t rfl (hq H' ha)
theorem checkN (h : NoB H p) {a1 a2 : Sl} {w n m : Int} (hl : a1.len * 88 ≤ 281474976710656) {Q : Int × Unit → Heap → Prop} (hq : ∀ H', Ap H H' → Q (1, ()) H') : CALL P [T_int .i64] n_strike_Check [.pointer p, a1.v, a2.v, .int .i64 w, .int .i64 n, .int .i64 m] H Q := by
  apply c_strike_Check
  unfold S_strike_Check
  exact readyN h hl fun H' ha => ifB_t rfl (hq H' ha)
theorem mayN (h : NoB H p) {a1 a2 : Sl} {w n : Int} (hl : a1.len * 88 ≤ 281474976710656) {Q : Sl × Int × Unit → Heap → Prop} (hq : ∀ H', Ap H H' → Q (⟨none, 0, 0⟩, 1, ()) H') : CALL P [T_sl, T_int .i64] n_strike_May [.pointer p, a1.v, a2.v, .int .i64 w, .int .i64 n] H Q := by
  apply c_strike_May
  unfold S_strike_May
  exact readyN h hl fun H' ha => ifB_t rfl (hq H' ha)
theorem guardsN (h : NoB H p) {a1 a2 : Sl} {w : Int} (hl : a1.len * 88 ≤ 281474976710656) {Q : Sl × Int × Unit → Heap → Prop} (hq : ∀ H', Ap H H' → Q (⟨none, 0, 0⟩, 1, ()) H') : CALL P [T_sl, T_int .i64] n_strike_Guards [.pointer p, a1.v, a2.v, .int .i64 w] H Q := by
  apply c_strike_Guards
  unfold S_strike_Guards
  exact wrongN h hl fun H' ha => ifB_t rfl (hq H' ha)
theorem sallN (h : NoB H p) {a1 a2 : Sl} {w : Int} (hl : a1.len * 88 ≤ 281474976710656) {Q : Sl × Int × Unit → Heap → Prop} (hq : ∀ H', Ap H H' → Q (⟨none, 0, 0⟩, 1, ()) H') : CALL P [T_sl, T_int .i64] n_strike_All [.pointer p, a1.v, a2.v, .int .i64 w] H Q := by
  apply c_strike_All
  unfold S_strike_All
  exact wrongN h hl fun H' ha => ifB_t rfl (hq H' ha)
theorem blowsN (h : NoB H p) {a1 a2 : Sl} {n m : Int} (hl : a1.len * 88 ≤ 281474976710656) {Q : Sl × Int × Unit → Heap → Prop} (hq : ∀ H', Ap H H' → Q (⟨none, 0, 0⟩, 1, ()) H') : CALL P [T_sl, T_int .i64] n_strike_Blows [.pointer p, a1.v, a2.v, .int .i64 n, .int .i64 m] H Q := by
  apply c_strike_Blows
  unfold S_strike_Blows NEW
  have k1 := Ap.mk H [.pointer p] 1 false
  have k2 := Ap.mk (mk H [.pointer p] 1 false) [.slice a1.p a1.len a1.cap] 1 false
  have k3 := Ap.mk (mk (mk H [.pointer p] 1 false) [.slice a1.p a1.len a1.cap] 1 false) [.slice a2.p a2.len a2.cap] 1 false
  have k := (k1.trans k2).trans k3
  refine LD_of (T := T_ptr) p [] [] ((k2.trans k3).get (mk_get H _ 1 false)) rfl rfl rfl ?_
  refine LD_of (T := T_sl) a1 [] [] (k3.get (mk_get _ _ 1 false)) rfl rfl rfl ?_
  refine LD_of (T := T_sl) a2 [] [] (mk_get _ _ 1 false) rfl rfl rfl ?_
  exact wrongN (h.ap k) hl fun H' ha => ifB_t rfl (hq H' (k.trans ha))
theorem lives26 {Q : Bool × Unit → Heap → Prop} (hq : Q (true, ()) H) : CALL P [T_bool] n_law26_lives [] H Q :=
  CALL.closedF (Tryz.fnOk 100) (by kernel_rfl) hq

theorem strikeNil_c {a0 a1 : Sl} {a2 : G_law26_Ask} (hl : a0.len * 88 ≤ 281474976710656) {Q : Bool × Unit → Heap → Prop} (hq : ∀ H', Q (true, ()) H') : CALL P [T_bool] n_law26_StrikeNil [a0.v, a1.v, T_G_law26_Ask.enc a2] H Q := by
  apply c_law26_StrikeNil
  unfold S_law26_StrikeNil NEW
  generalize hH1 : mk H _ _ false = H1
  generalize hH2 : mk H1 _ 1 false = H2
  have hn : NoB H1 (some ⟨H.length, 0, none⟩) := by rw [← hH1]; exact .inr ⟨_, _, _, _, _, rfl, mk_get H _ _ false⟩
  have hp12 : Ap H1 H2 := by rw [← hH2]; exact Ap.mk _ _ _ _
  have h2 : H2[H1.length]? = some (.row [.pointer none, .pointer (some ⟨H.length, 0, none⟩)] 1 false false true) := by rw [← hH2]; exact mk_get _ _ _ _
  clear hH1 hH2
  refine JOIN_inv (fun _ _ => True) (fun j hj => ?_) (fun _ H' _ => lives26 (hq _))
  refine loop_of (fun (st : (Int × Unit) × Unit) H' => Ap H2 H' ∧ 0 ≤ st.1.1 ∧ st.1.1 ≤ 2) (fun st => (2 - st.1.1).toNat) ?_ ⟨Ap.refl _, by decide, by decide⟩
  rintro G ⟨⟨i, _⟩, _⟩ H4 ⟨ha, hi0, hi2⟩ hG
  simp only at hi0 hi2
  dsimp only at hG ⊢
  refine ifB_of (fun hc => ?_) (fun _ => hj _ _ trivial)
  have hc : i < 2 := of_decide_eq_true hc
  obtain ⟨x, hx, rd⟩ := two_ptr h2 hi0 hc
  have hb : NoB H2 x := by
    rcases hx with rfl | rfl
    · exact .inl rfl
    · exact hn.ap hp12
  refine rd _ ha _ ?_
  refine mayN (hb.ap ha) hl fun H5 h5 => ?_
  have ha5 := ha.trans h5
  refine rd _ ha5 _ ?_
  refine guardsN (hb.ap ha5) hl fun H6 h6 => ?_
  have ha6 := ha5.trans h6
  refine rd _ ha6 _ ?_
  refine sallN (hb.ap ha6) hl fun H7 h7 => ?_
  have ha7 := ha6.trans h7
  refine rd _ ha7 _ ?_
  refine blowsN (hb.ap ha7) hl fun H8 h8 => ?_
  have ha8 := ha7.trans h8
  refine JOIN_of (rd _ ha8 _ ?_)
  refine checkN (hb.ap ha8) hl fun H9 h9 => ?_
  have ha9 := ha8.trans h9
  refine ifB_f rfl (ifB_f rfl (ifB_f rfl (ifB_f rfl (ifB_f rfl ?_))))
  refine ifB_f (by rfl) ?_
  rw [i64w (by omega) (by omega)]
  exact hG _ _ ⟨ha9, by simp; omega, by simp; omega⟩ (by simp; omega)
end Go.Proofs.YtngdmjajgeobhaaGreatDoor.Zq
