/- What is told of no book (layer 20). -/
import Derived.Test.YtjanjgegchgjiaaGreatDoorZcNil
namespace Go.Proofs.YtjanjgegchgjiaaGreatDoor.Zq
open Zv
variable {H : Heap} {p : Option Addr}
theorem allN (h : NoB H p) {a1 a2 : Sl} {a3 : Int} (hl : a1.len * 88 ≤ 281474976710656) {Q : Sl × Sl × Int × Unit → Heap → Prop} (hq : ∀ H', Ap H H' → Q (⟨none, 0, 0⟩, ⟨none, 0, 0⟩, 1, ()) H') : CALL P [T_sl, T_sl, T_int .i64] n_layer_All [.pointer p, a1.v, a2.v, .int .i64 a3] H Q := by
  apply c_layer_All
  unfold S_layer_All
  exact effectsN h hl fun H' ha => ifB_t rfl (hq H' ha)
theorem printedN (h : NoB H p) {t : G_api_Thing} {Q : G_api_Feature × Int × Unit → Heap → Prop} (hq : Q (G_api_Feature.mk 0 0 0 0 0, 1, ()) H) : CALL P [T_G_api_Feature, T_int .i64] n_thing_Printed [.pointer p, T_G_api_Thing.enc t] H Q := by
  apply c_thing_Printed
  unfold S_thing_Printed
  exact cardN h (ifB_t rfl hq)
theorem hTth (x : G_api_Thing) : (T_G_api_Thing.cells x).length = T_G_api_Thing.n := rfl
theorem printedVN (h : NoB H p) {a1 : Sl} {l : List G_api_Thing} (hs : SlR T_G_api_Thing H a1 l) (hl : a1.len * 88 ≤ 281474976710656) {Q : Sl × Int × Unit → Heap → Prop} (hq : ∀ H', Ap H H' → Q (⟨none, 0, 0⟩, 1, ()) H') : CALL P [T_sl, T_int .i64] n_view_printed [.pointer p, a1.v] H Q := by
  apply c_view_printed
  unfold S_view_printed
  refine ifB_of (fun _ => allN h hl fun H' ha => hq H' ha) (fun _ => ?_)
  refine make_any (by kernel_rfl) hl fun cs sz => ?_
  refine JOIN_inv (fun _ H' => Ap H H') (fun j hj => ?_) (fun z H3 ha => allN (h.ap ha) hl fun H8 h8 => ifB_t rfl (hq _ (ha.trans h8)))
  refine loop_of (fun (st : (Int × Unit) × Unit) H' => st.1.1 = 0 ∧ Ap H H') (fun _ => 0) ?_ ⟨rfl, Ap.app _ _⟩
  rintro G ⟨⟨i, _⟩, _⟩ H4 ⟨hi, ha⟩ hG
  simp only at hi; subst hi
  dsimp only
  refine ifB_of (fun hc => ?_) (fun _ => hj _ _ ha)
  have hc : (0 : Int) < a1.len := of_decide_eq_true hc
  have hn : 0 < l.length := by have h1 : a1.len = l.length := hs.1; omega
  exact idx_ld (T := T_G_api_Thing) hTth (ha.slr hs) (n := 0) rfl (List.getElem?_eq_getElem hn) rfl (printedN (h.ap ha) (ifB_t rfl (hq _ ha)))
theorem walkN (h : NoB H p) {a1 : Sl} {l : List G_api_Thing} (hs : SlR T_G_api_Thing H a1 l) (hl : a1.len * 88 ≤ 281474976710656) {Q : Value × Int × Unit → Heap → Prop} (hq : ∀ v H', Ap H H' → Q (v, 1, ()) H') : CALL P [T_any, T_int .i64] n_view_walk [.pointer p, a1.v] H Q := by
  apply c_view_walk
  unfold S_view_walk NEW
  have a1' := Ap.mk H [.pointer p] 1 false
  have a2' := a1'.trans (Ap.mk (mk H [.pointer p] 1 false) [.slice a1.p a1.len a1.cap] 1 false)
  refine LD_of (T := T_ptr) p [] [] ((Ap.mk _ _ 1 false).get (mk_get H _ 1 false)) rfl rfl rfl ?_
  refine LD_of (T := T_sl) a1 [] [] (mk_get _ _ 1 false) rfl rfl rfl ?_
  refine printedVN (h.ap a2') (a2'.slr hs) hl fun H3 h3 => ?_
  have a3' := a2'.trans h3
  refine ST_new rfl rfl ?_
  refine ST_new rfl rfl ?_
  exact hq _ _ (a3'.trans ((Ap.mk H3 _ 1 false).trans (Ap.mk _ _ 1 false)))
theorem behindN (h : NoB H p) {a1 : Sl} {l : List G_api_Thing} (hs : SlR T_G_api_Thing H a1 l) (hl : a1.len * 88 ≤ 281474976710656) {k : Int} {Q : Sl × Int × Unit → Heap → Prop} (hq : ∀ H', Ap H H' → Q (⟨none, 0, 0⟩, 1, ()) H') : CALL P [T_sl, T_int .i64] n_view_Behind [.pointer p, a1.v, .int .i64 k] H Q := by
  apply c_view_Behind
  unfold S_view_Behind
  exact walkN h hs hl fun v H' ha => ifB_t rfl (hq H' ha)
theorem ofN (h : NoB H p) {a1 : Sl} {l : List G_api_Thing} (hs : SlR T_G_api_Thing H a1 l) (hl : a1.len * 88 ≤ 281474976710656) {Q : Sl × Int × Unit → Heap → Prop} (hq : ∀ H', Ap H H' → Q (⟨none, 0, 0⟩, 1, ()) H') : CALL P [T_sl, T_int .i64] n_view_Of [.pointer p, a1.v] H Q := by
  apply c_view_Of
  unfold S_view_Of
  exact behindN h hs hl hq
theorem stepsN (h : NoB H p) {a1 : Sl} {l : List G_api_Thing} (hs : SlR T_G_api_Thing H a1 l) (hl : a1.len * 88 ≤ 281474976710656) {Q : Sl × Int × Unit → Heap → Prop} (hq : ∀ H', Ap H H' → Q (⟨none, 0, 0⟩, 1, ()) H') : CALL P [T_sl, T_int .i64] n_view_Steps [.pointer p, a1.v] H Q := by
  apply c_view_Steps
  unfold S_view_Steps
  exact walkN h hs hl fun v H' ha => ifB_t rfl (hq H' ha)
theorem whyN (h : NoB H p) {a1 : Sl} {l : List G_api_Thing} (hs : SlR T_G_api_Thing H a1 l) (hl : a1.len * 88 ≤ 281474976710656) {k : Int} {Q : Sl × Int × Unit → Heap → Prop} (hq : ∀ H', Ap H H' → Q (⟨none, 0, 0⟩, 1, ()) H') : CALL P [T_sl, T_int .i64] n_view_Why [.pointer p, a1.v, .int .i64 k] H Q := by
  apply c_view_Why
  unfold S_view_Why
  exact walkN h hs hl fun v H' ha => ifB_t rfl (hq H' ha)
theorem lives20 {Q : Bool × Unit → Heap → Prop} (hq : Q (true, ()) H) : CALL P [T_bool] n_law20_lives [] H Q :=
  CALL.closedF (Tryz.fnOk 100) (by kernel_rfl) hq

theorem viewNil_c {a0 : Sl} {a1 a2 : Int} {l : List G_api_Thing} (hs : SlR T_G_api_Thing H a0 l) (hl : a0.len * 88 ≤ 281474976710656) {Q : Bool × Unit → Heap → Prop} (hq : ∀ H', Q (true, ()) H') : CALL P [T_bool] n_law20_ViewNil [a0.v, .int .i64 a1, .int .i64 a2] H Q := by
  apply c_law20_ViewNil
  unfold S_law20_ViewNil NEW
  generalize hH1 : mk H _ _ false = H1
  generalize hH2 : mk H1 _ 1 false = H2
  have hn : NoB H1 (some ⟨H.length, 0, none⟩) := by rw [← hH1]; exact .inr ⟨_, _, _, _, _, rfl, mk_get H _ _ false⟩
  have hp1 : Ap H H1 := by rw [← hH1]; exact Ap.mk _ _ _ _
  have hp12 : Ap H1 H2 := by rw [← hH2]; exact Ap.mk _ _ _ _
  have hp2 : Ap H H2 := hp1.trans hp12
  have h2 : H2[H1.length]? = some (.row [.pointer none, .pointer (some ⟨H.length, 0, none⟩)] 1 false false true) := by rw [← hH2]; exact mk_get _ _ _ _
  clear hH1 hH2
  refine JOIN_inv (fun _ _ => True) (fun j hj => ?_) (fun _ H' _ => lives20 (hq _))
  refine loop_of (fun (st : (Int × Unit) × Unit) H' => Ap H2 H' ∧ 0 ≤ st.1.1 ∧ st.1.1 ≤ 2) (fun st => (2 - st.1.1).toNat) ?_ ⟨Ap.refl _, by decide, by decide⟩
  rintro G ⟨⟨i, _⟩, _⟩ H4 ⟨ha, hi0, hi2⟩ hG
  simp only at hi0 hi2
  dsimp only at hG ⊢
  refine ifB_of (fun hc => ?_) (fun _ => hj _ _ trivial)
  have hc : i < 2 := of_decide_eq_true hc
  obtain ⟨x, hx, rd⟩ := two_ptr h2 hi0 hc
  have hb : NoB H2 x := by
    rcases hx with rfl | rfl
    · exact .inl rfl
    · exact hn.ap hp12
  refine rd _ ha _ ?_
  refine ofN (hb.ap ha) ((hp2.trans ha).slr hs) hl fun H5 h5 => ?_
  have ha5 := ha.trans h5
  refine rd _ ha5 _ ?_
  refine behindN (hb.ap ha5) ((hp2.trans ha5).slr hs) hl fun H6 h6 => ?_
  have ha6 := ha5.trans h6
  refine rd _ ha6 _ ?_
  refine stepsN (hb.ap ha6) ((hp2.trans ha6).slr hs) hl fun H7 h7 => ?_
  have ha7 := ha6.trans h7
  refine rd _ ha7 _ ?_
  refine whyN (hb.ap ha7) ((hp2.trans ha7).slr hs) hl fun H8 h8 => ?_
  have ha8 := ha7.trans h8
  refine JOIN_of (ifB_f rfl (ifB_f rfl (ifB_f rfl (ifB_f rfl ?_))))
  refine ifB_f (by rfl) ?_
  rw [i64w (by omega) (by omega)]
  exact hG _ _ ⟨ha8, by simp; omega, by simp; omega⟩ (by simp; omega)
end Go.Proofs.YtjanjgegchgjiaaGreatDoor.Zq
