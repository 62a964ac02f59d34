/- What is told of no book (layer 19). -/
import Derived.Test.YtkijgkagfkapjaaGreatDoorZcNil
namespace Go.Proofs.YtkijgkagfkapjaaGreatDoor.Zq
open Zv
variable {H : Heap} {p : Option Addr}
theorem aboutN (h : NoB H p) {a1 a2 : Sl} {s : G_api_Standing} (hl : a1.len * 88 ≤ 281474976710656) {Q : Sl × Int × Unit → Heap → Prop} (hq : ∀ H', Ap H H' → Q (⟨none, 0, 0⟩, 1, ()) H') : CALL P [T_sl, T_int .i64] n_layer_About [.pointer p, a1.v, a2.v, T_G_api_Standing.enc s] H Q := by
  apply c_layer_About
  unfold S_layer_About
  exact setupN h hl fun x H' ha => ifB_t rfl (hq H' ha)
theorem applyN (h : NoB H p) {a1 a2 : Sl} {s : G_api_Standing} (hl : a1.len * 88 ≤ 281474976710656) {Q : Sl × Int × Unit → Heap → Prop} (hq : ∀ H', Ap H H' → Q (⟨none, 0, 0⟩, 1, ()) H') : CALL P [T_sl, T_int .i64] n_layer_Apply [.pointer p, a1.v, a2.v, T_G_api_Standing.enc s] H Q := by
  apply c_layer_Apply
  unfold S_layer_Apply
  exact setupN h hl fun x H' ha => ifB_t rfl (hq H' ha)
theorem dependsN (h : NoB H p) {a1 a2 : Sl} {s r : G_api_Standing} (hl : a1.len * 88 ≤ 281474976710656) {Q : Bool × Int × Unit → Heap → Prop} (hq : ∀ H', Ap H H' → Q (false, 1, ()) H') : CALL P [T_bool, T_int .i64] n_layer_Depends [.pointer p, a1.v, a2.v, T_G_api_Standing.enc s, T_G_api_Standing.enc r] H Q := by
  apply c_layer_Depends
  unfold S_layer_Depends
  exact setupN h hl fun x H' ha => ifB_t rfl (hq H' ha)
theorem nextN (h : NoB H p) {a1 a2 a3 : Sl} (hl : a1.len * 88 ≤ 281474976710656) {Q : Int × Int × Unit → Heap → Prop} (hq : ∀ H', Ap H H' → Q (0, 1, ()) H') : CALL P [T_int .i64, T_int .i64] n_layer_Next [.pointer p, a1.v, a2.v, a3.v] H Q := by
  apply c_layer_Next
  unfold S_layer_Next
  exact setupN h hl fun x H' ha => ifB_t rfl (hq H' ha)
theorem allN (h : NoB H p) {a1 a2 : Sl} {a3 : Int} (hl : a1.len * 88 ≤ 281474976710656) {Q : Sl × Sl × Int × Unit → Heap → Prop} (hq : ∀ H', Ap H H' → Q (⟨none, 0, 0⟩, ⟨none, 0, 0⟩, 1, ()) H') : CALL P [T_sl, T_sl, T_int .i64] n_layer_All [.pointer p, a1.v, a2.v, .int .i64 a3] H Q := by
  apply c_layer_All
  unfold S_layer_All
  exact effectsN h hl fun H' ha => ifB_t rfl (hq H' ha)
theorem none19 (h : NoB H p) {t : G_law19_Table} {s : G_api_Standing} {k : Int} (hl : t.Things.len * 88 ≤ 281474976710656) {Q : Bool × Unit → Heap → Prop} (hq : ∀ H', Ap H H' → Q (true, ()) H') : CALL P [T_bool] n_law19_none [.pointer p, T_G_law19_Table.enc t, T_G_api_Standing.enc s, .int .i64 k] H Q := by
  apply c_law19_none
  unfold S_law19_none
  refine aboutN h hl fun H1 a1 => applyN (h.ap a1) hl fun H2 a2 => ?_
  have k2 := a1.trans a2
  refine dependsN (h.ap k2) hl fun H3 a3 => ?_
  have k3 := k2.trans a3
  refine nextN (a3 := ⟨none, 0, 0⟩) (h.ap k3) hl fun H4 a4 => ?_
  have k4 := k3.trans a4
  refine effectsN (h.ap k4) hl fun H5 a5 => ?_
  have k5 := k4.trans a5
  refine allN (h.ap k5) hl fun H6 a6 => ?_
  refine JOIN_of (ifB_t (by rfl) (ifB_t rfl (ifB_t rfl (ifB_t rfl (ifB_t rfl (ifB_t rfl (ifB_t rfl (ifB_t rfl ?_))))))))
  exact hq _ (k5.trans a6)
theorem awake19 {Q : Bool × Unit → Heap → Prop} (hq : Q (true, ()) H) : CALL P [T_bool] n_law19_awake [] H Q :=
  CALL.closedF (Tryz.fnOk 100) (by kernel_rfl) hq
theorem layerNone_c {t : G_law19_Table} {s : G_api_Standing} {k : Int} (hl : t.Things.len * 88 ≤ 281474976710656) {Q : Bool × Unit → Heap → Prop} (hq : ∀ H', Q (true, ()) H') : CALL P [T_bool] n_law19_LayerNone [T_G_law19_Table.enc t, T_G_api_Standing.enc s, .int .i64 k] H Q := by
  apply c_law19_LayerNone
  unfold S_law19_LayerNone NEW
  refine JOIN_of (none19 (.inl rfl) hl fun H2 _ => ifB_t rfl ?_)
  refine none19 (.inr ⟨_, _, _, _, _, rfl, mk_get H2 _ _ false⟩) hl fun H4 _ => ifB_t rfl (awake19 (hq _))
end Go.Proofs.YtkijgkagfkapjaaGreatDoor.Zq
