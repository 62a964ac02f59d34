/- What is told of no world, no book (layer 22). -/
import Derived.Test.YtkbdfjlpicflaaaGreatDoorZcNil
import Derived.Test.YtkbdfjlpicflaaaGreatDoorZOlaw22awake0
namespace Go.Proofs.YtkbdfjlpicflaaaGreatDoor.Zq
open Zv
variable {H : Heap} {p : Option Addr}
/-- No world: nil, or one that nobody made. -/
def NoW (H : Heap) (p : Option Addr) : Prop :=
  p = none ∨ ∃ b sz o ro cs, p = some ⟨b, 0, none⟩ ∧ H[b]? = some (.row (.pointer none :: cs) sz o ro true)
theorem NoW.ap (h : NoW H p) {H' : Heap} (k : Ap H H') : NoW H' p := by
  rcases h with rfl | ⟨b, sz, o, ro, cs, rfl, h⟩
  · exact .inl rfl
  · exact .inr ⟨b, sz, o, ro, cs, rfl, k.get h⟩
theorem noneW (h : NoW H p) {Q : Bool × Unit → Heap → Prop} (hq : Q (true, ()) H) : CALL P [T_bool] n_event_World_none [.pointer p] H Q := by
  apply c_event_World_none
  unfold S_event_World_none
  refine JOIN_of ?_
  rcases h with rfl | ⟨b, sz, o, ro, cs, rfl, h⟩
  · exact ifB_t rfl hq
  · refine ifB_f rfl ?_
    exact LD_of (T := T_ptr) none [] cs h rfl rfl rfl hq
theorem beginW (h : NoW H p) {Q : Unit → Heap → Prop} (hq : Q () H) : CALL P [] n_event_World_Begin [.pointer p] H Q := by
  apply c_event_World_Begin
  unfold S_event_World_Begin
  exact noneW h (JOIN_of (ifB_f rfl hq))
theorem settleW (h : NoW H p) {Q : Unit → Heap → Prop} (hq : Q () H) : CALL P [] n_event_World_Settle [.pointer p] H Q := by
  apply c_event_World_Settle
  unfold S_event_World_Settle
  exact noneW h (ifB_t rfl hq)
theorem comeW (h : NoW H p) {n : Int} {Q : Bool × Int × Unit → Heap → Prop} (hq : ∀ H', Ap H H' → Q (false, 1, ()) H') : CALL P [T_bool, T_int .i64] n_event_World_Come [.pointer p, .int .i64 n] H Q := by
  apply c_event_World_Come
  unfold S_event_World_Come NEW
  exact noneW (h.ap (Ap.mk _ _ _ _)) (ifB_t rfl (hq _ (Ap.mk _ _ _ _)))
theorem takeW (h : NoW H p) {Q : G_api_Item × Bool × Bool × Unit → Heap → Prop} (hq : Q (G_api_Item.mk 0 0 0 0, false, false, ()) H) : CALL P [T_G_api_Item, T_bool, T_bool] n_event_World_Take [.pointer p] H Q := by
  apply c_event_World_Take
  unfold S_event_World_Take
  exact JOIN_of (noneW h (ifB_t rfl (ifB_t rfl hq)))
theorem doW (h : NoW H p) {d : G_api_Deed} {Q : Int × Unit → Heap → Prop} (hq : ∀ H', Ap H H' → Q (1, ()) H') : CALL P [T_int .i64] n_event_World_Do [.pointer p, T_G_api_Deed.enc d] H Q := by
  apply c_event_World_Do
  unfold S_event_World_Do NEW
  refine LD_of (T := T_ptr) p [] [] ((Ap.mk _ _ _ _).get (mk_get H _ 1 false)) rfl rfl rfl ?_
  exact noneW (h.ap ((Ap.mk _ _ _ _).trans (Ap.mk _ _ _ _))) (ifB_t rfl (hq _ ((Ap.mk _ _ _ _).trans (Ap.mk _ _ _ _))))
theorem pushW (h : NoW H p) {l : Sl} {Q : Int × Unit → Heap → Prop} (hq : Q (1, ()) H) : CALL P [T_int .i64] n_event_World_Push [.pointer p, l.v] H Q := by
  apply c_event_World_Push
  unfold S_event_World_Push
  exact noneW h (ifB_t rfl hq)
theorem countW (h : NoW H p) {Q : Int × Unit → Heap → Prop} (hq : Q (0, ()) H) : CALL P [T_int .i64] n_event_World_Count [.pointer p] H Q := by
  apply c_event_World_Count
  unfold S_event_World_Count
  exact noneW h (ifB_t rfl hq)
theorem featuresW (h : NoW H p) {Q : Sl × Unit → Heap → Prop} (hq : Q (⟨none, 0, 0⟩, ()) H) : CALL P [T_sl] n_event_World_Features [.pointer p] H Q := by
  apply c_event_World_Features
  unfold S_event_World_Features
  exact noneW h (ifB_t rfl hq)
abbrev noState : G_api_State := G_api_State.mk (0, 0) (0, 0) (0, 0) (0, 0) (Sl.mk none 0 0) ((Sl.mk none 0 0), (Sl.mk none 0 0)) ((Sl.mk none 0 0), (Sl.mk none 0 0)) (Sl.mk none 0 0) 0 0 0 0 0 0 false 0
theorem stateW (h : NoW H p) {Q : G_api_State × Unit → Heap → Prop} (hq : Q (noState, ()) H) : CALL P [T_G_api_State] n_event_World_State [.pointer p] H Q := by
  apply c_event_World_State
  unfold S_event_World_State
  exact noneW h (ifB_t rfl hq)
theorem sameState {Q : Bool × Unit → Heap → Prop} (hq : Q (true, ()) H) : CALL P [T_bool] n_kit_SameState [T_G_api_State.enc noState, T_G_api_State.enc noState] H Q :=
  CALL.closedFA (Tryz.fnOk 100) (by kernel_rfl) (by kernel_rfl) hq
theorem none22 (h : NoW H p) {a : G_law22_Act} {Q : Bool × Unit → Heap → Prop} (hq : ∀ H', Ap H H' → Q (true, ()) H') : CALL P [T_bool] n_law22_none [.pointer p, T_G_law22_Act.enc a] H Q := by
  apply c_law22_none
  unfold S_law22_none
  refine beginW h (settleW h (comeW h fun H3 k3 => takeW (h.ap k3) (JOIN_of ?_)))
  refine ifB_t rfl (ifB_t rfl (ifB_t rfl (ifB_t rfl (ifB_t rfl ?_))))
  refine doW (h.ap k3) fun H6 k6 => ?_
  have k := k3.trans k6
  refine ifB_t rfl (pushW (h.ap k) (ifB_t rfl (countW (h.ap k) (ifB_t rfl (featuresW (h.ap k) (ifB_t rfl (stateW (h.ap k) ?_)))))))
  exact sameState (hq _ k)
theorem newN (h : NoB H p) {s : G_api_State} {Q : Option Addr × Int × Unit → Heap → Prop} (hq : Q (none, 1, ()) H) : CALL P [T_ptr, T_int .i64] n_event_New [.pointer p, T_G_api_State.enc s] H Q := by
  apply c_event_New
  unfold S_event_New
  exact findN h (ifB_t rfl hq)
theorem sealedN (h : NoB H p) {Q : Bool × Unit → Heap → Prop} (hq : Q (false, ()) H) : CALL P [T_bool] n_book_Book_Sealed [.pointer p] H Q := by
  apply c_book_Book_Sealed
  unfold S_book_Book_Sealed
  exact noneN h (ifB_t rfl hq)
theorem eventMayN (h : NoB H p) {s : G_api_State} {Q : Bool × Unit → Heap → Prop} (hq : ∀ H', Ap H H' → Q (false, ()) H') : CALL P [T_bool] n_event_May [.pointer p, T_G_api_State.enc s] H Q := by
  apply c_event_May
  unfold S_event_May NEW
  exact JOIN_of (sealedN (h.ap (Ap.mk _ _ _ _)) (ifB_t rfl (ifB_t rfl (hq _ (Ap.mk _ _ _ _)))))
theorem awake22 {Q : Bool × Unit → Heap → Prop} (hq : Q (true, ()) H) : CALL P [T_bool] n_law22_awake [] H Q :=
  CALL.closedO (n := 99) (es := [Olaw22awake.en0, Olaw22awake.en1]) (Tryz.fnOk 100) (List.forall_mem_cons.2 ⟨Olaw22awake.va0, List.forall_mem_cons.2 ⟨Olaw22awake.va1, fun e h => by cases h⟩⟩) (by kernel_rfl) hq
theorem eventNone_c {s : G_api_State} {a : G_law22_Act} {Q : Bool × Unit → Heap → Prop} (hq : ∀ H', Q (true, ()) H') : CALL P [T_bool] n_law22_EventNone [T_G_api_State.enc s, T_G_law22_Act.enc a] H Q := by
  apply c_law22_EventNone
  unfold S_law22_EventNone NEW
  refine newN (.inl rfl) ?_
  refine newN (.inr ⟨_, _, _, _, _, rfl, mk_get H _ _ false⟩) ?_
  refine JOIN_of (none22 (.inl rfl) fun H5 _ => ifB_t rfl ?_)
  refine none22 (.inr ⟨_, _, _, _, _, rfl, mk_get H5 _ _ false⟩) fun H7 _ => ifB_t rfl ?_
  refine ifB_t rfl (ifB_t rfl (ifB_t rfl (ifB_t rfl ?_)))
  refine eventMayN (.inl rfl) fun H8 _ => ifB_t rfl ?_
  refine eventMayN (.inr ⟨_, _, _, _, _, rfl, mk_get H8 _ _ false⟩) fun H10 _ => ifB_t rfl ?_
  exact awake22 (hq _)
end Go.Proofs.YtkbdfjlpicflaaaGreatDoor.Zq
