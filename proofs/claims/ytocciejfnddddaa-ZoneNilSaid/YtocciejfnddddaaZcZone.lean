/- Zones that are none. -/
import Derived.Test.YtocciejfnddddaaZwClosed
import Derived.Test.YtocciejfnddddaaZS0
import Derived.KernelRfl
namespace Go.Proofs.Ytocciejfnddddaa.Zq
open Zv
/-- No zones: nil, or such as nobody made. -/
def NoZ (H : Heap) (p : Option Addr) : Prop :=
  p = none ∨ ∃ b sz o ro, p = some ⟨b, 0, none⟩ ∧ H[b]? = some (.row [.slice none 0 0, .slice none 0 0, .slice none 0 0, .slice none 0 0, .slice none 0 0, .int .i64 0] sz o ro true)
variable {H : Heap} {p : Option Addr}
theorem isN (h : NoZ H p) {Q : Bool × Unit → Heap → Prop} (hq : Q (false, ()) H) : CALL P [T_bool] n_zone_Zones_is [.pointer p] H Q := by
  apply c_zone_Zones_is
  unfold S_zone_Zones_is
  refine JOIN_of ?_
  rcases h with rfl | ⟨b, sz, o, ro, rfl, h⟩
  · exact ifB_f rfl hq
  · refine ifB_t rfl ?_
    exact LD_of (T := T_int .i64) (0 : Int) [.slice none 0 0, .slice none 0 0, .slice none 0 0, .slice none 0 0, .slice none 0 0] [] h rfl rfl rfl hq
theorem makeN (h : NoZ H p) {a b : Int} {Q : Int × Int × Unit → Heap → Prop} (hq : Q (0, 1, ()) H) : CALL P [T_int .i64, T_int .i64] n_zone_Zones_Make [.pointer p, .int .i64 a, .int .i64 b] H Q := by
  apply c_zone_Zones_Make
  unfold S_zone_Zones_Make
  exact isN h (ifB_t rfl hq)
abbrev noThing : G_api_Thing := G_api_Thing.mk 0 0 0 0 0 (0, 0, 0, 0) 0 false
theorem thingN (h : NoZ H p) {a : Int} {Q : G_api_Thing × Int × Unit → Heap → Prop} (hq : Q (noThing, 1, ()) H) : CALL P [T_G_api_Thing, T_int .i64] n_zone_Zones_Thing [.pointer p, .int .i64 a] H Q := by
  apply c_zone_Zones_Thing
  unfold S_zone_Zones_Thing
  exact isN h (ifB_t rfl hq)
theorem moveN (h : NoZ H p) {a b : Int} {Q : Int × Unit → Heap → Prop} (hq : Q (1, ()) H) : CALL P [T_int .i64] n_zone_Zones_Move [.pointer p, .int .i64 a, .int .u8 b] H Q := by
  apply c_zone_Zones_Move
  unfold S_zone_Zones_Move
  exact thingN h (ifB_t rfl hq)
theorem writeN (h : NoZ H p) {a : Int} {t : G_api_Thing} {Q : Int × Unit → Heap → Prop} (hq : Q (1, ()) H) : CALL P [T_int .i64] n_zone_Zones_Write [.pointer p, .int .i64 a, T_G_api_Thing.enc t] H Q := by
  apply c_zone_Zones_Write
  unfold S_zone_Zones_Write
  exact thingN h (ifB_t rfl hq)
theorem arrangeN (h : NoZ H p) {a : Int} {s : Sl} {Q : Int × Unit → Heap → Prop} (hq : Q (1, ()) H) : CALL P [T_int .i64] n_zone_Zones_Arrange [.pointer p, .int .i64 a, s.v] H Q := by
  apply c_zone_Zones_Arrange
  unfold S_zone_Zones_Arrange
  exact isN h (ifB_t rfl hq)
theorem lenN (h : NoZ H p) {Q : Int × Unit → Heap → Prop} (hq : Q (0, ()) H) : CALL P [T_int .i64] n_zone_Zones_Len [.pointer p] H Q := by
  apply c_zone_Zones_Len
  unfold S_zone_Zones_Len
  exact isN h (ifB_t rfl hq)
theorem stampN (h : NoZ H p) {Q : Int × Unit → Heap → Prop} (hq : Q (0, ()) H) : CALL P [T_int .i64] n_zone_Zones_Stamp [.pointer p] H Q := by
  apply c_zone_Zones_Stamp
  unfold S_zone_Zones_Stamp
  exact isN h (ifB_t rfl hq)
theorem thingsN (h : NoZ H p) {Q : Sl × Unit → Heap → Prop} (hq : Q (⟨none, 0, 0⟩, ()) H) : CALL P [T_sl] n_zone_Zones_Things [.pointer p] H Q := by
  apply c_zone_Zones_Things
  unfold S_zone_Zones_Things
  exact isN h (ifB_t rfl hq)
theorem inN (h : NoZ H p) {a b : Int} {Q : Sl × Unit → Heap → Prop} (hq : Q (⟨none, 0, 0⟩, ()) H) : CALL P [T_sl] n_zone_Zones_In [.pointer p, .int .i64 a, .int .u8 b] H Q := by
  apply c_zone_Zones_In
  unfold S_zone_Zones_In
  exact JOIN_of (isN h (ifB_t rfl (ifB_t rfl hq)))
theorem deckN (h : NoZ H p) {a : Int} {Q : Sl × Unit → Heap → Prop} (hq : Q (⟨none, 0, 0⟩, ()) H) : CALL P [T_sl] n_zone_Zones_Deck [.pointer p, .int .i64 a] H Q := by
  apply c_zone_Zones_Deck
  unfold S_zone_Zones_Deck
  first
    | exact inN h hq
    | exact JOIN_of (isN h (ifB_t rfl (ifB_t rfl hq)))
    | exact isN h (ifB_t rfl hq)
theorem handN (h : NoZ H p) {a : Int} {Q : Sl × Unit → Heap → Prop} (hq : Q (⟨none, 0, 0⟩, ()) H) : CALL P [T_sl] n_zone_Zones_Hand [.pointer p, .int .i64 a] H Q := by
  apply c_zone_Zones_Hand
  unfold S_zone_Zones_Hand
  first
    | exact inN h hq
    | exact JOIN_of (isN h (ifB_t rfl (ifB_t rfl hq)))
    | exact isN h (ifB_t rfl hq)
theorem NoZ.app (h : NoZ H p) (K : Heap) : NoZ (H ++ K) p := by
  rcases h with rfl | ⟨b, sz, o, ro, rfl, h⟩
  · exact .inl rfl
  · exact .inr ⟨b, sz, o, ro, rfl, by rw [List.getElem?_append_left (get_lt h)]; exact h⟩
theorem tableN (h : NoZ H p) {Q : Sl × Unit → Heap → Prop} (hq : Q (⟨none, 0, 0⟩, ()) (mk H [.pointer p] 1 false)) : CALL P [T_sl] n_zone_Zones_Table [.pointer p] H Q := by
  apply c_zone_Zones_Table
  unfold S_zone_Zones_Table NEW
  have hg : (mk H [.pointer p] 1 false)[H.length]? = some (.row [.pointer p] 1 false false true) := by unfold mk; rw [List.getElem?_append_right (Nat.le_refl _), Nat.sub_self]; rfl
  refine LD_of (T := T_ptr) p [] [] hg rfl rfl rfl ?_
  exact isN (h.app _) (ifB_t rfl hq)
theorem lives17 {Q : Bool × Unit → Heap → Prop} (hq : Q (true, ()) H) : CALL P [T_bool] n_law17_lives [] H Q :=
  CALL.closedB (Try.fnOk 100) (by kernel_rfl) hq

theorem zoneNil_c {a0 a1 a2 : Int} {a3 : Sl} {Q : Bool × Unit → Heap → Prop} (hq : ∀ H', Q (true, ()) H') : CALL P [T_bool] n_law17_ZoneNil [.int .i64 a0, .int .i64 a1, .int .u8 a2, a3.v] H Q := by
  apply c_law17_ZoneNil
  unfold S_law17_ZoneNil NEW
  have hA : ∀ cs sz o, (mk H cs sz o)[H.length]? = some (.row cs sz o false true) := fun cs sz o => by unfold mk; rw [List.getElem?_append_right (Nat.le_refl _), Nat.sub_self]; rfl
  generalize hH1 : mk H _ 6 false = H1
  generalize hH2 : mk H1 _ 1 false = H2
  have h1 : H2[H.length]? = some (.row [.slice none 0 0, .slice none 0 0, .slice none 0 0, .slice none 0 0, .slice none 0 0, .int .i64 0] 6 false false true) := by
    subst hH2; subst hH1
    unfold mk
    rw [List.getElem?_append_left (by simp), List.getElem?_append_right (Nat.le_refl _), Nat.sub_self]
    rfl
  have h2 : H2[H1.length]? = some (.row [.pointer none, .pointer (some ⟨H.length, 0, none⟩)] 1 false false true) := by
    subst hH2
    unfold mk
    rw [List.getElem?_append_right (Nat.le_refl _), Nat.sub_self]
    rfl
  have step : ∀ (x : Option Addr), x = none ∨ x = some ⟨H.length, 0, none⟩ → NoZ H2 x := by
    rintro x (rfl | rfl)
    · exact .inl rfl
    · exact .inr ⟨_, 6, false, false, rfl, h1⟩
  refine JOIN_inv (fun _ _ => True) (fun j hj => ?_) (fun _ H' _ => lives17 (hq _))
  refine loop_of (fun (st : (Int × Unit) × Unit) H' => (∃ K, H' = H2 ++ K) ∧ 0 ≤ st.1.1 ∧ st.1.1 ≤ 2) (fun st => (2 - st.1.1).toNat) ?_ ⟨⟨[], by simpa using hH2⟩, by decide, by decide⟩
  rintro G ⟨⟨i, _⟩, _⟩ H4 ⟨⟨K, rfl⟩, hi0, hi2⟩ hG
  simp only at hi0 hi2
  dsimp only at hG ⊢
  refine ifB_of (fun hc => ?_) (fun _ => hj _ _ trivial)
  have hc : i < 2 := of_decide_eq_true hc
  refine ⟨⟨hi0, by omega⟩, ?_⟩
  have hx : ∃ x : Option Addr, (x = none ∨ x = some ⟨H.length, 0, none⟩) ∧ ∃ A B : List Value, [Value.pointer none, .pointer (some ⟨H.length, 0, none⟩)] = A ++ (T_ptr.cells x ++ B) ∧ 0 + i.toNat * 1 = A.length := by
    rcases (by omega : i = 0 ∨ i = 1) with rfl | rfl
    · exact ⟨none, .inl rfl, [], [.pointer (some ⟨H.length, 0, none⟩)], rfl, rfl⟩
    · exact ⟨some ⟨H.length, 0, none⟩, .inr rfl, [.pointer none], [], rfl, rfl⟩
  obtain ⟨x, hx1, A, B, hx2, hx3⟩ := hx
  refine LD_of (T := T_ptr) x A B (by rw [List.getElem?_append_left (get_lt h2)]; exact h2) hx2 hx3 rfl ?_
  have hz := (step x hx1).app K
  have hz2 := hz.app [.row [.pointer x] 1 false false true]
  refine makeN hz (thingN hz ?_)
  refine JOIN_of (moveN hz (ifB_f rfl (ifB_f rfl (ifB_f rfl (writeN hz (ifB_f rfl (arrangeN hz (ifB_f rfl (ifB_f rfl ?_)))))))))
  refine ifB_f rfl ?_
  refine thingsN hz (deckN hz (handN hz (tableN hz (inN hz2 (lenN hz2 (stampN hz2 ?_))))))
  refine ifB_f (by rfl) ?_
  rw [i64w (by omega) (by omega)]
  exact hG _ _ ⟨⟨K ++ [.row [.pointer x] 1 false false true], by simp⟩, by simp; omega, by simp; omega⟩ (by simp; omega)
end Go.Proofs.Ytocciejfnddddaa.Zq
