/- Books that are none: what is refused there. -/
import Derived.Test.YtkbdfjlpicflaaaGreatDoorZwClosed
import Derived.Test.YtkbdfjlpicflaaaGreatDoorZS0
import Derived.KernelRfl
namespace Go.Proofs.YtkbdfjlpicflaaaGreatDoor.Zq
open Zv
/-- More heap, nothing else. -/
def Ap (H H' : Heap) : Prop := ∃ K, H' = H ++ K
theorem Ap.refl (H : Heap) : Ap H H := ⟨[], by simp⟩
theorem Ap.trans {H H' H'' : Heap} (h : Ap H H') (k : Ap H' H'') : Ap H H'' := by
  obtain ⟨K, rfl⟩ := h
  obtain ⟨L, rfl⟩ := k
  exact ⟨K ++ L, by simp⟩
theorem Ap.app (H K : Heap) : Ap H (H ++ K) := ⟨K, rfl⟩
theorem Ap.mk (H : Heap) (cs : List Value) (sz : Nat) (o : Bool) : Ap H (mk H cs sz o) := ⟨_, rfl⟩
theorem Ap.get {H H' : Heap} (h : Ap H H') {b : Nat} {x : ABlk} (hb : H[b]? = some x) : H'[b]? = some x := by
  obtain ⟨K, rfl⟩ := h
  rw [List.getElem?_append_left (get_lt hb)]; exact hb
theorem Ap.slr {T : Tag} {H H' : Heap} (h : Ap H H') {s : Sl} {l : List T.α} (k : SlR T H s l) : SlR T H' s l := by
  obtain ⟨h1, h2 | ⟨b, B, z, o, ro, h3, h4⟩⟩ := k
  · exact ⟨h1, .inl h2⟩
  · exact ⟨h1, .inr ⟨b, B, z, o, ro, h3, h.get h4⟩⟩
theorem mk_get (H : Heap) (cs : List Value) (sz : Nat) (o : Bool) : (mk H cs sz o)[H.length]? = some (.row cs sz o false true) := by
  unfold mk; rw [List.getElem?_append_right (Nat.le_refl _), Nat.sub_self]; rfl
theorem ST_new {H : Heap} {c vs : List Value} {sz : Nat} {k : Heap → Prop} (hl : c.length = vs.length) (hv : vs.all cell1 = true) (hk : k (mk H vs sz false)) : ST (mk H c sz false) H.length 0 vs k := by
  refine ST_of [] c [] (mk_get H c sz false) (by simp) rfl hl hv ?_
  have : (mk H c sz false).set H.length (.row ([] ++ (vs ++ [])) sz false false true) = mk H vs sz false := by
    unfold mk
    rw [List.set_append_right _ _ (Nat.le_refl _), Nat.sub_self]; simp
  rw [this]; exact hk

/-- Making a slice. -/
def mkOk (E : Env) (t b : Nat) : Bool := match E.ty t with | some ⟨.slice e, _, _, _⟩ => (match E.ty e with | some te => Nat.ble te.bytes b | none => false) | _ => false
theorem make_any {E : Env} {t n : Nat} {H : Heap} {k : Sl → Heap → Prop} (h : mkOk E t 88 = true) (hn : n * 88 ≤ 281474976710656) (hk : ∀ cs sz, k ⟨some ⟨H.length, 0, none⟩, n, n⟩ (H ++ [.row cs sz false false true])) :
    GEN T_sl (aMakeSlice E t (.int .i64 (n : Int)) (.int .i64 (n : Int)) H) k := by
  unfold mkOk at h
  split at h
  · rename_i e a1 a2 a3 ht
    split at h
    · rename_i te he
      have hb := Nat.le_of_ble_eq_true h
      refine ⟨⟨some ⟨H.length, 0, none⟩, n, n⟩, _, ?_, hk (rep n te.zero) te.size⟩
      have hm : te.bytes * n ≤ 88 * n := Nat.mul_le_mul_right n hb
      have hm2 : (te.bytes : Int) * (n : Int) ≤ 281474976710656 := by
        have : ((te.bytes * n : Nat) : Int) ≤ ((88 * n : Nat) : Int) := Int.ofNat_le.2 hm
        rw [Int.natCast_mul] at this; omega
      unfold aMakeSlice
      simp only [ht, Option.bind_some, he]
      rw [if_pos ⟨by omega, Int.le_refl _, hm2, by omega⟩]
      simp only [Int.toNat_natCast]
      rfl
    · cases h
  · cases h

/-- No book: nil, or one that nobody made. -/
def NoB (H : Heap) (p : Option Addr) : Prop :=
  p = none ∨ ∃ b sz o ro cs, p = some ⟨b, 0, none⟩ ∧ H[b]? = some (.row (.bool false :: cs) sz o ro true)
variable {H : Heap} {p : Option Addr}
theorem NoB.ap (h : NoB H p) {H' : Heap} (k : Ap H H') : NoB H' p := by
  rcases h with rfl | ⟨b, sz, o, ro, cs, rfl, h⟩
  · exact .inl rfl
  · exact .inr ⟨b, sz, o, ro, cs, rfl, k.get h⟩
theorem noneN (h : NoB H p) {Q : Bool × Unit → Heap → Prop} (hq : Q (true, ()) H) : CALL P [T_bool] n_book_Book_none [.pointer p] H Q := by
  apply c_book_Book_none
  unfold S_book_Book_none
  refine JOIN_of ?_
  rcases h with rfl | ⟨b, sz, o, ro, cs, rfl, h⟩
  · exact ifB_t rfl hq
  · refine ifB_f rfl ?_
    exact LD_of (T := T_bool) false [] cs h rfl rfl rfl hq
theorem findN (h : NoB H p) {s : ByteArray} {Q : Int × Int × Unit → Heap → Prop} (hq : Q (0, 1, ()) H) : CALL P [T_int .i64, T_int .i64] n_book_Book_Find [.pointer p, .string s] H Q := by
  apply c_book_Book_Find
  unfold S_book_Book_Find
  exact noneN h (ifB_t rfl hq)
abbrev noCard : G_api_Card := G_api_Card.mk (ByteArray.mk #[]) 0 0 0 0 0 0 false (Sl.mk none 0 0)
theorem atN (h : NoB H p) {a : Int} {Q : G_api_Card × Int × Unit → Heap → Prop} (hq : Q (noCard, 1, ()) H) : CALL P [T_G_api_Card, T_int .i64] n_book_Book_At [.pointer p, .int .i64 a] H Q := by
  apply c_book_Book_At
  unfold S_book_Book_At
  exact noneN h (ifB_t rfl hq)
theorem cardN (h : NoB H p) {t : G_api_Thing} {Q : G_api_Card × Int × Unit → Heap → Prop} (hq : Q (noCard, 1, ()) H) : CALL P [T_G_api_Card, T_int .i64] n_thing_Card [.pointer p, T_G_api_Thing.enc t] H Q := by
  apply c_thing_Card
  unfold S_thing_Card
  exact atN h hq
/-- Setting up a place, where there is no book. -/
theorem setupN (h : NoB H p) {a1 a2 : Sl} (hl : a1.len * 88 ≤ 281474976710656) {Q : G_layer_place × Int × Unit → Heap → Prop} (hq : ∀ x H', Ap H H' → Q (x, 1, ()) H') : CALL P [T_G_layer_place, T_int .i64] n_layer_setup [.pointer p, a1.v, a2.v] H Q := by
  apply c_layer_setup
  unfold S_layer_setup NEW
  refine LD_of (T := T_sl) a1 [] [] (mk_get H _ 1 false) rfl rfl rfl ?_
  refine LD_of (T := T_sl) a1 [] [] (mk_get H _ 1 false) rfl rfl rfl ?_
  refine make_any (by kernel_rfl) hl fun cs sz => ?_
  have ha := (Ap.mk H [.slice a1.p a1.len a1.cap] 1 false).trans (Ap.app _ [.row cs sz false false true])
  refine LD_of (T := T_sl) a1 [] [] ((Ap.app _ _).get (mk_get H _ 1 false)) rfl rfl rfl ?_
  refine ⟨rfl, ?_⟩
  exact findN (h.ap ha) (ifB_t rfl (hq _ _ ha))
theorem effectsN (h : NoB H p) {a1 a2 : Sl} {a3 : Int} (hl : a1.len * 88 ≤ 281474976710656) {Q : Sl × Int × Unit → Heap → Prop} (hq : ∀ H', Ap H H' → Q (⟨none, 0, 0⟩, 1, ()) H') : CALL P [T_sl, T_int .i64] n_layer_Effects [.pointer p, a1.v, a2.v, .int .i64 a3] H Q := by
  apply c_layer_Effects
  unfold S_layer_Effects
  exact setupN h hl fun x H' ha => ifB_t rfl (hq H' ha)
/-- One of two pointers, read out of a row. -/
theorem two_ptr {H2 : Heap} {b1 b : Nat} (h2 : H2[b1]? = some (.row [.pointer none, .pointer (some ⟨b, 0, none⟩)] 1 false false true)) {i : Int} (h0 : 0 ≤ i) (hi : i < 2) :
    ∃ x : Option Addr, (x = none ∨ x = some ⟨b, 0, none⟩) ∧ ∀ H', Ap H2 H' → ∀ k : Option Addr → Prop, k x → IDX (some ⟨b1, 0, none⟩) 2 i 1 fun b o => LD T_ptr H' b o k := by
  have hx : ∃ x : Option Addr, (x = none ∨ x = some ⟨b, 0, none⟩) ∧ ∃ A B : List Value, [Value.pointer none, .pointer (some ⟨b, 0, none⟩)] = A ++ (T_ptr.cells x ++ B) ∧ 0 + i.toNat * 1 = A.length := by
    rcases (by omega : i = 0 ∨ i = 1) with rfl | rfl
    · exact ⟨none, .inl rfl, [], [.pointer (some ⟨b, 0, none⟩)], rfl, rfl⟩
    · exact ⟨some ⟨b, 0, none⟩, .inr rfl, [.pointer none], [], rfl, rfl⟩
  obtain ⟨x, hx1, A, B, hx2, hx3⟩ := hx
  refine ⟨x, hx1, fun H' ha k hk => ⟨⟨h0, by omega⟩, ?_⟩⟩
  exact LD_of (T := T_ptr) x A B (ha.get h2) hx2 hx3 rfl hk
end Go.Proofs.YtkbdfjlpicflaaaGreatDoor.Zq
