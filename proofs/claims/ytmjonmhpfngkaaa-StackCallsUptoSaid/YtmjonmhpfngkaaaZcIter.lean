/- Loops over a stack's items. -/
import Derived.Test.YtmjonmhpfngkaaaZcRef23b
namespace Go.Proofs.Ytmjonmhpfngkaaa.Zq
open Zv
/-- A cell of its own. -/
def Cel (H : Heap) (b : Nat) (v : Value) : Prop := ∃ sz, H[b]? = some (.row [v] sz false false true)
theorem Cel.frs {H H' : Heap} {b : Nat} {v : Value} {B : List Nat} (h : Cel H b v) (f : Frs B H H') (hb : b ∉ B) : Cel H' b v := by
  obtain ⟨sz, h⟩ := h; exact ⟨sz, f.get hb h⟩
theorem Cel.lt {H : Heap} {b : Nat} {v : Value} (h : Cel H b v) : b < H.length := by obtain ⟨sz, h⟩ := h; exact get_lt h
theorem Cel.ld {T : Tag} {H : Heap} {b : Nat} {v : Value} {k : T.α → Prop} (h : Cel H b v) (x : T.α) (hT : T.cells x = [v]) (hn : T.n = 1) (hk : k x) : LD T H b 0 k := by
  obtain ⟨sz, h⟩ := h
  exact LD_of x [] [] h (by rw [hT]; rfl) rfl (by rw [hT, hn]; rfl) hk
theorem Cel.st {H : Heap} {b : Nat} {v u : Value} {k : Heap → Prop} (h : Cel H b v) (hu : cell1 u = true) (hk : ∀ H', Cel H' b u → Frs [b] H H' → H'.length = H.length → k H') : ST H b 0 [u] k := by
  have hlt := h.lt
  obtain ⟨sz, h⟩ := h
  exact ST_of [] [v] [] h rfl rfl rfl (by simp [hu]) (hk _ ⟨sz, by rw [set_get hlt]; rfl⟩ (Frs.set _ _ (by simp)) (by simp))
theorem Cel.new (H : Heap) (v : Value) (sz : Nat) : Cel (mk H [v] sz false) H.length v := ⟨sz, by simp [mk]⟩
theorem mk_frs (H : Heap) (cs : List Value) (sz : Nat) : Frs [] H (mk H cs sz false) := Frs.app _ _ _
theorem mk_len (H : Heap) (cs : List Value) (sz : Nat) : (mk H cs sz false).length = H.length + 1 := by simp [mk]

/-- What goes over a stack's items: the value of a function; the blocks that it hangs on. -/
def Itr (H : Heap) (f : Value) (s : List It) (C : List Nat) : Prop :=
  ∃ cl sl, f = .func (.func n_stack_Stack_Down_1) #[] #[ad cl] ∧ Cel H cl (.slice sl.p sl.len sl.cap) ∧ SlF KT H sl s ∧ cl ∈ C ∧ ∀ d off, sl.p = some ⟨d, off, none⟩ → d ∈ C
theorem Itr.frs {H H' : Heap} {f : Value} {s : List It} {C B : List Nat} (h : Itr H f s C) (fr : Frs B H H') (hd : ∀ d ∈ C, d ∉ B) : Itr H' f s C := by
  obtain ⟨cl, sl, e, h1, h2, h3, h4⟩ := h
  exact ⟨cl, sl, e, h1.frs fr (hd cl h3), h2.frs fr (fun b hb off e => hd b (h4 b off e) hb), h3, h4⟩

theorem down1_c {H : Heap} {cl : Nat} {s : List It} {Y : Value} (hs : s.length ≤ 24) (I : Nat → Heap → Prop) (D : Heap → Prop) (hc : ∀ n H', I n H' → ∃ sl : Sl, Cel H' cl (.slice sl.p sl.len sl.cap) ∧ SlF KT H' sl s)
    (hy : ∀ n x H', s.reverse[n]? = some x → I n H' → CALLV P [T_bool] Y [.int .i64 (n : Int), TI4.enc x] H' fun r H2 => if r.1 = true then I (n + 1) H2 else D H2) (h0 : I 0 H) {Q : Unit → Heap → Prop} (hq : ∀ H', I s.length H' ∨ D H' → Q () H') : CALL P [] n_stack_Stack_Down_1 [Y, ad cl] H Q := by
  apply c_stack_Stack_Down_1 (c0 := (cl, 0))
  unfold S_stack_Stack_Down_1
  obtain ⟨sl0, c0, f0⟩ := hc 0 H h0
  have hl0 : sl0.len = s.length := f0.1
  refine c0.ld (T := T_sl) sl0 rfl rfl (JOIN_of ?_)
  refine loop_of (fun (s5 : (Int × Unit) × Unit) H2 => ∃ n : Nat, s5.1.1 = n ∧ n ≤ s.length ∧ I n H2) (fun s5 => s.length - s5.1.1.toNat) ?_ ⟨0, rfl, Nat.zero_le _, h0⟩
  rintro G ⟨⟨i, _⟩, _⟩ H2 ⟨n, hi, hn, hI⟩ hG
  simp only at hi; subst hi
  dsimp only at hG ⊢
  refine ifB_of (fun hlt => ?_) (fun hge => ?_)
  · have hlt : n < s.length := by have := of_decide_eq_true hlt; omega
    obtain ⟨sl, c1, f1⟩ := hc n H2 hI
    have hl : sl.len = s.length := f1.1
    refine c1.ld (T := T_sl) sl rfl rfl (c1.ld (T := T_sl) sl rfl rfl ?_)
    rw [i64w (x := (sl.len : Int) - 1) (by omega) (by omega), i64w (by omega) (by omega)]
    have hx : s[s.length - 1 - n]? = some s[s.length - 1 - n] := List.getElem?_eq_getElem (by omega)
    refine idx_ldF (T := KT) KItems.hT f1 (n := s.length - 1 - n) (by omega) hx rfl ?_
    have hr : s.reverse[n]? = some s[s.length - 1 - n] := by rw [List.getElem?_reverse (by omega)]; exact hx
    rcases hy n _ H2 hr hI with ⟨g, xs, ys, e1, e2⟩ | ⟨l, e1, e2⟩
    · refine .inl ⟨g, xs, ys, e1, e2.mono fun r H3 hr => ?_⟩
      cases h1 : r.1 with
      | true => rw [h1, if_pos rfl] at hr; refine ifB_f (by first | rfl | (rw [h1]; rfl)) ?_; rw [i64w (by omega) (by omega)]; exact hG _ _ ⟨n + 1, by simp, hlt, hr⟩ (by simp; omega)
      | false => rw [h1, if_neg (by simp)] at hr; exact ifB_t (by first | rfl | (rw [h1]; rfl)) (hq H3 (.inr hr))
    · refine .inr ⟨l, e1, fun m M w args' en k1 k2 k3 => ?_⟩
      obtain ⟨L, q1, q2, q3⟩ := e2 m M w args' en k1 k2 k3
      refine ⟨L, q1, q2, RoundIn.mono q3 ?_⟩
      rintro e w' ⟨v, v', M', H', rfl, t1, t2, r, rfl, hr⟩
      refine ⟨_, v', M', H', rfl, t1, t2, r, rfl, ?_⟩
      cases h1 : r.1 with
      | true => rw [h1, if_pos rfl] at hr; refine ifB_f (by first | rfl | (rw [h1]; rfl)) ?_; rw [i64w (by omega) (by omega)]; exact hG _ _ ⟨n + 1, by simp, hlt, hr⟩ (by simp; omega)
      | false => rw [h1, if_neg (by simp)] at hr; exact ifB_t (by first | rfl | (rw [h1]; rfl)) (hq H' (.inr hr))
  · have hge : n = s.length := by have := of_decide_eq_false hge; omega
    subst hge
    exact hq H2 (.inl hI)

/-- A loop over a stack's items. -/
theorem iter_rf {H : Heap} {f : Value} {s : List It} {C : List Nat} (hs : s.length ≤ 24) (hit : Itr H f s C) {B : (LoopState → Option Ex → ABlk) → Tup [T_int .i64, T_G_api_Item] → Heap → (Ex → Heap → Prop) → Prop} {K : Ex → Heap → Prop}
    (I : (LoopState → Option Ex → ABlk) → Nat → Heap → Prop) (D : (LoopState → Option Ex → ABlk) → Ex → Heap → Prop)
    (h0 : ∀ lb, I lb 0 (H ++ [lb .ready none])) (hc : ∀ lb n H', I lb n H' → H'[H.length]? = some (lb .ready none) ∧ ∀ f, Itr H f s C → Itr H' f s C)
    (hb : ∀ lb n x H' k, s.reverse[n]? = some x → I lb n H' → (∀ H2, H2[H.length]? = some (lb .busy none) → I lb (n + 1) (H2.set H.length (lb .ready none)) → k .normal H2) → (∀ e H2, e ≠ .normal → H2[H.length]? = some (lb .busy none) → D lb e (H2.set H.length (lb .done (some e))) → k e H2) → B lb ((n : Int), x, ()) H' k)
    (hk : ∀ lb H', I lb s.length H' → K .normal (H'.set H.length (lb .exhausted none))) (hd : ∀ lb e H', D lb e H' → H'[H.length]? = some (lb .done (some e)) ∧ K e (H'.set H.length (lb .exhausted (some e)))) : RFV P [T_int .i64, T_G_api_Item] f H B K := by
  obtain ⟨cl, sl, rfl, h1, h2, h3, h4⟩ := id hit
  refine ⟨_, _, _, rfl, fun lb hr => ?_⟩
  have hcell : ∀ n H', I lb n H' → ∃ sl : Sl, Cel H' cl (.slice sl.p sl.len sl.cap) ∧ SlF KT H' sl s := fun n H' hi => by
    obtain ⟨cl', sl', e, g1, g2, _⟩ := (hc lb n H' hi).2 _ hit
    have e3 : cl = cl' := by simpa using e
    subst e3
    exact ⟨sl', g1, g2⟩
  have := down1_c (H := H ++ [lb .ready none]) (Y := .func (.yield H.length) #[] #[]) hs (I lb) (fun H' => ∃ e, D lb e H') hcell (fun n x H' hx hi => ?_) (h0 lb) (Q := fun _ H2 => ∃ st pend, H2[H.length]? = some (lb st pend) ∧ st ≠ .busy ∧ K (pend.getD .normal) (H2.set H.length (lb .exhausted pend))) fun H' hh => ?_
  · exact EV.mono this fun v H' ⟨x, _, hx⟩ => hx
  · refine .inr ⟨H.length, rfl, hr ((n : Int), x, ()) H' _ ⟨(hc lb n H' hi).1, hb lb n x H' _ hx hi (fun H2 hbz hi2 => ?_) (fun e H2 hne hbz hD => ?_)⟩⟩
    · exact ⟨hbz, (true, ()), rfl, by simpa using hi2⟩
    · refine ⟨hbz, ?_⟩
      cases e with
      | normal => exact absurd rfl hne
      | exit i => exact ⟨(false, ()), rfl, by simpa using ⟨_, hD⟩⟩
      | ret => exact ⟨(false, ()), rfl, by simpa using ⟨_, hD⟩⟩
  · rcases hh with hi | ⟨e, hD⟩
    · exact ⟨.ready, none, (hc lb _ H' hi).1, by simp, hk lb H' hi⟩
    · obtain ⟨g1, g2⟩ := hd lb e H' hD
      exact ⟨.done, some e, g1, by simp, g2⟩

theorem pdown_c {H : Heap} {b : Nat} {s : List It} (h : Stk H b s) {Q : Value × Unit → Heap → Prop} (hq : ∀ f H' C, Itr H' f s C → (∀ d ∈ C, H.length ≤ d ∧ d < H'.length) → Frs [] H H' → Q (f, ()) H') : CALL P [T_any] n_stack_Stack_Down [ad b] H Q := by
  apply c_stack_Stack_Down
  unfold S_stack_Stack_Down
  refine items_c h fun s1 H1 sp n1 => ?_
  show NEW H1 _ 1 _
  unfold NEW
  refine (Cel.new H1 (.slice none 0 0) 1).st rfl fun H3 c3 f3 l3 => ?_
  have fr : Frs [] H1 H3 := (mk_frs H1 _ 1).then f3 (by simp)
  have hb1 : ∀ d off, s1.p = some ⟨d, off, none⟩ → H.length ≤ d ∧ d < H1.length := fun d off e => by
    obtain ⟨_, _, _, ⟨q, _⟩ | ⟨c, q, q2⟩⟩ := n1.1
    · rw [q] at e; cases e
    · rw [q] at e; simp at e; obtain ⟨rfl, _⟩ := e; exact ⟨n1.2.1 _ q, get_lt q2⟩
  have hl3 : H3.length = H1.length + 1 := by rw [l3, mk_len]
  refine hq _ H3 (H1.length :: bl s1.p) ⟨H1.length, s1, rfl, c3, n1.1.slf.frs fr (by simp), by simp, fun d off e => by rw [e]; simp [bl]⟩ (fun d hd => ?_) (n1.2.2.trans fr)
  rcases List.mem_cons.1 hd with rfl | hd
  · exact ⟨n1.2.2.1, by omega⟩
  · cases hp : s1.p with
    | none => rw [hp] at hd; simp [bl] at hd
    | some a =>
      obtain ⟨_, _, _, ⟨q, _⟩ | ⟨c, q, q2⟩⟩ := n1.1
      · rw [q] at hp; cases hp
      · rw [q] at hd; simp [bl] at hd; subst hd
        have := hb1 _ _ q
        exact ⟨this.1, by omega⟩
end Go.Proofs.Ytmjonmhpfngkaaa.Zq
