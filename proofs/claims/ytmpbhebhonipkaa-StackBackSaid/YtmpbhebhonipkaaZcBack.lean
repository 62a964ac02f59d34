/- The law: what goes onto the stack comes back. -/
import Derived.Test.YtmpbhebhonipkaaZcLay
import Derived.KernelRfl
namespace Go.Proofs.Ytmpbhebhonipkaa.Zq
open Zv

theorem lives_c {H : Heap} {Q : Bool × Unit → Heap → Prop} (hq : ∀ H', Lo H.length H H' → Q (true, ()) H') : CALL P [T_bool] n_law23_lives [] H Q := by
  apply c_law23_lives
  unfold S_law23_lives
  refine new_c fun H1 s1 f1 => ifB_f rfl ?_
  refine push_c ⟨1, 0, 0, 0⟩ s1 fun H2 s2 f2 => ?_
  have f12 := f1.trans f2
  have hl := s2.lt
  unfold NEW
  have s3 : Stk (mk H2 (fl TI4 [⟨5, 1, 0, 0⟩, ⟨5, 2, 0, 0⟩]) 4 false) H.length [⟨1, 0, 0, 0⟩] := by
    obtain ⟨j, sz, g1, g2⟩ := s2
    exact ⟨j, sz, by unfold mk; rw [List.getElem?_append_left hl]; exact g1, g2⟩
  have hsl : SlR TI4 (mk H2 (fl TI4 [⟨5, 1, 0, 0⟩, ⟨5, 2, 0, 0⟩]) 4 false) ⟨some ⟨H2.length, 0, none⟩, 2, 2⟩ [⟨5, 1, 0, 0⟩, ⟨5, 2, 0, 0⟩] :=
    ⟨rfl, .inr ⟨H2.length, [], 4, false, false, rfl, by simp [mk]⟩⟩
  refine lay_c (l := [⟨5, 1, 0, 0⟩, ⟨5, 2, 0, 0⟩]) s3 hsl (by unfold Off; intro hh; simp at hh; omega) (by decide) fun H4 f4 s4 => ?_
  have f14 := (f12.trans (Fr.app H.length H2 _)).trans f4
  rw [if_pos (by decide)] at s4
  refine pop_c s4 fun H5 s5 f5 => ?_
  have f15 := f14.trans f5
  refine JOIN_of (ifB_t rfl (ifB_t rfl (ifB_t rfl (ifB_t rfl (ifB_t rfl ?_)))))
  refine len_c s5 ?_
  exact hq _ ⟨f15.1, fun c hc => f15.2 c hc (by omega)⟩

theorem in_app {H : Heap} {s : Sl} {l : List It} (x : It) (hl : l.length ≤ 60) (h : Gr TI4 H s l) {k : Sl → Heap → Prop}
    (hk : ∀ s' H', Gr TI4 H' s' (l ++ [x]) → s'.p = some ⟨H.length, 0, none⟩ → H.length < H'.length → (∀ d, d < H.length → s.p ≠ some ⟨d, 0, none⟩ → H'[d]? = H[d]?) → k s' H') : GEN T_sl (aAppX E [22, 22] s.v 1 (TI4.cells x) H) k :=
  gr_c (T := TI4) (ts := 22) (tx := 22) (e := 29) (ti := ⟨.slice 29, 1, 24, [.slice none 0 0]⟩) (tj := ⟨.slice 29, 1, 24, [.slice none 0 0]⟩) (te := ⟨.struct [(0, 3), (1, 3), (2, 3), (3, 3)], 4, 32, [.int .i64 0, .int .i64 0, .int .i64 0, .int .i64 0]⟩) (by kernel_rfl) (by kernel_rfl) rfl rfl (by kernel_rfl) (by rfl) (by decide) (by decide) hT4 x (by rfl) (by show 2 * (List.length (α := It) l + 1) * 32 ≤ _; omega) h hk

def itEq (x y : It) : Bool := (x.Thing == y.Thing) && ((x.Part == y.Part) && ((x.Holder == y.Holder) && ((x.Meant == y.Meant) && true)))
theorem itEq_self (x : It) : itEq x x = true := by simp [itEq]


theorem back_c {H : Heap} {a0 a1 : Sl} {one two : List It} (h0 : SlR TI4 H a0 one) (h1 : SlR TI4 H a1 two) (o1 : ∀ d, a1.p = some ⟨d, 0, none⟩ → d < H.length) (l1 : two.length ≤ 9223372036854775807) {Q : Bool × Unit → Heap → Prop} (hq : ∀ H', Q (true, ()) H') : CALL P [T_bool] n_law23_StackBack [a0.v, a1.v] H Q := by
  have e0 : a0.len = one.length := h0.1
  have e1 : a1.len = two.length := h1.1
  apply c_law23_StackBack
  unfold S_law23_StackBack
  refine lives_c fun H1 fl1 => ifB_f rfl ?_
  refine new_c fun H2 s2 f2 => ?_
  have hH1 : H.length ≤ H1.length := fl1.1
  have lo2 : Lo H.length H H2 := fl1.fr f2 hH1
  have oa1 : Off H1.length a1 := fun hh => by have := o1 _ hh; omega
  refine JOIN_inv (fun (z : (Sl × Unit) × Unit) H' => ∃ s : List It, Stk H' H1.length s ∧ Gr TI4 H' z.1.1 s ∧ Off H1.length z.1.1 ∧ Lo H.length H H') (fun j hj => ?_) ?_
  -- the first loop
  · refine loop_of (fun (st : (Sl × Int × Unit) × Unit) H' => ∃ (n : Nat) (s : List It), st.1.2.1 = n ∧ n ≤ 60 ∧ Stk H' H1.length s ∧ Gr TI4 H' st.1.1 s ∧ Off H1.length st.1.1 ∧ (∀ d, st.1.1.p = some ⟨d, 0, none⟩ → H.length ≤ d) ∧ Lo H.length H H') (fun st => (60 - st.1.2.1).toNat) ?_ ⟨0, [], rfl, by omega, s2, Gr.nil _ _, by unfold Off; simp, by simp, lo2⟩
    rintro G ⟨⟨sl, i, _⟩, _⟩ H5 ⟨n, s, hi, hn, hs, hg, ho, hd, hlo⟩ hG
    simp only at hi hg ho hd; subst hi
    dsimp only at hG ⊢
    have hs24 := hs.le
    refine JOIN_to ((decide ((n : Int) < a0.len) && decide ((n : Int) < 60), ()), ()) H5 (fun j7 hj7 => ifB_of (fun hc => by rw [hc, Bool.true_and] at hj7; exact hj7) (fun hc => by rw [hc, Bool.false_and] at hj7; exact hj7)) ?_
    refine ifB_of (fun hc => ?_) (fun _ => hj _ _ ⟨s, hs, hg, ho, hlo⟩)
    simp only [Bool.and_eq_true, decide_eq_true_eq] at hc
    have hn1 : n < one.length := by omega
    have hx : one[n]? = some one[n] := List.getElem?_eq_getElem hn1
    refine idx_ld (T := TI4) hT4 (h0.lo hlo) (n := n) rfl hx rfl ?_
    refine push_c _ hs fun H6 s6 f6 => ?_
    have lo6 := hlo.fr f6 hH1
    have hw : IntKind.wrap .i64 ((n : Int) + 1) = ((n + 1 : Nat) : Int) := by rw [i64w (by omega) (by omega)]; simp
    rw [hw]
    have hp : (push s one[n] = (2, s) ∨ (push s one[n] = (14, s) ∧ s.length = 24)) ∨ (push s one[n] = (0, s ++ [one[n]])) := by
      unfold push
      split
      · split
        · exact .inl (.inr ⟨rfl, by assumption⟩)
        · exact .inr rfl
      · exact .inl (.inl rfl)
    refine JOIN_inv (fun (z : (Sl × Unit) × Unit) H' => Stk H' H1.length (push s one[n]).2 ∧ Gr TI4 H' z.1.1 (push s one[n]).2 ∧ Off H1.length z.1.1 ∧ (∀ d, z.1.1.p = some ⟨d, 0, none⟩ → H.length ≤ d) ∧ Lo H.length H H') (fun j13 hj13 => ?_) ?_
    · rcases hp with hp | hp
      · have e2 : (push s one[n]).2 = s := by rcases hp with hp | hp; rw [hp]; rw [hp.1]
        refine ifB_f (by rcases hp with hp | hp; rw [hp]; rfl; rw [hp.1]; rfl) ?_
        exact hj13 _ _ ⟨s6, by rw [e2]; exact hg.fr f6 ho, ho, hd, lo6⟩
      · rw [hp] at s6 hj13 ⊢
        refine ifB_t rfl ?_
        refine idx_ld (T := TI4) hT4 (h0.lo lo6) (n := n) rfl hx rfl ?_
        have hl6 := s6.lt
        refine in_app _ (by omega) (hg.fr f6 ho) fun s' H8 k1 k2 k3 k4 => ?_
        refine hj13 _ _ ⟨?_, k1, ?_, ?_, ?_⟩
        · obtain ⟨jj, sz, g1, g2⟩ := s6
          exact ⟨jj, sz, by rw [k4 _ hl6 ho]; exact g1, g2⟩
        · unfold Off; simp only [k2]; intro hh; simp at hh; omega
        · intro d hh; simp only [k2] at hh; simp at hh; have := lo6.1; omega
        · refine ⟨by have := lo6.1; omega, fun c hc => ?_⟩
          rw [k4 c (by have := lo6.1; omega) (fun hh => by have := hd c hh; omega), lo6.2 c hc]
    · rintro ⟨⟨sl', _⟩, _⟩ H7 ⟨q1, q2, q3, q4, q5⟩
      simp only at q2 q3 q4
      have hl7 := q1.le
      have hsl : sl'.len = (push s one[n]).2.length := q2.1
      dsimp only
      refine JOIN_to ((false, ()), ()) H7 (fun j19 hj19 => ?_) ?_
      · refine len_c q1 ?_
        refine ifB_f (by simp [hsl]) (ifB_f (by rw [hsl]; exact decide_eq_false (by omega)) (ifB_of (fun h14 => ?_) (fun _ => hj19)))
        have : (push s one[n]).2.length = 24 := by
          rcases hp with (hp | hp) | hp
          · rw [hp] at h14; cases h14
          · rw [hp.1]; exact hp.2
          · rw [hp] at h14; cases h14
        have e : (((sl'.len : Int)) != 24) = false := by rw [hsl, this]; rfl
        rw [e]; exact hj19
      · refine ifB_f rfl ?_
        exact hG _ _ ⟨n + 1, _, rfl, by omega, q1, q2, q3, q4, q5⟩ (by simp; omega)
  -- what was laid
  · rintro ⟨⟨sl, _⟩, _⟩ H3 ⟨s, hs, hg, ho, hlo⟩
    simp only at hg ho
    dsimp only
    have hs24 := hs.le
    have hsl : sl.len = s.length := hg.1
    refine lay_c hs (h1.lo hlo) oa1 l1 fun H11 f11 s11 => ?_
    have hlo11 := hlo.fr f11 hH1
    have hg11 := hg.fr f11 ho
    obtain ⟨lost, e, T, hx, hT, hf⟩ : ∃ (lost : Nat) (e : Int) (T : List It), (if two.all may then (((two.length - (24 - s.length) : Nat) : Int), (0 : Int), ()) else (0, 2, ())) = ((lost : Int), e, ()) ∧ Stk H11 H1.length (s ++ T) ∧ ((e = 0 ∧ T = two.reverse.take (24 - s.length) ∧ lost = two.length - (24 - s.length)) ∨ (e = 2 ∧ T = [] ∧ lost = 0)) := by
      cases hm : two.all may with
      | true => rw [hm] at s11; exact ⟨_, 0, _, rfl, s11, .inl ⟨rfl, rfl, rfl⟩⟩
      | false => rw [hm] at s11; exact ⟨0, 2, [], rfl, by simpa using s11, .inr ⟨rfl, rfl, rfl⟩⟩
    rw [hx]
    dsimp only
    have hTl : e = 0 → T.length + lost = two.length ∧ T = two.reverse.take T.length ∧ (0 < lost → s.length + T.length = 24) := by
      rintro rfl
      rcases hf with ⟨_, h, h'⟩ | ⟨h, _⟩
      · have hl : T.length = min (24 - s.length) two.length := by rw [h]; simp
        refine ⟨by omega, ?_, fun _ => by omega⟩
        rw [hl, h]
        by_cases hc : 24 - s.length ≤ two.length
        · rw [Nat.min_eq_left hc]
        · rw [Nat.min_eq_right (by omega), List.take_of_length_le (by simp; omega), List.take_of_length_le (by simp)]
      · cases h
    have hT0 : e ≠ 0 → T = [] := fun he => by
      rcases hf with ⟨h, _⟩ | ⟨_, h, _⟩
      · exact absurd h he
      · exact h
    have hST := hT.le
    rw [List.length_append] at hST
    refine JOIN_to (((T.length : Int), ()), ()) H11 (fun j23 hj => ifB_of (fun he => ?_) (fun he => ?_)) ?_
    · rw [hT0 (by simpa using he)] at hj; exact hj
    · have he : e = 0 := by simpa using he
      have := (hTl he).1
      rw [i64w (by omega) (by omega)]
      have e2 : ((a1.len : Int) - lost) = T.length := by omega
      rw [e2]; exact hj
    dsimp only
    refine JOIN_to ((false, ()), ()) H11 (fun j25 hj => ?_) ?_
    · have hlen : (((s ++ T).length : Nat) : Int) = s.length + T.length := by simp
      have hgt : decide ((((s ++ T).length : Nat) : Int) > 24) = false := decide_eq_false (by omega)
      refine ifB_f (decide_eq_false (by omega)) (len_c hT (ifB_f ?_ (ifB_of (fun he => ?_) (fun _ => ?_))))
      · rw [i64w (by omega) (by omega)]; simp; omega
      · have he : e = 0 := by simpa using he
        refine ifB_of (fun hl => ?_) (fun _ => len_c hT (by dsimp only; rw [hgt]; exact hj))
        have hl : 0 < lost := by have := of_decide_eq_true hl; omega
        have := (hTl he).2.2 hl
        refine len_c hT (ifB_f ?_ (len_c hT (by dsimp only; rw [hgt]; exact hj)))
        have : (((s ++ T).length : Nat) : Int) = 24 := by omega
        dsimp only; rw [this]; rfl
      · exact len_c hT (by dsimp only; rw [hgt]; exact hj)
    refine ifB_f rfl ?_
    -- the second loop
    refine JOIN_inv (fun (_ : Unit × Unit) H' => Stk H' H1.length s ∧ Gr TI4 H' sl s ∧ Lo H.length H H') (fun j32 hj => ?_) ?_
    · refine loop_of (fun (st : (Int × Unit) × Unit) H' => ∃ m : Nat, st.1.1 = m ∧ m ≤ T.length ∧ Stk H' H1.length (s ++ T.take (T.length - m)) ∧ Gr TI4 H' sl s ∧ Lo H.length H H') (fun st => ((T.length : Int) - st.1.1).toNat) ?_ ⟨0, rfl, Nat.zero_le _, by simpa using hT, hg11, hlo11⟩
      rintro G ⟨⟨i, _⟩, _⟩ H20 ⟨m, hi, hm, k1, k2, k3⟩ hG
      simp only at hi; subst hi
      dsimp only at hG ⊢
      refine ifB_of (fun hc => ?_) (fun hc => ?_)
      · have hc : m < T.length := by have := of_decide_eq_true hc; omega
        have he : e = 0 := by
          by_cases he : e = 0
          · exact he
          · rw [hT0 he] at hc; simp at hc
        obtain ⟨t1, t2, _⟩ := hTl he
        have hq : T.length - m = (T.length - m - 1) + 1 := by omega
        have hlt : T.length - m - 1 < T.length := by omega
        have htk : s ++ T.take (T.length - m) = (s ++ T.take (T.length - m - 1)) ++ [T[T.length - m - 1]] := by
          have := List.take_succ_eq_append_getElem hlt
          rw [← hq] at this
          rw [this, List.append_assoc]
        rw [htk] at k1
        refine pop_c k1 fun H21 g1 g2 => ?_
        rw [List.getLast?_concat]
        rw [List.dropLast_concat] at g1
        dsimp only
        have hel : two[lost + m]? = some T[T.length - m - 1] := by
          have a1 : T[T.length - m - 1]? = some T[T.length - m - 1] := List.getElem?_eq_getElem hlt
          have a2 : (two.reverse.take T.length)[T.length - m - 1]? = some T[T.length - m - 1] := by rw [← t2]; exact a1
          rw [List.getElem?_take, if_pos hlt, List.getElem?_reverse (by omega)] at a2
          rw [← a2]; congr 1; omega
        refine JOIN_to ((false, ()), ()) H21 (fun j37 hj37 => ifB_f rfl ?_) ?_
        · have hw : IntKind.wrap .i64 ((lost : Int) + m) = ((lost + m : Nat) : Int) := by rw [i64w (by omega) (by omega)]; simp
          rw [hw]
          refine idx_ld (T := TI4) hT4 (h1.lo (k3.fr g2 hH1)) (n := lost + m) rfl hel rfl ?_
          have := itEq_self T[T.length - m - 1]
          unfold itEq at this
          rw [this]
          exact hj37
        · refine ifB_f rfl ?_
          have hw : IntKind.wrap .i64 ((m : Int) + 1) = ((m + 1 : Nat) : Int) := by rw [i64w (by omega) (by omega)]; simp
          rw [hw]
          exact hG _ _ ⟨m + 1, rfl, hc, by rw [show T.length - (m + 1) = T.length - m - 1 by omega]; exact g1, k2.fr g2 ho, k3.fr g2 hH1⟩ (by simp; omega)
      · have hc : m = T.length := by have := of_decide_eq_false hc; omega
        exact hj _ _ ⟨by rw [hc] at k1; simpa using k1, k2, k3⟩
    · rintro _ H19 ⟨k1, k2, k3⟩
      -- the third loop
      refine JOIN_inv (fun (_ : Unit × Unit) H' => Stk H' H1.length []) (fun j42 hj => ?_) ?_
      · have hw : IntKind.wrap .i64 ((sl.len : Int) - 1) = (s.length : Int) - 1 := by rw [i64w (by omega) (by omega), hsl]
        rw [hw]
        refine loop_of (fun (st : (Int × Unit) × Unit) H' => ∃ m : Nat, st.1.1 = (m : Int) - 1 ∧ m ≤ s.length ∧ Stk H' H1.length (s.take m) ∧ Gr TI4 H' sl s) (fun st => (st.1.1 + 1).toNat) ?_ ⟨s.length, rfl, Nat.le_refl _, by simpa using k1, k2⟩
        rintro G ⟨⟨i, _⟩, _⟩ H24 ⟨m, hi, hm, k1, k2⟩ hG
        simp only at hi; subst hi
        dsimp only at hG ⊢
        refine ifB_of (fun hc => ?_) (fun hc => ?_)
        · obtain ⟨q, rfl⟩ : ∃ q, m = q + 1 := ⟨m - 1, by have := of_decide_eq_true hc; omega⟩
          rw [List.take_succ_eq_append_getElem hm] at k1
          refine pop_c k1 fun H25 g1 g2 => ?_
          rw [List.getLast?_concat]
          rw [List.dropLast_concat] at g1
          dsimp only
          refine JOIN_to ((false, ()), ()) H25 (fun j47 hj47 => ifB_f rfl ?_) ?_
          · refine idx_ld (T := TI4) hT4 (k2.fr g2 ho).rd (n := q) (by omega) (List.getElem?_eq_getElem hm) rfl ?_
            have := itEq_self s[q]
            unfold itEq at this
            rw [this]
            exact hj47
          · refine ifB_f rfl ?_
            rw [i64w (by omega) (by omega)]
            exact hG _ _ ⟨q, by simp, by omega, g1, k2.fr g2 ho⟩ (by simp)
        · have hc : m = 0 := by have := of_decide_eq_false hc; omega
          subst hc
          exact hj _ _ (by simpa using k1)
      · rintro _ H23 k1
        refine pop_c k1 fun H27 g1 g2 => ?_
        exact hq _
end Go.Proofs.Ytmpbhebhonipkaa.Zq
