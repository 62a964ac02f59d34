/- Lay; the law's own proof that the stack lives. -/
import Derived.Test.YtmjonmhpfngkaaaZcStack
namespace Go.Proofs.Ytmjonmhpfngkaaa.Zq
open Zv
/-- The slice lies in another block. -/
def Off (b : Nat) (s : Sl) : Prop := s.p ≠ some ⟨b, 0, none⟩
theorem SlR.fr {T : Tag} {H H' : Heap} {s : Sl} {l : List T.α} {b : Nat} (h : SlR T H s l) (f : Fr b H H') (o : Off b s) : SlR T H' s l := by
  obtain ⟨h1, h2 | ⟨c, B, sz, op, ro, h3, h4⟩⟩ := h
  · exact ⟨h1, .inl h2⟩
  · refine ⟨h1, .inr ⟨c, B, sz, op, ro, h3, f.get ?_ h4⟩⟩
    rintro rfl
    exact o h3

theorem take_snoc {α : Type} (R : List α) (x : α) (q : Nat) : (R ++ [x]).take q = if R.length < q then R.take q ++ [x] else R.take q := by
  split
  · rw [List.take_of_length_le (by simp; omega), List.take_of_length_le (by omega)]
  · rw [List.take_append_of_le_length (by omega)]

theorem drop_rev {α : Type} (l : List α) (m : Nat) (x : α) (h : l[m]? = some x) : (l.drop m).reverse = (l.drop (m + 1)).reverse ++ [x] := by
  obtain ⟨hm, hx⟩ := List.getElem?_eq_some_iff.1 h
  rw [List.drop_eq_getElem_cons hm, List.reverse_cons, hx]

theorem lay_c {H : Heap} {b : Nat} {s : List It} {a : Sl} {l : List It} (h : Stk H b s) (ha : SlR TI4 H a l) (ho : Off b a) (hm : l.length ≤ 9223372036854775807) {Q : Int × Int × Unit → Heap → Prop}
    (hq : ∀ H', Fr b H H' → Stk H' b (if l.all may then s ++ l.reverse.take (24 - s.length) else s) → Q (if l.all may then (((l.length - (24 - s.length) : Nat) : Int), 0, ()) else (0, 2, ())) H') : CALL P [T_int .i64, T_int .i64] n_stack_Stack_Lay [ad b, a.v] H Q := by
  have hsl := h.le
  have hal : a.len = l.length := ha.1
  apply c_stack_Stack_Lay
  unfold S_stack_Stack_Lay
  refine is_c h (ifB_f rfl (JOIN_of ?_))
  refine loop_of (fun (s5 : (Int × Unit) × Unit) H' => H' = H ∧ ∃ n : Nat, s5.1.1 = n ∧ n ≤ l.length ∧ ∀ x ∈ l.take n, may x = true) (fun s5 => l.length - s5.1.1.toNat) ?_ ⟨rfl, 0, rfl, Nat.zero_le _, by simp⟩
  rintro G ⟨⟨i, _⟩, _⟩ H' ⟨rfl, n, hi, hn, hall⟩ hG
  simp only at hi; subst hi
  dsimp only at hG ⊢
  refine ifB_of (fun hlt => ?_) (fun hge => ?_)
  · have hlt : n < l.length := by have := of_decide_eq_true hlt; omega
    refine idx_ld (T := TI4) hT4 ha rfl (List.getElem?_eq_getElem hlt) rfl ?_
    refine may_c _ (ifB_of (fun hb => ?_) (fun hb => ?_))
    · have hb : may l[n] = false := by simpa using hb
      have hf : l.all may = false := by
        cases hq : l.all may with
        | false => rfl
        | true => have := List.all_eq_true.1 hq _ (List.getElem_mem hlt); rw [hb] at this; cases this
      have := hq H' (Fr.refl _ _)
      rw [hf] at this
      exact this h
    · have hb : may l[n] = true := by simpa using hb
      rw [i64w (by omega) (by omega)]
      refine hG _ _ ⟨rfl, n + 1, by simp, hlt, fun x hx => ?_⟩ (by simp; omega)
      rw [List.take_succ_eq_append_getElem hlt] at hx
      rcases List.mem_append.1 hx with hx | hx
      · exact hall x hx
      · simp at hx; subst hx; exact hb
  · have hge : l.length ≤ n := by have := of_decide_eq_false hge; omega
    have hall : l.all may = true := List.all_eq_true.2 fun x hx => hall x (by rw [List.take_of_length_le hge]; exact hx)
    rw [hall] at hq
    refine JOIN_of ?_
    rw [i64w (by omega) (by omega)]
    refine loop_of (fun (s5 : (Int × Int × Unit) × Unit) H2 => ∃ n : Nat, s5.1.2.1 = (n : Int) - 1 ∧ n ≤ l.length ∧ s5.1.1 = (((l.length - n) - (24 - s.length) : Nat) : Int) ∧ Stk H2 b (s ++ (l.drop n).reverse.take (24 - s.length)) ∧ Fr b H' H2) (fun s5 => (s5.1.2.1 + 1).toNat) ?_ ⟨l.length, by simp [hal], Nat.le_refl _, by simp, by simpa using h, Fr.refl _ _⟩
    rintro G ⟨⟨lost, i, _⟩, _⟩ H2 ⟨n, h1, h2, h3, h4, h5⟩ hG
    simp only at h1 h3; subst h1; subst h3
    dsimp only at hG ⊢
    refine ifB_of (fun hlt => ?_) (fun hge => ?_)
    · obtain ⟨m, rfl⟩ : ∃ m, n = m + 1 := ⟨n - 1, by have := of_decide_eq_true hlt; omega⟩
      have hml : m < l.length := by omega
      have hx : l[m]? = some l[m] := List.getElem?_eq_getElem hml
      refine idx_ld (T := TI4) hT4 (ha.fr h5 ho) (n := m) (by omega) hx rfl ?_
      refine push_c _ h4 fun H3 g1 g2 => ?_
      have hmay : may l[m] = true := List.all_eq_true.1 hall _ (List.getElem_mem hml)
      have hdl : (l.drop (m + 1)).reverse.length = l.length - (m + 1) := by simp
      have htl : ((l.drop (m + 1)).reverse.take (24 - s.length)).length = min (24 - s.length) (l.length - (m + 1)) := by rw [List.length_take, hdl]
      have hcase : push (s ++ (l.drop (m + 1)).reverse.take (24 - s.length)) l[m] = if l.length - (m + 1) < 24 - s.length then (0, s ++ (l.drop m).reverse.take (24 - s.length)) else (14, s ++ (l.drop m).reverse.take (24 - s.length)) := by
        rw [drop_rev l m _ hx, take_snoc, hdl]
        unfold push
        rw [hmay, if_pos rfl, List.length_append, htl]
        by_cases hc : l.length - (m + 1) < 24 - s.length
        · rw [if_neg (by omega), if_pos hc, if_pos hc, List.append_assoc]
        · rw [if_pos (by omega), if_neg hc, if_neg hc]
      rw [hcase] at g1 ⊢
      refine JOIN_of ?_
      split at g1
      · rename_i hc
        rw [if_pos hc]
        refine ifB_f rfl ?_
        rw [i64w (by omega) (by omega)]
        exact hG _ _ ⟨m, by simp, by omega, by simp; omega, g1, h5.trans g2⟩ (by simp)
      · rename_i hc
        rw [if_neg hc]
        refine ifB_t rfl ?_
        rw [i64w (by omega) (by omega), i64w (by omega) (by omega)]
        exact hG _ _ ⟨m, by simp, by omega, by simp; omega, g1, h5.trans g2⟩ (by simp)
    · have hn : n = 0 := by have := of_decide_eq_false hge; omega
      subst hn
      have := hq H2 h5
      simp only [if_true] at this
      exact this (by simpa using h4)

/-- Below n nothing is another. -/
def Lo (n : Nat) (H H' : Heap) : Prop := n ≤ H'.length ∧ ∀ c, c < n → H'[c]? = H[c]?
theorem Lo.refl {n : Nat} {H : Heap} (h : n ≤ H.length) : Lo n H H := ⟨h, fun _ _ => rfl⟩
theorem Lo.fr {n b : Nat} {H H' H'' : Heap} (h : Lo n H H') (f : Fr b H' H'') (hb : n ≤ b) : Lo n H H'' :=
  ⟨Nat.le_trans h.1 f.1, fun c hc => by rw [f.2 c (Nat.lt_of_lt_of_le hc h.1) (by omega), h.2 c hc]⟩
theorem Lo.trans {n m : Nat} {H H' H'' : Heap} (h : Lo n H H') (k : Lo m H' H'') (hm : n ≤ m) : Lo n H H'' :=
  ⟨Nat.le_trans hm k.1, fun c hc => by rw [k.2 c (by omega), h.2 c hc]⟩
theorem SlR.lo {T : Tag} {H H' : Heap} {s : Sl} {l : List T.α} (h : SlR T H s l) (f : Lo H.length H H') : SlR T H' s l := by
  obtain ⟨h1, h2 | ⟨c, B, sz, op, ro, h3, h4⟩⟩ := h
  · exact ⟨h1, .inl h2⟩
  · exact ⟨h1, .inr ⟨c, B, sz, op, ro, h3, by rw [f.2 c (get_lt h4)]; exact h4⟩⟩

/-- A slice that grows. -/
def Gr (T : Tag) (H : Heap) (s : Sl) (l : List T.α) : Prop :=
  s.len = l.length ∧ s.cap = l.length ∧ (l = [] ∧ s.p = none ∨ l ≠ [] ∧ ∃ c, s.p = some ⟨c, 0, none⟩ ∧ H[c]? = some (.row (fl T l) T.n true false true))
theorem Gr.rd {T : Tag} {H : Heap} {s : Sl} {l : List T.α} (h : Gr T H s l) : SlR T H s l := by
  obtain ⟨h1, h2, h3 | ⟨_, c, h4, h5⟩⟩ := h
  · exact ⟨h1, .inl h3.1⟩
  · exact ⟨h1, .inr ⟨c, [], T.n, true, false, h4, by simpa using h5⟩⟩
theorem Gr.nil (T : Tag) (H : Heap) : Gr T H ⟨none, 0, 0⟩ [] := ⟨rfl, rfl, .inl ⟨rfl, rfl⟩⟩
theorem Gr.fr {T : Tag} {H H' : Heap} {s : Sl} {l : List T.α} {b : Nat} (h : Gr T H s l) (f : Fr b H H') (o : Off b s) : Gr T H' s l := by
  obtain ⟨h1, h2, h3 | ⟨h6, c, h4, h5⟩⟩ := h
  · exact ⟨h1, h2, .inl h3⟩
  · refine ⟨h1, h2, .inr ⟨h6, c, h4, f.get ?_ h5⟩⟩
    rintro rfl
    exact o h4

end Go.Proofs.Ytmjonmhpfngkaaa.Zq
