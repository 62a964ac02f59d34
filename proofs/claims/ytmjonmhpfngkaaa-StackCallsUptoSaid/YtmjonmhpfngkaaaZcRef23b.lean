/- The document's stack: many items at once; both stacks' ways from a list and back. -/
import Derived.Test.YtmjonmhpfngkaaaZcRef23
namespace Go.Proofs.Ytmjonmhpfngkaaa.Zq
open Zv

theorem rall_c {H : Heap} {a : Sl} {l : List It} (ha : SlF KT H a l) (hl : l.length ≤ 1000000) {Q : Bool × Unit → Heap → Prop} (hq : Q (l.all may, ()) H) : CALL P [T_bool] n_ref23_all [a.v] H Q := by
  have ha1 : a.len = l.length := ha.1
  apply c_ref23_all
  unfold S_ref23_all
  refine JOIN_of ?_
  refine loop_of (fun (s5 : (Int × Unit) × Unit) H' => H' = H ∧ ∃ n : Nat, s5.1.1 = n ∧ n ≤ l.length ∧ ∀ x ∈ l.take n, may x = true) (fun s5 => l.length - s5.1.1.toNat) ?_ ⟨rfl, 0, rfl, Nat.zero_le _, by simp⟩
  rintro G ⟨⟨i, _⟩, _⟩ H' ⟨rfl, n, hi, hn, hall⟩ hG
  simp only at hi; subst hi
  dsimp only at hG ⊢
  refine ifB_of (fun hlt => ?_) (fun hge => ?_)
  · have hlt : n < l.length := by have := of_decide_eq_true hlt; omega
    refine idx_ldF (T := KT) KItems.hT ha rfl (List.getElem?_eq_getElem hlt) rfl ?_
    refine rmay_c _ (ifB_of (fun hb => ?_) (fun hb => ?_))
    · have hb : may l[n] = false := by simpa using hb
      have hf : l.all may = false := by
        cases hq : l.all may with
        | false => rfl
        | true => have := List.all_eq_true.1 hq _ (List.getElem_mem hlt); rw [hb] at this; cases this
      rw [hf] at hq
      exact hq
    · have hb : may l[n] = true := by simpa using hb
      rw [i64w (by omega) (by omega)]
      refine hG _ _ ⟨rfl, n + 1, by simp, hlt, fun x hx => ?_⟩ (by simp; omega)
      rw [List.take_succ_eq_append_getElem hlt] at hx
      rcases List.mem_append.1 hx with hx | hx
      · exact hall x hx
      · simp at hx; subst hx; exact hb
  · have hge : l.length ≤ n := by have := of_decide_eq_false hge; omega
    have hall : l.all may = true := List.all_eq_true.2 fun x hx => hall x (by rw [List.take_of_length_le hge]; exact hx)
    rw [hall] at hq
    exact hq

theorem rlay_c {H : Heap} {b : Nat} {s : List It} {B : Option Addr} {a : Sl} {l : List It} (h : RStk H b s B) (hsl : s.length ≤ 24) (ha : SlF KT H a l) (hoff : ∀ d ∈ b :: bl B, ∀ off, a.p ≠ some ⟨d, off, none⟩) (hm : l.length ≤ 1000000) {Q : Int × Int × Unit → Heap → Prop}
    (hq : ∀ H' B', Frs (b :: bl B) H H' → Mv H.length B B' → RStk H' b (if l.all may then s ++ l.reverse.take (24 - s.length) else s) B' → Q (if l.all may then (((l.length - (24 - s.length) : Nat) : Int), 0, ()) else (0, 2, ())) H') : CALL P [T_int .i64, T_int .i64] n_ref23_Stack_Lay [ad b, a.v] H Q := by
  have hal : a.len = l.length := ha.1
  apply c_ref23_Stack_Lay
  unfold S_ref23_Stack_Lay
  refine none_c h (ifB_f rfl ?_)
  refine rall_c ha hm ?_
  cases hall : l.all may with
  | false =>
    rw [hall] at hq
    exact ifB_t rfl (hq H B (.refl _ _) (.refl _ _) h)
  | true =>
    rw [hall] at hq
    refine ifB_f rfl (JOIN_of ?_)
    rw [i64w (by omega) (by omega)]
    refine loop_of (fun (s5 : (Int × Int × Unit) × Unit) H2 => ∃ (n : Nat) (B2 : Option Addr), s5.1.2.1 = (n : Int) - 1 ∧ n ≤ l.length ∧ s5.1.1 = (((l.length - n) - (24 - s.length) : Nat) : Int) ∧ RStk H2 b (s ++ (l.drop n).reverse.take (24 - s.length)) B2 ∧ Frs (b :: bl B) H H2 ∧ Mv H.length B B2) (fun s5 => (s5.1.2.1 + 1).toNat) ?_ ⟨l.length, B, by simp [hal], Nat.le_refl _, by simp, by simpa using h, .refl _ _, .refl _ _⟩
    rintro G ⟨⟨lost, i, _⟩, _⟩ H2 ⟨n, B2, h1, h2, h3, h4, h5, h6⟩ hG
    simp only at h1 h3; subst h1; subst h3
    dsimp only at hG ⊢
    refine ifB_of (fun hlt => ?_) (fun hge => ?_)
    · obtain ⟨m, rfl⟩ : ∃ m, n = m + 1 := ⟨n - 1, by have := of_decide_eq_true hlt; omega⟩
      have hml : m < l.length := by omega
      have hx : l[m]? = some l[m] := List.getElem?_eq_getElem hml
      refine idx_ldF (T := KT) KItems.hT (ha.frs h5 hoff) (n := m) (by omega) hx rfl ?_
      have hdl : (l.drop (m + 1)).reverse.length = l.length - (m + 1) := by simp
      have htl : ((l.drop (m + 1)).reverse.take (24 - s.length)).length = min (24 - s.length) (l.length - (m + 1)) := by rw [List.length_take, hdl]
      have hs24 : (s ++ (l.drop (m + 1)).reverse.take (24 - s.length)).length ≤ 24 := by rw [List.length_append, htl]; omega
      refine rpush_c _ h4 hs24 fun H3 B3 g1 g2 g3 => ?_
      have hmay : may l[m] = true := List.all_eq_true.1 hall _ (List.getElem_mem hml)
      have hcase : push (s ++ (l.drop (m + 1)).reverse.take (24 - s.length)) l[m] = if l.length - (m + 1) < 24 - s.length then (0, s ++ (l.drop m).reverse.take (24 - s.length)) else (14, s ++ (l.drop m).reverse.take (24 - s.length)) := by
        rw [drop_rev l m _ hx, take_snoc, hdl]
        unfold push
        rw [hmay, if_pos rfl, List.length_append, htl]
        by_cases hc : l.length - (m + 1) < 24 - s.length
        · rw [if_neg (by omega), if_pos hc, if_pos hc, List.append_assoc]
        · rw [if_pos (by omega), if_neg hc, if_neg hc]
      rw [hcase] at g1 ⊢
      have fr3 : Frs (b :: bl B) H H3 := h5.then g2 fun d hd => by
        rcases List.mem_cons.1 hd with rfl | hd
        · exact .inl (by simp)
        · rcases h6 d hd with q | q
          · exact .inl (by simp [q])
          · exact .inr q
      have mv3 := h6.trans g3 h5.1
      refine JOIN_of ?_
      split at g1
      · rename_i hc
        rw [if_pos hc]
        refine ifB_f rfl ?_
        rw [i64w (by omega) (by omega)]
        exact hG _ _ ⟨m, B3, by simp, by omega, by simp; omega, g1, fr3, mv3⟩ (by simp)
      · rename_i hc
        rw [if_neg hc]
        refine ifB_t rfl ?_
        rw [i64w (by omega) (by omega), i64w (by omega) (by omega)]
        exact hG _ _ ⟨m, B3, by simp, by omega, by simp; omega, g1, fr3, mv3⟩ (by simp)
    · have hn : n = 0 := by have := of_decide_eq_false hge; omega
      subst hn
      have := hq H2 B2 h5 h6
      simp only [if_true] at this
      exact this (by simpa using h4)

/-- What comes of a list of items. -/
def fromS (l : List It) : Option (List It) × Int := if l.length > 24 then (none, 3) else if l.all may then (some l, 0) else (none, 2)

theorem rfrom_c {H : Heap} {a : Sl} {l : List It} (ha : SlF KT H a l) (hm : l.length ≤ 1000000) {Q : (Option Addr) × Int × Unit → Heap → Prop}
    (hq : ∀ (p : Option Addr) H', Frs [] H H' → (match (fromS l).1 with | some s => ∃ b B, p = some ⟨b, 0, none⟩ ∧ RStk H' b s B ∧ H.length ≤ b ∧ ∀ d ∈ bl B, H.length ≤ d | none => p = none) → Q (p, (fromS l).2, ()) H') : CALL P [T_ptr, T_int .i64] n_ref23_From [a.v] H Q := by
  have hal : a.len = l.length := ha.1
  apply c_ref23_From
  unfold S_ref23_From
  unfold fromS at hq
  refine ifB_of (fun h => ?_) (fun h => ?_)
  · have h : l.length > 24 := by have := of_decide_eq_true h; omega
    rw [if_pos h] at hq
    exact hq none H (.refl _ _) rfl
  · have h : ¬ l.length > 24 := by have := of_decide_eq_false h; omega
    rw [if_neg h] at hq
    refine rall_c ha hm ?_
    cases hall : l.all may with
    | false => rw [hall] at hq; exact ifB_t rfl (hq none H (.refl _ _) rfl)
    | true =>
      rw [hall] at hq
      refine ifB_f rfl (rnew_c fun H1 r1 f1 => ?_)
      have r1' := r1
      obtain ⟨sl, sp, sz, h1, h2, e2, h4⟩ := r1
      refine LD_of (T := T_sl) sl [] [.bool true] h1 rfl rfl rfl ?_
      refine apps_c KItems.tyS rfl (fun _ => by simp) (ha.frs f1 (by simp)) (by show 2 * (0 + l.length) * 4096 ≤ _; omega) h2 fun s' H3 sp' k1 k2 k3 => ?_
      have hoff : sl.p ≠ some ⟨H.length, 0, none⟩ := by rw [e2]; simp
      have mv : Mv H.length none s'.p := fun d hd => by
        rcases k2 with k2 | ⟨k2, _⟩
        · rw [k2, e2] at hd; simp [bl] at hd
        · rw [k2] at hd; simp [bl] at hd; subst hd; exact .inr f1.1
      have mv1 : Mv H1.length none s'.p := fun d hd => by
        rcases k2 with k2 | ⟨k2, _⟩
        · rw [k2, e2] at hd; simp [bl] at hd
        · rw [k2] at hd; simp [bl] at hd; subst hd; exact .inr (Nat.le_refl _)
      have fr : Frs (H.length :: bl none) H1 H3 := k3.frs fun d hd => by rw [e2] at hd; cases hd
      rw [List.nil_append] at k1
      refine r1'.put k1 fr mv1 (by rw [k3.2 _ (get_lt h1) hoff]; exact h1) fun H' g1 g2 => ?_
      refine hq _ H' (f1.then g2 fun d hd => by simp [bl] at hd; subst hd; exact .inr (Nat.le_refl _)) ⟨_, _, rfl, g1, Nat.le_refl _, fun d hd => ?_⟩
      rcases mv d hd with q | q
      · simp [bl] at q
      · exact q

theorem rdown_c {H : Heap} {b : Nat} {s : List It} {B : Option Addr} (h : RStk H b s B) (hs : s.length ≤ 24) {Q : Sl × Unit → Heap → Prop} (hq : ∀ s' H' sp, NewO KT H s' H' s.reverse sp → Q (s', ()) H') : CALL P [T_sl] n_ref23_Stack_Down [ad b] H Q := by
  apply c_ref23_Stack_Down
  unfold S_ref23_Stack_Down
  refine ritems_c h hs fun s1 H1 sp1 n1 => ?_
  have hl1 : s1.len = s.length := n1.1.1
  refine JOIN_of ?_
  dsimp only
  rw [i64w (by omega) (by omega)]
  refine loop_of (fun (s5 : (Sl × Int × Unit) × Unit) H2 => ∃ (n : Nat) (sp : List It), s5.1.2.1 = (n : Int) - 1 ∧ n ≤ s.length ∧ NewO KT H1 s5.1.1 H2 (s.drop n).reverse sp) (fun s5 => (s5.1.2.1 + 1).toNat) ?_ ⟨s.length, [], by simp [hl1], Nat.le_refl _, by simpa using ⟨Ow.nil KT H1, by simp, Frs.refl _ _⟩⟩
  rintro G ⟨⟨o, i, _⟩, _⟩ H2 ⟨n, sp, h1, h2, n2⟩ hG
  simp only at h1 n2; subst h1
  dsimp only at hG ⊢
  refine ifB_of (fun hlt => ?_) (fun hge => ?_)
  · obtain ⟨m, rfl⟩ : ∃ m, n = m + 1 := ⟨n - 1, by have := of_decide_eq_true hlt; omega⟩
    have hml : m < s.length := by omega
    have hx : s[m]? = some s[m] := List.getElem?_eq_getElem hml
    refine idx_ldF (T := KT) KItems.hT (n1.1.slf.frs n2.2.2 (by simp)) (n := m) (by omega) hx rfl ?_
    refine app_c KItems.tyS rfl (fun _ => by simp) (m := 1) [s[m]] rfl rfl (by simp; omega) n2.1 fun s' H3 sp' k1 k2 k3 => ?_
    rw [i64w (by omega) (by omega)]
    refine hG _ _ ⟨m, sp', by simp, by omega, ?_⟩ (by simp)
    rw [drop_rev s m _ hx]
    exact n2.app k1 k2 k3
  · have hn : n = 0 := by have := of_decide_eq_false hge; omega
    subst hn
    simp only [List.drop_zero] at n2
    exact hq _ H2 sp ⟨n2.1, fun d hd => Nat.le_trans n1.2.2.1 (n2.2.1 d hd), n1.2.2.trans n2.2.2⟩

/-- The program's stack's items, in memory of their own. -/
theorem items_c {H : Heap} {b : Nat} {s : List It} (h : Stk H b s) {Q : Sl × Unit → Heap → Prop} (hq : ∀ s' H' sp, NewO KT H s' H' s sp → Q (s', ()) H') : CALL P [T_sl] n_stack_Stack_Items [ad b] H Q := by
  have h' := h
  have hle := h.le
  obtain ⟨j, sz, h1, h2⟩ := h
  apply c_stack_Stack_Items
  unfold S_stack_Stack_Items
  refine is_c h' (ifB_f rfl ?_)
  have hld : ∀ H2 : Heap, H2[b]? = H[b]? → ∀ k : Int → Prop, k (s.length : Int) → LD (T_int .i64) H2 b (0 + 1) k := fun H2 e k hk => LD_of (T := T_int .i64) (s.length : Int) [.bool true] (fl TI4 s ++ j) (by rw [e]; exact h1) rfl rfl rfl hk
  refine hld H rfl _ ?_
  have hsl : ∀ H2 : Heap, aSlice E 25 (.pointer (some ⟨b, 0 + 2, none⟩)) none (some (.int .i64 (s.length : Int))) none H2 = some (.slice (some ⟨b, 2, none⟩) s.length 24) := fun H2 => by
    unfold aSlice
    show (if (none : Option Value).isSome && (some (Value.int .i64 (s.length : Int))).isNone then _ else _) = _
    simp only [Option.isSome_none, Bool.false_and, Bool.false_eq_true, if_false]
    show ((natOf none 24).bind fun m => (natOf (some (.int .i64 (s.length : Int))) 24).bind fun h => (natOf none 0).bind fun l => if m ≤ 24 ∧ h ≤ m ∧ l ≤ h then some (Value.slice (some ⟨b, if m = l then 0 + 2 else 0 + 2 + l * 4, none⟩) (h - l) (m - l)) else none) = _
    simp only [natOf, Option.bind_some]
    rw [if_pos (by omega)]
    simp only [Option.bind_some]
    rw [if_pos (by omega)]
    simp
  refine ⟨⟨some ⟨b, 2, none⟩, s.length, 24⟩, hsl H, ?_⟩
  show (NEW H [] 4 _)
  unfold NEW
  have hb : b < H.length := get_lt h1
  have e1 : (mk H [] 4 false)[b]? = H[b]? := by simp [mk, List.getElem?_append_left hb]
  refine hld _ e1 _ ⟨rfl, hsl _, ?_⟩
  have hsf : SlF KT (mk H [] 4 false) ⟨some ⟨b, 2, none⟩, s.length, 24⟩ s := ⟨rfl, .inr (.inr ⟨b, [.bool true, .int .i64 s.length], j, sz, false, false, rfl, by rw [e1]; exact h1⟩)⟩
  have how : Ow KT (mk H [] 4 false) ⟨some ⟨H.length, 0, none⟩, 0, 0⟩ [] [] := ⟨rfl, rfl, by simp, .inr ⟨_, rfl, by simp [mk, fl]⟩⟩
  have n0 : NewO KT H ⟨some ⟨H.length, 0, none⟩, 0, 0⟩ (mk H [] 4 false) [] [] := ⟨how, by simp, Frs.app _ _ _⟩
  refine apps_c KItems.tyS rfl (fun _ => by simp) hsf (by show 2 * (0 + s.length) * 4096 ≤ _; omega) how fun s' H3 sp' k1 k2 k3 => ?_
  rw [List.nil_append] at k1
  exact hq s' H3 sp' (n0.app k1 k2 k3)

theorem pfrom_c {H : Heap} {a : Sl} {l : List It} (ha : SlF KT H a l) {Q : (Option Addr) × Int × Unit → Heap → Prop}
    (hq : ∀ (p : Option Addr) H', Frs [] H H' → (match (fromS l).1 with | some s => ∃ b, p = some ⟨b, 0, none⟩ ∧ Stk H' b s ∧ H.length ≤ b | none => p = none) → Q (p, (fromS l).2, ()) H') : CALL P [T_ptr, T_int .i64] n_stack_From [a.v] H Q := by
  have hal : a.len = l.length := ha.1
  apply c_stack_From
  unfold S_stack_From
  unfold fromS at hq
  refine ifB_of (fun h => ?_) (fun h => ?_)
  · have h : l.length > 24 := by have := of_decide_eq_true h; omega
    rw [if_pos h] at hq
    exact hq none H (.refl _ _) rfl
  · have h : ¬ l.length > 24 := by have := of_decide_eq_false h; omega
    rw [if_neg h] at hq
    refine new_c fun H1 s1 f1 => JOIN_of ?_
    have f1' : Frs [] H H1 := ⟨f1.1, fun c hc _ => f1.2 c hc (by omega)⟩
    refine loop_of (fun (s5 : (Int × Unit) × Unit) H2 => ∃ n : Nat, s5.1.1 = n ∧ n ≤ l.length ∧ (∀ x ∈ l.take n, may x = true) ∧ Stk H2 H.length (l.take n) ∧ Frs [] H H2) (fun s5 => l.length - s5.1.1.toNat) ?_ ⟨0, rfl, Nat.zero_le _, by simp, by simpa using s1, f1'⟩
    rintro G ⟨⟨i, _⟩, _⟩ H2 ⟨n, hi, hn, hall, hst, hfr⟩ hG
    simp only at hi; subst hi
    dsimp only at hG ⊢
    refine ifB_of (fun hlt => ?_) (fun hge => ?_)
    · have hlt : n < l.length := by have := of_decide_eq_true hlt; omega
      refine idx_ldF (T := KT) KItems.hT (ha.frs hfr (by simp)) rfl (List.getElem?_eq_getElem hlt) rfl ?_
      refine push_c _ hst fun H3 g1 g2 => ?_
      have fr3 : Frs [] H H3 := hfr.then g2.frs (by simp)
      have htl : (l.take n).length ≠ 24 := by simp; omega
      unfold push at g1 ⊢
      cases hmay : may l[n] with
      | false =>
        rw [hmay] at g1
        have hf : l.all may = false := by
          cases hq : l.all may with
          | false => rfl
          | true => have := List.all_eq_true.1 hq _ (List.getElem_mem hlt); rw [hmay] at this; cases this
        rw [hf] at hq
        exact ifB_t rfl (hq none H3 fr3 rfl)
      | true =>
        rw [hmay] at g1
        simp only [if_true, if_neg htl] at g1 ⊢
        refine ifB_f rfl ?_
        rw [i64w (by omega) (by omega)]
        refine hG _ _ ⟨n + 1, by simp, hlt, fun x hx => ?_, ?_, fr3⟩ (by simp; omega)
        · rw [List.take_succ_eq_append_getElem hlt] at hx
          rcases List.mem_append.1 hx with hx | hx
          · exact hall x hx
          · simp at hx; subst hx; exact hmay
        · rw [List.take_succ_eq_append_getElem hlt]; exact g1
    · have hge : l.length ≤ n := by have := of_decide_eq_false hge; omega
      rw [List.take_of_length_le hge] at hst hall
      have hall : l.all may = true := List.all_eq_true.2 hall
      rw [hall] at hq
      exact hq _ H2 hfr ⟨_, rfl, hst, Nat.le_refl _⟩
end Go.Proofs.Ytmjonmhpfngkaaa.Zq
