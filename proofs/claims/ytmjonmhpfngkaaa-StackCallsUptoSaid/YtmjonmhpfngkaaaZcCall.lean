/- A call of both stacks. -/
import Derived.Test.YtmjonmhpfngkaaaZcDown
namespace Go.Proofs.Ytmjonmhpfngkaaa.Zq
open Zv
/-- Two stacks with the same on them, in memory above n0. -/
structure Two (n0 : Nat) (H : Heap) (b rb : Nat) (s : List It) (B : Option Addr) : Prop where
  p : Stk H b s
  r : RStk H rb s B
  ne : b ≠ rb
  nb : b ∉ bl B
  lo : n0 ≤ b
  lor : n0 ≤ rb
  loB : ∀ d ∈ bl B, n0 ≤ d
theorem Two.frs {n0 : Nat} {H H' : Heap} {b rb : Nat} {s : List It} {B : Option Addr} {C : List Nat} (t : Two n0 H b rb s B) (f : Frs C H H') (h : ∀ d ∈ b :: rb :: bl B, d ∉ C) : Two n0 H' b rb s B := by
  refine ⟨?_, t.r.frs f (h rb (by simp)) (fun d hd => h d (by simp [hd])), t.ne, t.nb, t.lo, t.lor, t.loB⟩
  obtain ⟨j, sz, h1, h2⟩ := t.p
  exact ⟨j, sz, f.get (h b (by simp)) h1, h2⟩
theorem Two.newer {n0 : Nat} {H H' : Heap} {b rb : Nat} {s : List It} {B : Option Addr} {C : List Nat} (t : Two n0 H b rb s B) (f : Frs C H H') (h : ∀ d ∈ C, H.length ≤ d) : Two n0 H' b rb s B :=
  t.frs f fun d hd hm => by
    have := h d hm
    have h1 := t.p.lt
    have h2 := t.r.lt
    have h3 := t.r.bl_lt
    rcases List.mem_cons.1 hd with rfl | hd
    · omega
    rcases List.mem_cons.1 hd with rfl | hd
    · omega
    have := h3 d hd; omega
/-- Both have been turned alike. -/
theorem Two.both {n0 : Nat} {H H1 H2 : Heap} {b rb : Nat} {s s' : List It} {B B' : Option Addr} (t : Two n0 H b rb s B) (hn0 : n0 ≤ H.length) (h1 : Stk H1 b s') (f1 : Frs [b] H H1) (h2 : RStk H2 rb s' B') (f2 : Frs (rb :: bl B) H1 H2) (mv : Mv H1.length B B') :
    Two n0 H2 b rb s' B' ∧ Frs (b :: rb :: bl B) H H2 ∧ Mv H.length B B' := by
  have hlt := t.p.lt
  refine ⟨⟨?_, h2, t.ne, fun hm => ?_, t.lo, t.lor, fun d hd => ?_⟩, (f1.mono (by simp)).trans (f2.mono (by simp; exact fun a ha => .inr (.inr ha))), fun d hd => ?_⟩
  · obtain ⟨j, sz, g1, g2⟩ := h1
    exact ⟨j, sz, f2.get (by simp only [List.mem_cons, not_or]; exact ⟨t.ne, t.nb⟩) g1, g2⟩
  · rcases mv b hm with q | q
    · exact t.nb q
    · have := f1.1; omega
  · rcases mv d hd with q | q
    · exact t.loB d q
    · have := f1.1; omega
  · rcases mv d hd with q | q
    · exact .inl q
    · have := f1.1; exact .inr (by omega)

theorem eqI (x : It) : ((x.Thing == x.Thing) && ((x.Part == x.Part) && ((x.Holder == x.Holder) && ((x.Meant == x.Meant) && true)))) = true := by simp

theorem lcall_c {n0 : Nat} {H : Heap} {b rb : Nat} {s : List It} {B : Option Addr} (t : Two n0 H b rb s B) (hn0 : n0 ≤ H.length) (op : G_law23_Op) {li : List It} (hL : SlF KT H op.L li) (hLn : ∀ d off, op.L.p = some ⟨d, off, none⟩ → d < n0) (hl : li.length ≤ 100) {Q : Bool × Unit → Heap → Prop}
    (hq : ∀ H' s' B', Two n0 H' b rb s' B' → Frs (b :: rb :: bl B) H H' → Mv H.length B B' → Q (true, ()) H') : CALL P [T_bool] n_law23_call [ad b, ad rb, T_G_law23_Op.enc op] H Q := by
  have hs := t.p.le
  have hlt := t.p.lt
  apply c_law23_call
  unfold S_law23_call
  refine ifB_of (fun _ => ?_) (fun _ => ?_)
  · refine push_c op.I t.p fun H1 g1 f1 => ⟨rfl, ?_⟩
    have r1 := t.r.frs f1.frs (by simpa using Ne.symm t.ne) (fun d hd hm => by simp at hm; subst hm; exact t.nb hd)
    refine rpush_c op.I r1 hs fun H2 B' g2 f2 mv => ?_
    obtain ⟨a1, a2, a3⟩ := t.both hn0 g1 f1.frs g2 f2 mv
    have := hq H2 _ B' a1 a2 a3
    simpa using this
  refine ifB_of (fun _ => ?_) (fun _ => ?_)
  · have hLl : op.L.len = li.length := hL.1
    refine KItems.lent_c hL (by omega) fun x3 H3 sp3 n3 ⟨d3, e3⟩ => ?_
    refine slice_to KItems.tyS n3.1 (n := li.length) (by omega) (by simp) ?_
    have t3 := t.newer n3.2.2 (by simp)
    have hd3 := n3.2.1 d3 e3
    have hcut := n3.1.cut (n := li.length) (by simp)
    have htk : (li ++ [KItems.w, KItems.w]).take li.length = li := by simp
    rw [htk] at hcut
    refine lay_c t3.p hcut.rd (by unfold Off; rw [e3]; simp; omega) (by omega) fun H4 f4 g4 => ?_
    have r4 := t3.r.frs f4.frs (by simpa using Ne.symm t.ne) (fun d hd hm => by simp at hm; subst hm; exact t.nb hd)
    have L4 := (hL.frs n3.2.2 (by simp)).frs f4.frs (fun d hd off e => by simp at hd; subst hd; have := hLn _ _ e; have := t.lo; omega)
    refine rlay_c r4 hs L4 (fun d hd off e => by
      have h1 := hLn _ _ e
      rcases List.mem_cons.1 hd with rfl | hd
      · have := t.lor; omega
      · have := t.loB d hd; omega) (by omega) fun H5 B' f5 mv g5 => ?_
    obtain ⟨a1, a2, a3⟩ := t3.both (by have := n3.2.2.1; omega) g4 f4.frs g5 f5 mv
    have hbl := t.r.bl_lt
    have hrlt := t.r.lt
    have o5 : Ow KT H5 x3 (li ++ [KItems.w, KItems.w]) sp3 := n3.1.frs a2 fun d hd e => by
      rw [e3] at e; simp at e; subst e
      rcases List.mem_cons.1 hd with rfl | hd
      · omega
      rcases List.mem_cons.1 hd with rfl | hd
      · omega
      have := hbl _ hd; omega
    have L5 := (hL.frs n3.2.2 (by simp)).frs a2 (fun d hd off e => by
      have h1 := hLn _ _ e
      rcases List.mem_cons.1 hd with rfl | hd
      · have := t.lo; omega
      rcases List.mem_cons.1 hd with rfl | hd
      · have := t.lor; omega
      have := t.loB d hd; omega)
    refine KItems.kept_c o5.slf L5 (by simp; omega) (by omega) fun r H6 hr f6 => ?_
    have hrt : r = true := hr.2 rfl
    subst hrt
    refine KItems.over_c (o5.frs f6 (by simp [Sl.off])) (by simp; omega) fun H7 o7 f7 => ?_
    have f7' : Frs [d3] H6 H7 := f7.frs fun d hd => by rw [e3] at hd; simp at hd; exact .inl (by simp [hd])
    have t6 := a1.newer f6 (by simp)
    have t7 := t6.frs f7' fun d hd hm => by
      simp at hm; subst hm
      have := f4.1; have := n3.2.2.1
      rcases List.mem_cons.1 hd with rfl | hd
      · omega
      rcases List.mem_cons.1 hd with rfl | hd
      · omega
      rcases a3 _ hd with q | q
      · have := hbl _ q; omega
      · have := n3.1.lt e3; omega
    have fin : Frs (b :: rb :: bl B) H H7 := (((n3.2.2.mono (by simp)).trans a2).then f6 (by simp)).then f7' (fun d hd => by simp at hd; subst hd; exact .inr hd3)
    have := hq H7 _ B' t7 fin fun d hd => by
      rcases a3 d hd with q | q
      · exact .inl q
      · have := n3.2.2.1; exact .inr (by omega)
    refine JOIN_of ?_
    cases li.all may <;> exact ifB_t (by simp) (ifB_t (by simp) (by simpa using this))
  refine ifB_of (fun _ => ?_) (fun _ => ?_)
  · refine pop_c t.p fun H1 g1 f1 => ?_
    have r1 := t.r.frs f1.frs (by simpa using Ne.symm t.ne) (fun d hd hm => by simp at hm; subst hm; exact t.nb hd)
    refine rpop_c r1 hs fun H2 B' g2 f2 mv => JOIN_of ?_
    obtain ⟨a1, a2, a3⟩ := t.both hn0 g1 f1.frs g2 f2 mv
    have := hq H2 _ B' a1 a2 a3
    cases s.getLast? <;> exact ifB_t (eqI _) (by simpa using this)
  refine ifB_of (fun _ => ?_) (fun _ => ?_)
  · refine top_c t.p (rtop_c t.r hs (JOIN_of ?_))
    have := hq H _ B t (.refl _ _) (.refl _ _)
    cases s.getLast? <;> exact ifB_t (eqI _) (by simpa using this)
  refine ifB_of (fun _ => ?_) (fun _ => ?_)
  · refine ldown_c t.p op.N fun x1 H1 sp1 n1 => ?_
    have t1 := t.newer n1.2.2 (by simp)
    refine rdown_c t1.r hs fun x2 H2 sp2 n2 => JOIN_of ?_
    have t2 := t1.newer n2.2.2 (by simp)
    have hx2 : x2.len = s.length := by rw [n2.1.1]; simp
    have o1 : Ow KT H2 x1 (dn s op.N) sp1 := n1.1.frs n2.2.2 (by simp [Sl.off])
    have hdl : (dn s op.N).length ≤ 24 := by unfold dn; split <;> simp <;> omega
    have fin : ∀ {r : Bool}, r = true → Q (r, ()) H2 := fun h => by
      subst h
      exact hq H2 s B t2 (((n1.2.2).trans n2.2.2).mono (by simp)) (.refl _ _)
    have key : ∀ {w : Sl} {lw : List It}, SlF KT H2 w lw → dn s op.N = lw → CALL P [T_bool] n_kit_SameItems [x1.v, w.v] H2 fun x28 H20 => Q (x28.1, ()) H20 := fun hw e => by
      refine KItems.same_c o1.slf hw (by omega) fun r hr => ?_
      exact fin (hr.2 e)
    have two : ∀ {g : Bool}, (g = true ↔ (0 < op.N ∧ op.N < s.length)) → JOIN (fun (j23 : (Sl × Unit) × (Unit) → Heap → Prop) => ifB g (GENV T_sl (aSlice E 32 x2.v none (some (.int .i64 op.N)) none H2) fun (x25 : Sl) => j23 ((x25, ()), (())) H2) (j23 ((x2, ()), (())) H2)) fun (y24 : (Sl × Unit) × (Unit)) H18 =>
        JOIN (fun (j26 : (Bool × Unit) × (Unit) → Heap → Prop) => ifB true (CALL P [T_bool] n_kit_SameItems [x1.v, y24.1.1.v] H18 fun (x28 : Bool × Unit) H20 => j26 ((x28.1, ()), (())) H20) (j26 ((false, ()), (())) H18)) fun (y27 : (Bool × Unit) × (Unit)) H19 => Q (y27.1.1, ()) H19 := fun {g} hg => by
      refine JOIN_of (ifB_of (fun h => ?_) (fun h => ?_))
      · have h' := hg.1 h
        refine slice_to KItems.tyS n2.1 (n := op.N.toNat) (by omega) (by simp; omega) ?_
        refine JOIN_of (ifB_t rfl (key (n2.1.cut (n := op.N.toNat) (by simp; omega)).slf ?_))
        unfold dn; rw [if_pos h']
      · refine JOIN_of (ifB_t rfl (key n2.1.slf ?_))
        unfold dn; rw [if_neg (fun h' => by rw [hg.2 h'] at h; cases h)]
    refine ifB_of (fun h => ?_) (fun h => ?_)
    · have h := of_decide_eq_true h
      exact two (by rw [hx2]; simp; omega)
    · have h := of_decide_eq_false h
      exact two (by simp; omega)
  · exact hq H _ B t (.refl _ _) (.refl _ _)
end Go.Proofs.Ytmjonmhpfngkaaa.Zq
