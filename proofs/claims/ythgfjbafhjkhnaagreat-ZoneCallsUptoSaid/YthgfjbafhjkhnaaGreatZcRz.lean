/- What the document's zones do. -/
import Derived.Test.YthgfjbafhjkhnaaGreatZcZr
namespace Go.Proofs.YthgfjbafhjkhnaaGreat.Zq
section
/- What the document's zones do. -/
open Zv
abbrev e1 : List Value := [.bool true]
section
variable {H : Heap} {b : Nat} {z : Zo} {st : Sl} {ss : Nat → Sl}
theorem rnone_c (h : ZR e1 H b z st ss) {Q : Bool × Unit → Heap → Prop} (hq : Q (false, ()) H) : CALL P [T_bool] n_ref17_Zones_none [ad b] H Q := by
  apply c_ref17_Zones_none
  unfold S_ref17_Zones_none
  obtain ⟨sz, h1⟩ := h.row
  refine JOIN_of (ifB_f rfl ?_)
  exact LD_of (T := T_bool) true [st.v, (ss 0).v, (ss 1).v, (ss 2).v, (ss 3).v, .int .i64 z.n] [] h1 rfl rfl rfl hq
theorem rthere_c (h : ZR e1 H b z st ss) {n : Int} {Q : Bool × Unit → Heap → Prop} (hq : Q ((getT z n).isSome, ()) H) : CALL P [T_bool] n_ref17_Zones_there [ad b, .int .i64 n] H Q := by
  apply c_ref17_Zones_there
  unfold S_ref17_Zones_there
  have htl := h.tl
  refine JOIN_of (ifB_of (fun h1 => h.ld_t rfl ?_) (fun h1 => ?_))
  · have h1 := of_decide_eq_true h1
    rcases getT_cases z n with ⟨h2, eq⟩ | ⟨k, t, rfl, hk, eq⟩
    · rw [eq] at hq
      rw [htl, show decide (n ≤ (z.t.length : Int)) = false by simp; omega]; exact hq
    · rw [eq] at hq
      have hkl := (List.getElem?_eq_some_iff.1 hk).1
      rw [htl, show decide ((k : Int) + 1 ≤ (z.t.length : Int)) = true by simp; omega]; exact hq
  · have h1 := of_decide_eq_false h1
    rw [getT_none (.inl (by omega))] at hq
    exact hq
theorem rowner_c {p : Int} {Q : Bool × Unit → Heap → Prop} (hq : ∀ r, (r = true ↔ p = 0 ∨ p = 1) → Q (r, ()) H) : CALL P [T_bool] n_ref17_owner [.int .i64 p] H Q := by
  apply c_ref17_owner
  unfold S_ref17_owner
  refine JOIN_of (ifB_of (fun h => hq _ ?_) (fun h => hq _ ?_))
  · simp at h; simp [h]
  · simp at h; simp [h]
theorem rhome_c (t : Th) {Q : Th × Unit → Heap → Prop} (hq : Q (homeT t, ()) H) : CALL P [TT] n_ref17_home [TT.enc t] H Q := by
  apply c_ref17_home
  unfold S_ref17_home
  exact hq
theorem rthing_c (h : ZR e1 H b z st ss) (ht : z.t.length ≤ 4096) {n : Int} {Q : Th × Int × Unit → Heap → Prop} (hq : Q ((getT z n).getD th0, (getT z n).elim 6 (fun _ => 0), ()) H) : CALL P [TT, TN] n_ref17_Zones_Thing [ad b, .int .i64 n] H Q := by
  apply c_ref17_Zones_Thing
  unfold S_ref17_Zones_Thing
  have htl := h.tl
  refine rnone_c h (ifB_f rfl (rthere_c h ?_))
  rcases getT_cases z n with ⟨h1, eq⟩ | ⟨k, t, rfl, hk, eq⟩
  · rw [eq] at hq ⊢
    exact ifB_t rfl hq
  · rw [eq] at hq ⊢
    have hkl := (List.getElem?_eq_some_iff.1 hk).1
    refine ifB_f rfl (h.ld_t rfl ?_)
    rw [i64w (by omega) (by omega)]
    exact h.ld_th (by omega) hk hq
theorem rlen_c (h : ZR e1 H b z st ss) {Q : Int × Unit → Heap → Prop} (hq : Q ((z.t.length : Int), ()) H) : CALL P [TN] n_ref17_Zones_Len [ad b] H Q := by
  apply c_ref17_Zones_Len
  unfold S_ref17_Zones_Len
  have htl := h.tl
  refine rnone_c h (ifB_f rfl (h.ld_t rfl ?_))
  rw [htl]; exact hq
theorem rstamp_c (h : ZR e1 H b z st ss) {Q : Int × Unit → Heap → Prop} (hq : Q (z.n, ()) H) : CALL P [TN] n_ref17_Zones_Stamp [ad b] H Q := by
  apply c_ref17_Zones_Stamp
  unfold S_ref17_Zones_Stamp
  exact rnone_c h (ifB_f rfl (h.ld_n rfl hq))
theorem rthings_c (h : ZR e1 H b z st ss) (hi : InvZ z) {Q : Sl × Unit → Heap → Prop} (hq : ∀ s' H' sp, NewO TT H s' H' z.t sp → Q (s', ()) H') : CALL P [T_sl] n_ref17_Zones_Things [ad b] H Q := by
  apply c_ref17_Zones_Things
  unfold S_ref17_Zones_Things
  exact rnone_c h (ifB_f rfl (h.ld_t rfl (copy_g KThings.tyS rfl (fun _ => by simp) h.t.slf (by have := hi.few; omega) hq)))

/-- Two fields of a thing, by its number. -/
theorem ZR.ld_o (h : ZR e1 H b z st ss) {i : Int} {k : Nat} (hi : i = k) {t : Th} (hk : z.t[k]? = some t) {K : Int → Prop} (hK : K t.Owner) : IDX st.p st.len i 11 fun b o => LD TN H b (o + 1) K := by
  obtain ⟨c, A, B, hp, hA, hrow, _⟩ := h.at hk
  have htl := h.tl
  have hkl := (List.getElem?_eq_some_iff.1 hk).1
  exact idx_of hp hi (by omega) (ld_own hrow (by omega) hK)
theorem ZR.ld_p (h : ZR e1 H b z st ss) {i : Int} {k : Nat} (hi : i = k) {t : Th} (hk : z.t[k]? = some t) {K : Int → Prop} (hK : K t.Place) : IDX st.p st.len i 11 fun b o => LD (T_int .u8) H b (o + 2) K := by
  obtain ⟨c, A, B, hp, hA, hrow, _⟩ := h.at hk
  have htl := h.tl
  have hkl := (List.getElem?_eq_some_iff.1 hk).1
  exact idx_of hp hi (by omega) (ld_place hrow (by omega) hK)

theorem rowned_c (h : ZR e1 H b z st ss) {p : Int} (ht : z.t.length ≤ 4096) {Q : Int × Unit → Heap → Prop} (hq : Q ((own z p : Int), ()) H) : CALL P [TN] n_ref17_Zones_owned [ad b, .int .i64 p] H Q := by
  apply c_ref17_Zones_owned
  unfold S_ref17_Zones_owned
  have htl := h.tl
  refine JOIN_of ?_
  refine loop_of (fun (s : (Int × Int × Unit) × Unit) H' => H' = H ∧ ∃ n : Nat, s.1.2.1 = n ∧ n ≤ z.t.length ∧ s.1.1 = (((z.t.take n).countP fun t => t.Place == 4 && t.Owner == p : Nat) : Int)) (fun s => z.t.length - s.1.2.1.toNat) ?_ ⟨rfl, 0, rfl, Nat.zero_le _, by simp⟩
  rintro G ⟨⟨a, i, _⟩, _⟩ H' ⟨rfl, n, hi, hn, ha⟩ hG
  simp only at hi ha; subst hi; subst ha
  dsimp only at hG ⊢
  refine h.ld_t rfl (ifB_of (fun hlt => ?_) (fun hge => ?_))
  · have hlt : n < z.t.length := by have := of_decide_eq_true hlt; omega
    have hx : z.t[n]? = some z.t[n] := List.getElem?_eq_getElem hlt
    have hc : (z.t.take n).countP (fun t => t.Place == 4 && t.Owner == p) ≤ n := by have := List.countP_le_length (p := fun t => t.Place == 4 && t.Owner == p) (l := z.t.take n); simp at this; omega
    have nxt : (((z.t.take (n + 1)).countP fun t => t.Place == 4 && t.Owner == p : Nat) : Int) = (((z.t.take n).countP fun t => t.Place == 4 && t.Owner == p : Nat) : Int) + if (z.t[n].Place == 4 && z.t[n].Owner == p) = true then 1 else 0 := by
      rw [List.take_succ_eq_append_getElem hlt, List.countP_append]
      simp only [List.countP_cons, List.countP_nil]
      split <;> simp
    refine JB (H := H') ((z.t[n].Place == 4 && z.t[n].Owner == p) = true) (fun j hj => h.ld_t rfl (h.ld_o rfl hx (ifB_of (fun h1 => h.ld_t rfl (h.ld_p rfl hx (hj _ ?_))) (fun h1 => hj _ ?_)))) fun r hr => ?_
    · rw [h1]; simp
    · rw [h1]; simp
    rw [i64w (x := (n : Int) + 1) (by omega) (by omega)]
    refine JOIN_of (ifB_of (fun h2 => ?_) (fun h2 => ?_))
    · rw [i64w (by omega) (by omega)]
      exact hG _ _ ⟨rfl, n + 1, by simp, hlt, by rw [nxt, if_pos (hr.1 h2)]⟩ (by simp; omega)
    · exact hG _ _ ⟨rfl, n + 1, by simp, hlt, by rw [nxt, if_neg (fun q => by rw [hr.2 q] at h2; cases h2)]; simp⟩ (by simp; omega)
  · have hge : n = z.t.length := by have := of_decide_eq_false hge; omega
    subst hge
    rw [List.take_length]
    exact hq

theorem without_c {a : Sl} {l : List Int} (ha : SlF TN H a l) (hl : l.length ≤ 4096) {x : Int} {Q : Sl × Unit → Heap → Prop} (hq : ∀ s' H' sp, NewO TN H s' H' (l.filter (· != x)) sp → Q (s', ()) H') : CALL P [T_sl] n_ref17_without [a.v, .int .i64 x] H Q := by
  apply c_ref17_without
  unfold S_ref17_without
  have hal := ha.1
  refine JOIN_of ?_
  refine loop_of (fun (s : (Sl × Int × Unit) × Unit) H' => ∃ (n : Nat) (sp : List Int), s.1.2.1 = n ∧ n ≤ l.length ∧ NewO TN H s.1.1 H' ((l.take n).filter (· != x)) sp) (fun s => l.length - s.1.2.1.toNat) ?_ ⟨0, [], rfl, Nat.zero_le _, ⟨Ow.nil TN H, by simp, .refl _ _⟩⟩
  rintro G ⟨⟨s, i, _⟩, _⟩ H' ⟨n, sp, hi, hn, n1⟩ hG
  simp only at hi n1; subst hi
  dsimp only at hG ⊢
  refine ifB_of (fun hlt => ?_) (fun hge => ?_)
  · have hlt : n < l.length := by have := of_decide_eq_true hlt; omega
    have hx : l[n]? = some l[n] := List.getElem?_eq_getElem hlt
    have ha' := ha.frs n1.2.2 (by simp)
    have nxt : (l.take (n + 1)).filter (· != x) = (l.take n).filter (· != x) ++ if (l[n] != x) = true then [l[n]] else [] := by
      rw [List.take_succ_eq_append_getElem hlt, List.filter_append]
      simp only [List.filter_cons, List.filter_nil]
    have hle : ((l.take n).filter (· != x)).length ≤ n := by have := List.length_filter_le (· != x) (l.take n); simp at this; omega
    refine idx_ldF (T := TN) hTN ha' rfl hx rfl (JOIN_of (ifB_of (fun h1 => ?_) (fun h1 => ?_)))
    · refine idx_ldF (T := TN) hTN ha' rfl hx rfl (app_c KInts.tyS rfl (fun _ => by simp) (m := 1) [l[n]] rfl rfl (by show 2 * (((l.take n).filter (· != x)).length + 1) * 4096 ≤ _; omega) n1.1 fun s' H3 sp' k1 k2 k3 => ?_)
      rw [i64w (by omega) (by omega)]
      exact hG _ _ ⟨n + 1, sp', by simp, hlt, by rw [nxt, if_pos h1]; exact n1.app k1 k2 k3⟩ (by simp; omega)
    · rw [i64w (by omega) (by omega)]
      exact hG _ _ ⟨n + 1, sp, by simp, hlt, by rw [nxt, if_neg (by rw [h1]; simp)]; simpa using n1⟩ (by simp; omega)
  · have hge : n = l.length := by have := of_decide_eq_false hge; omega
    subst hge
    rw [List.take_length] at n1
    exact hq _ _ _ n1

theorem newmv {T : Tag} {H H' : Heap} {s : Sl} {l sp : List T.α} (h : NewO T H s H' l sp) (F : List Nat) : ∀ d ∈ bl s.p, d ∈ F ∨ H.length ≤ d := fun d hd => by
  rcases h.1.j.ptr with q | ⟨c, q, q2⟩
  · rw [q] at hd; simp [bl] at hd
  · rw [q2] at hd; simp at hd; subst hd; exact .inr (h.2.1 _ q)

/-- A thing comes to a place, the document's way. -/
theorem rcome_c (h : ZR e1 H b z st ss) {k : Nat} {th : Th} (hk : z.t[k]? = some th) (ho : th.Owner = 0 ∨ th.Owner = 1) {n : Int} (hn : n = (k : Int) + 1) {to : Int} (hl : ∀ q, q < 4 → (z.l q).length ≤ 4096) (ht : z.t.length ≤ 4096) (hz0 : 0 ≤ z.n) (hz : z.n ≤ 1099511627776) {Q : Unit → Heap → Prop}
    (hq : ∀ H' ss', ZR e1 H' b (rcome z k th to) st ss' → Bh (fp b st ss) H (fp b st ss') H' → Q () H') : CALL P [] n_ref17_Zones_come [ad b, .int .i64 n, .int .u8 to] H Q := by
  subst hn
  apply c_ref17_Zones_come
  unfold S_ref17_Zones_come
  have hkl := (List.getElem?_eq_some_iff.1 hk).1
  have htl := h.tl
  unfold rcome putT at hq
  refine h.ld_t rfl ?_
  rw [i64w (by omega) (by omega)]
  refine h.ld_o (k := k) (by omega) hk ?_
  have hA : 0 ≤ th.Owner ∧ th.Owner < 2 := by omega
  have q1 : th.Owner.toNat < 4 := by omega
  have q2 : 2 + th.Owner.toNat < 4 := by omega
  refine ⟨hA, h.ld_q q1 (by omega) (without_c (h.l _ q1).slf (hl _ q1) fun s1 H1 sp1 n1 => ⟨hA, ?_⟩)⟩
  refine h.pq q1 n1.1.j (newmv n1 _) (n1.2.2.mono (by simp)) (by omega) fun H2 h2 b2 => ?_
  have l2q : (upd z.l th.Owner.toNat ((z.l th.Owner.toNat).filter (· != (k : Int) + 1))) (2 + th.Owner.toNat) = z.l (2 + th.Owner.toNat) := upd_ne _ _ (by omega)
  have ow2 := h2.l _ q2
  simp only [l2q] at ow2
  refine ⟨hA, h2.ld_q q2 (by omega) (without_c ow2.slf (hl _ q2) fun s3 H3 sp3 n3 => ⟨hA, ?_⟩)⟩
  refine h2.pq q2 n3.1.j (newmv n3 _) (n3.2.2.mono (by simp)) (by omega) fun H4 h4 b4 => ?_
  generalize hss4 : upd (upd ss th.Owner.toNat s1) (2 + th.Owner.toNat) s3 = ss4 at h4 b4
  have b04 := b2.trans b4
  generalize hl1 : upd (upd z.l th.Owner.toNat ((z.l th.Owner.toNat).filter (· != (k : Int) + 1))) (2 + th.Owner.toNat) ((z.l (2 + th.Owner.toNat)).filter (· != (k : Int) + 1)) = l1 at h4 hq
  have hll1 : ∀ q, q < 4 → (l1 q).length ≤ 4096 := fun q hq4 => by
    rw [← hl1]
    unfold upd
    split
    · have := List.length_filter_le (· != (k : Int) + 1) (z.l (2 + th.Owner.toNat)); have := hl _ q2; omega
    · split
      · have := List.length_filter_le (· != (k : Int) + 1) (z.l th.Owner.toNat); have := hl _ q1; omega
      · exact hl q hq4
  refine h4.ld_t rfl ?_
  refine h4.ld_th (k := k) (by omega) hk (rhome_c th ?_)
  refine JOIN_inv (fun y H6 => ∃ ss', ZR e1 H6 b { z with l := intoL l1 k th.Owner to, n := if to = 4 then z.n + 1 else z.n } st ss' ∧ Bh (fp b st ss) H (fp b st ss') H6 ∧ y.2.1 = if to = 4 then { homeT th with Place := to, Stamp := z.n, Fresh := true } else { homeT th with Place := to }) (fun j hj => ?_) ?_
  · refine ifB_of (fun t1 => ?_) (fun t1 => ?_)
    · have t1 : to = 1 := by simpa using t1
      subst t1
      have eli : li th.Owner 1 = some th.Owner.toNat := rfl
      have hb5 := hll1 _ q1
      refine ⟨hA, h4.ld_q q1 (by omega) (h4.ld_q q1 (by omega) ⟨rfl, ?_⟩)⟩
      refine appJ_c KInts.tyS rfl (fun _ => by simp) (m := 1) [(k : Int) + 1] rfl rfl (by show 2 * ((l1 th.Owner.toNat).length + 1) * 4096 ≤ _; omega) (h4.l _ q1) fun s5 H5 m1 m2 m3 => ⟨hA, ?_⟩
      refine h4.pq q1 m1 (mvp m2) (aft m3) (by omega) fun H6 p1 p2 => hj _ _ ⟨_, ?_, b04.trans p2, rfl⟩
      rw [intoL_some eli]; exact p1
    · have t1 : to ≠ 1 := by simpa using t1
      refine JOIN_of (ifB_of (fun t2 => ?_) (fun t2 => ?_))
      · have t2 : to = 2 := by simpa using t2
        subst t2
        have eli : li th.Owner 2 = some (2 + th.Owner.toNat) := rfl
        have hb5 := hll1 _ q2
        refine ⟨hA, h4.ld_q q2 (by omega) (h4.ld_q q2 (by omega) ⟨rfl, ?_⟩)⟩
        refine appJ_c KInts.tyS rfl (fun _ => by simp) (m := 1) [(k : Int) + 1] rfl rfl (by show 2 * ((l1 (2 + th.Owner.toNat)).length + 1) * 4096 ≤ _; omega) (h4.l _ q2) fun s5 H5 m1 m2 m3 => ⟨hA, ?_⟩
        refine h4.pq q2 m1 (mvp m2) (aft m3) (by omega) fun H6 p1 p2 => hj _ _ ⟨_, ?_, b04.trans p2, rfl⟩
        rw [intoL_some eli]; exact p1
      · have t2 : to ≠ 2 := by simpa using t2
        have eli : li th.Owner to = none := by simp [li, t1, t2]
        rw [intoL_none eli] at hj
        refine JOIN_of (ifB_of (fun t4 => ?_) (fun t4 => ?_))
        · have t4 : to = 4 := by simpa using t4
          subst t4
          refine h4.ld_n rfl (h4.ld_n rfl ?_)
          rw [i64w (by simp only; omega) (by simp only; omega)]
          exact h4.pn rfl fun H6 p1 p2 => hj _ _ ⟨ss4, p1, b04.trans p2, rfl⟩
        · have t4 : to ≠ 4 := by simpa using t4
          refine hj _ _ ⟨ss4, ?_, b04, ?_⟩
          · rw [if_neg t4]; exact h4
          · rw [if_neg t4]
  · rintro ⟨_, t6, _⟩ H6 ⟨ss6, h6, b6, ht6⟩
    simp only at ht6
    refine h6.ld_t rfl ?_
    obtain ⟨c, A, B, hp, hA', hrow, hb⟩ := h6.at (k := k) (th := th) hk
    refine idx_of hp (n := k) (by omega) (by omega) (st_all hrow (by omega) t6 fun H7 r7 f7 => ?_)
    have h7 := hb _ H7 r7 f7
    have b7 : Bh (fp b st ss6) H6 (fp b st ss6) H7 := ⟨f7.mono fun d hd => mem_fp.2 (.inr (.inl (by rw [hp]; simpa [bl] using hd))), fun _ h => .inl h⟩
    refine hq H7 ss6 ?_ (b6.trans b7)
    by_cases t4 : to = 4
    · rw [if_pos t4] at ht6 h7 ⊢
      rw [ht6] at h7
      exact h7
    · rw [if_neg t4] at ht6 h7 ⊢
      rw [ht6] at h7
      exact h7
end
end

section
/- What the document's zones do: the calls. -/
open Zv
section
variable {H : Heap} {b : Nat} {z : Zo} {st : Sl} {ss : Nat → Sl}
theorem rmove_c (h : ZR e1 H b z st ss) (hi : InvZ z) {n to : Int} {Q : Int × Unit → Heap → Prop}
    (hq : ∀ H' ss', ZR e1 H' b (moveZ rcome z n to).2 st ss' → Bh (fp b st ss) H (fp b st ss') H' → Q ((moveZ rcome z n to).1, ()) H') : CALL P [TN] n_ref17_Zones_Move [ad b, .int .i64 n, .int .u8 to] H Q := by
  apply c_ref17_Zones_Move
  unfold S_ref17_Zones_Move
  have few := hi.few
  have hn1 := hi.n1
  have hn2 := hi.n2
  have htl := h.tl
  refine rnone_c h (ifB_f rfl (rthere_c h ?_))
  unfold moveZ at hq
  rcases getT_cases z n with ⟨h1, eq⟩ | ⟨k, t, rfl, hk, eq⟩
  · rw [eq] at hq ⊢
    exact ifB_t rfl (hq H ss h (.refl _ _))
  · rw [eq] at hq ⊢
    have hkl := (List.getElem?_eq_some_iff.1 hk).1
    simp only [Option.elim_some, show ((k : Int) + 1 - 1).toNat = k by omega] at hq
    refine ifB_f rfl ?_
    have ho := (hi.th t (List.mem_of_getElem? hk)).1
    refine JB (H := H) (to < 1 ∨ 5 < to) (fun j hj => ifB_of (fun h1 => hj _ ?_) (fun h1 => hj _ ?_)) fun r hr => ifB_of (fun h1 => ?_) (fun h1 => ?_)
    · have := of_decide_eq_true h1; simp; omega
    · have := of_decide_eq_false h1; simp; omega
    · rw [if_pos (hr.1 h1)] at hq
      exact hq H ss h (.refl _ _)
    have c1 : ¬ (to < 1 ∨ 5 < to) := fun q => by rw [hr.2 q] at h1; cases h1
    rw [if_neg c1] at hq
    refine h.ld_t rfl ?_
    rw [i64w (by omega) (by omega)]
    refine h.ld_th (k := k) (by omega) hk ?_
    refine JB (H := H) (to = 2 ∧ t.Place ≠ 2 ∧ 10 ≤ (z.l (2 + t.Owner.toNat)).length) (fun j hj => ifB_of (fun h2 => ifB_of (fun h3 => ?_) (fun h3 => hj _ ?_)) (fun h2 => hj _ ?_)) fun r hr => ifB_of (fun h2 => ?_) (fun h2 => ?_)
    · refine ⟨⟨by show 0 ≤ t.Owner; omega, by show t.Owner < 2; omega⟩, h.ld_q (q := 2 + t.Owner.toNat) (by omega) (by show 0 + 3 + t.Owner.toNat * 1 = _; omega) (hj _ ?_)⟩
      have := h.ql (q := 2 + t.Owner.toNat) (by omega)
      have h2 : to = 2 := by simpa using h2
      have h3 : t.Place ≠ 2 := by simpa using h3
      rw [this]; simp [h2, h3]; omega
    · have h3 : t.Place = 2 := by simpa using h3
      simp [h3]
    · have h2 : to ≠ 2 := by simpa using h2
      simp [h2]
    · rw [if_pos (hr.1 h2)] at hq
      exact hq H ss h (.refl _ _)
    rw [if_neg (fun q => by rw [hr.2 q] at h2; cases h2)] at hq
    refine JB (H := H) (to = 4 ∧ (1099511627776 ≤ z.n ∨ t.Place ≠ 4 ∧ 8 ≤ own z t.Owner)) (fun j hj => ifB_of (fun h3 => ?_) (fun h3 => hj _ ?_)) fun r hr => ifB_of (fun h3 => ?_) (fun h3 => ?_)
    · have h3 : to = 4 := by simpa using h3
      refine ifB_of (fun h5 => rowned_c h (by omega) (ifB_of (fun h4 => hj _ ?_) (fun h4 => h.ld_n rfl (hj _ ?_)))) (fun h5 => h.ld_n rfl (hj _ ?_))
      · have h5 : t.Place ≠ 4 := by simpa using h5
        have := of_decide_eq_true h4; simp [h3, h5]; simp at this; omega
      · have h5 : t.Place ≠ 4 := by simpa using h5
        have := of_decide_eq_false h4; simp at this; simp [h3, h5]; omega
      · have h5 : t.Place = 4 := by simpa using h5
        simp [h3, h5]
    · have h3 : to ≠ 4 := by simpa using h3
      simp [h3]
    · rw [if_pos (hr.1 h3)] at hq
      exact hq H ss h (.refl _ _)
    rw [if_neg (fun q => by rw [hr.2 q] at h3; cases h3)] at hq
    exact rcome_c h hk ho rfl (fun q _ => by have := hi.len q; omega) (by omega) (by omega) (by omega) fun H' ss' g1 g2 => hq H' ss' g1 g2

theorem rmake_c (h : ZR e1 H b z st ss) (hi : InvZ z) {card p : Int} {Q : Int × Int × Unit → Heap → Prop}
    (hq : ∀ H' st' ss', ZR e1 H' b (makeZ rcome 5 z card p).2.2 st' ss' → Bh (fp b st ss) H (fp b st' ss') H' → Q ((makeZ rcome 5 z card p).1, (makeZ rcome 5 z card p).2.1, ()) H') : CALL P [TN, TN] n_ref17_Zones_Make [ad b, .int .i64 card, .int .i64 p] H Q := by
  apply c_ref17_Zones_Make
  unfold S_ref17_Zones_Make
  have few := hi.few
  have hn1 := hi.n1
  have hn2 := hi.n2
  have htl := h.tl
  unfold makeZ at hq
  refine rnone_c h (ifB_f rfl ?_)
  refine JB (H := H) (card < 1 ∨ ¬ (p = 0 ∨ p = 1)) (fun j hj => ifB_of (fun h1 => hj _ ?_) (fun h1 => rowner_c fun r hr => hj _ ?_)) fun r hr => ifB_of (fun h1 => ?_) (fun h1 => ?_)
  · have := of_decide_eq_true h1; simp; omega
  · have := of_decide_eq_false h1
    cases r
    · simp at hr; simp; omega
    · simp at hr; simp; omega
  · rw [if_pos (hr.1 h1)] at hq
    exact hq H st ss h (.refl _ _)
  have c1 : ¬ (card < 1 ∨ ¬ (p = 0 ∨ p = 1)) := fun q => by rw [hr.2 q] at h1; cases h1
  rw [if_neg c1] at hq
  refine JB (H := H) (2048 ≤ z.t.length ∨ 8 ≤ own z p ∨ 1099511627776 ≤ z.n) (fun j hj => h.ld_t rfl (ifB_of (fun h2 => hj _ ?_) (fun h2 => rowned_c h (by omega) (ifB_of (fun h3 => hj _ ?_) (fun h3 => h.ld_n rfl (hj _ ?_)))))) fun r hr => ifB_of (fun h2 => ?_) (fun h2 => ?_)
  · have := of_decide_eq_true h2; simp; omega
  · have := of_decide_eq_true h3; simp at this; simp; omega
  · have := of_decide_eq_false h2; have := of_decide_eq_false h3; simp at this; simp; omega
  · rw [if_pos (hr.1 h2)] at hq
    exact hq H st ss h (.refl _ _)
  have c2 : ¬ (2048 ≤ z.t.length ∨ 8 ≤ own z p ∨ 1099511627776 ≤ z.n) := fun q => by rw [hr.2 q] at h2; cases h2
  rw [if_neg c2] at hq
  refine h.ld_t rfl (appJ_c KThings.tyS rfl (fun _ => by simp) (m := 1) [newT card p 5] rfl rfl (by show 2 * (z.t.length + 1) * 4096 ≤ _; omega) h.t fun s5 H5 m1 m2 m3 => ?_)
  refine h.pt m1 (mvp m2) (aft m3) rfl fun H7 h7 b7 => ?_
  refine h7.ld_t rfl ?_
  have hl5 : s5.len = z.t.length + 1 := by have := m1.1; simpa using this
  have hk : (plus z (newT card p 5)).t[z.t.length]? = some (newT card p 5) := by simp [plus]
  refine rcome_c (z := plus z (newT card p 5)) h7 hk (by show p = 0 ∨ p = 1; omega) (by rw [hl5]; simp) (fun q _ => by have := hi.len q; show (z.l q).length ≤ _; omega) (by simp [plus]; omega) (by show 0 ≤ z.n; omega) (by show z.n ≤ _; omega) fun H8 ss8 h8 b8 => ?_
  refine h8.ld_t rfl ?_
  rw [hl5, show ((z.t.length + 1 : Nat) : Int) = (z.t.length : Int) + 1 by omega]
  exact hq H8 s5 ss8 h8 (b7.trans b8)

theorem marked_c {t : Th} {Q : Bool × Unit → Heap → Prop} (hq : ∀ (r : Bool) H', (r = true ↔ okMs t.Marks) → Frs [] H H' → Q (r, ()) H') : CALL P [T_bool] n_ref17_marked [TT.enc t] H Q := by
  apply c_ref17_marked
  unfold S_ref17_marked NEW
  have hfr : Frs [] H (mk H (TT.cells t) 11 false) := Frs.app _ _ _
  have hrow : (mk H (TT.cells t) 11 false)[H.length]? = some (.row (TT.cells t) 11 false false true) := by simp [mk]
  have hm : ∀ n : Nat, n < 4 → ∃ x, (∀ k : Int → Prop, k x → LD TN (mk H (TT.cells t) 11 false) H.length (5 + ((n : Nat) : Int).toNat * 1) k) ∧ [t.Marks.1, t.Marks.2.1, t.Marks.2.2.1, t.Marks.2.2.2][n]? = some x := by
    intro n hn
    rcases lt4 hn with rfl | rfl | rfl | rfl
    · exact ⟨t.Marks.1, fun k hk => LD_of (T := TN) _ ((TT.cells t).take 5) ((TT.cells t).drop 6) hrow rfl rfl rfl hk, rfl⟩
    · exact ⟨t.Marks.2.1, fun k hk => LD_of (T := TN) _ ((TT.cells t).take 6) ((TT.cells t).drop 7) hrow rfl rfl rfl hk, rfl⟩
    · exact ⟨t.Marks.2.2.1, fun k hk => LD_of (T := TN) _ ((TT.cells t).take 7) ((TT.cells t).drop 8) hrow rfl rfl rfl hk, rfl⟩
    · exact ⟨t.Marks.2.2.2, fun k hk => LD_of (T := TN) _ ((TT.cells t).take 8) ((TT.cells t).drop 9) hrow rfl rfl rfl hk, rfl⟩
  have all4 : okMs t.Marks ↔ ∀ x ∈ [t.Marks.1, t.Marks.2.1, t.Marks.2.2.1, t.Marks.2.2.2], okM x := by simp [okMs]
  refine JOIN_of ?_
  refine loop_of (fun (s : (Int × Unit) × Unit) H' => H' = mk H (TT.cells t) 11 false ∧ ∃ n : Nat, s.1.1 = n ∧ n ≤ 4 ∧ ∀ x ∈ [t.Marks.1, t.Marks.2.1, t.Marks.2.2.1, t.Marks.2.2.2].take n, okM x) (fun s => 4 - s.1.1.toNat) ?_ ⟨rfl, 0, rfl, Nat.zero_le _, by simp⟩
  rintro G ⟨⟨i, _⟩, _⟩ H' ⟨rfl, n, hi, hn, hx⟩ hG
  simp only at hi; subst hi
  dsimp only at hG ⊢
  refine ifB_of (fun hlt => ?_) (fun hge => ?_)
  · have hlt : n < 4 := by have := of_decide_eq_true hlt; omega
    obtain ⟨x, g1, g2⟩ := hm n hlt
    refine JB (H := mk H (TT.cells t) 11 false) (¬ okM x) (fun j hj => ⟨⟨by omega, by omega⟩, g1 _ (ifB_of (fun h1 => hj _ ?_) (fun h1 => ⟨⟨by omega, by omega⟩, g1 _ (hj _ ?_)⟩))⟩) fun r hr => ifB_of (fun h1 => ?_) (fun h1 => ?_)
    · have := of_decide_eq_true h1; simp [okM]; omega
    · have := of_decide_eq_false h1; simp [okM]; omega
    · refine hq false _ ⟨fun h => (by cases h), fun h => ?_⟩ hfr
      exact absurd (all4.1 h x (List.mem_of_getElem? g2)) (hr.1 h1)
    · rw [i64w (by omega) (by omega)]
      have hx1 : okM x := Classical.byContradiction fun q => by rw [hr.2 q] at h1; cases h1
      refine hG _ _ ⟨rfl, n + 1, by simp, hlt, fun y hy => ?_⟩ (by simp; omega)
      obtain ⟨g3, g4⟩ := List.getElem?_eq_some_iff.1 g2
      rw [List.take_succ_eq_append_getElem g3, List.mem_append, List.mem_singleton] at hy
      rcases hy with q | q
      · exact hx y q
      · rw [q, g4]; exact hx1
  · have hge : n = 4 := by have := of_decide_eq_false hge; omega
    subst hge
    exact hq true _ ⟨fun _ => all4.2 (by simpa using hx), fun _ => rfl⟩ hfr

theorem rwrite_c (h : ZR e1 H b z st ss) (hi : InvZ z) {n : Int} {t : Th} {Q : Int × Unit → Heap → Prop}
    (hq : ∀ H', ZR e1 H' b (writeZ z n t).2 st ss → Bh (fp b st ss) H (fp b st ss) H' → Q ((writeZ z n t).1, ()) H') : CALL P [TN] n_ref17_Zones_Write [ad b, .int .i64 n, TT.enc t] H Q := by
  apply c_ref17_Zones_Write
  unfold S_ref17_Zones_Write
  have htl := h.tl
  have few := hi.few
  refine rnone_c h (ifB_f rfl (rthere_c h ?_))
  unfold writeZ at hq
  rcases getT_cases z n with ⟨h1, eq⟩ | ⟨k, o, rfl, hk, eq⟩
  · rw [eq] at hq ⊢
    exact ifB_t rfl (hq H h (.refl _ _))
  · rw [eq] at hq ⊢
    have hkl := (List.getElem?_eq_some_iff.1 hk).1
    simp only [Option.elim_some, show ((k : Int) + 1 - 1).toNat = k by omega] at hq
    refine ifB_f rfl (h.ld_t rfl ?_)
    rw [i64w (by omega) (by omega)]
    refine h.ld_th (k := k) (by omega) hk ?_
    refine JOIN_inv (fun y H' => ((y : (Bool × Unit) × Unit).1.1 = true ↔ ¬ okW o t) ∧ Frs [] H H') (fun j hj => ?_) ?_
    · refine ifB_of (fun w1 => hj _ _ ⟨?_, .refl _ _⟩) (fun w1 => ifB_of (fun w2 => hj _ _ ⟨?_, .refl _ _⟩) (fun w2 => ifB_of (fun w3 => hj _ _ ⟨?_, .refl _ _⟩) (fun w3 => ifB_of (fun w4 => hj _ _ ⟨?_, .refl _ _⟩) (fun w4 => ifB_of (fun w5 => hj _ _ ⟨?_, .refl _ _⟩) (fun w5 => ifB_of (fun w6 => hj _ _ ⟨?_, .refl _ _⟩) (fun w6 => ifB_of (fun w7 => hj _ _ ⟨?_, .refl _ _⟩) (fun w7 => marked_c fun r H4 hr fr => hj _ _ ⟨?_, fr⟩)))))))
      · have : o.Place ≠ 4 := by simpa using w1
        simp [okW, this]
      · have : t.Card ≠ o.Card := by simpa using w2
        simp [okW, this]
      · have : t.Owner ≠ o.Owner := by simpa using w3
        simp [okW, this]
      · have : t.Place ≠ o.Place := by simpa using w4
        simp [okW, this]
      · have : t.Stamp ≠ o.Stamp := by simpa using w5
        simp [okW, this]
      · have : ¬ (0 ≤ t.Hurt) := by simpa using w6
        simp only [okW, this, true_iff]; simp
      · have : ¬ (0 ≤ t.Done) := by simpa using w7
        simp only [okW, this, true_iff]; simp
      · have w1 : o.Place = 4 := by simpa using w1
        have w2 : t.Card = o.Card := by simpa using w2
        have w3 : t.Owner = o.Owner := by simpa using w3
        have w4 : t.Place = o.Place := by simpa using w4
        have w5 : t.Stamp = o.Stamp := by simpa using w5
        have w6 : 0 ≤ t.Hurt := by simpa using w6
        have w7 : 0 ≤ t.Done := by simpa using w7
        have : okW o t ↔ okMs t.Marks := ⟨fun q => q.2.2.2.2.2.2.2, fun q => ⟨w1, w2, w3, w4, w5, w6, w7, q⟩⟩
        rw [this, ← hr]; cases r <;> simp
    · rintro ⟨⟨r, _⟩, _⟩ H3 ⟨hr, fr⟩
      simp only at hr
      have h3 := h.new fr
      refine ifB_of (fun h1 => ?_) (fun h1 => ?_)
      · rw [if_neg (hr.1 h1)] at hq
        exact hq H3 h3 (.new fr)
      · have hw : okW o t := Classical.byContradiction fun q => by have := hr.2 q; simp only at h1; rw [this] at h1; cases h1
        rw [if_pos hw] at hq
        refine h3.ld_t rfl ?_
        obtain ⟨c, A, B, hp, hA, hrow, hb⟩ := h3.at hk
        refine idx_of hp (n := k) (by omega) (by omega) (st_all hrow (by omega) t fun H4 r4 f4 => ?_)
        exact hq H4 (hb t H4 r4 f4) ((Bh.new fr).trans ⟨f4.mono fun d hd => mem_fp.2 (.inr (.inl (by rw [hp]; simpa [bl] using hd))), fun _ h => .inl h⟩)

theorem ints_c {a : Sl} {l : List Int} (ha : SlF TN H a l) (hl : l.length ≤ 1048600) {Q : Sl × Unit → Heap → Prop} (hq : ∀ s' H' sp, NewO TN H s' H' l sp → Q (s', ()) H') : CALL P [T_sl] n_ref17_ints [a.v] H Q := by
  apply c_ref17_ints
  unfold S_ref17_ints
  exact copy_g KInts.tyS rfl (fun _ => by simp) ha hl hq

/-- A list holds each thing of an owner's in a place, once, and nothing else. -/
def At (z : Zo) (p pl m : Int) : Prop := ∃ (k : Nat) (t : Th), m = (k : Int) + 1 ∧ z.t[k]? = some t ∧ t.Owner = p ∧ t.Place = pl
def Holds (z : Zo) (l : List Int) (p pl : Int) : Prop := l.Nodup ∧ ∀ m, m ∈ l ↔ At z p pl m

theorem tyB : TyS E T_bool 99 false := ⟨⟨_, _, _, rfl, rfl, rfl, rfl, by decide, by decide, rfl⟩, by decide, fun _ => rfl, fun _ => rfl⟩
theorem holds_c (h : ZR e1 H b z st ss) (ht : z.t.length ≤ 4096) {a : Sl} {l : List Int} (ha : SlF TN H a l) (hl : l.length ≤ 1048600) {p pl : Int} {Q : Bool × Unit → Heap → Prop} (hq : ∀ (r : Bool) H', (r = true ↔ Holds z l p pl) → Frs [] H H' → Q (r, ()) H') : CALL P [T_bool] n_ref17_Zones_holds [ad b, a.v, .int .i64 p, .int .u8 pl] H Q := by
  apply c_ref17_Zones_holds
  unfold S_ref17_Zones_holds
  have htl := h.tl
  have hal := ha.1
  refine h.ld_t rfl ?_
  rw [i64w (by omega) (by omega)]
  refine make_c (n := z.t.length + 1) (m := z.t.length + 1) tyB (by rw [htl]; simp) (by rw [htl]; simp) (Nat.le_refl _) (by omega) fun s4 e4 n4 => ?_
  refine JOIN_inv (fun _ H' => ∃ met sp, NewO T_bool H s4 H' met sp ∧ met.length = z.t.length + 1 ∧ (∀ m : Nat, met[m]? = some true ↔ (m : Int) ∈ l) ∧ l.Nodup ∧ ∀ x ∈ l, At z p pl x) (fun j hj => ?_) ?_
  · refine loop_of (fun (s : (Int × Unit) × Unit) H' => ∃ (n : Nat) (met sp : List Bool), s.1.1 = n ∧ n ≤ l.length ∧ NewO T_bool H s4 H' met sp ∧ met.length = z.t.length + 1 ∧ (∀ m : Nat, met[m]? = some true ↔ (m : Int) ∈ l.take n) ∧ (l.take n).Nodup ∧ ∀ x ∈ l.take n, At z p pl x) (fun s => l.length - s.1.1.toNat) ?_ ⟨0, _, _, rfl, Nat.zero_le _, n4, by simp, fun m => by simp [List.getElem?_replicate], by simp, by simp⟩
    rintro G ⟨⟨i, _⟩, _⟩ H' ⟨n, met, sp, hi, hn, n1, ml, mm, nd, hat⟩ hG
    simp only at hi; subst hi
    dsimp only at hG ⊢
    have h' := h.new n1.2.2
    have ha' := ha.frs n1.2.2 (by simp)
    refine ifB_of (fun hlt => ?_) (fun hge => ?_)
    · have hlt : n < l.length := by have := of_decide_eq_true hlt; omega
      have hx : l[n]? = some l[n] := List.getElem?_eq_getElem hlt
      refine idx_ldF (T := TN) hTN ha' rfl hx rfl ?_
      have tks : l.take (n + 1) = l.take n ++ [l[n]] := List.take_succ_eq_append_getElem hlt
      have hmem : l[n] ∈ l.take (n + 1) := by rw [tks]; exact List.mem_append_right _ (List.mem_singleton.2 rfl)
      have hmeml : l[n] ∈ l := List.getElem_mem hlt
      refine JB (H := H') (l[n] < 1 ∨ (z.t.length : Int) < l[n] ∨ l[n] ∈ l.take n) (fun j2 hj2 => ifB_of (fun h1 => hj2 _ ?_) (fun h1 => h'.ld_t rfl (ifB_of (fun h2 => hj2 _ ?_) (fun h2 => ?_)))) fun r hr => ifB_of (fun h1 => ?_) (fun h1 => ?_)
      · have := of_decide_eq_true h1; simp; omega
      · have := of_decide_eq_true h2; simp; omega
      · have h1 := of_decide_eq_false h1
        have h2 := of_decide_eq_false h2
        have hb : l[n].toNat < met.length := by omega
        refine idx_ldF (T := T_bool) (fun _ => rfl) n1.1.slf (n := l[n].toNat) (by omega) (List.getElem?_eq_getElem hb) rfl (hj2 _ ?_)
        have := mm l[n].toNat
        rw [List.getElem?_eq_getElem hb] at this
        rw [show ((l[n].toNat : Nat) : Int) = l[n] by omega] at this
        simp only [Option.some.injEq] at this
        rw [this]
        constructor
        · intro q; exact .inr (.inr q)
        · rintro (q | q | q)
          · omega
          · omega
          · exact q
      · refine hq false _ ⟨fun q => (by cases q), fun q => ?_⟩ n1.2.2
        rcases hr.1 h1 with q1 | q1 | q1
        · obtain ⟨k, t, e, _⟩ := (q.2 _).1 hmeml; omega
        · obtain ⟨k, t, e, e2, _⟩ := (q.2 _).1 hmeml
          have := (List.getElem?_eq_some_iff.1 e2).1
          omega
        · have := q.1.sublist (List.take_sublist (n + 1) l)
          rw [tks, List.nodup_append] at this
          exact absurd rfl (this.2.2 _ q1 _ (by simp))
      have hok : ¬ (l[n] < 1 ∨ (z.t.length : Int) < l[n] ∨ l[n] ∈ l.take n) := fun q => by rw [hr.2 q] at h1; cases h1
      have hk1 : 1 ≤ l[n] := by omega
      have hk2 : l[n].toNat - 1 < z.t.length := by omega
      have hnin : l[n] ∉ l.take n := fun q => hok (.inr (.inr q))
      generalize hkd : l[n].toNat - 1 = k at hk2
      have hkx : l[n] = (k : Int) + 1 := by omega
      have hk : z.t[k]? = some z.t[k] := List.getElem?_eq_getElem hk2
      rw [i64w (x := l[n] - 1) (by omega) (by omega)]
      refine JB (H := H') (¬ (z.t[k].Owner = p ∧ z.t[k].Place = pl)) (fun j2 hj2 => h'.ld_t rfl (h'.ld_o (k := k) (by omega) hk (ifB_of (fun h1 => hj2 _ ?_) (fun h1 => h'.ld_t rfl (h'.ld_p (k := k) (by omega) hk (hj2 _ ?_)))))) fun r hr => ifB_of (fun h2 => ?_) (fun h2 => ?_)
      · have : z.t[k].Owner ≠ p := by simpa using h1
        simp [this]
      · have : z.t[k].Owner = p := by simpa using h1
        simp [this]
      · refine hq false _ ⟨fun q => (by cases q), fun q => ?_⟩ n1.2.2
        obtain ⟨k', t, e, e2, e3, e4⟩ := (q.2 _).1 hmeml
        have : k' = k := by omega
        subst this
        rw [hk] at e2; cases e2
        exact absurd ⟨e3, e4⟩ (hr.1 h2)
      · have hown : z.t[k].Owner = p ∧ z.t[k].Place = pl := Classical.byContradiction fun q => by rw [hr.2 q] at h2; cases h2
        refine n1.1.st (T := T_bool) (fun _ => rfl) (fun _ => rfl) (k := k + 1) (by omega) (by omega) true rfl fun H6 k1 k2 k3 => ?_
        rw [i64w (by omega) (by omega)]
        refine hG _ _ ⟨n + 1, met.set (k + 1) true, sp, by simp, hlt, ⟨k1, n1.2.1, own_frs n1.1 n1.2.1 n1.2.2 k2⟩, by simpa using ml, fun m => ?_, ?_, fun x hx => ?_⟩ (by simp; omega)
        · rw [tks, List.mem_append, List.mem_singleton]
          by_cases e : m = k + 1
          · subst e
            rw [List.getElem?_set_self (by omega)]
            simp [hkx]
          · rw [List.getElem?_set_ne (Ne.symm e), mm]
            constructor
            · exact fun q => .inl q
            · rintro (q | q)
              · exact q
              · omega
        · rw [tks, List.nodup_append]
          refine ⟨nd, by simp, fun a ha b hb => ?_⟩
          simp at hb; subst hb
          rintro rfl; exact hnin ha
        · rw [tks, List.mem_append, List.mem_singleton] at hx
          rcases hx with q | rfl
          · exact hat x q
          · exact ⟨k, z.t[k], hkx, hk, hown⟩
    · have hge : n = l.length := by have := of_decide_eq_false hge; omega
      subst hge
      rw [List.take_length] at mm nd hat
      exact hj _ _ ⟨met, sp, n1, ml, mm, nd, hat⟩
  · rintro _ H2 ⟨met, sp, n1, ml, mm, nd, hat⟩
    have h' := h.new n1.2.2
    refine JOIN_of ?_
    refine loop_of (fun (s : (Int × Unit) × Unit) H' => H' = H2 ∧ ∃ n : Nat, s.1.1 = (n : Int) + 1 ∧ n ≤ z.t.length ∧ ∀ k, k < n → At z p pl ((k : Int) + 1) → (k : Int) + 1 ∈ l) (fun s => z.t.length + 1 - s.1.1.toNat) ?_ ⟨rfl, 0, rfl, Nat.zero_le _, fun k hk => by omega⟩
    rintro G ⟨⟨i, _⟩, _⟩ H' ⟨rfl, n, hi, hn, hx⟩ hG
    simp only at hi; subst hi
    dsimp only at hG ⊢
    refine h'.ld_t rfl (ifB_of (fun hlt => ?_) (fun hge => ?_))
    · have hlt : n < z.t.length := by have := of_decide_eq_true hlt; omega
      have hk : z.t[n]? = some z.t[n] := List.getElem?_eq_getElem hlt
      rw [i64w (x := (n : Int) + 1 - 1) (by omega) (by omega)]
      have hat1 : At z p pl ((n : Int) + 1) ↔ z.t[n].Owner = p ∧ z.t[n].Place = pl := by
        constructor
        · rintro ⟨k, t, e, e2, e3⟩
          have : k = n := by omega
          subst this; rw [hk] at e2; cases e2; exact e3
        · exact fun q => ⟨n, z.t[n], rfl, hk, q⟩
      refine JB (H := H') (At z p pl ((n : Int) + 1) ∧ (n : Int) + 1 ∉ l) (fun j2 hj2 => h'.ld_t rfl (h'.ld_o (k := n) (by omega) hk (ifB_of (fun h1 => h'.ld_t rfl (h'.ld_p (k := n) (by omega) hk (ifB_of (fun h2 => ?_) (fun h2 => hj2 _ ?_)))) (fun h1 => hj2 _ ?_)))) fun r hr => ifB_of (fun h2 => ?_) (fun h2 => ?_)
      · have h1 : z.t[n].Owner = p := by simpa using h1
        have h2 : z.t[n].Place = pl := by simpa using h2
        have hb : n + 1 < met.length := by omega
        refine idx_ldF (T := T_bool) (fun _ => rfl) n1.1.slf (n := n + 1) (by simp) (List.getElem?_eq_getElem hb) rfl (hj2 _ ?_)
        have := mm (n + 1)
        rw [List.getElem?_eq_getElem hb] at this
        simp only [Option.some.injEq] at this
        rw [hat1]
        simp only [h1, h2, true_and, and_self]
        rw [show ((n + 1 : Nat) : Int) = (n : Int) + 1 by simp] at this
        rw [← this]; cases met[n + 1] <;> simp
      · have h2 : z.t[n].Place ≠ pl := by simpa using h2
        rw [hat1]; simp [h2]
      · have h1 : z.t[n].Owner ≠ p := by simpa using h1
        rw [hat1]; simp [h1]
      · refine hq false _ ⟨fun q => (by cases q), fun q => ?_⟩ n1.2.2
        have := hr.1 h2
        exact absurd ((q.2 _).2 this.1) this.2
      · rw [i64w (by omega) (by omega)]
        refine hG _ _ ⟨rfl, n + 1, by simp, hlt, fun k hk2 hat2 => ?_⟩ (by simp; omega)
        by_cases e : k = n
        · subst e
          exact Classical.byContradiction fun q => by rw [hr.2 ⟨hat2, q⟩] at h2; cases h2
        · exact hx k (by omega) hat2
    · have hge : n = z.t.length := by have := of_decide_eq_false hge; omega
      subst hge
      refine hq true _ ⟨fun _ => ⟨nd, fun m => ⟨hat m, fun q => ?_⟩⟩, fun _ => rfl⟩ n1.2.2
      obtain ⟨k, t, rfl, e2, e3⟩ := q
      exact hx k (List.getElem?_eq_some_iff.1 e2).1 ⟨k, t, rfl, e2, e3⟩

theorem At_li {z : Zo} (h : InvZ z) {p m : Int} (hp : p = 0 ∨ p = 1) : At z p 1 m ↔ m ∈ z.l p.toNat := by
  rw [h.mem]
  constructor
  · rintro ⟨k, t, e, e2, e3, e4⟩
    exact ⟨k, t, e, e2, by simp [li, e3, e4]⟩
  · rintro ⟨k, t, e, e2, e3⟩
    have ho := (h.th t (List.mem_of_getElem? e2)).1
    refine ⟨k, t, e, e2, ?_⟩
    unfold li at e3
    split at e3
    · rename_i e4; simp at e3; exact ⟨by omega, e4⟩
    · split at e3
      · simp at e3; omega
      · cases e3
theorem holds_perm {z : Zo} (h : InvZ z) {l : List Int} {p : Int} (hp : p = 0 ∨ p = 1) : Holds z l p 1 ↔ l.Perm (z.l p.toNat) := by
  constructor
  · rintro ⟨h1, h2⟩
    rw [List.perm_ext_iff_of_nodup h1 (h.nd _)]
    intro m; rw [h2, At_li h hp]
  · intro hp'
    refine ⟨hp'.symm.nodup (h.nd _), fun m => ?_⟩
    rw [hp'.mem_iff, At_li h hp]

theorem rarr_c (h : ZR e1 H b z st ss) (hi : InvZ z) {p : Int} {a : Sl} {l : List Int} (ha : SlF TN H a l) (hl : l.length ≤ 1048600) {Q : Int × Unit → Heap → Prop}
    (hq : ∀ H' ss', ZR e1 H' b (arrZ z p l).2 st ss' → Bh (fp b st ss) H (fp b st ss') H' → Q ((arrZ z p l).1, ()) H') : CALL P [TN] n_ref17_Zones_Arrange [ad b, .int .i64 p, a.v] H Q := by
  apply c_ref17_Zones_Arrange
  unfold S_ref17_Zones_Arrange
  unfold arrZ at hq
  refine rnone_c h (ifB_f rfl ?_)
  refine JOIN_inv (fun y H' => ((y : (Bool × Unit) × Unit).1.1 = true ↔ ¬ ((p = 0 ∨ p = 1) ∧ l.Perm (z.l p.toNat))) ∧ Frs [] H H') (fun j hj => rowner_c fun r hr => ifB_of (fun h1 => hj _ _ ⟨?_, .refl _ _⟩) (fun h1 => ?_)) ?_
  · have : ¬ (p = 0 ∨ p = 1) := fun q => by rw [hr.2 q] at h1; cases h1
    simp [this]
  · have hp : p = 0 ∨ p = 1 := hr.1 (by simpa using h1)
    refine holds_c h (tlen_le hi) ha hl fun r2 H4 hr2 fr => hj _ _ ⟨?_, fr⟩
    rw [holds_perm hi hp] at hr2
    simp only [hp, true_and, ← hr2]
    cases r2 <;> simp
  · rintro ⟨⟨r, _⟩, _⟩ H3 ⟨hr, fr⟩
    simp only at hr
    have h3 := h.new fr
    refine ifB_of (fun h1 => ?_) (fun h1 => ?_)
    · have hn := hr.1 h1
      by_cases hp : p = 0 ∨ p = 1
      · rw [if_neg (not_not_intro hp), if_neg (fun q => hn ⟨hp, q⟩)] at hq
        exact hq H3 ss h3 (.new fr)
      · rw [if_pos hp] at hq
        exact hq H3 ss h3 (.new fr)
    · have hh : (p = 0 ∨ p = 1) ∧ l.Perm (z.l p.toNat) := Classical.byContradiction fun q => by have := hr.2 q; simp only at h1; rw [this] at h1; cases h1
      rw [if_neg (not_not_intro hh.1), if_pos hh.2] at hq
      have q1 : p.toNat < 4 := by omega
      refine ints_c (ha.frs fr (by simp)) hl fun s5 H5 sp5 n5 => ⟨⟨by omega, by omega⟩, ?_⟩
      refine h3.pq q1 n5.1.j (newmv n5 _) (n5.2.2.mono (by simp)) (by show _ = 1 + p.toNat; omega) fun H6 p1 p2 => ?_
      exact hq H6 _ p1 ((Bh.new fr).trans p2)
end
end
end Go.Proofs.YthgfjbafhjkhnaaGreat.Zq
