/- What the document's zones do. -/
import Derived.Test.YthgfjbafhjkhnaaGreatZcZr
import Derived.Test.YthgfjbafhjkhnaaGreatZcTab
import Derived.Test.YthgfjbafhjkhnaaGreatZwClosed
namespace Go.Proofs.YthgfjbafhjkhnaaGreat.Zq
section
/- What the document's zones do. -/
section
/- What the document's zones do. -/
section
/- What the document's zones do. -/
open Zv
abbrev e1 : List Value := [.bool true]
section
variable {H : Heap} {b : Nat} {z : Zo} {st : Sl} {ss : Nat → Sl}
theorem rnone_c (h : ZR e1 H b z st ss) {Q : Bool × Unit → Heap → Prop} (hq : Q (false, ()) H) : CALL P [T_bool] n_ref17_Zones_none [ad b] H Q := by
  apply c_ref17_Zones_none
  unfold S_ref17_Zones_none
  obtain ⟨sz, h1⟩ := h.row
  refine JOIN_of (ifB_f rfl ?_)
  exact LD_of (T := T_bool) true [st.v, (ss 0).v, (ss 1).v, (ss 2).v, (ss 3).v, .int .i64 z.n] [] h1 rfl rfl rfl hq
theorem rthere_c (h : ZR e1 H b z st ss) {n : Int} {Q : Bool × Unit → Heap → Prop} (hq : Q ((getT z n).isSome, ()) H) : CALL P [T_bool] n_ref17_Zones_there [ad b, .int .i64 n] H Q := by
  apply c_ref17_Zones_there
  unfold S_ref17_Zones_there
  have htl := h.tl
  refine JOIN_of (ifB_of (fun h1 => h.ld_t rfl ?_) (fun h1 => ?_))
  · have h1 := of_decide_eq_true h1
    rcases getT_cases z n with ⟨h2, eq⟩ | ⟨k, t, rfl, hk, eq⟩
    · rw [eq] at hq
      rw [htl, show decide (n ≤ (z.t.length : Int)) = false by simp; omega]; exact hq
    · rw [eq] at hq
      have hkl := (List.getElem?_eq_some_iff.1 hk).1
      rw [htl, show decide ((k : Int) + 1 ≤ (z.t.length : Int)) = true by simp; omega]; exact hq
  · have h1 := of_decide_eq_false h1
    rw [getT_none (.inl (by omega))] at hq
    exact hq
theorem rowner_c {p : Int} {Q : Bool × Unit → Heap → Prop} (hq : ∀ r, (r = true ↔ p = 0 ∨ p = 1) → Q (r, ()) H) : CALL P [T_bool] n_ref17_owner [.int .i64 p] H Q := by
  apply c_ref17_owner
  unfold S_ref17_owner
  refine JOIN_of (ifB_of (fun h => hq _ ?_) (fun h => hq _ ?_))
  · simp at h; simp [h]
  · simp at h; simp [h]
theorem rhome_c (t : Th) {Q : Th × Unit → Heap → Prop} (hq : Q (homeT t, ()) H) : CALL P [TT] n_ref17_home [TT.enc t] H Q := by
  apply c_ref17_home
  unfold S_ref17_home
  exact hq
theorem rthing_c (h : ZR e1 H b z st ss) (ht : z.t.length ≤ 4096) {n : Int} {Q : Th × Int × Unit → Heap → Prop} (hq : Q ((getT z n).getD th0, (getT z n).elim 6 (fun _ => 0), ()) H) : CALL P [TT, TN] n_ref17_Zones_Thing [ad b, .int .i64 n] H Q := by
  apply c_ref17_Zones_Thing
  unfold S_ref17_Zones_Thing
  have htl := h.tl
  refine rnone_c h (ifB_f rfl (rthere_c h ?_))
  rcases getT_cases z n with ⟨h1, eq⟩ | ⟨k, t, rfl, hk, eq⟩
  · rw [eq] at hq ⊢
    exact ifB_t rfl hq
  · rw [eq] at hq ⊢
    have hkl := (List.getElem?_eq_some_iff.1 hk).1
    refine ifB_f rfl (h.ld_t rfl ?_)
    rw [i64w (by omega) (by omega)]
    exact h.ld_th (by omega) hk hq
theorem rlen_c (h : ZR e1 H b z st ss) {Q : Int × Unit → Heap → Prop} (hq : Q ((z.t.length : Int), ()) H) : CALL P [TN] n_ref17_Zones_Len [ad b] H Q := by
  apply c_ref17_Zones_Len
  unfold S_ref17_Zones_Len
  have htl := h.tl
  refine rnone_c h (ifB_f rfl (h.ld_t rfl ?_))
  rw [htl]; exact hq
theorem rstamp_c (h : ZR e1 H b z st ss) {Q : Int × Unit → Heap → Prop} (hq : Q (z.n, ()) H) : CALL P [TN] n_ref17_Zones_Stamp [ad b] H Q := by
  apply c_ref17_Zones_Stamp
  unfold S_ref17_Zones_Stamp
  exact rnone_c h (ifB_f rfl (h.ld_n rfl hq))
theorem rthings_c (h : ZR e1 H b z st ss) (hi : InvZ z) {Q : Sl × Unit → Heap → Prop} (hq : ∀ s' H' sp, NewO TT H s' H' z.t sp → Q (s', ()) H') : CALL P [T_sl] n_ref17_Zones_Things [ad b] H Q := by
  apply c_ref17_Zones_Things
  unfold S_ref17_Zones_Things
  exact rnone_c h (ifB_f rfl (h.ld_t rfl (copy_g KThings.tyS rfl (fun _ => by simp) h.t.slf (by have := hi.few; omega) hq)))

/-- Two fields of a thing, by its number. -/
theorem ZR.ld_o (h : ZR e1 H b z st ss) {i : Int} {k : Nat} (hi : i = k) {t : Th} (hk : z.t[k]? = some t) {K : Int → Prop} (hK : K t.Owner) : IDX st.p st.len i 11 fun b o => LD TN H b (o + 1) K := by
  obtain ⟨c, A, B, hp, hA, hrow, _⟩ := h.at hk
  have htl := h.tl
  have hkl := (List.getElem?_eq_some_iff.1 hk).1
  exact idx_of hp hi (by omega) (ld_own hrow (by omega) hK)
theorem ZR.ld_p (h : ZR e1 H b z st ss) {i : Int} {k : Nat} (hi : i = k) {t : Th} (hk : z.t[k]? = some t) {K : Int → Prop} (hK : K t.Place) : IDX st.p st.len i 11 fun b o => LD (T_int .u8) H b (o + 2) K := by
  obtain ⟨c, A, B, hp, hA, hrow, _⟩ := h.at hk
  have htl := h.tl
  have hkl := (List.getElem?_eq_some_iff.1 hk).1
  exact idx_of hp hi (by omega) (ld_place hrow (by omega) hK)

theorem rowned_c (h : ZR e1 H b z st ss) {p : Int} (ht : z.t.length ≤ 4096) {Q : Int × Unit → Heap → Prop} (hq : Q ((own z p : Int), ()) H) : CALL P [TN] n_ref17_Zones_owned [ad b, .int .i64 p] H Q := by
  apply c_ref17_Zones_owned
  unfold S_ref17_Zones_owned
  have htl := h.tl
  refine JOIN_of ?_
  refine loop_of (fun (s : (Int × Int × Unit) × Unit) H' => H' = H ∧ ∃ n : Nat, s.1.2.1 = n ∧ n ≤ z.t.length ∧ s.1.1 = (((z.t.take n).countP fun t => t.Place == 4 && t.Owner == p : Nat) : Int)) (fun s => z.t.length - s.1.2.1.toNat) ?_ ⟨rfl, 0, rfl, Nat.zero_le _, by simp⟩
  rintro G ⟨⟨a, i, _⟩, _⟩ H' ⟨rfl, n, hi, hn, ha⟩ hG
  simp only at hi ha; subst hi; subst ha
  dsimp only at hG ⊢
  refine h.ld_t rfl (ifB_of (fun hlt => ?_) (fun hge => ?_))
  · have hlt : n < z.t.length := by have := of_decide_eq_true hlt; omega
    have hx : z.t[n]? = some z.t[n] := List.getElem?_eq_getElem hlt
    have hc : (z.t.take n).countP (fun t => t.Place == 4 && t.Owner == p) ≤ n := by have := List.countP_le_length (p := fun t => t.Place == 4 && t.Owner == p) (l := z.t.take n); simp at this; omega
    have nxt : (((z.t.take (n + 1)).countP fun t => t.Place == 4 && t.Owner == p : Nat) : Int) = (((z.t.take n).countP fun t => t.Place == 4 && t.Owner == p : Nat) : Int) + if (z.t[n].Place == 4 && z.t[n].Owner == p) = true then 1 else 0 := by
      rw [List.take_succ_eq_append_getElem hlt, List.countP_append]
      simp only [List.countP_cons, List.countP_nil]
      split <;> simp
    refine JB (H := H') ((z.t[n].Place == 4 && z.t[n].Owner == p) = true) (fun j hj => h.ld_t rfl (h.ld_o rfl hx (ifB_of (fun h1 => h.ld_t rfl (h.ld_p rfl hx (hj _ ?_))) (fun h1 => hj _ ?_)))) fun r hr => ?_
    · rw [h1]; simp
    · rw [h1]; simp
    rw [i64w (x := (n : Int) + 1) (by omega) (by omega)]
    refine JOIN_of (ifB_of (fun h2 => ?_) (fun h2 => ?_))
    · rw [i64w (by omega) (by omega)]
      exact hG _ _ ⟨rfl, n + 1, by simp, hlt, by rw [nxt, if_pos (hr.1 h2)]⟩ (by simp; omega)
    · exact hG _ _ ⟨rfl, n + 1, by simp, hlt, by rw [nxt, if_neg (fun q => by rw [hr.2 q] at h2; cases h2)]; simp⟩ (by simp; omega)
  · have hge : n = z.t.length := by have := of_decide_eq_false hge; omega
    subst hge
    rw [List.take_length]
    exact hq

theorem without_c {a : Sl} {l : List Int} (ha : SlF TN H a l) (hl : l.length ≤ 4096) {x : Int} {Q : Sl × Unit → Heap → Prop} (hq : ∀ s' H' sp, NewO TN H s' H' (l.filter (· != x)) sp → Q (s', ()) H') : CALL P [T_sl] n_ref17_without [a.v, .int .i64 x] H Q := by
  apply c_ref17_without
  unfold S_ref17_without
  have hal := ha.1
  refine JOIN_of ?_
  refine loop_of (fun (s : (Sl × Int × Unit) × Unit) H' => ∃ (n : Nat) (sp : List Int), s.1.2.1 = n ∧ n ≤ l.length ∧ NewO TN H s.1.1 H' ((l.take n).filter (· != x)) sp) (fun s => l.length - s.1.2.1.toNat) ?_ ⟨0, [], rfl, Nat.zero_le _, ⟨Ow.nil TN H, by simp, .refl _ _⟩⟩
  rintro G ⟨⟨s, i, _⟩, _⟩ H' ⟨n, sp, hi, hn, n1⟩ hG
  simp only at hi n1; subst hi
  dsimp only at hG ⊢
  refine ifB_of (fun hlt => ?_) (fun hge => ?_)
  · have hlt : n < l.length := by have := of_decide_eq_true hlt; omega
    have hx : l[n]? = some l[n] := List.getElem?_eq_getElem hlt
    have ha' := ha.frs n1.2.2 (by simp)
    have nxt : (l.take (n + 1)).filter (· != x) = (l.take n).filter (· != x) ++ if (l[n] != x) = true then [l[n]] else [] := by
      rw [List.take_succ_eq_append_getElem hlt, List.filter_append]
      simp only [List.filter_cons, List.filter_nil]
    have hle : ((l.take n).filter (· != x)).length ≤ n := by have := List.length_filter_le (· != x) (l.take n); simp at this; omega
    refine idx_ldF (T := TN) hTN ha' rfl hx rfl (JOIN_of (ifB_of (fun h1 => ?_) (fun h1 => ?_)))
    · refine idx_ldF (T := TN) hTN ha' rfl hx rfl (app_c KInts.tyS rfl (fun _ => by simp) (m := 1) [l[n]] rfl rfl (by show 2 * (((l.take n).filter (· != x)).length + 1) * 4096 ≤ _; omega) n1.1 fun s' H3 sp' k1 k2 k3 => ?_)
      rw [i64w (by omega) (by omega)]
      exact hG _ _ ⟨n + 1, sp', by simp, hlt, by rw [nxt, if_pos h1]; exact n1.app k1 k2 k3⟩ (by simp; omega)
    · rw [i64w (by omega) (by omega)]
      exact hG _ _ ⟨n + 1, sp, by simp, hlt, by rw [nxt, if_neg (by rw [h1]; simp)]; simpa using n1⟩ (by simp; omega)
  · have hge : n = l.length := by have := of_decide_eq_false hge; omega
    subst hge
    rw [List.take_length] at n1
    exact hq _ _ _ n1

/-- A thing comes to a place, the document's way. -/
theorem rcome_c (h : ZR e1 H b z st ss) {k : Nat} {th : Th} (hk : z.t[k]? = some th) (ho : th.Owner = 0 ∨ th.Owner = 1) {n : Int} (hn : n = (k : Int) + 1) {to : Int} (hl : ∀ q, q < 4 → (z.l q).length ≤ 4096) (ht : z.t.length ≤ 4096) (hz0 : 0 ≤ z.n) (hz : z.n ≤ 1099511627776) {Q : Unit → Heap → Prop}
    (hq : ∀ H' ss', ZR e1 H' b (rcome z k th to) st ss' → Bh (fp b st ss) H (fp b st ss') H' → Q () H') : CALL P [] n_ref17_Zones_come [ad b, .int .i64 n, .int .u8 to] H Q := by
  subst hn
  apply c_ref17_Zones_come
  unfold S_ref17_Zones_come
  have hkl := (List.getElem?_eq_some_iff.1 hk).1
  have htl := h.tl
  unfold rcome putT at hq
  refine h.ld_t rfl ?_
  rw [i64w (by omega) (by omega)]
  refine h.ld_o (k := k) (by omega) hk ?_
  have hA : 0 ≤ th.Owner ∧ th.Owner < 2 := by omega
  have q1 : th.Owner.toNat < 4 := by omega
  have q2 : 2 + th.Owner.toNat < 4 := by omega
  refine ⟨hA, h.ld_q q1 (by omega) (without_c (h.l _ q1).slf (hl _ q1) fun s1 H1 sp1 n1 => ⟨hA, ?_⟩)⟩
  refine h.pq q1 n1.1.j (newmv n1 _) (n1.2.2.mono (by simp)) (by omega) fun H2 h2 b2 => ?_
  have l2q : (upd z.l th.Owner.toNat ((z.l th.Owner.toNat).filter (· != (k : Int) + 1))) (2 + th.Owner.toNat) = z.l (2 + th.Owner.toNat) := upd_ne _ _ (by omega)
  have ow2 := h2.l _ q2
  simp only [l2q] at ow2
  refine ⟨hA, h2.ld_q q2 (by omega) (without_c ow2.slf (hl _ q2) fun s3 H3 sp3 n3 => ⟨hA, ?_⟩)⟩
  refine h2.pq q2 n3.1.j (newmv n3 _) (n3.2.2.mono (by simp)) (by omega) fun H4 h4 b4 => ?_
  generalize hss4 : upd (upd ss th.Owner.toNat s1) (2 + th.Owner.toNat) s3 = ss4 at h4 b4
  have b04 := b2.trans b4
  generalize hl1 : upd (upd z.l th.Owner.toNat ((z.l th.Owner.toNat).filter (· != (k : Int) + 1))) (2 + th.Owner.toNat) ((z.l (2 + th.Owner.toNat)).filter (· != (k : Int) + 1)) = l1 at h4 hq
  have hll1 : ∀ q, q < 4 → (l1 q).length ≤ 4096 := fun q hq4 => by
    rw [← hl1]
    unfold upd
    split
    · have := List.length_filter_le (· != (k : Int) + 1) (z.l (2 + th.Owner.toNat)); have := hl _ q2; omega
    · split
      · have := List.length_filter_le (· != (k : Int) + 1) (z.l th.Owner.toNat); have := hl _ q1; omega
      · exact hl q hq4
  refine h4.ld_t rfl ?_
  refine h4.ld_th (k := k) (by omega) hk (rhome_c th ?_)
  refine JOIN_inv (fun y H6 => ∃ ss', ZR e1 H6 b { z with l := intoL l1 k th.Owner to, n := if to = 4 then z.n + 1 else z.n } st ss' ∧ Bh (fp b st ss) H (fp b st ss') H6 ∧ y.2.1 = if to = 4 then { homeT th with Place := to, Stamp := z.n, Fresh := true } else { homeT th with Place := to }) (fun j hj => ?_) ?_
  · refine ifB_of (fun t1 => ?_) (fun t1 => ?_)
    · have t1 : to = 1 := by simpa using t1
      subst t1
      have eli : li th.Owner 1 = some th.Owner.toNat := rfl
      have hb5 := hll1 _ q1
      refine ⟨hA, h4.ld_q q1 (by omega) (h4.ld_q q1 (by omega) ⟨rfl, ?_⟩)⟩
      refine appJ_c KInts.tyS rfl (fun _ => by simp) (m := 1) [(k : Int) + 1] rfl rfl (by show 2 * ((l1 th.Owner.toNat).length + 1) * 4096 ≤ _; omega) (h4.l _ q1) fun s5 H5 m1 m2 m3 => ⟨hA, ?_⟩
      refine h4.pq q1 m1 (mvp m2) (aft m3) (by omega) fun H6 p1 p2 => hj _ _ ⟨_, ?_, b04.trans p2, rfl⟩
      rw [intoL_some eli]; exact p1
    · have t1 : to ≠ 1 := by simpa using t1
      refine JOIN_of (ifB_of (fun t2 => ?_) (fun t2 => ?_))
      · have t2 : to = 2 := by simpa using t2
        subst t2
        have eli : li th.Owner 2 = some (2 + th.Owner.toNat) := rfl
        have hb5 := hll1 _ q2
        refine ⟨hA, h4.ld_q q2 (by omega) (h4.ld_q q2 (by omega) ⟨rfl, ?_⟩)⟩
        refine appJ_c KInts.tyS rfl (fun _ => by simp) (m := 1) [(k : Int) + 1] rfl rfl (by show 2 * ((l1 (2 + th.Owner.toNat)).length + 1) * 4096 ≤ _; omega) (h4.l _ q2) fun s5 H5 m1 m2 m3 => ⟨hA, ?_⟩
        refine h4.pq q2 m1 (mvp m2) (aft m3) (by omega) fun H6 p1 p2 => hj _ _ ⟨_, ?_, b04.trans p2, rfl⟩
        rw [intoL_some eli]; exact p1
      · have t2 : to ≠ 2 := by simpa using t2
        have eli : li th.Owner to = none := by simp [li, t1, t2]
        rw [intoL_none eli] at hj
        refine JOIN_of (ifB_of (fun t4 => ?_) (fun t4 => ?_))
        · have t4 : to = 4 := by simpa using t4
          subst t4
          refine h4.ld_n rfl (h4.ld_n rfl ?_)
          rw [i64w (by simp only; omega) (by simp only; omega)]
          exact h4.pn rfl fun H6 p1 p2 => hj _ _ ⟨ss4, p1, b04.trans p2, rfl⟩
        · have t4 : to ≠ 4 := by simpa using t4
          refine hj _ _ ⟨ss4, ?_, b04, ?_⟩
          · rw [if_neg t4]; exact h4
          · rw [if_neg t4]
  · rintro ⟨_, t6, _⟩ H6 ⟨ss6, h6, b6, ht6⟩
    simp only at ht6
    refine h6.ld_t rfl ?_
    obtain ⟨c, A, B, hp, hA', hrow, hb⟩ := h6.at (k := k) (th := th) hk
    refine idx_of hp (n := k) (by omega) (by omega) (st_all hrow (by omega) t6 fun H7 r7 f7 => ?_)
    have h7 := hb _ H7 r7 f7
    have b7 : Bh (fp b st ss6) H6 (fp b st ss6) H7 := ⟨f7.mono fun d hd => mem_fp.2 (.inr (.inl (by rw [hp]; simpa [bl] using hd))), fun _ h => .inl h⟩
    refine hq H7 ss6 ?_ (b6.trans b7)
    by_cases t4 : to = 4
    · rw [if_pos t4] at ht6 h7 ⊢
      rw [ht6] at h7
      exact h7
    · rw [if_neg t4] at ht6 h7 ⊢
      rw [ht6] at h7
      exact h7
end
end

section
/- What the document's zones do: the calls. -/
open Zv
section
variable {H : Heap} {b : Nat} {z : Zo} {st : Sl} {ss : Nat → Sl}
theorem rmove_c (h : ZR e1 H b z st ss) (hi : InvZ z) {n to : Int} {Q : Int × Unit → Heap → Prop}
    (hq : ∀ H' ss', ZR e1 H' b (moveZ rcome z n to).2 st ss' → Bh (fp b st ss) H (fp b st ss') H' → Q ((moveZ rcome z n to).1, ()) H') : CALL P [TN] n_ref17_Zones_Move [ad b, .int .i64 n, .int .u8 to] H Q := by
  apply c_ref17_Zones_Move
  unfold S_ref17_Zones_Move
  have few := hi.few
  have hn1 := hi.n1
  have hn2 := hi.n2
  have htl := h.tl
  refine rnone_c h (ifB_f rfl (rthere_c h ?_))
  unfold moveZ at hq
  rcases getT_cases z n with ⟨h1, eq⟩ | ⟨k, t, rfl, hk, eq⟩
  · rw [eq] at hq ⊢
    exact ifB_t rfl (hq H ss h (.refl _ _))
  · rw [eq] at hq ⊢
    have hkl := (List.getElem?_eq_some_iff.1 hk).1
    simp only [Option.elim_some, show ((k : Int) + 1 - 1).toNat = k by omega] at hq
    refine ifB_f rfl ?_
    have ho := (hi.th t (List.mem_of_getElem? hk)).1
    refine JB (H := H) (to < 1 ∨ 5 < to) (fun j hj => ifB_of (fun h1 => hj _ ?_) (fun h1 => hj _ ?_)) fun r hr => ifB_of (fun h1 => ?_) (fun h1 => ?_)
    · have := of_decide_eq_true h1; simp; omega
    · have := of_decide_eq_false h1; simp; omega
    · rw [if_pos (hr.1 h1)] at hq
      exact hq H ss h (.refl _ _)
    have c1 : ¬ (to < 1 ∨ 5 < to) := fun q => by rw [hr.2 q] at h1; cases h1
    rw [if_neg c1] at hq
    refine h.ld_t rfl ?_
    rw [i64w (by omega) (by omega)]
    refine h.ld_th (k := k) (by omega) hk ?_
    refine JB (H := H) (to = 2 ∧ t.Place ≠ 2 ∧ 10 ≤ (z.l (2 + t.Owner.toNat)).length) (fun j hj => ifB_of (fun h2 => ifB_of (fun h3 => ?_) (fun h3 => hj _ ?_)) (fun h2 => hj _ ?_)) fun r hr => ifB_of (fun h2 => ?_) (fun h2 => ?_)
    · refine ⟨⟨by show 0 ≤ t.Owner; omega, by show t.Owner < 2; omega⟩, h.ld_q (q := 2 + t.Owner.toNat) (by omega) (by show 0 + 3 + t.Owner.toNat * 1 = _; omega) (hj _ ?_)⟩
      have := h.ql (q := 2 + t.Owner.toNat) (by omega)
      have h2 : to = 2 := by simpa using h2
      have h3 : t.Place ≠ 2 := by simpa using h3
      rw [this]; simp [h2, h3]; omega
    · have h3 : t.Place = 2 := by simpa using h3
      simp [h3]
    · have h2 : to ≠ 2 := by simpa using h2
      simp [h2]
    · rw [if_pos (hr.1 h2)] at hq
      exact hq H ss h (.refl _ _)
    rw [if_neg (fun q => by rw [hr.2 q] at h2; cases h2)] at hq
    refine JB (H := H) (to = 4 ∧ (1099511627776 ≤ z.n ∨ t.Place ≠ 4 ∧ 8 ≤ own z t.Owner)) (fun j hj => ifB_of (fun h3 => ?_) (fun h3 => hj _ ?_)) fun r hr => ifB_of (fun h3 => ?_) (fun h3 => ?_)
    · have h3 : to = 4 := by simpa using h3
      refine ifB_of (fun h5 => rowned_c h (by omega) (ifB_of (fun h4 => hj _ ?_) (fun h4 => h.ld_n rfl (hj _ ?_)))) (fun h5 => h.ld_n rfl (hj _ ?_))
      · have h5 : t.Place ≠ 4 := by simpa using h5
        have := of_decide_eq_true h4; simp [h3, h5]; simp at this; omega
      · have h5 : t.Place ≠ 4 := by simpa using h5
        have := of_decide_eq_false h4; simp at this; simp [h3, h5]; omega
      · have h5 : t.Place = 4 := by simpa using h5
        simp [h3, h5]
    · have h3 : to ≠ 4 := by simpa using h3
      simp [h3]
    · rw [if_pos (hr.1 h3)] at hq
      exact hq H ss h (.refl _ _)
    rw [if_neg (fun q => by rw [hr.2 q] at h3; cases h3)] at hq
    exact rcome_c h hk ho rfl (fun q _ => by have := hi.len q; omega) (by omega) (by omega) (by omega) fun H' ss' g1 g2 => hq H' ss' g1 g2

theorem rmake_c (h : ZR e1 H b z st ss) (hi : InvZ z) {card p : Int} {Q : Int × Int × Unit → Heap → Prop}
    (hq : ∀ H' st' ss', ZR e1 H' b (makeZ rcome 5 z card p).2.2 st' ss' → Bh (fp b st ss) H (fp b st' ss') H' → Q ((makeZ rcome 5 z card p).1, (makeZ rcome 5 z card p).2.1, ()) H') : CALL P [TN, TN] n_ref17_Zones_Make [ad b, .int .i64 card, .int .i64 p] H Q := by
  apply c_ref17_Zones_Make
  unfold S_ref17_Zones_Make
  have few := hi.few
  have hn1 := hi.n1
  have hn2 := hi.n2
  have htl := h.tl
  unfold makeZ at hq
  refine rnone_c h (ifB_f rfl ?_)
  refine JB (H := H) (card < 1 ∨ ¬ (p = 0 ∨ p = 1)) (fun j hj => ifB_of (fun h1 => hj _ ?_) (fun h1 => rowner_c fun r hr => hj _ ?_)) fun r hr => ifB_of (fun h1 => ?_) (fun h1 => ?_)
  · have := of_decide_eq_true h1; simp; omega
  · have := of_decide_eq_false h1
    cases r
    · simp at hr; simp; omega
    · simp at hr; simp; omega
  · rw [if_pos (hr.1 h1)] at hq
    exact hq H st ss h (.refl _ _)
  have c1 : ¬ (card < 1 ∨ ¬ (p = 0 ∨ p = 1)) := fun q => by rw [hr.2 q] at h1; cases h1
  rw [if_neg c1] at hq
  refine JB (H := H) (2048 ≤ z.t.length ∨ 8 ≤ own z p ∨ 1099511627776 ≤ z.n) (fun j hj => h.ld_t rfl (ifB_of (fun h2 => hj _ ?_) (fun h2 => rowned_c h (by omega) (ifB_of (fun h3 => hj _ ?_) (fun h3 => h.ld_n rfl (hj _ ?_)))))) fun r hr => ifB_of (fun h2 => ?_) (fun h2 => ?_)
  · have := of_decide_eq_true h2; simp; omega
  · have := of_decide_eq_true h3; simp at this; simp; omega
  · have := of_decide_eq_false h2; have := of_decide_eq_false h3; simp at this; simp; omega
  · rw [if_pos (hr.1 h2)] at hq
    exact hq H st ss h (.refl _ _)
  have c2 : ¬ (2048 ≤ z.t.length ∨ 8 ≤ own z p ∨ 1099511627776 ≤ z.n) := fun q => by rw [hr.2 q] at h2; cases h2
  rw [if_neg c2] at hq
  refine h.ld_t rfl (appJ_c KThings.tyS rfl (fun _ => by simp) (m := 1) [newT card p 5] rfl rfl (by show 2 * (z.t.length + 1) * 4096 ≤ _; omega) h.t fun s5 H5 m1 m2 m3 => ?_)
  refine h.pt m1 (mvp m2) (aft m3) rfl fun H7 h7 b7 => ?_
  refine h7.ld_t rfl ?_
  have hl5 : s5.len = z.t.length + 1 := by have := m1.1; simpa using this
  have hk : (plus z (newT card p 5)).t[z.t.length]? = some (newT card p 5) := by simp [plus]
  refine rcome_c (z := plus z (newT card p 5)) h7 hk (by show p = 0 ∨ p = 1; omega) (by rw [hl5]; simp) (fun q _ => by have := hi.len q; show (z.l q).length ≤ _; omega) (by simp [plus]; omega) (by show 0 ≤ z.n; omega) (by show z.n ≤ _; omega) fun H8 ss8 h8 b8 => ?_
  refine h8.ld_t rfl ?_
  rw [hl5, show ((z.t.length + 1 : Nat) : Int) = (z.t.length : Int) + 1 by omega]
  exact hq H8 s5 ss8 h8 (b7.trans b8)

theorem marked_c {t : Th} {Q : Bool × Unit → Heap → Prop} (hq : ∀ (r : Bool) H', (r = true ↔ okMs t.Marks) → Frs [] H H' → Q (r, ()) H') : CALL P [T_bool] n_ref17_marked [TT.enc t] H Q := by
  apply c_ref17_marked
  unfold S_ref17_marked NEW
  have hfr : Frs [] H (mk H (TT.cells t) 11 false) := Frs.app _ _ _
  have hrow : (mk H (TT.cells t) 11 false)[H.length]? = some (.row (TT.cells t) 11 false false true) := by simp [mk]
  have hm : ∀ n : Nat, n < 4 → ∃ x, (∀ k : Int → Prop, k x → LD TN (mk H (TT.cells t) 11 false) H.length (5 + ((n : Nat) : Int).toNat * 1) k) ∧ [t.Marks.1, t.Marks.2.1, t.Marks.2.2.1, t.Marks.2.2.2][n]? = some x := by
    intro n hn
    rcases lt4 hn with rfl | rfl | rfl | rfl
    · exact ⟨t.Marks.1, fun k hk => LD_of (T := TN) _ ((TT.cells t).take 5) ((TT.cells t).drop 6) hrow rfl rfl rfl hk, rfl⟩
    · exact ⟨t.Marks.2.1, fun k hk => LD_of (T := TN) _ ((TT.cells t).take 6) ((TT.cells t).drop 7) hrow rfl rfl rfl hk, rfl⟩
    · exact ⟨t.Marks.2.2.1, fun k hk => LD_of (T := TN) _ ((TT.cells t).take 7) ((TT.cells t).drop 8) hrow rfl rfl rfl hk, rfl⟩
    · exact ⟨t.Marks.2.2.2, fun k hk => LD_of (T := TN) _ ((TT.cells t).take 8) ((TT.cells t).drop 9) hrow rfl rfl rfl hk, rfl⟩
  have all4 : okMs t.Marks ↔ ∀ x ∈ [t.Marks.1, t.Marks.2.1, t.Marks.2.2.1, t.Marks.2.2.2], okM x := by simp [okMs]
  refine JOIN_of ?_
  refine loop_of (fun (s : (Int × Unit) × Unit) H' => H' = mk H (TT.cells t) 11 false ∧ ∃ n : Nat, s.1.1 = n ∧ n ≤ 4 ∧ ∀ x ∈ [t.Marks.1, t.Marks.2.1, t.Marks.2.2.1, t.Marks.2.2.2].take n, okM x) (fun s => 4 - s.1.1.toNat) ?_ ⟨rfl, 0, rfl, Nat.zero_le _, by simp⟩
  rintro G ⟨⟨i, _⟩, _⟩ H' ⟨rfl, n, hi, hn, hx⟩ hG
  simp only at hi; subst hi
  dsimp only at hG ⊢
  refine ifB_of (fun hlt => ?_) (fun hge => ?_)
  · have hlt : n < 4 := by have := of_decide_eq_true hlt; omega
    obtain ⟨x, g1, g2⟩ := hm n hlt
    refine JB (H := mk H (TT.cells t) 11 false) (¬ okM x) (fun j hj => ⟨⟨by omega, by omega⟩, g1 _ (ifB_of (fun h1 => hj _ ?_) (fun h1 => ⟨⟨by omega, by omega⟩, g1 _ (hj _ ?_)⟩))⟩) fun r hr => ifB_of (fun h1 => ?_) (fun h1 => ?_)
    · have := of_decide_eq_true h1; simp [okM]; omega
    · have := of_decide_eq_false h1; simp [okM]; omega
    · refine hq false _ ⟨fun h => (by cases h), fun h => ?_⟩ hfr
      exact absurd (all4.1 h x (List.mem_of_getElem? g2)) (hr.1 h1)
    · rw [i64w (by omega) (by omega)]
      have hx1 : okM x := Classical.byContradiction fun q => by rw [hr.2 q] at h1; cases h1
      refine hG _ _ ⟨rfl, n + 1, by simp, hlt, fun y hy => ?_⟩ (by simp; omega)
      obtain ⟨g3, g4⟩ := List.getElem?_eq_some_iff.1 g2
      rw [List.take_succ_eq_append_getElem g3, List.mem_append, List.mem_singleton] at hy
      rcases hy with q | q
      · exact hx y q
      · rw [q, g4]; exact hx1
  · have hge : n = 4 := by have := of_decide_eq_false hge; omega
    subst hge
    exact hq true _ ⟨fun _ => all4.2 (by simpa using hx), fun _ => rfl⟩ hfr

theorem rwrite_c (h : ZR e1 H b z st ss) (hi : InvZ z) {n : Int} {t : Th} {Q : Int × Unit → Heap → Prop}
    (hq : ∀ H', ZR e1 H' b (writeZ z n t).2 st ss → Bh (fp b st ss) H (fp b st ss) H' → Q ((writeZ z n t).1, ()) H') : CALL P [TN] n_ref17_Zones_Write [ad b, .int .i64 n, TT.enc t] H Q := by
  apply c_ref17_Zones_Write
  unfold S_ref17_Zones_Write
  have htl := h.tl
  have few := hi.few
  refine rnone_c h (ifB_f rfl (rthere_c h ?_))
  unfold writeZ at hq
  rcases getT_cases z n with ⟨h1, eq⟩ | ⟨k, o, rfl, hk, eq⟩
  · rw [eq] at hq ⊢
    exact ifB_t rfl (hq H h (.refl _ _))
  · rw [eq] at hq ⊢
    have hkl := (List.getElem?_eq_some_iff.1 hk).1
    simp only [Option.elim_some, show ((k : Int) + 1 - 1).toNat = k by omega] at hq
    refine ifB_f rfl (h.ld_t rfl ?_)
    rw [i64w (by omega) (by omega)]
    refine h.ld_th (k := k) (by omega) hk ?_
    refine JOIN_inv (fun y H' => ((y : (Bool × Unit) × Unit).1.1 = true ↔ ¬ okW o t) ∧ Frs [] H H') (fun j hj => ?_) ?_
    · refine ifB_of (fun w1 => hj _ _ ⟨?_, .refl _ _⟩) (fun w1 => ifB_of (fun w2 => hj _ _ ⟨?_, .refl _ _⟩) (fun w2 => ifB_of (fun w3 => hj _ _ ⟨?_, .refl _ _⟩) (fun w3 => ifB_of (fun w4 => hj _ _ ⟨?_, .refl _ _⟩) (fun w4 => ifB_of (fun w5 => hj _ _ ⟨?_, .refl _ _⟩) (fun w5 => ifB_of (fun w6 => hj _ _ ⟨?_, .refl _ _⟩) (fun w6 => ifB_of (fun w7 => hj _ _ ⟨?_, .refl _ _⟩) (fun w7 => marked_c fun r H4 hr fr => hj _ _ ⟨?_, fr⟩)))))))
      · have : o.Place ≠ 4 := by simpa using w1
        simp [okW, this]
      · have : t.Card ≠ o.Card := by simpa using w2
        simp [okW, this]
      · have : t.Owner ≠ o.Owner := by simpa using w3
        simp [okW, this]
      · have : t.Place ≠ o.Place := by simpa using w4
        simp [okW, this]
      · have : t.Stamp ≠ o.Stamp := by simpa using w5
        simp [okW, this]
      · have : ¬ (0 ≤ t.Hurt) := by simpa using w6
        simp only [okW, this, true_iff]; simp
      · have : ¬ (0 ≤ t.Done) := by simpa using w7
        simp only [okW, this, true_iff]; simp
      · have w1 : o.Place = 4 := by simpa using w1
        have w2 : t.Card = o.Card := by simpa using w2
        have w3 : t.Owner = o.Owner := by simpa using w3
        have w4 : t.Place = o.Place := by simpa using w4
        have w5 : t.Stamp = o.Stamp := by simpa using w5
        have w6 : 0 ≤ t.Hurt := by simpa using w6
        have w7 : 0 ≤ t.Done := by simpa using w7
        have : okW o t ↔ okMs t.Marks := ⟨fun q => q.2.2.2.2.2.2.2, fun q => ⟨w1, w2, w3, w4, w5, w6, w7, q⟩⟩
        rw [this, ← hr]; cases r <;> simp
    · rintro ⟨⟨r, _⟩, _⟩ H3 ⟨hr, fr⟩
      simp only at hr
      have h3 := h.new fr
      refine ifB_of (fun h1 => ?_) (fun h1 => ?_)
      · rw [if_neg (hr.1 h1)] at hq
        exact hq H3 h3 (.new fr)
      · have hw : okW o t := Classical.byContradiction fun q => by have := hr.2 q; simp only at h1; rw [this] at h1; cases h1
        rw [if_pos hw] at hq
        refine h3.ld_t rfl ?_
        obtain ⟨c, A, B, hp, hA, hrow, hb⟩ := h3.at hk
        refine idx_of hp (n := k) (by omega) (by omega) (st_all hrow (by omega) t fun H4 r4 f4 => ?_)
        exact hq H4 (hb t H4 r4 f4) ((Bh.new fr).trans ⟨f4.mono fun d hd => mem_fp.2 (.inr (.inl (by rw [hp]; simpa [bl] using hd))), fun _ h => .inl h⟩)

theorem ints_c {a : Sl} {l : List Int} (ha : SlF TN H a l) (hl : l.length ≤ 1048600) {Q : Sl × Unit → Heap → Prop} (hq : ∀ s' H' sp, NewO TN H s' H' l sp → Q (s', ()) H') : CALL P [T_sl] n_ref17_ints [a.v] H Q := by
  apply c_ref17_ints
  unfold S_ref17_ints
  exact copy_g KInts.tyS rfl (fun _ => by simp) ha hl hq

theorem tyB : TyS E T_bool 99 false := ⟨⟨_, _, _, rfl, rfl, rfl, rfl, by decide, by decide, rfl⟩, by decide, fun _ => rfl, fun _ => rfl⟩
theorem holds_c (h : ZR e1 H b z st ss) (ht : z.t.length ≤ 4096) {a : Sl} {l : List Int} (ha : SlF TN H a l) (hl : l.length ≤ 1048600) {p pl : Int} {Q : Bool × Unit → Heap → Prop} (hq : ∀ (r : Bool) H', (r = true ↔ Holds z l p pl) → Frs [] H H' → Q (r, ()) H') : CALL P [T_bool] n_ref17_Zones_holds [ad b, a.v, .int .i64 p, .int .u8 pl] H Q := by
  apply c_ref17_Zones_holds
  unfold S_ref17_Zones_holds
  have htl := h.tl
  have hal := ha.1
  refine h.ld_t rfl ?_
  rw [i64w (by omega) (by omega)]
  refine make_c (n := z.t.length + 1) (m := z.t.length + 1) tyB (by rw [htl]; simp) (by rw [htl]; simp) (Nat.le_refl _) (by omega) fun s4 e4 n4 => ?_
  refine JOIN_inv (fun _ H' => ∃ met sp, NewO T_bool H s4 H' met sp ∧ met.length = z.t.length + 1 ∧ (∀ m : Nat, met[m]? = some true ↔ (m : Int) ∈ l) ∧ l.Nodup ∧ ∀ x ∈ l, At z p pl x) (fun j hj => ?_) ?_
  · refine loop_of (fun (s : (Int × Unit) × Unit) H' => ∃ (n : Nat) (met sp : List Bool), s.1.1 = n ∧ n ≤ l.length ∧ NewO T_bool H s4 H' met sp ∧ met.length = z.t.length + 1 ∧ (∀ m : Nat, met[m]? = some true ↔ (m : Int) ∈ l.take n) ∧ (l.take n).Nodup ∧ ∀ x ∈ l.take n, At z p pl x) (fun s => l.length - s.1.1.toNat) ?_ ⟨0, _, _, rfl, Nat.zero_le _, n4, by simp, fun m => by simp [List.getElem?_replicate], by simp, by simp⟩
    rintro G ⟨⟨i, _⟩, _⟩ H' ⟨n, met, sp, hi, hn, n1, ml, mm, nd, hat⟩ hG
    simp only at hi; subst hi
    dsimp only at hG ⊢
    have h' := h.new n1.2.2
    have ha' := ha.frs n1.2.2 (by simp)
    refine ifB_of (fun hlt => ?_) (fun hge => ?_)
    · have hlt : n < l.length := by have := of_decide_eq_true hlt; omega
      have hx : l[n]? = some l[n] := List.getElem?_eq_getElem hlt
      refine idx_ldF (T := TN) hTN ha' rfl hx rfl ?_
      have tks : l.take (n + 1) = l.take n ++ [l[n]] := List.take_succ_eq_append_getElem hlt
      have hmem : l[n] ∈ l.take (n + 1) := by rw [tks]; exact List.mem_append_right _ (List.mem_singleton.2 rfl)
      have hmeml : l[n] ∈ l := List.getElem_mem hlt
      refine JB (H := H') (l[n] < 1 ∨ (z.t.length : Int) < l[n] ∨ l[n] ∈ l.take n) (fun j2 hj2 => ifB_of (fun h1 => hj2 _ ?_) (fun h1 => h'.ld_t rfl (ifB_of (fun h2 => hj2 _ ?_) (fun h2 => ?_)))) fun r hr => ifB_of (fun h1 => ?_) (fun h1 => ?_)
      · have := of_decide_eq_true h1; simp; omega
      · have := of_decide_eq_true h2; simp; omega
      · have h1 := of_decide_eq_false h1
        have h2 := of_decide_eq_false h2
        have hb : l[n].toNat < met.length := by omega
        refine idx_ldF (T := T_bool) (fun _ => rfl) n1.1.slf (n := l[n].toNat) (by omega) (List.getElem?_eq_getElem hb) rfl (hj2 _ ?_)
        have := mm l[n].toNat
        rw [List.getElem?_eq_getElem hb] at this
        rw [show ((l[n].toNat : Nat) : Int) = l[n] by omega] at this
        simp only [Option.some.injEq] at this
        rw [this]
        constructor
        · intro q; exact .inr (.inr q)
        · rintro (q | q | q)
          · omega
          · omega
          · exact q
      · refine hq false _ ⟨fun q => (by cases q), fun q => ?_⟩ n1.2.2
        rcases hr.1 h1 with q1 | q1 | q1
        · obtain ⟨k, t, e, _⟩ := (q.2 _).1 hmeml; omega
        · obtain ⟨k, t, e, e2, _⟩ := (q.2 _).1 hmeml
          have := (List.getElem?_eq_some_iff.1 e2).1
          omega
        · have := q.1.sublist (List.take_sublist (n + 1) l)
          rw [tks, List.nodup_append] at this
          exact absurd rfl (this.2.2 _ q1 _ (by simp))
      have hok : ¬ (l[n] < 1 ∨ (z.t.length : Int) < l[n] ∨ l[n] ∈ l.take n) := fun q => by rw [hr.2 q] at h1; cases h1
      have hk1 : 1 ≤ l[n] := by omega
      have hk2 : l[n].toNat - 1 < z.t.length := by omega
      have hnin : l[n] ∉ l.take n := fun q => hok (.inr (.inr q))
      generalize hkd : l[n].toNat - 1 = k at hk2
      have hkx : l[n] = (k : Int) + 1 := by omega
      have hk : z.t[k]? = some z.t[k] := List.getElem?_eq_getElem hk2
      rw [i64w (x := l[n] - 1) (by omega) (by omega)]
      refine JB (H := H') (¬ (z.t[k].Owner = p ∧ z.t[k].Place = pl)) (fun j2 hj2 => h'.ld_t rfl (h'.ld_o (k := k) (by omega) hk (ifB_of (fun h1 => hj2 _ ?_) (fun h1 => h'.ld_t rfl (h'.ld_p (k := k) (by omega) hk (hj2 _ ?_)))))) fun r hr => ifB_of (fun h2 => ?_) (fun h2 => ?_)
      · have : z.t[k].Owner ≠ p := by simpa using h1
        simp [this]
      · have : z.t[k].Owner = p := by simpa using h1
        simp [this]
      · refine hq false _ ⟨fun q => (by cases q), fun q => ?_⟩ n1.2.2
        obtain ⟨k', t, e, e2, e3, e4⟩ := (q.2 _).1 hmeml
        have : k' = k := by omega
        subst this
        rw [hk] at e2; cases e2
        exact absurd ⟨e3, e4⟩ (hr.1 h2)
      · have hown : z.t[k].Owner = p ∧ z.t[k].Place = pl := Classical.byContradiction fun q => by rw [hr.2 q] at h2; cases h2
        refine n1.1.st (T := T_bool) (fun _ => rfl) (fun _ => rfl) (k := k + 1) (by omega) (by omega) true rfl fun H6 k1 k2 k3 => ?_
        rw [i64w (by omega) (by omega)]
        refine hG _ _ ⟨n + 1, met.set (k + 1) true, sp, by simp, hlt, ⟨k1, n1.2.1, own_frs n1.1 n1.2.1 n1.2.2 k2⟩, by simpa using ml, fun m => ?_, ?_, fun x hx => ?_⟩ (by simp; omega)
        · rw [tks, List.mem_append, List.mem_singleton]
          by_cases e : m = k + 1
          · subst e
            rw [List.getElem?_set_self (by omega)]
            simp [hkx]
          · rw [List.getElem?_set_ne (Ne.symm e), mm]
            constructor
            · exact fun q => .inl q
            · rintro (q | q)
              · exact q
              · omega
        · rw [tks, List.nodup_append]
          refine ⟨nd, by simp, fun a ha b hb => ?_⟩
          simp at hb; subst hb
          rintro rfl; exact hnin ha
        · rw [tks, List.mem_append, List.mem_singleton] at hx
          rcases hx with q | rfl
          · exact hat x q
          · exact ⟨k, z.t[k], hkx, hk, hown⟩
    · have hge : n = l.length := by have := of_decide_eq_false hge; omega
      subst hge
      rw [List.take_length] at mm nd hat
      exact hj _ _ ⟨met, sp, n1, ml, mm, nd, hat⟩
  · rintro _ H2 ⟨met, sp, n1, ml, mm, nd, hat⟩
    have h' := h.new n1.2.2
    refine JOIN_of ?_
    refine loop_of (fun (s : (Int × Unit) × Unit) H' => H' = H2 ∧ ∃ n : Nat, s.1.1 = (n : Int) + 1 ∧ n ≤ z.t.length ∧ ∀ k, k < n → At z p pl ((k : Int) + 1) → (k : Int) + 1 ∈ l) (fun s => z.t.length + 1 - s.1.1.toNat) ?_ ⟨rfl, 0, rfl, Nat.zero_le _, fun k hk => by omega⟩
    rintro G ⟨⟨i, _⟩, _⟩ H' ⟨rfl, n, hi, hn, hx⟩ hG
    simp only at hi; subst hi
    dsimp only at hG ⊢
    refine h'.ld_t rfl (ifB_of (fun hlt => ?_) (fun hge => ?_))
    · have hlt : n < z.t.length := by have := of_decide_eq_true hlt; omega
      have hk : z.t[n]? = some z.t[n] := List.getElem?_eq_getElem hlt
      rw [i64w (x := (n : Int) + 1 - 1) (by omega) (by omega)]
      have hat1 : At z p pl ((n : Int) + 1) ↔ z.t[n].Owner = p ∧ z.t[n].Place = pl := by
        constructor
        · rintro ⟨k, t, e, e2, e3⟩
          have : k = n := by omega
          subst this; rw [hk] at e2; cases e2; exact e3
        · exact fun q => ⟨n, z.t[n], rfl, hk, q⟩
      refine JB (H := H') (At z p pl ((n : Int) + 1) ∧ (n : Int) + 1 ∉ l) (fun j2 hj2 => h'.ld_t rfl (h'.ld_o (k := n) (by omega) hk (ifB_of (fun h1 => h'.ld_t rfl (h'.ld_p (k := n) (by omega) hk (ifB_of (fun h2 => ?_) (fun h2 => hj2 _ ?_)))) (fun h1 => hj2 _ ?_)))) fun r hr => ifB_of (fun h2 => ?_) (fun h2 => ?_)
      · have h1 : z.t[n].Owner = p := by simpa using h1
        have h2 : z.t[n].Place = pl := by simpa using h2
        have hb : n + 1 < met.length := by omega
        refine idx_ldF (T := T_bool) (fun _ => rfl) n1.1.slf (n := n + 1) (by simp) (List.getElem?_eq_getElem hb) rfl (hj2 _ ?_)
        have := mm (n + 1)
        rw [List.getElem?_eq_getElem hb] at this
        simp only [Option.some.injEq] at this
        rw [hat1]
        simp only [h1, h2, true_and, and_self]
        rw [show ((n + 1 : Nat) : Int) = (n : Int) + 1 by simp] at this
        rw [← this]; cases met[n + 1] <;> simp
      · have h2 : z.t[n].Place ≠ pl := by simpa using h2
        rw [hat1]; simp [h2]
      · have h1 : z.t[n].Owner ≠ p := by simpa using h1
        rw [hat1]; simp [h1]
      · refine hq false _ ⟨fun q => (by cases q), fun q => ?_⟩ n1.2.2
        have := hr.1 h2
        exact absurd ((q.2 _).2 this.1) this.2
      · rw [i64w (by omega) (by omega)]
        refine hG _ _ ⟨rfl, n + 1, by simp, hlt, fun k hk2 hat2 => ?_⟩ (by simp; omega)
        by_cases e : k = n
        · subst e
          exact Classical.byContradiction fun q => by rw [hr.2 ⟨hat2, q⟩] at h2; cases h2
        · exact hx k (by omega) hat2
    · have hge : n = z.t.length := by have := of_decide_eq_false hge; omega
      subst hge
      refine hq true _ ⟨fun _ => ⟨nd, fun m => ⟨hat m, fun q => ?_⟩⟩, fun _ => rfl⟩ n1.2.2
      obtain ⟨k, t, rfl, e2, e3⟩ := q
      exact hx k (List.getElem?_eq_some_iff.1 e2).1 ⟨k, t, rfl, e2, e3⟩

theorem At_li {z : Zo} (h : InvZ z) {p m : Int} (hp : p = 0 ∨ p = 1) : At z p 1 m ↔ m ∈ z.l p.toNat := by
  rw [h.mem]
  constructor
  · rintro ⟨k, t, e, e2, e3, e4⟩
    exact ⟨k, t, e, e2, by simp [li, e3, e4]⟩
  · rintro ⟨k, t, e, e2, e3⟩
    have ho := (h.th t (List.mem_of_getElem? e2)).1
    refine ⟨k, t, e, e2, ?_⟩
    unfold li at e3
    split at e3
    · rename_i e4; simp at e3; exact ⟨by omega, e4⟩
    · split at e3
      · simp at e3; omega
      · cases e3
theorem holds_perm {z : Zo} (h : InvZ z) {l : List Int} {p : Int} (hp : p = 0 ∨ p = 1) : Holds z l p 1 ↔ l.Perm (z.l p.toNat) := by
  constructor
  · rintro ⟨h1, h2⟩
    rw [List.perm_ext_iff_of_nodup h1 (h.nd _)]
    intro m; rw [h2, At_li h hp]
  · intro hp'
    refine ⟨hp'.symm.nodup (h.nd _), fun m => ?_⟩
    rw [hp'.mem_iff, At_li h hp]

theorem rarr_c (h : ZR e1 H b z st ss) (hi : InvZ z) {p : Int} {a : Sl} {l : List Int} (ha : SlF TN H a l) (hl : l.length ≤ 1048600) {Q : Int × Unit → Heap → Prop}
    (hq : ∀ H' ss', ZR e1 H' b (arrZ z p l).2 st ss' → Bh (fp b st ss) H (fp b st ss') H' → Q ((arrZ z p l).1, ()) H') : CALL P [TN] n_ref17_Zones_Arrange [ad b, .int .i64 p, a.v] H Q := by
  apply c_ref17_Zones_Arrange
  unfold S_ref17_Zones_Arrange
  unfold arrZ at hq
  refine rnone_c h (ifB_f rfl ?_)
  refine JOIN_inv (fun y H' => ((y : (Bool × Unit) × Unit).1.1 = true ↔ ¬ ((p = 0 ∨ p = 1) ∧ l.Perm (z.l p.toNat))) ∧ Frs [] H H') (fun j hj => rowner_c fun r hr => ifB_of (fun h1 => hj _ _ ⟨?_, .refl _ _⟩) (fun h1 => ?_)) ?_
  · have : ¬ (p = 0 ∨ p = 1) := fun q => by rw [hr.2 q] at h1; cases h1
    simp [this]
  · have hp : p = 0 ∨ p = 1 := hr.1 (by simpa using h1)
    refine holds_c h (tlen_le hi) ha hl fun r2 H4 hr2 fr => hj _ _ ⟨?_, fr⟩
    rw [holds_perm hi hp] at hr2
    simp only [hp, true_and, ← hr2]
    cases r2 <;> simp
  · rintro ⟨⟨r, _⟩, _⟩ H3 ⟨hr, fr⟩
    simp only at hr
    have h3 := h.new fr
    refine ifB_of (fun h1 => ?_) (fun h1 => ?_)
    · have hn := hr.1 h1
      by_cases hp : p = 0 ∨ p = 1
      · rw [if_neg (not_not_intro hp), if_neg (fun q => hn ⟨hp, q⟩)] at hq
        exact hq H3 ss h3 (.new fr)
      · rw [if_pos hp] at hq
        exact hq H3 ss h3 (.new fr)
    · have hh : (p = 0 ∨ p = 1) ∧ l.Perm (z.l p.toNat) := Classical.byContradiction fun q => by have := hr.2 q; simp only at h1; rw [this] at h1; cases h1
      rw [if_neg (not_not_intro hh.1), if_pos hh.2] at hq
      have q1 : p.toNat < 4 := by omega
      refine ints_c (ha.frs fr (by simp)) hl fun s5 H5 sp5 n5 => ⟨⟨by omega, by omega⟩, ?_⟩
      refine h3.pq q1 n5.1.j (newmv n5 _) (n5.2.2.mono (by simp)) (by show _ = 1 + p.toNat; omega) fun H6 p1 p2 => ?_
      exact hq H6 _ p1 ((Bh.new fr).trans p2)
end
end
end

section
/- The document's table, a look into a place, its new zones. -/
open Zv
section
variable {H : Heap} {b : Nat} {z : Zo} {st : Sl} {ss : Nat → Sl}
/-- The document's table: each put in its place. -/
theorem rtable_c (h : ZR e1 H b z st ss) (ht : z.t.length ≤ 4096) {Q : Sl × Unit → Heap → Prop} (hq : ∀ s' H' l sp, IsTab z l → NewO TN H s' H' l sp → Q (s', ()) H') : CALL P [T_sl] n_ref17_Zones_Table [ad b] H Q := by
  apply c_ref17_Zones_Table
  unfold S_ref17_Zones_Table
  have htl := h.tl
  refine rnone_c h (ifB_f rfl (JOIN_of ?_))
  refine loop_of (fun (s : (Sl × Int × Unit) × Unit) H' => ∃ (n : Nat) (l sp : List Int), s.1.2.1 = (n : Int) + 1 ∧ n ≤ z.t.length ∧ NewO TN H s.1.1 H' l sp ∧ l.Perm (numsZ z.t (fun t => t.Place == 4) n) ∧ l.Pairwise fun a b => (atZ z a).Stamp ≤ (atZ z b).Stamp) (fun s => z.t.length + 1 - s.1.2.1.toNat) ?_ ⟨0, [], [], rfl, Nat.zero_le _, nil_new H, List.Perm.refl _, List.Pairwise.nil⟩
  rintro G ⟨⟨s, i, _⟩, _⟩ H' ⟨n, l, sp, hi', hn, n1, pm, pw⟩ hG
  simp only at hi' n1; subst hi'
  dsimp only at hG ⊢
  have hz' := h.new n1.2.2
  refine hz'.ld_t rfl (ifB_of (fun hlt => ?_) (fun hge => ?_))
  · have hlt : n < z.t.length := by have := of_decide_eq_true hlt; omega
    have hx : z.t[n]? = some z.t[n] := List.getElem?_eq_getElem hlt
    have hln : l.length ≤ n := by rw [pm.length_eq]; exact numsZ_le n
    refine JOIN_inv (fun y H4 => ∃ (l' sp' : List Int), NewO TN H (y : (Sl × Unit) × Unit).1.1 H4 l' sp' ∧ l'.Perm (numsZ z.t (fun t => t.Place == 4) (n + 1)) ∧ l'.Pairwise fun a b => (atZ z a).Stamp ≤ (atZ z b).Stamp) (fun j hj => ?_) ?_
    · refine hz'.ld_t rfl ?_
      rw [i64w (x := (n : Int) + 1 - 1) (by omega) (by omega)]
      refine hz'.ld_p (k := n) (by omega) hx (ifB_of (fun h1 => ?_) (fun h1 => ?_))
      · have h1 : z.t[n].Place ≠ 4 := by simpa using h1
        refine hj _ _ ⟨l, sp, n1, ?_, pw⟩
        rw [numsZ_succ hlt, if_neg (by simpa using h1)]; simpa using pm
      · have h1 : z.t[n].Place = 4 := by simpa using h1
        refine app1 n1 (by omega) _ fun s5 H5 sp5 n5 => ?_
        have hl5 : s5.len = l.length + 1 := by have := n5.1.1; simpa using this
        have hat : atZ z ((n : Int) + 1) = z.t[n] := atZ_at hx
        have hnext : (l ++ [(n : Int) + 1]).Perm (numsZ z.t (fun t => t.Place == 4) (n + 1)) := by
          rw [numsZ_succ hlt, if_pos (by simpa using h1)]; exact pm.append (List.Perm.refl _)
        have hmem : ∀ m ∈ l, ∃ (k : Nat) (x : Th), m = (k : Int) + 1 ∧ z.t[k]? = some x := fun m hm => by
          obtain ⟨k, x, _, k2, k3, _⟩ := mem_numsZ.1 (pm.mem_iff.1 hm); exact ⟨k, x, k2, k3⟩
        refine JOIN_of ?_
        rw [i64w (x := (s5.len : Int) - 1) (by omega) (by omega)]
        refine loop_of (fun (q : (Int × Unit) × Unit) H6 => ∃ (A B sp6 : List Int), l = A ++ B ∧ q.1.1 = (A.length : Int) ∧ NewO TN H s5 H6 (A ++ ((n : Int) + 1) :: B) sp6 ∧ ∀ m ∈ B, z.t[n].Stamp < (atZ z m).Stamp) (fun q => q.1.1.toNat) ?_ ⟨l, [], sp5, by simp, by simp only; omega, by simpa using n5, by simp⟩
        rintro G2 ⟨⟨i, _⟩, _⟩ H6 ⟨A, B, sp6, hAB, hi6, n6, hB⟩ hG2
        simp only at hi6; subst hi6
        dsimp only at hG2 ⊢
        have hz6 := h.new n6.2.2
        have pwAB := pw
        rw [hAB, List.pairwise_append] at pwAB
        obtain ⟨pA, pB, pAB⟩ := pwAB
        have fin : ((∀ m ∈ A, (atZ z m).Stamp ≤ z.t[n].Stamp)) → (A ++ ((n : Int) + 1) :: B).Perm (numsZ z.t (fun t => t.Place == 4) (n + 1)) ∧ (A ++ ((n : Int) + 1) :: B).Pairwise fun a b => (atZ z a).Stamp ≤ (atZ z b).Stamp := fun hA => by
          refine ⟨?_, ?_⟩
          · refine List.Perm.trans ?_ hnext
            rw [hAB]
            have : (A ++ ((n : Int) + 1) :: B).Perm (((n : Int) + 1) :: (A ++ B)) := List.perm_middle
            exact this.trans (List.perm_append_singleton ((n : Int) + 1) (A ++ B)).symm
          · rw [List.pairwise_append]
            refine ⟨pA, List.pairwise_cons.2 ⟨fun m hm => by rw [hat]; have := hB m hm; omega, pB⟩, fun a ha m hm => ?_⟩
            rcases List.mem_cons.1 hm with rfl | hm
            · rw [hat]; exact hA a ha
            · have h1 := hA a ha; have h2 := hB m hm; omega
        rcases List.eq_nil_or_concat A with rfl | ⟨A', a, rfl⟩
        · refine JOIN_of (ifB_f rfl (ifB_f rfl ?_))
          obtain ⟨f1, f2⟩ := fin (by simp)
          exact hj _ _ ⟨_, sp6, n6, f1, f2⟩
        · rw [List.concat_eq_append] at hAB n6 pA pAB fin ⊢
          have hAl : (A' ++ [a]).length = A'.length + 1 := by simp
          obtain ⟨ka, xa, rfl, hka⟩ := hmem a (by rw [hAB]; simp)
          have hata : atZ z ((ka : Int) + 1) = xa := atZ_at hka
          have hkal := (List.getElem?_eq_some_iff.1 hka).1
          have hll : (A' ++ [(ka : Int) + 1] ++ ((n : Int) + 1) :: B).length = A'.length + 2 + B.length := by simp; omega
          have g1 : (A' ++ [(ka : Int) + 1] ++ ((n : Int) + 1) :: B)[A'.length + 1]? = some ((n : Int) + 1) := by rw [List.getElem?_append_right (by simp)]; simp
          have g0 : (A' ++ [(ka : Int) + 1] ++ ((n : Int) + 1) :: B)[A'.length]? = some ((ka : Int) + 1) := by rw [List.append_assoc, List.getElem?_append_right (Nat.le_refl _)]; simp
          rw [hAl]
          have hlA : A'.length + 1 ≤ n := by have := congrArg List.length hAB; simp at this; omega
          rw [i64w (x := ((A'.length + 1 : Nat) : Int) - 1) (by omega) (by omega)]
          refine JB (H := H6) (z.t[n].Stamp < xa.Stamp) (fun j2 hj2 => ifB_t (decide_eq_true (by omega)) (hz6.ld_t rfl ?_)) fun r hr => ifB_of (fun h2 => ?_) (fun h2 => ?_)
          · refine idx_ldF (T := TN) hTN n6.1.slf (n := A'.length + 1) rfl g1 rfl ?_
            rw [i64w (x := (n : Int) + 1 - 1) (by omega) (by omega)]
            refine idx_stamp hz6.t.slf (n := n) (by omega) hx (hz6.ld_t rfl (idx_ldF (T := TN) hTN n6.1.slf (n := A'.length) (by omega) g0 rfl ?_))
            rw [i64w (x := (ka : Int) + 1 - 1) (by omega) (by omega)]
            refine idx_stamp hz6.t.slf (n := ka) (by omega) hka (hj2 _ ?_)
            simp
          · have hlt2 := hr.1 h2
            refine idx_ldF (T := TN) hTN n6.1.slf (n := A'.length) (by omega) g0 rfl (idx_ldF (T := TN) hTN n6.1.slf (n := A'.length + 1) rfl g1 rfl ?_)
            refine n6.1.st (T := TN) hTN (fun _ => rfl) (k := A'.length + 1) rfl (by omega) _ rfl fun H9 k1 k2 k3 => ?_
            have n9 := own_frs n6.1 n6.2.1 n6.2.2 k2
            refine k1.st (T := TN) hTN (fun _ => rfl) (k := A'.length) (by omega) (by simp) _ rfl fun H10 m1 m2 m3 => ?_
            have n10 := own_frs k1 n6.2.1 n9 m2
            refine hG2 _ _ ⟨A', ((ka : Int) + 1) :: B, sp6, by rw [hAB]; simp, by show ((A'.length + 1 : Nat) : Int) - 1 = _; omega, ⟨?_, n6.2.1, n10⟩, fun m hm => ?_⟩ (by simp only [List.length_concat]; omega)
            · have e : ((A' ++ [(ka : Int) + 1] ++ ((n : Int) + 1) :: B).set (A'.length + 1) ((ka : Int) + 1)).set A'.length ((n : Int) + 1) = A' ++ ((n : Int) + 1) :: ((ka : Int) + 1) :: B := by
                rw [List.append_assoc]
                simp
              rw [e] at m1
              exact m1
            · rcases List.mem_cons.1 hm with rfl | hm
              · rw [hata]; exact hlt2
              · exact hB m hm
          · have hge2 : xa.Stamp ≤ z.t[n].Stamp := by
              have : ¬ z.t[n].Stamp < xa.Stamp := fun q => by rw [hr.2 q] at h2; cases h2
              omega
            obtain ⟨f1, f2⟩ := fin fun m hm => by
              rcases List.mem_append.1 hm with hm | hm
              · rw [List.pairwise_append] at pA
                have := pA.2.2 m hm _ (List.mem_singleton.2 rfl)
                rw [hata] at this; omega
              · simp at hm; subst hm; rw [hata]; exact hge2
            exact hj _ _ ⟨_, sp6, n6, f1, f2⟩
    · rintro ⟨⟨s4, _⟩, _⟩ H4 ⟨l', sp', n4, pm4, pw4⟩
      dsimp only
      rw [i64w (by omega) (by omega)]
      exact hG _ _ ⟨n + 1, l', sp', by simp, hlt, n4, pm4, pw4⟩ (by simp; omega)
  · have hge : n = z.t.length := by have := of_decide_eq_false hge; omega
    subst hge
    exact hq _ _ l sp ⟨pm, pw⟩ n1
theorem rin_c (h : ZR e1 H b z st ss) (hi : InvZ z) {p pl : Int} {Q : Sl × Unit → Heap → Prop} (hq : ∀ s' H' l sp, IsIn z p pl l → NewO TN H s' H' l sp → Q (s', ()) H') : CALL P [T_sl] n_ref17_Zones_In [ad b, .int .i64 p, .int .u8 pl] H Q := by
  apply c_ref17_Zones_In
  unfold S_ref17_Zones_In
  have few := hi.few
  have htl := h.tl
  refine JB (H := H) (¬ (p = 0 ∨ p = 1)) (fun j hj => rnone_c h (ifB_f rfl (rowner_c fun r hr => hj _ ?_))) fun r hr => ifB_of (fun h1 => ?_) (fun h1 => ?_)
  · rw [← hr]; cases r <;> simp
  · exact hq _ H [] [] (.inl ⟨hr.1 h1, rfl⟩) (nil_new H)
  have hp : p = 0 ∨ p = 1 := Classical.byContradiction fun q => by rw [hr.2 q] at h1; cases h1
  have hA : 0 ≤ p ∧ p < 2 := by omega
  refine JOIN_inv (fun y H4 => pl ≠ 1 ∧ pl ≠ 2 ∧ ∃ (l sp : List Int), NewO TN H (y : (Sl × Unit) × Unit).1.1 H4 l sp ∧ l.length ≤ 2048 ∧ (∀ m ∈ l, ∃ (k : Nat) (x : Th), m = (k : Int) + 1 ∧ z.t[k]? = some x) ∧ IsIn z p pl (l.filter fun m => (atZ z m).Owner == p && (atZ z m).Place == pl)) (fun j hj => ?_) ?_
  · refine ifB_of (fun t1 => ?_) (fun t1 => ?_)
    · have t1 : pl = 1 := by simpa using t1
      have q1 : p.toNat < 4 := by omega
      have := hi.len p.toNat
      exact ⟨hA, h.ld_q q1 (by omega) (ints_c (h.l _ q1).slf (by omega) fun s' H' sp n1 => hq s' H' _ sp (.inr ⟨hp, .inl ⟨t1, rfl⟩⟩) n1)⟩
    · have t1 : pl ≠ 1 := by simpa using t1
      refine ifB_of (fun t2 => ?_) (fun t2 => ?_)
      · have t2 : pl = 2 := by simpa using t2
        have q1 : 2 + p.toNat < 4 := by omega
        have := hi.len (2 + p.toNat)
        exact ⟨hA, h.ld_q q1 (by omega) (ints_c (h.l _ q1).slf (by omega) fun s' H' sp n1 => hq s' H' _ sp (.inr ⟨hp, .inr (.inl ⟨t2, rfl⟩)⟩) n1)⟩
      · have t2 : pl ≠ 2 := by simpa using t2
        refine JOIN_of (ifB_of (fun t4 => ?_) (fun t4 => ?_))
        · have t4 : pl = 4 := by simpa using t4
          refine rtable_c h (by omega) fun s6 H6 tab sp6 ht n6 => hj _ _ ⟨t1, t2, tab, sp6, n6, tab_le hi ht, fun m hm => ?_, .inr ⟨hp, .inr (.inr (.inl ⟨t4, tab, ht, ?_⟩))⟩⟩
          · obtain ⟨k, x, e, e2, _⟩ := mem_onT.1 (ht.1.mem_iff.1 hm); exact ⟨k, x, e, e2⟩
          · refine List.filter_congr fun m hm => ?_
            obtain ⟨k, x, rfl, e2, e3⟩ := mem_onT.1 (ht.1.mem_iff.1 hm)
            rw [atZ_at e2, e3, t4]; simp
        · have t4 : pl ≠ 4 := by simpa using t4
          refine JOIN_of ?_
          refine loop_of (fun (s : (Sl × Int × Unit) × Unit) H' => ∃ (n : Nat) (sp : List Int), s.1.2.1 = (n : Int) + 1 ∧ n ≤ z.t.length ∧ NewO TN H s.1.1 H' (numsZ z.t (fun _ => true) n) sp) (fun s => z.t.length + 1 - s.1.2.1.toNat) ?_ ⟨0, [], rfl, Nat.zero_le _, nil_new H⟩
          rintro G ⟨⟨s, i, _⟩, _⟩ H' ⟨n, sp, hi', hn, n1⟩ hG
          simp only at hi' n1; subst hi'
          dsimp only at hG ⊢
          have hz' := h.new n1.2.2
          refine hz'.ld_t rfl (ifB_of (fun hlt => ?_) (fun hge => ?_))
          · have hlt : n < z.t.length := by have := of_decide_eq_true hlt; omega
            have := numsZ_le (t := z.t) (f := fun _ => true) n
            refine app1 n1 (by omega) _ fun s' H2 sp' n2 => ?_
            rw [i64w (by omega) (by omega)]
            refine hG _ _ ⟨n + 1, sp', by simp, hlt, ?_⟩ (by simp; omega)
            rw [numsZ_succ hlt, if_pos rfl]; exact n2
          · have hge : n = z.t.length := by have := of_decide_eq_false hge; omega
            subst hge
            refine hj _ _ ⟨t1, t2, _, sp, n1, Nat.le_trans (numsZ_le _) few, fun m hm => ?_, .inr ⟨hp, .inr (.inr (.inr ⟨t1, t2, t4, ?_⟩))⟩⟩
            · obtain ⟨k, x, _, e, e2, _⟩ := mem_numsZ.1 hm; exact ⟨k, x, e, e2⟩
            · exact numsZ_filter (fun k x hk => by rw [atZ_at hk]; simp) _ (Nat.le_refl _)
  · rintro ⟨⟨s4, _⟩, _⟩ H4 ⟨_, _, l, sp4, n4, hll, hmem, hin⟩
    simp only at n4
    dsimp only
    have hz4 := h.new n4.2.2
    have hsl : s4.len = l.length := n4.1.slf.1
    refine JOIN_of ?_
    refine sift_c (fun H' f => hz4.new f) n4.1.slf (f := fun m => (atZ z m).Owner == p && (atZ z m).Place == pl) (k := fun s H' => Q (s, ()) H') (fun G s n H' l2 sp hz' ha' n1 hln => ⟨fun hlt g1 g2 => ?_, fun hge hk => ?_⟩) fun s7 H7 sp7 n7 => hq s7 H7 _ sp7 hin (n7.mono n4.2.2)
    · dsimp only
      obtain ⟨k, x, ek, hk⟩ := hmem l[n] (List.getElem_mem hlt)
      have hkl := (List.getElem?_eq_some_iff.1 hk).1
      have hgl : l[n]? = some l[n] := List.getElem?_eq_getElem hlt
      refine ifB_t (decide_eq_true (by omega)) (hz'.ld_t rfl (idx_ldF (T := TN) hTN ha' rfl hgl rfl ?_))
      rw [i64w (x := l[n] - 1) (by omega) (by omega)]
      have hat : atZ z l[n] = x := by rw [ek]; exact atZ_at hk
      refine hz'.ld_th (k := k) (by omega) hk (JB (H := H') ((x.Owner == p && x.Place == pl) = true) (fun j hj => ifB_of (fun h1 => hj _ ?_) (fun h1 => hj _ ?_)) fun r hr => JOIN_of (ifB_of (fun h1 => ?_) (fun h1 => ?_)))
      · rw [h1]; simp
      · rw [h1]; simp
      · rw [i64w (by omega) (by omega)]
        exact idx_ldF (T := TN) hTN ha' rfl hgl rfl (app1 n1 (by omega) _ fun s' H2 sp' n2 => g1 (by simp only [hat]; exact hr.1 h1) s' H2 sp' n2)
      · rw [i64w (by omega) (by omega)]
        exact g2 (by simp only [hat]; cases hf : (x.Owner == p && x.Place == pl) with | false => rfl | true => rw [hr.2 hf] at h1; cases h1)
    · dsimp only
      exact ifB_f (decide_eq_false (by omega)) hk
theorem rdeck_c (h : ZR e1 H b z st ss) (hi : InvZ z) {p : Int} {Q : Sl × Unit → Heap → Prop} (hq : ∀ s' H' l sp, IsIn z p 1 l → NewO TN H s' H' l sp → Q (s', ()) H') : CALL P [T_sl] n_ref17_Zones_Deck [ad b, .int .i64 p] H Q := by
  apply c_ref17_Zones_Deck
  unfold S_ref17_Zones_Deck
  exact rin_c h hi hq
theorem rhand_c (h : ZR e1 H b z st ss) (hi : InvZ z) {p : Int} {Q : Sl × Unit → Heap → Prop} (hq : ∀ s' H' l sp, IsIn z p 2 l → NewO TN H s' H' l sp → Q (s', ()) H') : CALL P [T_sl] n_ref17_Zones_Hand [ad b, .int .i64 p] H Q := by
  apply c_ref17_Zones_Hand
  unfold S_ref17_Zones_Hand
  exact rin_c h hi hq
end
section
variable {H : Heap} {a0 a1 : Sl} {l0 l1 : List Int}
theorem rnew_c (h0 : SlF TN H a0 l0) (h1 : SlF TN H a1 l1) (hl0 : l0.length ≤ 1048600) (hl1 : l1.length ≤ 1048600) {Q : (Option Addr) × Int × Unit → Heap → Prop}
    (q1 : 2048 < l0.length + l1.length → Q (none, 3, ()) H) (q2 : ∀ H', l0.length + l1.length ≤ 2048 → ¬ (okC l0 ∧ okC l1) → Frs [] H H' → Q (none, 2, ()) H')
    (q3 : ∀ H' b st ss, l0.length + l1.length ≤ 2048 → okC l0 ∧ okC l1 → ZR e1 H' b (newZ l0 l1) st ss → Frs [] H H' → (∀ d ∈ fp b st ss, H.length ≤ d) → Q (some ⟨b, 0, none⟩, 0, ()) H') : CALL P [T_ptr, TN] n_ref17_New [a0.v, a1.v] H Q := by
  apply c_ref17_New
  unfold S_ref17_New
  have g0 : a0.len = l0.length := h0.1
  have g1 : a1.len = l1.length := h1.1
  rw [i64w (by omega) (by omega)]
  refine ifB_and (c := 2048 < l0.length + l1.length) (by simp; omega) q1 fun hle => ?_
  have hle : l0.length + l1.length ≤ 2048 := by omega
  unfold NEW
  have zr0 : ZR e1 (mk H [(.slice none 0 0), (.slice none 0 0), (.slice none 0 0), (.slice none 0 0), (.slice none 0 0), (.int .i64 1), (.bool true)] 7 false) H.length z0 ⟨none, 0, 0⟩ (fun _ => ⟨none, 0, 0⟩) := nrow H
  have f0 : Frs [] H (mk H [(.slice none 0 0), (.slice none 0 0), (.slice none 0 0), (.slice none 0 0), (.slice none 0 0), (.int .i64 1), (.bool true)] 7 false) := Frs.app _ _ _
  have hl1' : (mk H [(.slice none 0 0), (.slice none 0 0), (.slice none 0 0), (.slice none 0 0), (.slice none 0 0), (.int .i64 1), (.bool true)] 7 false).length = H.length + 1 := by simp [mk]
  generalize mk H [(.slice none 0 0), (.slice none 0 0), (.slice none 0 0), (.slice none 0 0), (.slice none 0 0), (.int .i64 1), (.bool true)] 7 false = H1 at zr0 f0 hl1'
  have f1 : Frs [] H1 (mk H1 [(.slice none 0 0), (.slice none 0 0)] 2 false) := Frs.app _ _ _
  have ha0 : (mk H1 [(.slice none 0 0), (.slice none 0 0)] 2 false)[H1.length]? = some (.row [(.slice none 0 0), (.slice none 0 0)] 2 false false true) := by simp [mk]
  refine ST_of [] [_, _] [] ha0 rfl rfl rfl rfl ?_
  have hd0 := set_get (x := ABlk.row ([] ++ ([a0.v, a1.v] ++ [])) 2 false false true) (get_lt ha0)
  have f2 : Frs [] H1 ((mk H1 [(.slice none 0 0), (.slice none 0 0)] 2 false).set H1.length (.row ([] ++ ([.slice a0.p a0.len a0.cap, .slice a1.p a1.len a1.cap] ++ [])) 2 false false true)) := f1.then (Frs.set (B := [H1.length]) _ _ (by simp)) fun c hc => by simp at hc; exact .inr (by omega)
  generalize hH3 : (mk H1 [(.slice none 0 0), (.slice none 0 0)] 2 false).set H1.length (.row ([] ++ ([.slice a0.p a0.len a0.cap, .slice a1.p a1.len a1.cap] ++ [])) 2 false false true) = H3 at f2
  have hd3 : H3[H1.length]? = some (.row [a0.v, a1.v] 2 false false true) := by rw [← hH3]; exact hd0
  have zr3 := zr0.new f2
  have f3 := f0.trans f2
  refine JOIN_of ?_
  refine loop_of (fun (s : (Int × Unit) × Unit) H' => ∃ (n : Nat) (st : Sl) (ss : Nat → Sl), s.1.1 = n ∧ n ≤ 2 ∧ ZR Zq.e1 H' H.length (zs l0 l1 n) st ss ∧ Bh [] H (fp H.length st ss) H' ∧ (H1.length ∉ fp H.length st ss ∧ H'[H1.length]? = some (.row [a0.v, a1.v] 2 false false true)) ∧ ∀ k, k < n → okC (Ls l0 l1 k)) (fun s => 2 - s.1.1.toNat) ?_ ⟨0, _, _, rfl, by omega, zr3, ⟨f3, fun d hd => by rw [nrow_fp] at hd; simp at hd; exact .inr (by omega)⟩, ⟨by rw [nrow_fp]; simp; omega, hd3⟩, fun k hk => by omega⟩
  rintro G ⟨⟨i, _⟩, _⟩ H' ⟨n, st, ss, hi, hn, zr, bh, ar, ok⟩ hG
  simp only at hi; subst hi
  dsimp only at hG ⊢
  refine ifB_of (fun hlt => ?_) (fun hge => ?_)
  · have hlt : n < 2 := by have := of_decide_eq_true hlt; omega
    refine JOIN_of (JOIN_of ?_)
    have hs : SlF TN H (Ss a0 a1 n) (Ls l0 l1 n) := by
      rcases (by omega : n = 0 ∨ n = 1) with rfl | rfl
      · exact h0
      · exact h1
    have hLl : (Ls l0 l1 n).length ≤ 2048 := by unfold Ls; split <;> omega
    have hSl := hs.1
    have hA : (0 : Int) ≤ (n : Int) ∧ (n : Int) < 2 := by omega
    have lda : ∀ {G : Heap} {k : Sl → Prop}, G[H1.length]? = some (.row [a0.v, a1.v] 2 false false true) → k (Ss a0 a1 n) → LD T_sl G H1.length (0 + (n : Int).toNat * 1) k := fun hg hk => by
      rcases (by omega : n = 0 ∨ n = 1) with rfl | rfl
      · exact LD_of (T := T_sl) a0 [] [a1.v] hg rfl rfl rfl hk
      · exact LD_of (T := T_sl) a1 [a0.v] [] hg rfl rfl rfl hk
    refine loop_of (fun (s : (Int × Unit) × Unit) H' => ∃ (m : Nat) (st : Sl) (ss : Nat → Sl), s.1.1 = m ∧ m ≤ (Ls l0 l1 n).length ∧ ZR Zq.e1 H' H.length (fillZ (zs l0 l1 n) n ((Ls l0 l1 n).take m)) st ss ∧ Bh [] H (fp H.length st ss) H' ∧ (H1.length ∉ fp H.length st ss ∧ H'[H1.length]? = some (.row [a0.v, a1.v] 2 false false true)) ∧ okC ((Ls l0 l1 n).take m)) (fun s => (Ls l0 l1 n).length - s.1.1.toNat) ?_ ⟨0, st, ss, rfl, Nat.zero_le _, by simpa [fillZ] using zr, bh, ar, by simp [okC]⟩
    rintro G2 ⟨⟨i, _⟩, _⟩ H2 ⟨m, st2, ss2, hi2, hm, zr2, bh2, ar2, ok2⟩ hG2
    simp only at hi2; subst hi2
    dsimp only at hG2 ⊢
    refine ⟨hA, lda ar2.2 (ifB_of (fun hlt2 => ?_) (fun hge2 => ?_))⟩
    · have hlt2 : m < (Ls l0 l1 n).length := by have := of_decide_eq_true hlt2; omega
      have hsl2 := hs.frs bh2.f (by simp)
      refine ⟨hA, lda ar2.2 (idx_ldF (T := TN) hTN hsl2 rfl (List.getElem?_eq_getElem hlt2) rfl (ifB_of (fun t1 => ?_) (fun t1 => ?_)))⟩
      · have t1 := of_decide_eq_true t1
        refine q2 H2 hle (fun q => ?_) bh2.f
        have hmem : (Ls l0 l1 n)[m] ∈ Ls l0 l1 n := List.getElem_mem hlt2
        have : okC (Ls l0 l1 n) := by unfold Ls; split; exact q.1; exact q.2
        have := this _ hmem
        omega
      · have t1 := of_decide_eq_false t1
        obtain ⟨pb1, pb2⟩ := part_b hle hlt m
        refine zr2.ld_t rfl ⟨hA, lda ar2.2 (idx_ldF (T := TN) hTN hsl2 rfl (List.getElem?_eq_getElem hlt2) rfl (zr2.ld_t rfl ⟨rfl, ?_⟩))⟩
        have hmore := more_g zr2 pb1 (fun q _ => pb2 q) hlt ((Ls l0 l1 n)[m]) (K := fun H3 => G2 ((IntKind.wrap .i64 ((m : Int) + 1), ()), ()) H3) fun H3 st3 ss3 zr3 bh3 => by
          rw [i64w (by omega) (by omega)]
          refine hG2 _ _ ⟨m + 1, st3, ss3, by simp, hlt2, by rw [fillZ_succ hlt2]; exact zr3, bh2.trans bh3, ⟨fun hm3 => ?_, bh3.f.get ar2.1 ar2.2⟩, fun c hc => ?_⟩ (by simp; omega)
          · rcases bh3.g _ hm3 with q | q
            · exact ar2.1 q
            · have := get_lt ar2.2; omega
          · rw [List.take_succ_eq_append_getElem hlt2, List.mem_append, List.mem_singleton] at hc
            rcases hc with q | rfl
            · exact ok2 c q
            · omega
        obtain ⟨sl, hrd, hm2⟩ := hmore
        have hst : T_sl.cells sl = T_sl.cells st2 := by
          obtain ⟨sz, hrow⟩ := zr2.row
          obtain ⟨x, hx1, hx2⟩ := (zr2.ld_t (o := 0) rfl (k := fun x => x = st2) rfl)
          subst hx2
          rw [hx1] at hrd; exact (Option.some.inj hrd).symm
        have : sl = st2 := by
          cases sl; cases st2
          simp only [List.cons.injEq, Value.slice.injEq, and_true] at hst
          obtain ⟨rfl, rfl, rfl⟩ := hst; rfl
        subst this
        exact hm2
    · have hge2 : m = (Ls l0 l1 n).length := by have := of_decide_eq_false hge2; omega
      subst hge2
      rw [List.take_length] at zr2 ok2
      rw [i64w (by omega) (by omega)]
      refine hG _ _ ⟨n + 1, st2, ss2, by simp, by omega, zr2, bh2, ar2, fun k hk => ?_⟩ (by simp; omega)
      by_cases e : k = n
      · subst e; exact ok2
      · exact ok k (by omega)
  · have hge : n = 2 := by have := of_decide_eq_false hge; omega
    subst hge
    exact q3 H' H.length st ss hle ⟨ok 0 (by omega), ok 1 (by omega)⟩ zr bh.f fun d hd => by
      rcases bh.g d hd with q | q
      · cases q
      · exact q
end
end
end

section
/- Zones of the program's and of the document's, side by side: a call of both. -/
section
/- Zones of the program's and of the document's, side by side: a call of both. -/
section
/- Zones of the program's and of the document's, side by side: a call of both. -/
open Zv
/-- The program's zones and the document's, the same, apart, behind n. -/
structure Two (n : Nat) (H : Heap) (bp br : Nat) (z : Zo) (st : Sl) (ss : Nat → Sl) (sr : Sl) (sq : Nat → Sl) : Prop where
  p : ZR [] H bp z st ss
  r : ZR e1 H br z sr sq
  dj : ∀ d ∈ fp bp st ss, d ∉ fp br sr sq
  lp : ∀ d ∈ fp bp st ss, n ≤ d
  lr : ∀ d ∈ fp br sr sq, n ≤ d
section
variable {n : Nat} {H H' : Heap} {bp br : Nat} {z : Zo} {st sr : Sl} {ss sq : Nat → Sl}
theorem Two.frs {B : List Nat} (h : Two n H bp br z st ss sr sq) (f : Frs B H H') (hB : ∀ d ∈ B, d < n) : Two n H' bp br z st ss sr sq :=
  ⟨h.p.frs f fun d hd hm => by have := hB d hm; have := h.lp d hd; omega, h.r.frs f fun d hd hm => by have := hB d hm; have := h.lr d hd; omega, h.dj, h.lp, h.lr⟩
theorem Two.new (h : Two n H bp br z st ss sr sq) (f : Frs [] H H') : Two n H' bp br z st ss sr sq := h.frs f (by simp)
/-- .. where what is another lies nowhere here. -/
theorem Two.off {B : List Nat} (h : Two n H bp br z st ss sr sq) (f : Frs B H H') (hB : ∀ d ∈ B, d ∉ fp bp st ss ∧ d ∉ fp br sr sq) : Two n H' bp br z st ss sr sq :=
  ⟨h.p.frs f fun d hd hm => (hB d hm).1 hd, h.r.frs f fun d hd hm => (hB d hm).2 hd, h.dj, h.lp, h.lr⟩
theorem Two.rp (h : Two n H bp br z st ss sr sq) {F : List Nat} (b : Bh (fp bp st ss) H F H') : ZR e1 H' br z sr sq := h.r.frs b.f fun d hd hm => h.dj d hm hd
theorem Two.nl (h : Two n H bp br z st ss sr sq) : n ≤ H.length := by
  have h1 := h.lp bp (mem_fp.2 (.inl rfl))
  have := h.p.blt; omega
/-- Both have gone on. -/
theorem Two.step {H1 H2 : Heap} {z1 : Zo} {st1 sr2 : Sl} {ss1 sq2 : Nat → Sl} (h : Two n H bp br z st ss sr sq) (p1 : ZR [] H1 bp z1 st1 ss1) (b1 : Bh (fp bp st ss) H (fp bp st1 ss1) H1) (r2 : ZR e1 H2 br z1 sr2 sq2) (b2 : Bh (fp br sr sq) H1 (fp br sr2 sq2) H2) : Two n H2 bp br z1 st1 ss1 sr2 sq2 := by
  have hn := h.nl
  have dj1 : ∀ d ∈ fp bp st1 ss1, d ∉ fp br sr sq := fun d hd hm => by
    rcases b1.g d hd with q | q
    · exact h.dj d q hm
    · have := h.r.lt d hm; omega
  refine ⟨p1.frs b2.f dj1, r2, fun d hd hm => ?_, fun d hd => ?_, fun d hd => ?_⟩
  · rcases b2.g d hm with q | q
    · exact dj1 d hd q
    · have := p1.lt d hd; omega
  · rcases b1.g d hd with q | q
    · exact h.lp d q
    · omega
  · rcases b2.g d hd with q | q
    · exact h.lr d q
    · have := b1.f.1; omega
theorem fr_of {H0 H1 : Heap} {F F' : List Nat} (f : Frs [] H0 H) (b : Bh F H F' H1) (lo : ∀ d ∈ F, H0.length ≤ d) : Frs [] H0 H1 := f.then b.f fun c hc => .inr (lo c hc)

theorem call_c {H0 : Heap} (h : Two n H bp br z st ss sr sq) (hi : InvZ z) (f0 : Frs [] H0 H) (hn : H0.length ≤ n) {op : G_law17_Op} {li : List Int} (hL : SlF TN H0 op.L li) (hll : li.length ≤ 1048576) {Q : Bool × Unit → Heap → Prop}
    (hq : ∀ H' z' st' ss' sr' sq', Two n H' bp br z' st' ss' sr' sq' → InvZ z' → Frs [] H0 H' → Q (true, ()) H') : CALL P [T_bool] n_law17_call [ad bp, ad br, T_G_law17_Op.enc op] H Q := by
  apply c_law17_call
  unfold S_law17_call
  have lop : ∀ d ∈ fp bp st ss, H0.length ≤ d := fun d hd => Nat.le_trans hn (h.lp d hd)
  have lor : ∀ d ∈ fp br sr sq, H0.length ≤ d := fun d hd => Nat.le_trans hn (h.lr d hd)
  have beq : ∀ x : Int, (x == x) = true := fun x => by simp
  refine ifB_of (fun _ => ?_) (fun _ => ifB_of (fun _ => ?_) (fun _ => ifB_of (fun _ => ?_) (fun _ => ifB_of (fun _ => ?_) (fun _ => ifB_of (fun _ => ?_) (fun _ => ?_)))))
  · refine pmove_c h.p hi fun H1 ss1 p1 b1 => ⟨rfl, rfl, rmove_c (h.rp b1) hi fun H2 sq2 r2 b2 => ?_⟩
    rw [move_same hi] at r2 ⊢
    dsimp only
    rw [beq]
    exact hq H2 _ _ _ _ _ (h.step p1 b1 r2 b2) (move_inv hi _ _) (fr_of (fr_of f0 b1 lop) b2 lor)
  · refine pmake_c h.p hi fun H1 st1 ss1 p1 b1 => rmake_c (h.rp b1) hi fun H2 sr2 sq2 r2 b2 => ?_
    rw [make_same hi] at r2 ⊢
    dsimp only
    refine JOIN_of (ifB_t (beq _) ?_)
    dsimp only
    rw [beq]
    exact hq H2 _ _ _ _ _ (h.step p1 b1 r2 b2) (make_inv hi _ _) (fr_of (fr_of f0 b1 lop) b2 lor)
  · refine pwrite_c h.p hi fun H1 p1 b1 => ⟨rfl, rfl, rwrite_c (h.rp b1) hi fun H2 r2 b2 => ?_⟩
    dsimp only
    rw [beq]
    exact hq H2 _ _ _ _ _ (h.step p1 b1 r2 b2) (write_inv hi _ _) (fr_of (fr_of f0 b1 lop) b2 lor)
  · refine KInts.lent_c (hL.frs f0 (by simp)) (by omega) fun s9 H8 sp9 n9 ⟨d9, ed9⟩ => ?_
    have hd9 := n9.2.1 d9 ed9
    refine slice_toO KInts.tyS n9.1 (n := li.length) (by rw [hL.1]) (by simp) ?_
    have hpre := n9.1.pre li.length s9.cap (by simp) (fun e => by rw [ed9] at e; cases e)
    rw [List.take_left' rfl] at hpre
    have h8 := h.new n9.2.2
    refine parr_c h8.p hi hpre (by omega) fun H9 ss9 p9 b9 => ?_
    have hlt9 : ∀ d ∈ fp bp st ss, d < H.length := h.p.lt
    have how9 : Ow TN H9 s9 (li ++ [KInts.w, KInts.w]) sp9 := n9.1.frs b9.f fun d hd e => by rw [ed9] at e; simp at e; subst e; have := hlt9 _ hd; omega
    have f9 : Frs [] H0 H9 := fr_of (f0.trans n9.2.2) b9 lop
    refine KInts.kept_c how9.slf (hL.frs f9 (by simp)) (by simp; omega) (by omega) fun r H10 hr f10 => ?_
    have hr : r = true := hr.2 rfl
    subst hr
    have how10 : Ow TN H10 s9 (li ++ [KInts.w, KInts.w]) sp9 := how9.frs f10 (by simp [Sl.off])
    refine KInts.over_c how10 (by simp; omega) fun H11 how11 a11 => ?_
    have f11 : Frs [d9] H10 H11 := a11.frs fun d hd => .inl (by rw [ed9] at hd; simp at hd; simp [hd])
    have r9 := h8.rp b9
    have r11 : ZR e1 H11 br z sr sq := (r9.new f10).frs f11 fun d hd hm => by simp at hm; subst hm; have := h.r.lt _ hd; omega
    have fr11 : Frs [] H0 H11 := (f9.trans f10).then f11 fun c hc => by simp at hc; have := f0.1; exact .inr (by omega)
    refine JOIN_of (rarr_c r11 hi (hL.frs fr11 (by simp)) (by omega) fun H13 sq13 r13 b13 => ifB_t (beq _) ?_)
    have p11 : ZR [] H11 bp (arrZ z op.Owner li).2 st ss9 := (p9.new f10).frs f11 fun d hd hm => by
      simp at hm; subst hm
      rcases b9.g _ hd with q | q
      · have := hlt9 _ q; omega
      · have := n9.2.2.1
        have hl8 : d < H8.length := n9.1.lt ed9
        omega
    have b11 : Bh (fp bp st ss) H (fp bp st ss9) H11 := by
      refine ⟨((n9.2.2.mono (by simp)).trans b9.f |>.trans (f10.mono (by simp))).then f11 fun c hc => ?_, fun d hd => ?_⟩
      · simp at hc; exact .inr (by omega)
      · rcases b9.g d hd with q | q
        · exact .inl q
        · have := n9.2.2.1; exact .inr (by omega)
    exact hq H13 _ _ _ _ _ (h.step p11 b11 r13 b13) (arr_inv hi _ _) (fr_of fr11 b13 lor)
  · refine rthing_c h.r (tlen_le hi) ⟨rfl, rfl, rfl, rfl, rfl, rfl, ?_⟩
    refine pwrite_c h.p hi fun H1 p1 b1 => ⟨rfl, rfl, rwrite_c (h.rp b1) hi fun H2 r2 b2 => ?_⟩
    dsimp only
    rw [beq]
    exact hq H2 _ _ _ _ _ (h.step p1 b1 r2 b2) (write_inv hi _ _) (fr_of (fr_of f0 b1 lop) b2 lor)
  · exact hq H z _ _ _ _ h hi f0

/-- Lists that were told, gathered: those in memory; all. -/
structure Acc (Hb H : Heap) (a : Sl) (lm ls : List Sl) : Prop where
  n : ∃ sp, NewO T_sl Hb a H lm sp
  o : ∀ s ∈ ls, ∃ l sp, Ow TN H s l sp
  d : Dst ls
  b : ∀ s ∈ ls, ∀ d ∈ bl s.p, Hb.length ≤ d ∧ d < H.length ∧ d ∉ bl a.p
theorem Acc.nil (H : Heap) : Acc H H ⟨none, 0, 0⟩ [] [] := ⟨⟨[], Ow.nil T_sl H, by simp, .refl _ _⟩, by simp, fun i j u v c _ h => by simp at h, by simp⟩
theorem Acc.fr {Hb : Heap} {a : Sl} {lm ls : List Sl} (h : Acc Hb H a lm ls) : Frs [] Hb H := by obtain ⟨sp, h1⟩ := h.n; exact h1.2.2
theorem Acc.track {Hb : Heap} {a s : Sl} {lm ls : List Sl} {l sp : List Int} (h : Acc Hb H a lm ls) (k : NewO TN H s H' l sp) : Acc Hb H' a lm (ls ++ [s]) := by
  obtain ⟨asp, h1⟩ := h.n
  have hs : ∀ d ∈ bl s.p, H.length ≤ d ∧ d < H'.length := fun d hd => by
    rcases k.1.j.ptr with q | ⟨c, q, q2⟩
    · rw [q] at hd; simp [bl] at hd
    · have hd' := hd
      rw [q2] at hd; simp at hd; subst hd
      exact ⟨k.2.1 _ q, k.1.j.lt _ hd'⟩
  have hfl := k.2.2.1
  refine ⟨⟨asp, h1.1.frs k.2.2 (by simp [Sl.off]), h1.2.1, h1.2.2.trans k.2.2⟩, fun x hx => ?_, fun i j u v c hij hu hv hp hv2 => ?_, fun x hx d hd => ?_⟩
  · rcases List.mem_append.1 hx with q | q
    · obtain ⟨l, sp, how⟩ := h.o x q; exact ⟨l, sp, how.frs k.2.2 (by simp [Sl.off])⟩
    · simp at q; subst q; exact ⟨l, sp, k.1⟩
  · have key : ∀ (i : Nat) (u : Sl), (ls ++ [s])[i]? = some u → (i < ls.length ∧ ls[i]? = some u) ∨ (i = ls.length ∧ u = s) := fun i u hu => by
      rcases Nat.lt_trichotomy i ls.length with q | q | q
      · rw [List.getElem?_append_left q] at hu; exact .inl ⟨q, hu⟩
      · subst q; rw [List.getElem?_append_right (Nat.le_refl _)] at hu; simp at hu; exact .inr ⟨rfl, hu.symm⟩
      · rw [List.getElem?_eq_none (by simp; omega)] at hu; cases hu
    have bc : ∀ x : Sl, x.p = some c → c.block ∈ bl x.p := fun x hx => by rw [hx]; simp [bl]
    rcases key i u hu with ⟨_, q1⟩ | ⟨q1, rfl⟩
    · rcases key j v hv with ⟨_, q2⟩ | ⟨_, rfl⟩
      · exact h.d i j u v c hij q1 q2 hp hv2
      · have := (h.b u (List.mem_of_getElem? q1) _ (bc u hp)).2.1
        have := (hs _ (bc v hv2)).1; omega
    · rcases key j v hv with ⟨_, q2⟩ | ⟨q2, _⟩
      · have := (h.b v (List.mem_of_getElem? q2) _ (bc v hv2)).2.1
        have := (hs _ (bc u hp)).1; omega
      · omega
  · rcases List.mem_append.1 hx with q | q
    · obtain ⟨g1, g2, g3⟩ := h.b x q d hd; exact ⟨g1, by omega, g3⟩
    · simp at q; subst q
      obtain ⟨g1, g2⟩ := hs d hd
      refine ⟨Nat.le_trans h.fr.1 g1, g2, fun hm => ?_⟩
      have := h1.1.j.lt d hm; omega
theorem Acc.new {Hb : Heap} {a : Sl} {lm ls : List Sl} (h : Acc Hb H a lm ls) (f : Frs [] H H') : Acc Hb H' a lm ls := by
  obtain ⟨asp, h1⟩ := h.n
  have := f.1
  exact ⟨⟨asp, h1.1.frs f (by simp [Sl.off]), h1.2.1, h1.2.2.trans f⟩, fun x q => by obtain ⟨l, sp, how⟩ := h.o x q; exact ⟨l, sp, how.frs f (by simp [Sl.off])⟩, h.d, fun x hx d hd => by obtain ⟨g1, g2, g3⟩ := h.b x hx d hd; exact ⟨g1, by omega, g3⟩⟩
theorem Acc.push {Hb : Heap} {a : Sl} {lm ls : List Sl} (h : Acc Hb H a lm ls) (xs : List Sl) {m : Nat} (hm : m = xs.length) {cs : List Value} (hcs : cs = fl T_sl xs) (hl : lm.length + xs.length ≤ 1000) {k : Sl → Heap → Prop} (hk : ∀ a' H', Acc Hb H' a' (lm ++ xs) ls → Frs (bl a.p) H H' → k a' H') : APP T_sl (lenV a.v + m) (aAppE E [68, 68] a.v m cs H) k := by
  obtain ⟨asp, h1⟩ := h.n
  refine app_c KInts.tyL rfl (fun _ => by simp) xs hm hcs (by omega) h1.1 fun s' H2 sp' k1 k2 k3 => ?_
  have fa : Frs (bl a.p) H H2 := aft k3
  have hf := fa.1
  refine hk s' H2 ⟨⟨sp', h1.app k1 k2 k3⟩, fun x q => ?_, h.d, fun x hx d hd => ?_⟩ fa
  · obtain ⟨l, sp, how⟩ := h.o x q
    refine ⟨l, sp, how.frs fa fun d hd e => ?_⟩
    exact (h.b x q d (by rw [e]; simp [bl])).2.2 hd
  · obtain ⟨g1, g2, g3⟩ := h.b x hx d hd
    refine ⟨g1, by omega, fun hm => ?_⟩
    rcases mvp k2 d hm with q | q
    · exact g3 q
    · omega
end
end

section
/- Do both zones tell the same, in new memory? -/
open Zv
section
variable {n : Nat} {H : Heap} {bp br : Nat} {z : Zo} {st sr : Sl} {ss sq : Nat → Sl}
theorem nb_self (x : Int) : (x != x) = false := by simp
theorem isIn_len (hi : InvZ z) {p pl : Int} {l : List Int} (h : IsIn z p pl l) : l.length ≤ 1048600 := by
  have := hi.few
  rcases h with ⟨_, rfl⟩ | ⟨_, ⟨_, rfl⟩ | ⟨_, rfl⟩ | ⟨_, tab, ht, rfl⟩ | ⟨_, _, _, rfl⟩⟩
  · simp
  · have := hi.len p.toNat; omega
  · have := hi.len (2 + p.toNat); omega
  · have h1 := List.length_filter_le (fun m => (atZ z m).Owner == p) tab; have := tab_le hi ht; omega
  · have := numsZ_le (t := z.t) (f := fun t => t.Owner == p && t.Place == pl) z.t.length; omega
/-- Told by both: the same. -/
theorem same2 {H' : Heap} {s r : Sl} {l m spl spm : List Int} (hs : Ow TN H' s l spl) (hr : Ow TN H' r m spm) (e : l = m) (hl : l.length ≤ 1048600) {Q : Bool × Unit → Heap → Prop} (hq : Q (true, ()) H') : CALL P [T_bool] n_kit_SameInts [s.v, r.v] H' Q :=
  KInts.same_c hs.slf hr.slf (by omega) fun x hx => by have : x = true := hx.2 e; subst this; exact hq
theorem eqT (x : Th) : (!((x.Card == x.Card) && ((x.Owner == x.Owner) && ((x.Place == x.Place) && ((x.Stamp == x.Stamp) && ((x.Hurt == x.Hurt) && (((x.Marks.1 == x.Marks.1) && ((x.Marks.2.1 == x.Marks.2.1) && ((x.Marks.2.2.1 == x.Marks.2.2.1) && ((x.Marks.2.2.2 == x.Marks.2.2.2) && true)))) && ((x.Done == x.Done) && ((x.Fresh == x.Fresh) && true))))))))) = false := by simp

theorem alike_c (h : Two n H bp br z st ss sr sq) (hi : InvZ z) {Q : Bool × Unit → Heap → Prop} (hq : ∀ H', Q (true, ()) H') : CALL P [T_bool] n_law17_alike [ad bp, ad br] H Q := by
  apply c_law17_alike
  unfold S_law17_alike
  have few := hi.few
  refine JB (H := H) False (fun j hj => plen_c h.p hi.n1 (rlen_c h.r (ifB_f (nb_self _) (pstamp_c h.p hi.n1 (rstamp_c h.r (hj _ ?_)))))) fun r hr => ifB_f (by cases r; rfl; exact (hr.1 rfl).elim) ?_
  · dsimp only; rw [nb_self]; simp
  -- the table, twice
  refine ptable_c h.p hi fun s7 H6 t7 sp7 i7 n7 => ?_
  have a7 := (Acc.nil H).track n7
  have h6 := h.new n7.2.2
  refine ptable_c h6.p hi fun s8 H7 t8 sp8 i8 n8 => ?_
  have a8 := a7.track n8
  have h7 := h6.new n8.2.2
  refine a8.push [s7, s8] rfl rfl (by simp) fun s9 H8 a9 f9 => ?_
  have h8 := h7.new (f9.mono (by simp [bl]))
  have e9 : Acc H H8 s9 [s7, s8] [s7, s8] := a9
  obtain ⟨sp9, n9⟩ := e9.n
  refine idx_atF (T := T_sl) hTs n9.1.slf (n := 0) rfl (x := s7) rfl rfl fun b10 o11 hld => ?_
  refine hld _ (rtable_c h8.r (tlen_le hi) fun s13 H9 t13 sp13 i13 n13 => ?_)
  have e9' := e9.new n13.2.2
  obtain ⟨sp9', n9'⟩ := e9'.n
  have hrow : ∀ k : Sl → Prop, k s7 → LD T_sl H9 b10 o11 k := by
    intro k hk
    -- the place is as it was
    obtain ⟨x, hx1, hx2⟩ := hld (fun x => x = s7) rfl
    subst hx2
    refine ⟨x, ?_, hk⟩
    unfold rd at hx1 ⊢
    cases hb : H8[b10]? with
    | none => rw [hb] at hx1; cases hx1
    | some r => rw [n13.2.2.get (by simp) hb]; rw [hb] at hx1; exact hx1
  refine hrow _ ⟨rfl, ?_⟩
  obtain ⟨l7, lsp7, how7⟩ := e9'.o s7 (by simp)
  have how7' : Ow TN H9 s7 t7 sp7 := by
    have f := (n8.2.2.then f9 fun c hc => by simp [bl] at hc).trans n13.2.2
    exact n7.1.frs f (by simp [Sl.off])
  refine same2 how7' n13.1 (tab_unique hi i7 i13) (by have := tab_le hi i7; omega) (ifB_f rfl ?_)
  have h9 := h8.new n13.2.2
  -- both players' places
  refine JOIN_inv (fun y H' => ∃ (ls : List Sl), Acc H H' (y : (Sl × Unit) × Unit).1.1 ls ls ∧ Two n H' bp br z st ss sr sq ∧ ls.length ≤ 100) (fun j16 hj16 => ?_) ?_
  · refine loop_of (fun (s : (Sl × Int × Unit) × Unit) H' => ∃ (k : Nat) (ls : List Sl), s.1.2.1 = (k : Int) - 1 ∧ k ≤ 4 ∧ Acc H H' s.1.1 ls ls ∧ Two n H' bp br z st ss sr sq ∧ ls.length ≤ 2 + 9 * k) (fun s => (3 - s.1.2.1).toNat) ?_ ⟨0, [s7, s8], rfl, by omega, e9', h9, by simp⟩
    rintro G ⟨⟨a, i, _⟩, _⟩ H' ⟨k, ls, hk, hk4, acc, tw, hll⟩ hG
    simp only at hk acc; subst hk
    dsimp only at hG ⊢
    refine ifB_of (fun hlt => ?_) (fun hge => ?_)
    · have hlt : k < 4 := by have := of_decide_eq_true hlt; omega
      refine JOIN_inv (fun y H2 => ∃ (ls2 : List Sl), Acc H H2 (y : (Sl × Unit) × Unit).1.1 ls2 ls2 ∧ Two n H2 bp br z st ss sr sq ∧ ls2.length ≤ ls.length + 9) (fun j20 hj20 => ?_) ?_
      · refine pdeck_c tw.p hi fun s22 H14 l22 sp22 i22 n22 => ?_
        have ac22 := acc.track n22
        have tw14 := tw.new n22.2.2
        refine phand_c tw14.p hi fun s23 H15 l23 sp23 i23 n23 => ?_
        have ac23 := ac22.track n23
        have tw15 := tw14.new n23.2.2
        refine JOIN_inv (fun y H' => (y : (Bool × Unit) × Unit).1.1 = false ∧ Frs [] H15 H') (fun j hj => ?_) ?_
        · refine rdeck_c tw15.r hi fun s26 H17 l26 sp26 i26 n26 => ?_
          have o22 : Ow TN H17 s22 l22 sp22 := n22.1.frs (n23.2.2.trans n26.2.2) (by simp [Sl.off])
          refine same2 o22 n26.1 (in_unique hi i22 i26) (isIn_len hi i22) (ifB_f rfl ?_)
          refine rhand_c (tw15.new n26.2.2).r hi fun s28 H19 l28 sp28 i28 n28 => ?_
          have o23 : Ow TN H19 s23 l23 sp23 := n23.1.frs (n26.2.2.trans n28.2.2) (by simp [Sl.off])
          exact same2 o23 n28.1 (in_unique hi i23 i28) (isIn_len hi i23) (hj _ _ ⟨rfl, n26.2.2.trans n28.2.2⟩)
        · rintro ⟨⟨r, _⟩, _⟩ H16 ⟨hr, f16⟩
          simp only at hr; subst hr
          refine ifB_f rfl ?_
          have ac16 := ac23.new f16
          have tw16 := tw15.new f16
          obtain ⟨_, na⟩ := acc.n
          refine ac16.push [s22, s23] rfl rfl (by simp only [List.length_cons, List.length_nil]; omega) fun a30 H21 ac30 f21 => ?_
          have alt : ∀ d ∈ bl a.p, d ∉ fp bp st ss ∧ d ∉ fp br sr sq := fun d hd => by
            have h1 : H.length ≤ d := by
              rcases na.1.j.ptr with q | ⟨c, q, q2⟩
              · rw [q] at hd; simp [bl] at hd
              · rw [q2] at hd; simp at hd; subst hd; exact na.2.1 _ q
            refine ⟨fun hm => ?_, fun hm => ?_⟩
            · have := h.p.lt d hm; omega
            · have := h.r.lt d hm; omega
          have tw21 := tw16.off f21 alt
          refine JOIN_of ?_
          refine loop_of (fun (s : (Sl × Int × Unit) × Unit) H2 => ∃ (m : Nat) (ls2 : List Sl), s.1.2.1 = m ∧ m ≤ 7 ∧ Acc H H2 s.1.1 ls2 ls2 ∧ Two n H2 bp br z st ss sr sq ∧ ls2.length ≤ ls.length + 2 + m) (fun s => 7 - s.1.2.1.toNat) ?_ ⟨0, ls ++ [s22, s23], rfl, by omega, by simpa using ac30, tw21, by simp⟩
          rintro G2 ⟨⟨a2, i2, _⟩, _⟩ H2 ⟨m, ls2, hm, hm7, acc2, tw2, hl2⟩ hG2
          simp only at hm acc2; subst hm
          dsimp only at hG2 ⊢
          refine ifB_of (fun hlt2 => ?_) (fun hge2 => ?_)
          · have hlt2 : m < 7 := by have := of_decide_eq_true hlt2; omega
            refine pin_c tw2.p hi fun s35 H24 l35 sp35 i35 n35 => ?_
            have ac35 := acc2.track n35
            have tw24 := tw2.new n35.2.2
            refine rin_c tw24.r hi fun s36 H25 l36 sp36 i36 n36 => ?_
            have o35 : Ow TN H25 s35 l35 sp35 := n35.1.frs n36.2.2 (by simp [Sl.off])
            refine same2 o35 n36.1 (in_unique hi i35 i36) (isIn_len hi i35) (ifB_f rfl ?_)
            have ac25 := ac35.new n36.2.2
            have tw25 := tw24.new n36.2.2
            obtain ⟨_, na2⟩ := acc2.n
            refine ac25.push [s35] rfl rfl (by simp only [List.length_cons, List.length_nil]; omega) fun a38 H27 ac38 f27 => ?_
            have alt2 : ∀ d ∈ bl a2.p, d ∉ fp bp st ss ∧ d ∉ fp br sr sq := fun d hd => by
              have h1 : H.length ≤ d := by
                rcases na2.1.j.ptr with q | ⟨c, q, q2⟩
                · rw [q] at hd; simp [bl] at hd
                · rw [q2] at hd; simp at hd; subst hd; exact na2.2.1 _ q
              refine ⟨fun hm => ?_, fun hm => ?_⟩
              · have := h.p.lt d hm; omega
              · have := h.r.lt d hm; omega
            rw [i64w (by omega) (by omega)]
            exact hG2 _ _ ⟨m + 1, ls2 ++ [s35], by simp, hlt2, ac38, tw25.off f27 alt2, by simp; omega⟩ (by simp; omega)
          · have hge2 : m = 7 := by have := of_decide_eq_false hge2; omega
            exact hj20 _ _ ⟨ls2, acc2, tw2, by omega⟩
      · rintro ⟨⟨a2, _⟩, _⟩ H2 ⟨ls2, acc2, tw2, hl2⟩
        dsimp only
        rw [i64w (by omega) (by omega)]
        exact hG _ _ ⟨k + 1, ls2, by simp, hlt, acc2, tw2, by omega⟩ (by simp only; omega)
    · have hge : k = 4 := by have := of_decide_eq_false hge; omega
      exact hj16 _ _ ⟨ls, acc, tw, by omega⟩
  · rintro ⟨⟨a, _⟩, _⟩ H11 ⟨ls, acc, tw, hll⟩
    simp only at acc
    dsimp only
    -- the things
    refine pthings_c tw.p hi fun s39 H28 sp39 n39 => ?_
    have tw28 := tw.new n39.2.2
    refine pthings_c tw28.p hi fun s40 H29 sp40 n40 => ?_
    have tw29 := tw28.new n40.2.2
    refine rthings_c tw29.r hi fun s41 H30 sp41 n41 => ?_
    have tw30 := tw29.new n41.2.2
    have o39 : Ow TT H30 s39 z.t sp39 := n39.1.frs (n40.2.2.trans n41.2.2) (by simp [Sl.off])
    have o40 : Ow TT H30 s40 z.t sp40 := n40.1.frs n41.2.2 (by simp [Sl.off])
    refine KThings.same_c o39.slf n41.1.slf (by omega) fun r hr => ?_
    have hr : r = true := hr.2 rfl
    subst hr
    refine ifB_f rfl (JOIN_inv (fun _ H' => H' = H30) (fun j43 hj43 => ?_) ?_)
    · refine loop_of (fun (s : (Int × Unit) × Unit) H' => H' = H30 ∧ ∃ k : Nat, s.1.1 = (k : Int) - 1 ∧ k ≤ 201) (fun s => (200 - s.1.1).toNat) ?_ ⟨rfl, 0, rfl, by omega⟩
      rintro G ⟨⟨i, _⟩, _⟩ H' ⟨rfl, k, hk, hk2⟩ hG
      simp only at hk; subst hk
      dsimp only at hG ⊢
      refine JOIN_inv (fun y H2 => H2 = H' ∧ ((y : (Bool × Unit) × Unit).1.1 = true → (k : Int) - 1 < 200)) (fun j hj => plen_c tw30.p hi.n1 (ifB_of (fun _ => hj _ _ ⟨rfl, fun e => of_decide_eq_true e⟩) (fun _ => hj _ _ ⟨rfl, fun e => by cases e⟩))) ?_
      rintro ⟨⟨r, _⟩, _⟩ H2 ⟨rfl, hr⟩
      simp only at hr
      refine ifB_of (fun h1 => ?_) (fun h1 => hj43 _ _ rfl)
      have hk3 := hr h1
      refine thing_c tw30.p hi.n1 (tlen_le hi) (rthing_c tw30.r (tlen_le hi) ?_)
      dsimp only
      refine JOIN_of (ifB_f (eqT _) (ifB_f (nb_self _) ?_))
      rw [i64w (by omega) (by omega)]
      exact hG _ _ ⟨rfl, k + 1, by simp only; omega, by omega⟩ (by simp only; omega)
    · rintro _ H32 rfl
      obtain ⟨asp, na⟩ := acc.n
      have acc30 := acc.new ((n39.2.2.trans n40.2.2).trans n41.2.2)
      obtain ⟨asp30, na30⟩ := acc30.n
      refine JOIN_inv (fun y _ => (y : (Bool × Unit) × Unit).1.1 = true) (fun j54 hj54 => ?_) ?_
      · refine KInts.apart_c (H := H32) (ls := ls) ⟨na30.1.slf, by omega, acc30.o, acc30.d⟩ fun H40 hl40 hf40 => ifB_t rfl ?_
        -- what is another: the lists that were told
        have fr40 : Frs (ls.flatMap fun s => bl s.p) H32 H40 := ⟨hl40, fun c hc hb => hf40 c hc fun s hs e => hb (List.mem_flatMap.2 ⟨s, hs, by rw [e]; simp [bl]⟩)⟩
        have inb : ∀ d ∈ (ls.flatMap fun s => bl s.p), H.length ≤ d ∧ d < H11.length := fun d hd => by
          obtain ⟨s, hs, hd⟩ := List.mem_flatMap.1 hd
          have := acc.b s hs d hd; omega
        have tw40 := tw30.off fr40 fun d hd => by
          have := inb d hd
          refine ⟨fun hm => ?_, fun hm => ?_⟩
          · have := h.p.lt d hm; omega
          · have := h.r.lt d hm; omega
        have o39' : Ow TT H40 s39 z.t sp39 := o39.frs fr40 fun d hd e => by have := inb d hd; have := n39.2.1 d e; omega
        have hl28 := n39.2.2.1
        have o40' : Ow TT H40 s40 z.t sp40 := o40.frs fr40 fun d hd e => by have := inb d hd; have := n40.2.1 d e; omega
        show NEW H40 _ 1 _
        unfold NEW
        have f41 : Frs [] H40 (mk H40 [(.slice s39.p s39.len s39.cap), (.slice s40.p s40.len s40.cap)] 1 false) := Frs.app _ _ _
        have hrow41 : (mk H40 [(.slice s39.p s39.len s39.cap), (.slice s40.p s40.len s40.cap)] 1 false)[H40.length]? = some (.row (fl T_sl [s39, s40]) 1 false false true) := by simp [mk, fl]
        generalize mk H40 [(.slice s39.p s39.len s39.cap), (.slice s40.p s40.len s40.cap)] 1 false = H41 at f41 hrow41
        have dst2 : Dst [s39, s40] := fun i j u v c hij hu hv hp hv2 => by
          have h39 : ∀ c : Addr, s39.p = some c → s40.p ≠ some c := fun c e1 e2 => by
            rcases n39.1.j.ptr with q | ⟨d, q, q2⟩
            · rw [q] at e1; cases e1
            · have hd : d < H28.length := n39.1.j.lt d (by rw [q2]; simp)
              rcases n40.1.j.ptr with q' | ⟨d', q', _⟩
              · rw [q'] at e2; cases e2
              · have := n40.2.1 d' q'
                have e3 : (⟨d', 0, none⟩ : Addr) = ⟨d, 0, none⟩ := by
                  rw [q] at e1; rw [q'] at e2
                  exact (Option.some.inj e2).trans (Option.some.inj e1).symm
                have := congrArg Addr.block e3
                simp only at this
                omega
          match i, j, hu, hv with
          | 0, 0, _, _ => omega
          | 1, 1, _, _ => omega
          | 0, 1, hu, hv => simp at hu hv; subst hu; subst hv; exact h39 c hp hv2
          | 1, 0, hu, hv => simp at hu hv; subst hu; subst hv; exact h39 c hv2 hp
          | i + 2, _, hu, _ => simp at hu
          | _, j + 2, _, hv => simp at hv
        refine KThings.apart_c (H := H41) (a := ⟨some ⟨H40.length, 0, none⟩, 2, 2⟩) (ls := [s39, s40]) ⟨⟨rfl, .inr (.inr ⟨H40.length, [], [], 1, false, false, rfl, by simpa using hrow41⟩)⟩, by simp, fun s hs => ?_, dst2⟩ fun H42 hl42 hf42 => ifB_t rfl ?_
        · simp at hs
          rcases hs with rfl | rfl
          · exact ⟨_, _, o39'.frs f41 (by simp [Sl.off])⟩
          · exact ⟨_, _, o40'.frs f41 (by simp [Sl.off])⟩
        have fr42 : Frs (bl s39.p ++ bl s40.p) H41 H42 := ⟨hl42, fun c hc hb => hf42 c hc fun s hs e => hb (by simp at hs; rcases hs with rfl | rfl <;> simp [e, bl])⟩
        have tw42 := (tw40.new f41).off fr42 fun d hd => by
          have hH : H.length ≤ d := by
            have hacc := acc.fr.1
            rcases List.mem_append.1 hd with hd | hd
            · rcases n39.1.j.ptr with q | ⟨d', q, q2⟩
              · rw [q] at hd; simp [bl] at hd
              · rw [q2] at hd; simp at hd; subst hd; have := n39.2.1 _ q; omega
            · rcases n40.1.j.ptr with q | ⟨d', q, q2⟩
              · rw [q] at hd; simp [bl] at hd
              · rw [q2] at hd; simp at hd; subst hd; have := n40.2.1 _ q; omega
          refine ⟨fun hm => ?_, fun hm => ?_⟩
          · have := h.p.lt d hm; omega
          · have := h.r.lt d hm; omega
        refine pthings_c tw42.p hi fun s58 H43 sp58 n58 => ?_
        have tw43 := tw42.new n58.2.2
        refine rthings_c tw43.r hi fun s59 H44 sp59 n59 => ?_
        have tw44 := tw43.new n59.2.2
        refine KThings.same_c (n58.1.frs n59.2.2 (by simp [Sl.off])).slf n59.1.slf (by omega) fun r hr => ?_
        have hr : r = true := hr.2 rfl
        subst hr
        refine ifB_t rfl (ptable_c tw44.p hi fun s61 H46 t61 sp61 i61 n61 => rtable_c (tw44.new n61.2.2).r (tlen_le hi) fun s62 H47 t62 sp62 i62 n62 => ?_)
        exact same2 (n61.1.frs n62.2.2 (by simp [Sl.off])) n62.1 (tab_unique hi i61 i62) (by have := tab_le hi i61; omega) (hj54 _ _ rfl)
      · rintro ⟨⟨r, _⟩, _⟩ H39 hr
        simp only at hr; subst hr
        exact hq H39
end
end
end

section
/- ZoneCalls: the law's contract. -/
open Zv
section
variable {H : Heap} {a0 a1 a2 : Sl} {l0 l1 : List Int} {ops : List G_law17_Op}

/-- What both begin with: nothing, or the same zones. -/
def Beg (n : Nat) (H : Heap) (o1 o2 : Option Addr) : Prop := (o1 = none ∧ o2 = none) ∨ ∃ bp br z st ss sr sq, o1 = some ⟨bp, 0, none⟩ ∧ o2 = some ⟨br, 0, none⟩ ∧ InvZ z ∧ Two n H bp br z st ss sr sq
theorem Beg.frs {n : Nat} {H H' : Heap} {o1 o2 : Option Addr} {B : List Nat} (h : Beg n H o1 o2) (f : Frs B H H') (hB : ∀ d ∈ B, d < n) : Beg n H' o1 o2 := by
  rcases h with h | ⟨bp, br, z, st, ss, sr, sq, h1, h2, h3, h4⟩
  · exact .inl h
  · exact .inr ⟨bp, br, z, st, ss, sr, sq, h1, h2, h3, h4.frs f hB⟩

/-- The calls, one behind the other; then both looked at. -/
theorem script_c {H0 : Heap} {n : Nat} {bp br : Nat} {z : Zo} {st sr : Sl} {ss sq : Nat → Sl} (h : Two n H bp br z st ss sr sq) (hi : InvZ z) (f0 : Frs [] H0 H)
    {k : Heap → Prop} {F : ((Int × Unit) × Unit → Heap → Prop) → (Int × Unit) × Unit → Heap → Prop}
    (hF : ∀ (G : (Int × Unit) × Unit → Heap → Prop) (i : Nat) (H' : Heap) (_ : i < ops.length) (z' : Zo) (st' sr' : Sl) (ss' sq' : Nat → Sl), Two n H' bp br z' st' ss' sr' sq' → InvZ z' → Frs [] H0 H' → (∀ H2 z2 st2 ss2 sr2 sq2, Two n H2 bp br z2 st2 ss2 sr2 sq2 → InvZ z2 → Frs [] H0 H2 → G (((i : Int) + 1, ()), ()) H2) → F G ((i, ()), ()) H')
    (hE : ∀ (G : (Int × Unit) × Unit → Heap → Prop) (H' : Heap), k H' → F G (((ops.length : Nat), ()), ()) H') (hk : ∀ H' z' st' ss' sr' sq', Two n H' bp br z' st' ss' sr' sq' → InvZ z' → k H') : LOOP F ((0, ()), ()) H := by
  refine loop_of (fun (s : (Int × Unit) × Unit) H' => ∃ (i : Nat) (z' : Zo) (st' sr' : Sl) (ss' sq' : Nat → Sl), s.1.1 = i ∧ i ≤ ops.length ∧ Two n H' bp br z' st' ss' sr' sq' ∧ InvZ z' ∧ Frs [] H0 H') (fun s => ops.length - s.1.1.toNat) ?_ ⟨0, z, st, sr, ss, sq, rfl, Nat.zero_le _, h, hi, f0⟩
  rintro G ⟨⟨j, _⟩, _⟩ H' ⟨i, z', st', sr', ss', sq', hj, hil, tw, inv, f⟩ hG
  simp only at hj; subst hj
  by_cases hlt : i < ops.length
  · exact hF G i H' hlt z' st' sr' ss' sq' tw inv f fun H2 z2 st2 ss2 sr2 sq2 tw2 inv2 f2 => hG _ _ ⟨i + 1, z2, st2, sr2, ss2, sq2, by simp, hlt, tw2, inv2, f2⟩ (by simp; omega)
  · have : i = ops.length := by omega
    subst this
    exact hE G H' (hk H' z' st' ss' sr' sq' tw inv)

theorem zoneCalls_c (h0 : SlF TN H a0 l0) (h1 : SlF TN H a1 l1) (ho : SlF OT H a2 ops) (b0 : l0.length ≤ 1048576) (b1 : l1.length ≤ 1048576) (hL : ∀ op ∈ ops, ∃ li : List Int, SlF TN H op.L li ∧ li.length ≤ 1048576) {Q : Bool × Unit → Heap → Prop} (hq : ∀ H', Q (true, ()) H') :
    CALL P [T_bool] n_law17_ZoneCalls [a0.v, a1.v, a2.v] H Q := by
  apply c_law17_ZoneCalls
  unfold S_law17_ZoneCalls
  have e0 : a0.len = l0.length := h0.1
  have e1 : a1.len = l1.length := h1.1
  have e2 : a2.len = ops.length := ho.1
  refine CALL.closedF (Tryz.fnOk 100) (by kernel_rfl) (ifB_f rfl ?_)
  rw [i64w (x := (a0.len : Int) + a1.len) (by omega) (by omega)]
  refine JOIN_inv (fun y H' => H' = H ∧ ((y : (Bool × Unit) × Unit).1.1 = false → ops.length ≤ 60)) (fun j hj => ?_) ?_
  · have last : decide ((a2.len : Int) > 60) = false → ops.length ≤ 60 := fun q => by have := of_decide_eq_false q; omega
    exact ifB_of (fun _ => ifB_of (fun _ => hj _ _ ⟨rfl, fun q => by cases q⟩) (fun _ => hj _ _ ⟨rfl, last⟩)) (fun _ => hj _ _ ⟨rfl, last⟩)
  rintro ⟨⟨r, _⟩, _⟩ H2 ⟨rfl, hr⟩
  simp only at hr
  refine ifB_of (fun _ => hq _) (fun hrf => ?_)
  have hops := hr hrf
  refine KInts.lent_c h0 (by omega) fun s4 H3 sp4 n4 ⟨d4, e4⟩ => ?_
  have hd4 := n4.2.1 d4 e4
  refine KInts.lent_c (h1.frs n4.2.2 (by simp)) (by omega) fun s5 H4 sp5 n5 ⟨d5, e5⟩ => ?_
  have hd5 := n5.2.1 d5 e5
  have f4 : Frs [] H2 H4 := n4.2.2.trans n5.2.2
  have o4 : Ow TN H4 s4 (l0 ++ [KInts.w, KInts.w]) sp4 := n4.1.frs n5.2.2 (by simp [Sl.off])
  have o5 := n5.1
  refine slice_toO KInts.tyS o4 (n := l0.length) (by rw [e0]) (by simp) (slice_toO KInts.tyS o5 (n := l1.length) (by rw [e1]) (by simp) ?_)
  have hp4 := o4.pre l0.length s4.cap (by simp) (fun e => by rw [e4] at e; cases e)
  have hp5 := o5.pre l1.length s5.cap (by simp) (fun e => by rw [e5] at e; cases e)
  rw [List.take_left' rfl] at hp4 hp5
  have hl4 : d4 < H4.length := o4.lt e4
  have hl5 : d5 < H4.length := o5.lt e5
  have h04 := h0.frs f4 (by simp)
  have h14 := h1.frs f4 (by simp)
  -- what is behind both beginnings
  have tail : ∀ (o1 o2 : Option Addr) (er : Int) (H6 : Heap), Frs [] H4 H6 → Beg H4.length H6 o1 o2 →
      JOIN (fun (j10 : (Bool × Unit) × (Unit) → Heap → Prop) => ifB (er != er) (j10 ((true, ()), (())) H6) (ifB (!(o1.isNone == o2.isNone)) (j10 ((true, ()), (())) H6) (CALL P [T_bool] n_kit_KeptInts [s4.v, a0.v] H6 fun (x12 : Bool × Unit) H8 => ifB (!x12.1) (j10 ((true, ()), (())) H8) (CALL P [T_bool] n_kit_KeptInts [s5.v, a1.v] H8 fun (x13 : Bool × Unit) H9 => j10 ((!x13.1, ()), (())) H9)))) fun (y11 : (Bool × Unit) × (Unit)) H7 =>
      ifB y11.1.1 (Q (false, ()) H7) (CALL P [] n_kit_OverInts [s4.v] H7 fun (_ : Unit) H10 => CALL P [] n_kit_OverInts [s5.v] H10 fun (_ : Unit) H11 => ifB o2.isNone (Q (true, ()) H11) (
        JOIN (fun (j16 : (Unit) × (Unit) → Heap → Prop) => LOOP (fun (r18 : (Int × Unit) × (Unit) → Heap → Prop) (s19 : (Int × Unit) × (Unit)) H13 => ifB (decide (s19.1.1 < (a2.len : Int))) (IDX a2.p a2.len s19.1.1 16 fun b20 o21 => LD T_G_law17_Op H13 b20 o21 fun (x22 : G_law17_Op) => CALL P [T_bool] n_law17_call [(.pointer o1), (.pointer o2), (T_G_law17_Op.enc x22)] H13 fun (x23 : Bool × Unit) H14 =>
          JOIN (fun (j24 : (Bool × Unit) × (Unit) → Heap → Prop) => ifB (!x23.1) (j24 ((true, ()), (())) H14) (CALL P [(T_int .i64)] n_zone_Zones_Len [(.pointer o1)] H14 fun (x26 : Int × Unit) H16 => CALL P [(T_int .i64)] n_ref17_Zones_Len [(.pointer o2)] H16 fun (x27 : Int × Unit) H17 => ifB (x26.1 != x27.1) (j24 ((true, ()), (())) H17) (CALL P [(T_int .i64)] n_zone_Zones_Stamp [(.pointer o1)] H17 fun (x28 : Int × Unit) H18 => CALL P [(T_int .i64)] n_ref17_Zones_Stamp [(.pointer o2)] H18 fun (x29 : Int × Unit) H19 => j24 ((x28.1 != x29.1, ()), (())) H19))) fun (y25 : (Bool × Unit) × (Unit)) H15 =>
          ifB y25.1.1 (Q (false, ()) H15) (r18 ((IntKind.wrap .i64 (s19.1.1 + 1), ()), (())) H15)) (j16 ((()), (())) H13)) ((0, ()), (())) H11) fun (_ : (Unit) × (Unit)) H12 => CALL P [T_bool] n_law17_alike [(.pointer o1), (.pointer o2)] H12 fun (x30 : Bool × Unit) H20 => Q (x30.1, ()) H20)) := by
    intro o1 o2 er H6 f6 beg
    have hiso : o1.isNone = o2.isNone := by
      rcases beg with ⟨rfl, rfl⟩ | ⟨bp, br, _, _, _, _, _, rfl, rfl, _⟩ <;> rfl
    refine JOIN_inv (fun y H' => (y : (Bool × Unit) × Unit).1.1 = false ∧ Frs [] H6 H') (fun j hj => ?_) ?_
    · refine ifB_f (nb_self _) (ifB_f (by rw [hiso]; simp) ?_)
      refine KInts.kept_c (o4.frs f6 (by simp [Sl.off])).slf (h04.frs f6 (by simp)) (by simp; omega) (by omega) fun r H8 hr f8 => ?_
      have hr : r = true := hr.2 rfl
      subst hr
      refine ifB_f rfl ?_
      refine KInts.kept_c (o5.frs (f6.trans f8) (by simp [Sl.off])).slf (h14.frs (f6.trans f8) (by simp)) (by simp; omega) (by omega) fun r H9 hr f9 => ?_
      have hr : r = true := hr.2 rfl
      subst hr
      exact hj _ _ ⟨rfl, f8.trans f9⟩
    · rintro ⟨⟨r, _⟩, _⟩ H7 ⟨hr, f7⟩
      simp only at hr; subst hr
      refine ifB_f rfl ?_
      have f67 := f6.trans f7
      refine KInts.over_c (o4.frs f67 (by simp [Sl.off])) (by simp; omega) fun H10 o10 a10 => ?_
      have f10 : Frs [d4] H7 H10 := a10.frs fun d hd => .inl (by rw [e4] at hd; simp at hd; simp [hd])
      have o57 : Ow TN H7 s5 (l1 ++ [KInts.w, KInts.w]) sp5 := o5.frs f67 (by simp [Sl.off])
      have hne : d4 ≠ d5 := by
        have := n4.1.lt e4
        omega
      have o510 : Ow TN H10 s5 (l1 ++ [KInts.w, KInts.w]) sp5 := o57.frs f10 fun d hd e => by rw [e5] at e; simp at e hd; omega
      refine KInts.over_c o510 (by simp; omega) fun H11 o11 a11 => ?_
      have f11 : Frs [d5] H10 H11 := a11.frs fun d hd => .inl (by rw [e5] at hd; simp at hd; simp [hd])
      have hh3 := n4.2.2.1
      have fr11 : Frs [] H2 H11 := ((f4.trans f67).then f10 fun c hc => by simp at hc; exact .inr (by omega)).then f11 fun c hc => by simp at hc; exact .inr (by omega)
      have beg11 : Beg H4.length H11 o1 o2 := ((beg.frs f7 (by simp)).frs f10 fun d hd => by simp at hd; omega).frs f11 fun d hd => by simp at hd; omega
      rcases beg11 with ⟨rfl, rfl⟩ | ⟨bp, br, z, st, ss, sr, sq, rfl, rfl, inv, tw⟩
      · exact ifB_t rfl (hq _)
      · refine ifB_f rfl (JOIN_inv (fun _ H' => ∃ z' st' ss' sr' sq', Two H4.length H' bp br z' st' ss' sr' sq' ∧ InvZ z') (fun j hj => ?_) ?_)
        · refine script_c (ops := ops) tw inv fr11 (k := fun H' => j ((), ()) H') (fun G i H' hlt z' st' sr' ss' sq' tw' inv' f' hG => ?_) (fun G H' hk => ?_) fun H' z' st' ss' sr' sq' tw' inv' => hj _ _ ⟨z', st', ss', sr', sq', tw', inv'⟩
          · refine ifB_t (decide_eq_true (by simp only; omega)) ?_
            have hx : ops[i]? = some ops[i] := List.getElem?_eq_getElem hlt
            refine idx_ldF (T := OT) hOT (ho.frs f' (by simp)) rfl hx rfl ?_
            obtain ⟨li, hli, hll⟩ := hL ops[i] (List.getElem_mem hlt)
            refine call_c tw' inv' f' f4.1 hli hll fun H14 z2 st2 ss2 sr2 sq2 tw2 inv2 f2 => ?_
            refine JOIN_inv (fun y H' => (y : (Bool × Unit) × Unit).1.1 = false ∧ H' = H14) (fun j2 hj2 => ?_) ?_
            · refine ifB_f rfl (plen_c tw2.p inv2.n1 (rlen_c tw2.r (ifB_f (nb_self _) (pstamp_c tw2.p inv2.n1 (rstamp_c tw2.r (hj2 _ _ ⟨nb_self _, rfl⟩))))))
            · rintro ⟨⟨r, _⟩, _⟩ H15 ⟨hr, rfl⟩
              simp only at hr; subst hr
              refine ifB_f rfl ?_
              rw [i64w (by simp only; omega) (by simp only; omega)]
              exact hG _ _ _ _ _ _ tw2 inv2 f2
          · exact ifB_f (decide_eq_false (by simp only; omega)) hk
        · rintro _ H12 ⟨z', st', ss', sr', sq', tw', inv'⟩
          exact alike_c tw' inv' fun H' => hq H'
  refine pnew_c hp4 hp5 (by omega) (by omega) (fun hlong => ?_) (fun H5 hle hbad f5 => ?_) (fun H5 bp st ss hle hok zp f5 lop => ?_)
  · refine rnew_c h04 h14 (by omega) (by omega) (fun _ => ?_) (fun H6 hle _ f6 => by omega) (fun H6 br sr sq hle _ _ _ _ => by omega)
    exact tail none none 3 H4 (.refl _ _) (.inl ⟨rfl, rfl⟩)
  · refine rnew_c (h04.frs f5 (by simp)) (h14.frs f5 (by simp)) (by omega) (by omega) (fun hlong => by omega) (fun H6 _ _ f6 => ?_) (fun H6 br sr sq _ hok _ _ _ => absurd hok hbad)
    exact tail none none 2 H6 (f5.trans f6) (.inl ⟨rfl, rfl⟩)
  · refine rnew_c (h04.frs f5 (by simp)) (h14.frs f5 (by simp)) (by omega) (by omega) (fun hlong => by omega) (fun H6 _ hbad f6 => absurd hok hbad) (fun H6 br sr sq _ _ zr f6 lor => ?_)
    refine tail _ _ 0 H6 (f5.trans f6) (.inr ⟨bp, br, newZ l0 l1, st, ss, sr, sq, rfl, rfl, new_inv hle, ⟨zp.new f6, zr, fun d hd hm => ?_, lop, fun d hd => ?_⟩⟩)
    · have := zp.lt d hd; have := lor d hm; omega
    · have := lor d hd; have := f5.1; omega
end
end
end
end Go.Proofs.YthgfjbafhjkhnaaGreat.Zq
