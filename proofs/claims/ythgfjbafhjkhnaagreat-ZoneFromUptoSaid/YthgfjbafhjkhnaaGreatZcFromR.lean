/- When zones are sound: as the document looks at it. -/
import Derived.Test.YthgfjbafhjkhnaaGreatZcFrom
import Derived.Test.YthgfjbafhjkhnaaGreatZcTwo
namespace Go.Proofs.YthgfjbafhjkhnaaGreat.Zq
section
/- When zones are sound: as the document looks at it. -/
open Zv
section
variable {H : Heap} {b : Nat} {z : Zo} {st : Sl} {ss : Nat → Sl}
theorem ralone_c (t : Th) (n : Int) {Q : Bool × Unit → Heap → Prop} (hq : ∀ (r : Bool) H', (r = true ↔ okT n t) → Frs [] H H' → Q (r, ()) H') : CALL P [T_bool] n_ref17_alone [TT.enc t, .int .i64 n] H Q := by
  apply c_ref17_alone
  unfold S_ref17_alone
  refine JB (H := H) (t.Card < 1 ∨ ¬ (t.Owner = 0 ∨ t.Owner = 1) ∨ t.Place < 1 ∨ 5 < t.Place) (fun j hj => ifB_of (fun h1 => hj _ ?_) (fun h1 => rowner_c fun r hr => ifB_of (fun h2 => hj _ ?_) (fun h2 => ifB_of (fun h3 => hj _ ?_) (fun h3 => hj _ ?_)))) fun r hr => ifB_of (fun h1 => ?_) (fun h1 => ?_)
  · have := of_decide_eq_true h1; simp; omega
  · have : ¬ (t.Owner = 0 ∨ t.Owner = 1) := fun q => by rw [hr.2 q] at h2; cases h2
    simp only [this, not_false_eq_true, true_or, or_true]
  · have := of_decide_eq_true h3; simp; omega
  · have h1 := of_decide_eq_false h1
    have h3 := of_decide_eq_false h3
    have hp := hr.1 (by simpa using h2)
    simp; omega
  · refine hq false H ⟨fun q => (by cases q), fun q => ?_⟩ (.refl _ _)
    obtain ⟨q1, q2, q3, q4, _⟩ := q
    have := hr.1 h1; omega
  · have c1 : ¬ (t.Card < 1 ∨ ¬ (t.Owner = 0 ∨ t.Owner = 1) ∨ t.Place < 1 ∨ 5 < t.Place) := fun q => by rw [hr.2 q] at h1; cases h1
    refine ifB_of (fun h4 => ?_) (fun h4 => ?_)
    · have h4 : t.Place ≠ 4 := by simpa using h4
      refine rhome_c t ⟨rfl, hq _ H ?_ (.refl _ _)⟩
      rw [eqT_iff]
      exact ⟨fun e => ⟨by omega, by omega, by omega, by omega, fun _ => e, fun q => absurd q h4⟩, fun q => q.2.2.2.2.1 h4⟩
    · have h4 : t.Place = 4 := by simpa using h4
      have base : okT n t ↔ 1 ≤ t.Stamp ∧ t.Stamp < n ∧ 0 ≤ t.Hurt ∧ 0 ≤ t.Done ∧ okMs t.Marks := ⟨fun q => q.2.2.2.2.2 h4, fun q => ⟨by omega, by omega, by omega, by omega, fun e => absurd h4 e, fun _ => q⟩⟩
      refine JOIN_inv (fun y H' => ((y : (Bool × Unit) × Unit).1.1 = true ↔ okT n t) ∧ Frs [] H H') (fun j hj => ifB_of (fun g1 => ifB_of (fun g2 => ifB_of (fun g3 => ifB_of (fun g4 => marked_c fun r H5 hr f5 => hj _ _ ⟨?_, f5⟩) (fun g4 => hj _ _ ⟨?_, .refl _ _⟩)) (fun g3 => hj _ _ ⟨?_, .refl _ _⟩)) (fun g2 => hj _ _ ⟨?_, .refl _ _⟩)) (fun g1 => hj _ _ ⟨?_, .refl _ _⟩)) (fun y H' hy => ?_)
      · have g1 := of_decide_eq_true g1; have g2 := of_decide_eq_true g2; have g3 := of_decide_eq_true g3; have g4 := of_decide_eq_true g4
        rw [base, hr]
        exact ⟨fun q => ⟨by omega, by omega, by omega, by omega, q⟩, fun q => q.2.2.2.2⟩
      · have := of_decide_eq_false g4; rw [base]; simp; omega
      · have := of_decide_eq_false g3; rw [base]; simp; omega
      · have := of_decide_eq_false g2; rw [base]; simp; omega
      · have := of_decide_eq_false g1; rw [base]; simp; omega
      · obtain ⟨⟨r, _⟩, _⟩ := y
        exact hq r H' hy.1 hy.2

theorem rsound_c (h : ZR e1 H b z st ss) (few : z.t.length ≤ 2048) (hlen : ∀ q, q < 4 → (z.l q).length ≤ 2048) (hnil : ∀ q, 4 ≤ q → z.l q = []) {Q : Bool × Unit → Heap → Prop} (hq : ∀ (r : Bool) H', (r = true ↔ Snd z) → Frs [] H H' → Q (r, ()) H') : CALL P [T_bool] n_ref17_Zones_Sound [ad b] H Q := by
  apply c_ref17_Zones_Sound
  unfold S_ref17_Zones_Sound
  have no : ∀ {H' : Heap}, Frs [] H H' → ¬ Snd z → Q (false, ()) H' := fun f hn => hq false _ ⟨fun q => (by cases q), fun q => absurd q hn⟩ f
  have htl := h.tl
  refine JB (H := H) (z.n < 1 ∨ 1099511627776 < z.n) (fun j hj => h.ld_t rfl (ifB_of (fun h0 => ?_) (fun h0 => h.ld_n rfl (ifB_of (fun h1 => hj _ ?_) (fun h1 => h.ld_n rfl (hj _ ?_)))))) fun r hr => ifB_of (fun h1 => ?_) (fun h1 => ?_)
  · have := of_decide_eq_true h0; omega
  · have := of_decide_eq_true h1; simp; omega
  · have := of_decide_eq_false h1; simp; omega
  · exact no (.refl _ _) fun q => by have := hr.1 h1; have := q.n1; have := q.n2; omega
  have hn : ¬ (z.n < 1 ∨ 1099511627776 < z.n) := fun q => by rw [hr.2 q] at h1; cases h1
  refine JOIN_inv (fun _ H' => (∀ t ∈ z.t, okT z.n t) ∧ Frs [] H H') (fun j hj => ?_) ?_
  · refine loop_of (fun (s : (Int × Unit) × Unit) H' => ∃ n : Nat, s.1.1 = n ∧ n ≤ z.t.length ∧ (∀ t ∈ z.t.take n, okT z.n t) ∧ Frs [] H H') (fun s => z.t.length - s.1.1.toNat) ?_ ⟨0, rfl, Nat.zero_le _, by simp, .refl _ _⟩
    rintro G ⟨⟨i, _⟩, _⟩ H' ⟨n, hi, hnl, ok, fr⟩ hG
    simp only at hi; subst hi
    dsimp only at hG ⊢
    have h' := h.new fr
    refine h'.ld_t rfl (ifB_of (fun hlt => ?_) (fun hge => ?_))
    · have hlt : n < z.t.length := by have := of_decide_eq_true hlt; omega
      have hx : z.t[n]? = some z.t[n] := List.getElem?_eq_getElem hlt
      refine h'.ld_t rfl (h'.ld_th rfl hx (h'.ld_n rfl (ralone_c _ _ fun r H4 hr f4 => ifB_of (fun e => ?_) (fun e => ?_))))
      · exact no (fr.trans f4) fun q => by have := hr.2 (q.ok _ (List.getElem_mem hlt)); rw [this] at e; cases e
      · rw [i64w (by omega) (by omega)]
        refine hG _ _ ⟨n + 1, by simp, hlt, fun t ht => ?_, fr.trans f4⟩ (by simp; omega)
        rw [List.take_succ_eq_append_getElem hlt, List.mem_append, List.mem_singleton] at ht
        rcases ht with q | rfl
        · exact ok t q
        · exact hr.1 (by simpa using e)
    · have hge : n = z.t.length := by have := of_decide_eq_false hge; omega
      subst hge
      rw [List.take_length] at ok
      exact hj _ _ ⟨ok, fr⟩
  rintro _ H2 ⟨okA, f2⟩
  refine JOIN_inv (fun _ H' => (∀ p : Nat, p < 2 → Zq.own z p ≤ 8 ∧ (z.l (2 + p)).length ≤ 10 ∧ Holds z (z.l p) p 1 ∧ Holds z (z.l (2 + p)) p 2) ∧ Frs [] H H') (fun j hj => ?_) ?_
  · refine loop_of (fun (s : (Int × Unit) × Unit) H' => ∃ n : Nat, s.1.1 = n ∧ n ≤ 2 ∧ (∀ p : Nat, p < n → Zq.own z p ≤ 8 ∧ (z.l (2 + p)).length ≤ 10 ∧ Holds z (z.l p) p 1 ∧ Holds z (z.l (2 + p)) p 2) ∧ Frs [] H H') (fun s => 2 - s.1.1.toNat) ?_ ⟨0, rfl, by omega, fun p hp => by omega, f2⟩
    rintro G ⟨⟨i, _⟩, _⟩ H' ⟨p, hi, hp2, ok, fr⟩ hG
    simp only at hi; subst hi
    dsimp only at hG ⊢
    have h' := h.new fr
    refine ifB_of (fun hlt => ?_) (fun hge => ?_)
    · have hlt : p < 2 := by have := of_decide_eq_true hlt; omega
      have hA : (0 : Int) ≤ (p : Int) ∧ (p : Int) < 2 := by omega
      have q1 : p < 4 := by omega
      have q2 : 2 + p < 4 := by omega
      have hq2 := h'.ql q2
      have hl1 := hlen p q1
      have hl2 := hlen (2 + p) q2
      refine JOIN_inv (fun y H' => ((y : (Bool × Unit) × Unit).1.1 = true ↔ ¬ (Zq.own z p ≤ 8 ∧ (z.l (2 + p)).length ≤ 10 ∧ Holds z (z.l p) p 1 ∧ Holds z (z.l (2 + p)) p 2)) ∧ Frs [] H H') (fun j2 hj2 => rowned_c h' (by omega) (ifB_of (fun g1 => hj2 _ _ ⟨?_, fr⟩) (fun g1 => ⟨hA, h'.ld_q q2 (by simp; omega) (ifB_of (fun g2 => hj2 _ _ ⟨?_, fr⟩) (fun g2 => ⟨hA, h'.ld_q q1 (by simp) (holds_c h' (by omega) (h'.l _ q1).slf (by omega) fun r3 H9 hr3 f9 => ifB_of (fun g3 => hj2 _ _ ⟨?_, fr.trans f9⟩) (fun g3 => ⟨hA, (h'.new f9).ld_q q2 (by simp; omega) (holds_c (h'.new f9) (by omega) ((h'.new f9).l _ q2).slf (by omega) fun r4 H10 hr4 f10 => hj2 _ _ ⟨?_, (fr.trans f9).trans f10⟩)⟩))⟩))⟩))) ?_
      · have := of_decide_eq_true g1; simp only at this
        simp only [true_iff]; rintro ⟨q, _⟩; omega
      · have := of_decide_eq_true g2
        simp only [true_iff]; rintro ⟨_, q, _⟩; omega
      · have : ¬ Holds z (z.l p) p 1 := fun q => by rw [hr3.2 q] at g3; cases g3
        simp only [true_iff]; rintro ⟨_, _, q, _⟩; exact this q
      · have g1 := of_decide_eq_false g1; simp only at g1
        have g2 := of_decide_eq_false g2
        have g3 := hr3.1 (by simpa using g3)
        have : (Zq.own z p ≤ 8 ∧ (z.l (2 + p)).length ≤ 10 ∧ Holds z (z.l p) p 1 ∧ Holds z (z.l (2 + p)) p 2) ↔ r4 = true := by
          rw [hr4]; exact ⟨fun q => q.2.2.2, fun q => ⟨by omega, by omega, g3, q⟩⟩
        rw [this]; cases r4 <;> simp
      · rintro ⟨⟨r, _⟩, _⟩ H7 ⟨hr, f7⟩
        simp only at hr
        refine ifB_of (fun e => ?_) (fun e => ?_)
        · exact no f7 fun q => hr.1 e ⟨q.own p hlt, q.hand p hlt, q.deck p hlt, q.held p hlt⟩
        · have hgood := Classical.byContradiction fun q => by have := hr.2 q; simp only at e; rw [this] at e; cases e
          rw [i64w (by omega) (by omega)]
          refine hG _ _ ⟨p + 1, by simp, by omega, fun p' hp' => ?_, f7⟩ (by simp; omega)
          by_cases ep : p' = p
          · subst ep; exact hgood
          · exact ok p' (by omega)
    · have hge : p = 2 := by have := of_decide_eq_false hge; omega
      subst hge
      exact hj _ _ ⟨ok, fr⟩
  rintro _ H5 ⟨okP, f5⟩
  have h5 := h.new f5
  refine rtable_c h5 (by omega) fun s6 H11 tab sp6 ht n6 => ?_
  have h11 := h5.new n6.2.2
  have f11 := f5.trans n6.2.2
  have hsl : s6.len = tab.length := n6.1.slf.1
  have tl : tab.length ≤ 2048 := by rw [ht.1.length_eq]; exact Nat.le_trans (numsZ_le _) few
  have tnd : tab.Nodup := ht.1.symm.nodup (numsZ_nodup _)
  refine JOIN_inv (fun _ H' => (∀ k, 1 ≤ k → (hk : k < tab.length) → (atZ z (tab[k - 1]'(by omega))).Stamp ≠ (atZ z tab[k]).Stamp) ∧ Frs [] H H') (fun j hj => ?_) ?_
  · refine loop_of (fun (s : (Int × Unit) × Unit) H' => H' = H11 ∧ ∃ n : Nat, s.1.1 = (n : Int) + 1 ∧ n ≤ tab.length ∧ (∀ k, 1 ≤ k → k ≤ n → (hk : k < tab.length) → (atZ z (tab[k - 1]'(by omega))).Stamp ≠ (atZ z tab[k]).Stamp)) (fun s => tab.length + 1 - s.1.1.toNat) ?_ ⟨rfl, 0, rfl, Nat.zero_le _, fun k h1 h2 => by omega⟩
    rintro G ⟨⟨i, _⟩, _⟩ H' ⟨rfl, n, hi, hnl, ok⟩ hG
    simp only at hi; subst hi
    dsimp only at hG ⊢
    refine ifB_of (fun hlt => ?_) (fun hge => ?_)
    · have hlt : n + 1 < tab.length := by have := of_decide_eq_true hlt; omega
      obtain ⟨k1, x1, ek1, hk1, hp1⟩ := mem_onT.1 (ht.1.mem_iff.1 (List.getElem_mem (by omega : n < tab.length)))
      obtain ⟨k2, x2, ek2, hk2, hp2⟩ := mem_onT.1 (ht.1.mem_iff.1 (List.getElem_mem hlt))
      have hk1l := (List.getElem?_eq_some_iff.1 hk1).1
      have hk2l := (List.getElem?_eq_some_iff.1 hk2).1
      refine h11.ld_t rfl ?_
      rw [i64w (x := (n : Int) + 1 - 1) (by omega) (by omega)]
      refine idx_ldF (T := TN) hTN n6.1.slf (n := n) (by omega) (List.getElem?_eq_getElem (by omega)) rfl ?_
      rw [i64w (x := tab[n] - 1) (by omega) (by omega)]
      refine idx_stamp h11.t.slf (n := k1) (by omega) hk1 (h11.ld_t rfl (idx_ldF (T := TN) hTN n6.1.slf (n := n + 1) (by simp) (List.getElem?_eq_getElem hlt) rfl ?_))
      rw [i64w (x := tab[n + 1] - 1) (by omega) (by omega)]
      refine idx_stamp h11.t.slf (n := k2) (by omega) hk2 (ifB_of (fun e => ?_) (fun e => ?_))
      · have e : x1.Stamp = x2.Stamp := by simpa using e
        refine no f11 fun q => ?_
        have hne : k1 ≠ k2 := fun ee => by
          have h1 := List.pairwise_iff_getElem.1 tnd n (n + 1) (by omega) hlt (by omega)
          exact h1 (by rw [ek1, ek2, ee])
        exact q.inv.st k1 k2 x1 x2 hne hk1 hk2 hp1 hp2 e
      · have e : x1.Stamp ≠ x2.Stamp := by simpa using e
        rw [i64w (by omega) (by omega)]
        refine hG _ _ ⟨rfl, n + 1, by simp, by omega, fun k h1 h2 hk => ?_⟩ (by simp; omega)
        by_cases ek : k = n + 1
        · subst ek
          have a1 : atZ z tab[n] = x1 := by rw [ek1]; exact atZ_at hk1
          have a2 : atZ z tab[n + 1] = x2 := by rw [ek2]; exact atZ_at hk2
          simp only [Nat.add_sub_cancel, a1, a2]; exact e
        · exact ok k h1 (by omega) hk
    · have hge : tab.length ≤ n + 1 := by have := of_decide_eq_false hge; omega
      exact hj _ _ ⟨fun k h1 hk => ok k h1 (by omega) hk, f11⟩
  · rintro _ H12 ⟨adj, f12⟩
    refine hq true _ ⟨fun _ => ?_, fun _ => rfl⟩ f12
    refine ⟨few, by omega, by omega, okA, fun p hp => (okP p hp).1, fun p hp => (okP p hp).2.1, fun p hp => (okP p hp).2.2.1, fun p hp => (okP p hp).2.2.2, ?_, hnil⟩
    unfold DstS
    rw [List.pairwise_iff_getElem]
    intro i j hil hjl hij e1 e2 e3
    have pos : ∀ (i : Nat) (hi : i < z.t.length), z.t[i].Place = 4 → ∃ a, ∃ ha : a < tab.length, tab[a] = (i : Int) + 1 ∧ atZ z tab[a] = z.t[i] := fun i hi hp => by
      have hx : z.t[i]? = some z.t[i] := List.getElem?_eq_getElem hi
      obtain ⟨a, ha⟩ := List.mem_iff_getElem?.1 (ht.1.mem_iff.2 (mem_onT.2 ⟨i, _, rfl, hx, hp⟩))
      obtain ⟨ha1, ha2⟩ := List.getElem?_eq_some_iff.1 ha
      exact ⟨a, ha1, ha2, by rw [ha2]; exact atZ_at hx⟩
    obtain ⟨a, ha, ea, sa⟩ := pos i hil e1
    obtain ⟨c, hc, ec, sc⟩ := pos j hjl e2
    have pw := List.pairwise_iff_getElem.1 ht.2
    have strict : ∀ a c, (ha : a < tab.length) → (hc : c < tab.length) → a < c → (atZ z tab[a]).Stamp < (atZ z tab[c]).Stamp := fun a c ha hc hac => by
      have h1 := adj c (by omega) hc
      have h2 := pw (c - 1) c (by omega) hc (by omega)
      by_cases e : a = c - 1
      · subst e; omega
      · have := pw a (c - 1) ha (by omega) (by omega); omega
    rcases Nat.lt_trichotomy a c with q | q | q
    · have := strict a c ha hc q; rw [sa, sc] at this; omega
    · subst q; rw [ea] at ec; omega
    · have := strict c a hc ha q; rw [sa, sc] at this; omega
end
end

section
/- Zones that are handed in: the document's From. -/
open Zv
section
variable {H : Heap}
variable {a0 : Sl} {l : List Th} {sd sh : Nat → Sl} {ld lh : Nat → List Int} {n : Int}
theorem lng_succ {p : Nat} : Lng l ld lh (p + 1) ↔ Lng l ld lh p ∨ 2048 < (ld p).length ∨ 2048 < (lh p).length := by
  unfold Lng
  constructor
  · rintro (q | ⟨q, hq, h⟩)
    · exact .inl (.inl q)
    · by_cases e : q = p
      · subst e; exact .inr h
      · exact .inl (.inr ⟨q, by omega, h⟩)
  · rintro ((q | ⟨q, hq, h⟩) | h)
    · exact .inl q
    · exact .inr ⟨q, by omega, h⟩
    · exact .inr ⟨p, by omega, h⟩
theorem lng_mono {p q : Nat} (h : Lng l ld lh p) (hq : p ≤ q) : Lng l ld lh q := by
  rcases h with h | ⟨r, hr, h⟩
  · exact .inl h
  · exact .inr ⟨r, by omega, h⟩
theorem rfrom_c (h0 : SlF TT H a0 l) (hd : ∀ p, p < 2 → SlF TN H (sd p) (ld p)) (hh : ∀ p, p < 2 → SlF TN H (sh p) (lh p)) (b0 : l.length ≤ 1048600) (bd : ∀ p, p < 2 → (ld p).length ≤ 1048600) (bh : ∀ p, p < 2 → (lh p).length ≤ 1048600) {Q : (Option Addr) × Int × Unit → Heap → Prop}
    (q1 : ∀ H', Lng l ld lh 2 → Frs [] H H' → Q (none, 3, ()) H') (q2 : ∀ H', ¬ Lng l ld lh 2 → ¬ Snd (zz l ld lh n 2) → Frs [] H H' → Q (none, 2, ()) H')
    (q3 : ∀ H' b st ss, ¬ Lng l ld lh 2 → Snd (zz l ld lh n 2) → ZR e1 H' b (zz l ld lh n 2) st ss → Frs [] H H' → (∀ d ∈ fp b st ss, H.length ≤ d) → Q (some ⟨b, 0, none⟩, 0, ()) H') :
    CALL P [T_ptr, TN] n_ref17_From [a0.v, T_arr2_T_sl.enc (sd 0, sd 1), T_arr2_T_sl.enc (sh 0, sh 1), .int .i64 n] H Q := by
  apply c_ref17_From
  unfold S_ref17_From NEW
  show ifB _ _ _
  have f1 : Frs [] H (mk H [.slice (sd 0).p (sd 0).len (sd 0).cap, .slice (sd 1).p (sd 1).len (sd 1).cap] 2 false) := Frs.app _ _ _
  have ar1 : ArS (mk H [.slice (sd 0).p (sd 0).len (sd 0).cap, .slice (sd 1).p (sd 1).len (sd 1).cap] 2 false) H.length sd := ArS.new H sd
  have e1l : (mk H [.slice (sd 0).p (sd 0).len (sd 0).cap, .slice (sd 1).p (sd 1).len (sd 1).cap] 2 false).length = H.length + 1 := by simp [mk]
  generalize mk H [.slice (sd 0).p (sd 0).len (sd 0).cap, .slice (sd 1).p (sd 1).len (sd 1).cap] 2 false = H1 at f1 ar1 e1l ⊢
  have f2 : Frs [] H1 (mk H1 [.slice (sh 0).p (sh 0).len (sh 0).cap, .slice (sh 1).p (sh 1).len (sh 1).cap] 2 false) := Frs.app _ _ _
  have ar2 : ArS (mk H1 [.slice (sh 0).p (sh 0).len (sh 0).cap, .slice (sh 1).p (sh 1).len (sh 1).cap] 2 false) H1.length sh := ArS.new H1 sh
  generalize mk H1 [.slice (sh 0).p (sh 0).len (sh 0).cap, .slice (sh 1).p (sh 1).len (sh 1).cap] 2 false = H2 at f2 ar2 ⊢
  have ar1' := ar1.frs f2 (by simp)
  have f02 := f1.trans f2
  have e0 : a0.len = l.length := h0.1
  refine ifB_of (fun g => q1 _ (.inl (by have := of_decide_eq_true g; omega)) f02) (fun g => ?_)
  have hl0 : l.length ≤ 2048 := by have := of_decide_eq_false g; omega
  have zr3 : ZR Zq.e1 (mk H2 [(.slice none 0 0), (.slice none 0 0), (.slice none 0 0), (.slice none 0 0), (.slice none 0 0), (.int .i64 n), (.bool true)] 7 false) H2.length ⟨[], fun _ => [], n⟩ ⟨none, 0, 0⟩ (fun _ => ⟨none, 0, 0⟩) := trow (OwJ.nil _ _)
  have f3 : Frs [] H2 (mk H2 [(.slice none 0 0), (.slice none 0 0), (.slice none 0 0), (.slice none 0 0), (.slice none 0 0), (.int .i64 n), (.bool true)] 7 false) := Frs.app _ _ _
  generalize mk H2 [(.slice none 0 0), (.slice none 0 0), (.slice none 0 0), (.slice none 0 0), (.slice none 0 0), (.int .i64 n), (.bool true)] 7 false = H3 at zr3 f3 ⊢
  have f03 := f02.trans f3
  have hl3 := f3.1
  have h1l := ar1.lt
  have h2l := ar2.lt
  have hl2 := f2.1
  refine zr3.ld_t rfl (appsJ_c KThings.tyS rfl (fun _ => by simp) (h0.frs f03 (by simp)) (by simp only [List.length_nil]; omega) (OwJ.nil _ _) fun s2 H4 m1 m2 m3 => ?_)
  rw [List.nil_append] at m1
  refine zr3.pt m1 (mvp m2) (aft m3) rfl fun H5 zr5 b5 => ?_
  have zr5' : ZR Zq.e1 H5 H2.length (zz l ld lh n 0) s2 (fun _ => ⟨none, 0, 0⟩) := by rw [← zz_zero]; exact zr5
  have bh5 : Bh [] H (fp H2.length s2 (fun _ => ⟨none, 0, 0⟩)) H5 := ⟨f03.then b5.f fun c hc => by rw [nrow_fp] at hc; simp at hc; exact .inr (by have := f02.1; omega), fun d hdm => by
    rcases b5.g d hdm with q | q
    · rw [nrow_fp] at q; simp at q; exact .inr (by have := f02.1; omega)
    · exact .inr (by have := f03.1; omega)⟩
  have old : ∀ d, d < H2.length → d ∉ fp H2.length s2 (fun _ => ⟨none, 0, 0⟩) := fun d hdl hdm => by
    rcases b5.g d hdm with q | q
    · rw [nrow_fp] at q; simp at q; omega
    · omega
  have keep : ∀ d, d < H2.length → d ∉ fp H2.length ⟨none, 0, 0⟩ (fun _ => ⟨none, 0, 0⟩) := fun d hdl hdm => by rw [nrow_fp] at hdm; simp at hdm; omega
  refine JOIN_inv (fun _ H8 => ¬ Lng l ld lh 2 ∧ ∃ ss, ZR Zq.e1 H8 H2.length (zz l ld lh n 2) s2 ss ∧ Bh [] H (fp H2.length s2 ss) H8) (fun j hj => ?_) ?_
  · refine loop_of (fun (s : (Int × Unit) × Unit) H' => ∃ (p : Nat) (ss : Nat → Sl), s.1.1 = p ∧ p ≤ 2 ∧ ¬ Lng l ld lh p ∧ ZR Zq.e1 H' H2.length (zz l ld lh n p) s2 ss ∧ Bh [] H (fp H2.length s2 ss) H' ∧ (H.length ∉ fp H2.length s2 ss ∧ H1.length ∉ fp H2.length s2 ss) ∧ ArS H' H.length sd ∧ ArS H' H1.length sh) (fun s => 2 - s.1.1.toNat) ?_ ⟨0, _, rfl, by omega, fun q => by rcases q with q | ⟨r, hr, _⟩ <;> omega, zr5', bh5, ⟨old _ (by omega), old _ h2l⟩, (ar1'.frs f3 (by simp)).frs b5.f (keep _ (by omega)), (ar2.frs f3 (by simp)).frs b5.f (keep _ h2l)⟩
    rintro G ⟨⟨i, _⟩, _⟩ H' ⟨p, ss, hi, hp2, nl, zr, bh', nab, r1, r2⟩ hG
    simp only at hi; subst hi
    dsimp only at hG ⊢
    refine ifB_of (fun hlt => ?_) (fun hge => ?_)
    · have hlt : p < 2 := by have := of_decide_eq_true hlt; omega
      have hA : (0 : Int) ≤ (p : Int) ∧ (p : Int) < 2 := by omega
      have hp4 : p < 4 := by omega
      have hp24 : 2 + p < 4 := by omega
      have hdl := (hd p hlt).1
      have hhl := (hh p hlt).1
      refine JB (H := H') (Lng l ld lh (p + 1)) (fun j2 hj2 => ⟨hA, r1.ld hlt (ifB_of (fun g2 => hj2 _ ?_) (fun g2 => ⟨hA, r2.ld hlt (hj2 _ ?_)⟩))⟩) fun r hr => ifB_of (fun g2 => ?_) (fun g2 => ?_)
      · have := of_decide_eq_true g2; rw [lng_succ]; simp only [true_iff]; exact .inr (.inl (by omega))
      · have g2 := of_decide_eq_false g2
        rw [lng_succ, decide_eq_true_eq]
        constructor
        · intro q; exact .inr (.inr (by omega))
        · rintro (q | q | q)
          · exact absurd q nl
          · omega
          · omega
      · exact q1 _ (lng_mono (hr.1 g2) (by omega)) bh'.f
      have nl' : ¬ Lng l ld lh (p + 1) := fun q => by rw [hr.2 q] at g2; cases g2
      refine ⟨hA, r1.ld hlt (ints_c ((hd p hlt).frs bh'.f (by simp)) (bd p hlt) fun s12 H9 sp12 n12 => ⟨hA, ?_⟩)⟩
      refine zr.pq hp4 n12.1.j (newmv n12 _) (n12.2.2.mono (by simp)) (by simp) fun H10 z10 b10 => ?_
      have hH := r1.lt
      have hH1 := r2.lt
      have nab10 : H.length ∉ fp H2.length s2 (upd ss p s12) ∧ H1.length ∉ fp H2.length s2 (upd ss p s12) := ⟨fun hm => by rcases b10.g _ hm with q | q; exact nab.1 q; omega, fun hm => by rcases b10.g _ hm with q | q; exact nab.2 q; omega⟩
      have r110 := r1.frs b10.f nab.1
      have r210 := r2.frs b10.f nab.2
      have bh10 := bh'.trans b10
      refine ⟨hA, r210.ld hlt (ints_c ((hh p hlt).frs bh10.f (by simp)) (bh p hlt) fun s14 H11 sp14 n14 => ⟨hA, ?_⟩)⟩
      refine z10.pq hp24 n14.1.j (newmv n14 _) (n14.2.2.mono (by simp)) (by simp; omega) fun H12 z12 b12 => ?_
      have hz : ({ ({ zz l ld lh n p with l := upd (zz l ld lh n p).l p (ld p) } : Zo) with l := upd (upd (zz l ld lh n p).l p (ld p)) (2 + p) (lh p) } : Zo) = zz l ld lh n (p + 1) := zz_succ hlt
      have hH' := r110.lt
      have hH1' := r210.lt
      rw [i64w (by omega) (by omega)]
      refine hG _ _ ⟨p + 1, _, by simp, by omega, nl', by rw [← hz]; exact z12, bh10.trans b12, ⟨fun hm => ?_, fun hm => ?_⟩, r110.frs b12.f nab10.1, r210.frs b12.f nab10.2⟩ (by simp; omega)
      · rcases b12.g _ hm with q | q
        · exact nab10.1 q
        · omega
      · rcases b12.g _ hm with q | q
        · exact nab10.2 q
        · omega
    · have hge : p = 2 := by have := of_decide_eq_false hge; omega
      subst hge
      exact hj _ _ ⟨nl, ss, zr, bh'⟩
  · rintro _ H8 ⟨hlng, ss, zr, bh'⟩
    obtain ⟨zb1, zb2, zb3⟩ := zz_b (n := n) hlng
    refine rsound_c zr zb1 zb2 zb3 fun r H14 hr f14 => ifB_of (fun e => ?_) (fun e => ?_)
    · exact q2 _ hlng (fun q => by rw [hr.2 q] at e; cases e) (bh'.f.trans f14)
    · exact q3 _ _ _ _ hlng (hr.1 (by simpa using e)) (zr.new f14) (bh'.f.trans f14) fun d hdm => by
        rcases bh'.g d hdm with q | q
        · cases q
        · exact q
end
end
end Go.Proofs.YthgfjbafhjkhnaaGreat.Zq
