/- When zones are sound: as the program looks at it. -/
import Derived.Test.YthgfjbafhjkhnaaGreatZcSndP
import Derived.Test.YthgfjbafhjkhnaaGreatZcOwJ
namespace Go.Proofs.YthgfjbafhjkhnaaGreat.Zq
section
/- When zones are sound: as the program looks at it. -/
open Zv
section
variable {H : Heap} {b : Nat} {z : Zo} {st : Sl} {ss : Nat → Sl}
theorem eqT_iff (x y : Th) : ((x.Card == y.Card) && ((x.Owner == y.Owner) && ((x.Place == y.Place) && ((x.Stamp == y.Stamp) && ((x.Hurt == y.Hurt) && (((x.Marks.1 == y.Marks.1) && ((x.Marks.2.1 == y.Marks.2.1) && ((x.Marks.2.2.1 == y.Marks.2.2.1) && ((x.Marks.2.2.2 == y.Marks.2.2.2) && true)))) && ((x.Done == y.Done) && ((x.Fresh == y.Fresh) && true)))))))) = true ↔ x = y := by
  have h := KThings.same_iff x y
  rw [Bool.not_eq_false'] at h
  exact h

theorem zok_c (h : ZR [] H b z st ss) (t : Th) {Q : Bool × Unit → Heap → Prop} (hq : ∀ r : Bool, (r = true ↔ okT z.n t) → Q (r, ()) H) : CALL P [T_bool] n_zone_Zones_thing [ad b, TT.enc t] H Q := by
  apply c_zone_Zones_thing
  unfold S_zone_Zones_thing
  refine JB (H := H) (t.Card < 1 ∨ ¬ (t.Owner = 0 ∨ t.Owner = 1) ∨ t.Place < 1 ∨ 5 < t.Place) (fun j hj => ifB_of (fun h1 => hj _ ?_) (fun h1 => player_c fun r hr => ifB_of (fun h2 => hj _ ?_) (fun h2 => ifB_of (fun h3 => hj _ ?_) (fun h3 => hj _ ?_)))) fun r hr => ifB_of (fun h1 => ?_) (fun h1 => ?_)
  · have := of_decide_eq_true h1; simp; omega
  · have : ¬ (t.Owner = 0 ∨ t.Owner = 1) := fun q => by rw [hr.2 q] at h2; cases h2
    simp only [this, not_false_eq_true, true_or, or_true]
  · have := of_decide_eq_true h3; simp; omega
  · have h1 := of_decide_eq_false h1
    have h3 := of_decide_eq_false h3
    have hp := hr.1 (by simpa using h2)
    simp; omega
  · refine hq false ⟨fun q => (by cases q), fun q => ?_⟩
    obtain ⟨q1, q2, q3, q4, _⟩ := q
    have := hr.1 h1; omega
  · have c1 : ¬ (t.Card < 1 ∨ ¬ (t.Owner = 0 ∨ t.Owner = 1) ∨ t.Place < 1 ∨ 5 < t.Place) := fun q => by rw [hr.2 q] at h1; cases h1
    refine ifB_of (fun h4 => ?_) (fun h4 => ?_)
    · have h4 : t.Place ≠ 4 := by simpa using h4
      refine zhome_c t ⟨rfl, hq _ ?_⟩
      rw [eqT_iff]
      exact ⟨fun e => ⟨by omega, by omega, by omega, by omega, fun _ => e, fun q => absurd q h4⟩, fun q => q.2.2.2.2.1 h4⟩
    · have h4 : t.Place = 4 := by simpa using h4
      have base : okT z.n t ↔ 1 ≤ t.Stamp ∧ t.Stamp < z.n ∧ 0 ≤ t.Hurt ∧ 0 ≤ t.Done ∧ okMs t.Marks := ⟨fun q => q.2.2.2.2.2 h4, fun q => ⟨by omega, by omega, by omega, by omega, fun e => absurd h4 e, fun _ => q⟩⟩
      refine JB (H := H) (okT z.n t) (fun j hj => ifB_of (fun g1 => h.ld_n rfl (ifB_of (fun g2 => ifB_of (fun g3 => ifB_of (fun g4 => marks_c fun r hr => hj _ ?_) (fun g4 => hj _ ?_)) (fun g3 => hj _ ?_)) (fun g2 => hj _ ?_))) (fun g1 => hj _ ?_)) fun r hr => hq r hr
      · have g1 := of_decide_eq_true g1; have g2 := of_decide_eq_true g2; have g3 := of_decide_eq_true g3; have g4 := of_decide_eq_true g4
        rw [base, hr]
        exact ⟨fun q => ⟨by omega, by omega, by omega, by omega, q⟩, fun q => q.2.2.2.2⟩
      · have := of_decide_eq_false g4; rw [base]; simp; omega
      · have := of_decide_eq_false g3; rw [base]; simp; omega
      · have := of_decide_eq_false g2; rw [base]; simp; omega
      · have := of_decide_eq_false g1; rw [base]; simp; omega

theorem tyM : TyM E 89 := ⟨⟨_, _, _, _, _, rfl, rfl, rfl, rfl, rfl, rfl⟩⟩
/-- An array of two numbers. -/
def Arr2 (H : Heap) (ob : Nat) (o : Nat → Int) : Prop := H[ob]? = some (.row [.int .i64 (o 0), .int .i64 (o 1)] 2 false false true)
theorem Arr2.ld {ob : Nat} {o : Nat → Int} (h : Arr2 H ob o) {p : Int} (hp : p = 0 ∨ p = 1) {k : Int → Prop} (hk : k (o p.toNat)) : LD TN H ob (0 + p.toNat * 1) k := by
  rcases hp with rfl | rfl
  · exact LD_of (T := TN) (o 0) [] [.int .i64 (o 1)] h rfl rfl rfl hk
  · exact LD_of (T := TN) (o 1) [.int .i64 (o 0)] [] h rfl rfl rfl hk
theorem Arr2.put {ob : Nat} {o : Nat → Int} (h : Arr2 H ob o) {p : Int} (hp : p = 0 ∨ p = 1) {x : Int} {K : Heap → Prop} (hK : ∀ H', Arr2 H' ob (upd o p.toNat x) → Frs [ob] H H' → K H') : ST H ob (0 + p.toNat * 1) [.int .i64 x] K := by
  have hlt := get_lt h
  rcases hp with rfl | rfl
  · exact ST_of [] [.int .i64 (o 0)] [.int .i64 (o 1)] h rfl rfl rfl rfl (hK _ (by unfold Arr2; rw [set_get hlt]; rfl) (Frs.set _ _ (by simp)))
  · exact ST_of [.int .i64 (o 0)] [.int .i64 (o 1)] [] h rfl rfl rfl rfl (hK _ (by unfold Arr2; rw [set_get hlt]; rfl) (Frs.set _ _ (by simp)))
theorem Arr2.frs {H' : Heap} {ob : Nat} {o : Nat → Int} {B : List Nat} (h : Arr2 H ob o) (f : Frs B H H') (hb : ob ∉ B) : Arr2 H' ob o := f.get hb h

def ownL (l : List Th) (p : Int) : Nat := l.countP fun t => t.Place == 4 && t.Owner == p
theorem ownL_take (l : List Th) (p : Int) (n : Nat) : ownL (l.take n) p ≤ ownL l p := List.Sublist.countP_le (List.take_sublist n l)
theorem ownL_succ {l : List Th} {n : Nat} (h : n < l.length) (p : Int) : ownL (l.take (n + 1)) p = ownL (l.take n) p + if l[n].Place = 4 ∧ l[n].Owner = p then 1 else 0 := by
  unfold ownL
  rw [List.take_succ_eq_append_getElem h, List.countP_append]
  simp only [List.countP_cons, List.countP_nil, Bool.and_eq_true, beq_iff_eq]
  split <;> simp
theorem heldZ_succ {l : List Th} {n : Nat} (h : n < l.length) : heldZ (l.take (n + 1)) = heldZ (l.take n) + if l[n].Place = 1 ∨ l[n].Place = 2 then 1 else 0 := by
  unfold heldZ
  rw [List.take_succ_eq_append_getElem h, List.countP_append]
  simp only [List.countP_cons, List.countP_nil, Bool.or_eq_true, beq_iff_eq]
  split <;> simp
theorem DstS_succ {l : List Th} {n : Nat} (h : n < l.length) (h1 : DstS (l.take n)) (h2 : l[n].Place = 4 → ∀ t ∈ l.take n, t.Place = 4 → t.Stamp ≠ l[n].Stamp) : DstS (l.take (n + 1)) := by
  unfold DstS
  rw [List.take_succ_eq_append_getElem h, List.pairwise_append]
  refine ⟨h1, List.pairwise_singleton _ _, fun a ha y hy e1 e2 => ?_⟩
  simp at hy; subst hy
  exact h2 e2 a ha e1

/-- The things, one by one. -/
structure Fst (z : Zo) (n : Nat) : Prop where
  ok : ∀ t ∈ z.t.take n, okT z.n t
  ds : DstS (z.t.take n)
  ow : ∀ p : Nat, p < 2 → ownL (z.t.take n) p ≤ 8

theorem psound_c (h : ZR [] H b z st ss) (few : z.t.length ≤ 2048) (hlen : ∀ q, q < 4 → (z.l q).length ≤ 2048) (hnil : ∀ q, 4 ≤ q → z.l q = []) {Q : Bool × Unit → Heap → Prop} (hq : ∀ (r : Bool) H', (r = true ↔ Snd z) → Frs [] H H' → Q (r, ()) H') : CALL P [T_bool] n_zone_Zones_sound [ad b] H Q := by
  apply c_zone_Zones_sound
  unfold S_zone_Zones_sound
  have no : ∀ {H' : Heap}, Frs [] H H' → ¬ Snd z → Q (false, ()) H' := fun f hn => hq false _ ⟨fun q => (by cases q), fun q => absurd q hn⟩ f
  refine JB (H := H) (z.n < 1 ∨ 1099511627776 < z.n) (fun j hj => h.ld_n rfl (ifB_of (fun h1 => hj _ ?_) (fun h1 => h.ld_n rfl (hj _ ?_)))) fun r hr => ifB_of (fun h1 => ?_) (fun h1 => ?_)
  · have := of_decide_eq_true h1; simp; omega
  · have := of_decide_eq_false h1; simp; omega
  · exact no (.refl _ _) fun q => by have := hr.1 h1; have := q.n1; have := q.n2; omega
  have hn : ¬ (z.n < 1 ∨ 1099511627776 < z.n) := fun q => by rw [hr.2 q] at h1; cases h1
  show NEWM H _
  unfold NEWM
  have s2 := SetM.new H
  have f2 : Frs [] H (H ++ [ABlk.map [] 0]) := Frs.app _ _ _
  have l2 : (H ++ [ABlk.map [] 0]).length = H.length + 1 := by simp
  generalize H ++ [ABlk.map [] 0] = H2 at s2 f2 l2
  show NEW H2 _ 2 _
  unfold NEW
  have f3 : Frs [] H2 (mk H2 [(.int .i64 0), (.int .i64 0)] 2 false) := Frs.app _ _ _
  have a3 : (mk H2 [(.int .i64 0), (.int .i64 0)] 2 false)[H2.length]? = some (.row [.int .i64 0, .int .i64 0] 2 false false true) := by simp [mk]
  generalize mk H2 [(.int .i64 0), (.int .i64 0)] 2 false = H3 at f3 a3
  refine ST_of [] [.int .i64 0, .int .i64 0] [] a3 rfl rfl rfl rfl ?_
  have f4 : Frs [H2.length] H3 (H3.set H2.length (.row ([] ++ ([.int .i64 0, .int .i64 0] ++ [])) 2 false false true)) := Frs.set _ _ (by simp)
  have a4 : Arr2 (H3.set H2.length (.row ([] ++ ([.int .i64 0, .int .i64 0] ++ [])) 2 false false true)) H2.length (fun _ => 0) := by unfold Arr2; rw [set_get (get_lt a3)]; rfl
  generalize H3.set H2.length (.row ([] ++ ([.int .i64 0, .int .i64 0] ++ [])) 2 false false true) = H4 at f4 a4
  have s4 : SetM H4 H.length [] := (s2.frs f3 (by simp)).frs f4 (by simp; omega)
  have fr4 : Frs [] H H4 := (f2.trans f3).then f4 fun c hc => by simp at hc; exact .inr (by omega)
  have h4 := h.new fr4
  have htl := h.tl
  refine h4.ld_t rfl ?_
  refine JOIN_inv (fun y H5 => (y : (Int × Unit) × Unit).1.1 = (heldZ z.t : Int) ∧ Frs [] H H5 ∧ Fst z z.t.length) (fun j hj => ?_) ?_
  · refine loop_of (fun (s : (Int × Int × Unit) × Unit) H' => ∃ (n : Nat) (S : List Int) (o : Nat → Int), s.1.2.1 = n ∧ n ≤ z.t.length ∧ s.1.1 = (heldZ (z.t.take n) : Int) ∧ SetM H' H.length S ∧ (∀ x, x ∈ S ↔ ∃ t ∈ z.t.take n, t.Place = 4 ∧ t.Stamp = x) ∧ Arr2 H' H2.length o ∧ (∀ p : Nat, p < 2 → o p = (ownL (z.t.take n) p : Int)) ∧ Fst z n ∧ Frs [] H H') (fun s => z.t.length - s.1.2.1.toNat) ?_
      ⟨0, [], fun _ => 0, rfl, Nat.zero_le _, by simp [heldZ], s4, by simp, a4, by simp [ownL], ⟨by simp, by simp [DstS], by simp [ownL]⟩, fr4⟩
    rintro G ⟨⟨a, i, _⟩, _⟩ H' ⟨n, S, o, hi, hnl, ha, hS, hmem, har, ho, fst, fr⟩ hG
    simp only at hi ha; subst hi; subst ha
    dsimp only at hG ⊢
    have h' := h.new fr
    have hheld : heldZ (z.t.take n) ≤ n := by have := List.countP_le_length (p := fun x : Th => x.Place == 1 || x.Place == 2) (l := z.t.take n); simp at this; unfold heldZ; omega
    refine ifB_of (fun hlt => ?_) (fun hge => ?_)
    · have hlt : n < z.t.length := by have := of_decide_eq_true hlt; omega
      have hx : z.t[n]? = some z.t[n] := List.getElem?_eq_getElem hlt
      have hmemt : z.t[n] ∈ z.t := List.getElem_mem hlt
      have tks : z.t.take (n + 1) = z.t.take n ++ [z.t[n]] := List.take_succ_eq_append_getElem hlt
      refine h'.ld_th rfl hx (zok_c h' _ fun r hr => ifB_of (fun h1 => ?_) (fun h1 => ?_))
      · exact no fr fun q => by have := hr.2 (q.ok _ hmemt); rw [this] at h1; cases h1
      have hok : okT z.n z.t[n] := hr.1 (by simpa using h1)
      have okn : ∀ t ∈ z.t.take (n + 1), okT z.n t := fun t ht => by
        rw [tks, List.mem_append, List.mem_singleton] at ht
        rcases ht with q | rfl
        · exact fst.ok t q
        · exact hok
      have hown := hok.2.1
      have hA : 0 ≤ z.t[n].Owner ∧ z.t[n].Owner < 2 := by omega
      have hop : z.t[n].Owner.toNat < 2 := by omega
      have hocast : ((z.t[n].Owner.toNat : Nat) : Int) = z.t[n].Owner := by omega
      have hobs : H2.length ≠ H.length := by omega
      refine JOIN_inv (fun y H8 => (y : (Int × Unit) × Unit).1.1 = (heldZ (z.t.take (n + 1)) : Int) ∧ ∃ (S' : List Int) (o' : Nat → Int), SetM H8 H.length S' ∧ (∀ x, x ∈ S' ↔ ∃ t ∈ z.t.take (n + 1), t.Place = 4 ∧ t.Stamp = x) ∧ Arr2 H8 H2.length o' ∧ (∀ p : Nat, p < 2 → o' p = (ownL (z.t.take (n + 1)) p : Int)) ∧ Fst z (n + 1) ∧ Frs [] H H8) (fun j20 hj20 => ?_) ?_
      · refine ifB_of (fun g4 => ?_) (fun g4 => ?_)
        · have g4 : z.t[n].Place = 4 := by simpa using g4
          have ho1 := ho _ hop
          have ho8 := fst.ow _ hop
          have hos := ownL_succ hlt z.t[n].Owner
          rw [if_pos ⟨g4, rfl⟩] at hos
          have hoz := ownL_take z.t z.t[n].Owner (n + 1)
          rw [hocast] at ho1 ho8
          by_cases hin : z.t[n].Stamp ∈ S
          · refine ⟨1, by rw [lookup_s tyM hS, if_pos hin]; rfl, ?_⟩
            show GENH (aMapUpdate E 89 (.map (some H.length)) (.int .i64 z.t[n].Stamp) (.int .i64 (IntKind.wrap .i64 ((1 : Int) + 1))) H') _
            rw [show IntKind.wrap .i64 ((1 : Int) + 1) = 2 by decide]
            refine update_dup tyM hS hin fun H9 hlk f9 _ => ?_
            have a9 := har.frs f9 (by simp; omega)
            have f09 : Frs [] H H9 := fr.then f9 fun c hc => by simp at hc; exact .inr (by omega)
            refine ⟨hA, a9.ld hown ⟨hA, a9.put hown fun H10 a10 f10 => JOIN_of ⟨2, hlk _ _ f10 (by simp; omega), ifB_t rfl (ifB_t rfl (no (f09.then f10 fun c hc => by simp at hc; exact .inr (by omega)) fun q => ?_))⟩⟩⟩
            obtain ⟨t, ht, e1, e2⟩ := (hmem _).1 hin
            obtain ⟨i, hi⟩ := List.mem_iff_getElem?.1 ht
            have hil := (List.getElem?_eq_some_iff.1 hi).1
            simp at hil
            rw [List.getElem?_take, if_pos (by omega)] at hi
            have hst := List.pairwise_iff_getElem.1 q.st i n (by omega) hlt (by omega)
            rw [(List.getElem?_eq_some_iff.1 hi).2] at hst
            exact hst e1 g4 e2
          · refine ⟨0, by rw [lookup_s tyM hS, if_neg hin]; rfl, ?_⟩
            show GENH (aMapUpdate E 89 (.map (some H.length)) (.int .i64 z.t[n].Stamp) (.int .i64 (IntKind.wrap .i64 ((0 : Int) + 1))) H') _
            rw [show IntKind.wrap .i64 ((0 : Int) + 1) = 1 by decide]
            refine update_new tyM hS hin fun H9 hS9 f9 _ => ?_
            have a9 := har.frs f9 (by simp; omega)
            have f09 : Frs [] H H9 := fr.then f9 fun c hc => by simp at hc; exact .inr (by omega)
            refine ⟨hA, a9.ld hown ⟨hA, ?_⟩⟩
            rw [i64w (x := o z.t[n].Owner.toNat + 1) (by omega) (by omega)]
            refine a9.put hown fun H10 a10 f10 => ?_
            have hS10 := hS9.frs f10 (by simp; omega)
            have f010 : Frs [] H H10 := f09.then f10 fun c hc => by simp at hc; exact .inr (by omega)
            refine JOIN_of ⟨1, by rw [lookup_s tyM hS10, if_pos (by simp)]; rfl, ifB_f rfl ⟨hA, a10.ld hown ?_⟩⟩
            rw [upd_same]
            refine ifB_of (fun e => ?_) (fun e => ?_)
            · have e := of_decide_eq_true e
              refine no f010 fun q => ?_
              have := q.own _ hop
              rw [hocast] at this
              have e5 : own z z.t[n].Owner = ownL z.t z.t[n].Owner := rfl
              omega
            · have e := of_decide_eq_false e
              refine hj20 _ _ ⟨?_, S ++ [z.t[n].Stamp], _, hS10, fun x => ?_, a10, fun p hp => ?_, ⟨okn, DstS_succ hlt fst.ds fun _ t ht e1 e2 => hin ((hmem _).2 ⟨t, ht, e1, e2⟩), fun p hp => ?_⟩, f010⟩
              · dsimp only
                rw [heldZ_succ hlt, if_neg (by omega)]; simp
              · rw [List.mem_append, List.mem_singleton, hmem, tks]
                constructor
                · rintro (⟨t, ht, e1, e2⟩ | rfl)
                  · exact ⟨t, List.mem_append_left _ ht, e1, e2⟩
                  · exact ⟨_, List.mem_append_right _ (List.mem_singleton.2 rfl), g4, rfl⟩
                · rintro ⟨t, ht, e1, e2⟩
                  rcases List.mem_append.1 ht with q | q
                  · exact .inl ⟨t, q, e1, e2⟩
                  · simp at q; subst q; exact .inr e2.symm
              · by_cases ep : p = z.t[n].Owner.toNat
                · subst ep; rw [upd_same, hocast, hos]; omega
                · rw [upd_ne _ _ ep, ho p hp, ownL_succ hlt, if_neg (by omega)]; simp
              · by_cases ep : p = z.t[n].Owner.toNat
                · subst ep; rw [hocast, hos]; omega
                · rw [ownL_succ hlt, if_neg (by omega)]; have := fst.ow p hp; simpa using this
        · have g4 : z.t[n].Place ≠ 4 := by simpa using g4
          have rest : ∀ hd : Int, hd = (heldZ (z.t.take (n + 1)) : Int) → j20 ((hd, ()), ()) H' := fun hd hhd => by
            refine hj20 _ _ ⟨hhd, S, o, hS, fun x => ?_, har, fun p hp => ?_, ⟨okn, DstS_succ hlt fst.ds fun e => absurd e g4, fun p hp => ?_⟩, fr⟩
            · rw [hmem, tks]
              constructor
              · rintro ⟨t, ht, e1, e2⟩; exact ⟨t, List.mem_append_left _ ht, e1, e2⟩
              · rintro ⟨t, ht, e1, e2⟩
                rcases List.mem_append.1 ht with q | q
                · exact ⟨t, q, e1, e2⟩
                · simp at q; subst q; exact absurd e1 g4
            · rw [ho p hp, ownL_succ hlt, if_neg (fun q => g4 q.1)]; simp
            · rw [ownL_succ hlt, if_neg (fun q => g4 q.1)]; have := fst.ow p hp; simpa using this
          refine JB (H := H') (z.t[n].Place = 1 ∨ z.t[n].Place = 2) (fun j hj => ifB_of (fun e => hj _ ?_) (fun e => hj _ ?_)) fun r hr => JOIN_of (ifB_of (fun e => ?_) (fun e => ?_))
          · have e : z.t[n].Place = 1 := by simpa using e
            simp [e]
          · have e : z.t[n].Place ≠ 1 := by simpa using e
            simp [e]
          · rw [i64w (by omega) (by omega)]
            refine rest _ ?_
            rw [heldZ_succ hlt, if_pos (hr.1 e)]; simp
          · refine rest _ ?_
            rw [heldZ_succ hlt, if_neg (fun q => by rw [hr.2 q] at e; cases e)]; simp
      · rintro ⟨⟨hd, _⟩, _⟩ H8 ⟨hhd, S', o', g1, g2, g3, g5, g6, g7⟩
        simp only at hhd
        dsimp only
        rw [i64w (by omega) (by omega)]
        exact hG _ _ ⟨n + 1, S', o', by simp, hlt, hhd, g1, g2, g3, g5, g6, g7⟩ (by simp; omega)
    · have hge : n = z.t.length := by have := of_decide_eq_false hge; omega
      subst hge
      rw [List.take_length]
      exact hj _ _ ⟨rfl, fr, fst⟩
  · rintro ⟨⟨hd, _⟩, _⟩ H5 ⟨hhd, fr5, fst⟩
    simp only at hhd; subst hhd
    have okA : ∀ t ∈ z.t, okT z.n t := fun t ht => fst.ok t (by rw [List.take_length]; exact ht)
    have dsA : DstS z.t := by have := fst.ds; rwa [List.take_length] at this
    have owA : ∀ p : Nat, p < 2 → Zq.own z p ≤ 8 := fun p hp => by have := fst.ow p hp; rwa [List.take_length] at this
    have hoA : ∀ t ∈ z.t, t.Owner = 0 ∨ t.Owner = 1 := fun t ht => (okA t ht).2.1
    dsimp only
    have s6 := SetM.new H5
    have f6 : Frs [] H5 (H5 ++ [ABlk.map [] 0]) := Frs.app _ _ _
    generalize H5 ++ [ABlk.map [] 0] = H6 at s6 f6
    have fr6 := fr5.trans f6
    have hH5 := fr5.1
    have snd_of : (∀ r, r < 4 → okL z r) → (∀ p : Nat, p < 2 → (z.l (2 + p)).length ≤ 10) → ((Mz z 4).length = heldZ z.t ↔ Snd z) := fun hok hha => by
      rw [Mz_all hok hoA]
      constructor
      · intro hall
        obtain ⟨d, e⟩ := snd_lists.1 ⟨hok, hall⟩
        exact ⟨few, by omega, by omega, okA, owA, hha, d, e, dsA, hnil⟩
      · intro q; exact (snd_lists.2 ⟨q.deck, q.held⟩).2
    have wlen : ∀ q, q < 4 → (wl z q).length ≤ 2048 := fun q hq => hlen _ (by omega)
    refine JOIN_inv (fun _ H' => SetM H' H5.length (Mz z 4) ∧ (∀ r, r < 4 → okL z r) ∧ (∀ p : Nat, p < 2 → (z.l (2 + p)).length ≤ 10) ∧ Frs [] H H') (fun j hj => ?_) ?_
    · refine loop_of (fun (s : (Int × Unit) × Unit) H' => ∃ p : Nat, s.1.1 = p ∧ p ≤ 2 ∧ SetM H' H5.length (Mz z (2 * p)) ∧ (∀ r, r < 2 * p → okL z r) ∧ (∀ p' : Nat, p' < p → (z.l (2 + p')).length ≤ 10) ∧ Frs [] H H') (fun s => 2 - s.1.1.toNat) ?_ ⟨0, rfl, by omega, s6, fun r hr => by omega, fun p hp => by omega, fr6⟩
      rintro G ⟨⟨i, _⟩, _⟩ H' ⟨p, hi, hp2, sM, okl, hnd, fr⟩ hG
      simp only at hi; subst hi
      dsimp only at hG ⊢
      have h' := h.new fr
      refine ifB_of (fun hlt => ?_) (fun hge => ?_)
      · have hlt : p < 2 := by have := of_decide_eq_true hlt; omega
        have hA : (0 : Int) ≤ (p : Int) ∧ (p : Int) < 2 := by omega
        refine JOIN_of ⟨hA, h'.ld_q (q := 2 + p) (by omega) (by simp; omega) (ifB_of (fun hl => ?_) (fun hl => ?_))⟩
        · have hl := of_decide_eq_true hl
          have := h'.ql (q := 2 + p) (by omega)
          exact no fr fun q => by have := q.hand p hlt; omega
        have hl := of_decide_eq_false hl
        have hql := h'.ql (q := 2 + p) (by omega)
        refine ⟨hA, h'.ld_q (q := p) (by omega) (by simp) ⟨hA, h'.ld_q (q := 2 + p) (by omega) (by simp; omega) (JOIN_of ?_)⟩⟩
        refine loop_of (fun (s : (Int × Unit) × Unit) H' => ∃ k : Nat, s.1.1 = k ∧ k ≤ 2 ∧ SetM H' H5.length (Mz z (2 * p + k)) ∧ (∀ r, r < 2 * p + k → okL z r) ∧ Frs [] H H') (fun s => 2 - s.1.1.toNat) ?_ ⟨0, rfl, by omega, sM, okl, fr⟩
        rintro G2 ⟨⟨i2, _⟩, _⟩ H2' ⟨k, hi2, hk2, sM2, okl2, fr2⟩ hG2
        simp only at hi2; subst hi2
        dsimp only at hG2 ⊢
        refine ifB_of (fun hlt2 => ?_) (fun hge2 => ?_)
        · have hlt2 : k < 2 := by have := of_decide_eq_true hlt2; omega
          have hqk : 2 * k + p < 4 := by omega
          have hwl : wl z (2 * p + k) = z.l (2 * k + p) := by unfold wl; rw [show (2 * p + k) % 2 = k by omega, show (2 * p + k) / 2 = p by omega]
          refine JOIN_of ⟨ss (2 * k + p), ?_, JOIN_of ?_⟩
          · rcases (by omega : p = 0 ∨ p = 1) with rfl | rfl <;> rcases (by omega : k = 0 ∨ k = 1) with rfl | rfl <;> rfl
          have hsl := (h.l _ hqk).slf
          rw [← hwl] at hsl
          have hwlen := wlen (2 * p + k) (by omega)
          have hsll := hsl.1
          generalize hW : wl z (2 * p + k) = W at hsl hwlen hsll
          have hu8 : IntKind.wrap .u8 (1 + IntKind.wrap .u8 (k : Int)) = (k : Int) + 1 := by
            rcases (by omega : k = 0 ∨ k = 1) with rfl | rfl <;> decide
          refine loop_of (fun (s : (Int × Unit) × Unit) H' => ∃ m : Nat, s.1.1 = m ∧ m ≤ W.length ∧ SetM H' H5.length (Mz z (2 * p + k) ++ W.take m) ∧ (W.take m).Nodup ∧ (∀ x ∈ W.take m, At z p ((k : Int) + 1) x) ∧ Frs [] H H') (fun s => W.length - s.1.1.toNat) ?_ ⟨0, rfl, Nat.zero_le _, by simpa using sM2, by simp, by simp, fr2⟩
          rintro G3 ⟨⟨i3, _⟩, _⟩ H3' ⟨m, hi3, hm3, sM3, nd3, at3, fr3⟩ hG3
          simp only at hi3; subst hi3
          dsimp only at hG3 ⊢
          have h3' := h.new fr3
          refine ifB_of (fun hlt3 => ?_) (fun hge3 => ?_)
          · have hlt3 : m < W.length := by have := of_decide_eq_true hlt3; omega
            have hx : W[m]? = some W[m] := List.getElem?_eq_getElem hlt3
            have tks : W.take (m + 1) = W.take m ++ [W[m]] := List.take_succ_eq_append_getElem hlt3
            have hxW : W[m] ∈ W := List.getElem_mem hlt3
            refine idx_ldF (T := TN) hTN (hsl.frs fr3 (by simp)) rfl hx rfl ?_
            refine JB (H := H3') (¬ (W[m] ∉ Mz z (2 * p + k) ++ W.take m ∧ At z p ((k : Int) + 1) W[m])) (fun j3 hj3 => ?_) fun r hr => ifB_of (fun e1 => ?_) (fun e1 => ?_)
            · have atb : At z p ((k : Int) + 1) W[m] → 1 ≤ W[m] ∧ W[m] ≤ (z.t.length : Int) := fun q => by
                obtain ⟨k', t, e, e2, _⟩ := q
                have := (List.getElem?_eq_some_iff.1 e2).1; omega
              refine ifB_of (fun g1 => hj3 _ ?_) (fun g1 => h3'.ld_t rfl (ifB_of (fun g2 => hj3 _ ?_) (fun g2 => ⟨if W[m] ∈ Mz z (2 * p + k) ++ W.take m then 1 else 0, by rw [lookup_s tyM sM3]; rfl, ?_⟩)))
              · have g1 := of_decide_eq_true g1
                simp only [true_iff]
                exact fun q => by have := atb q.2; omega
              · have g2 := of_decide_eq_true g2
                simp only [true_iff]
                exact fun q => by have := atb q.2; omega
              · have g1 := of_decide_eq_false g1
                have g2 := of_decide_eq_false g2
                by_cases hin : W[m] ∈ Mz z (2 * p + k) ++ W.take m
                · rw [if_pos hin]
                  exact ifB_t rfl (hj3 _ ⟨fun _ q => q.1 hin, fun _ => rfl⟩)
                · rw [if_neg hin]
                  refine ifB_f rfl (h3'.ld_t rfl ?_)
                  rw [i64w (x := W[m] - 1) (by omega) (by omega)]
                  have hkl : (W[m] - 1).toNat < z.t.length := by omega
                  generalize hkd : (W[m] - 1).toNat = kk at hkl
                  have hkx : W[m] = (kk : Int) + 1 := by omega
                  have hkt : z.t[kk]? = some z.t[kk] := List.getElem?_eq_getElem hkl
                  have hat : At z p ((k : Int) + 1) W[m] ↔ z.t[kk].Owner = p ∧ z.t[kk].Place = (k : Int) + 1 := by
                    constructor
                    · rintro ⟨k', t, e, e2, e3⟩
                      have : k' = kk := by omega
                      subst this; rw [hkt] at e2; cases e2; exact e3
                    · exact fun q => ⟨kk, z.t[kk], hkx, hkt, q⟩
                  refine idx_owner h3'.t.slf (n := kk) (by omega) hkt (ifB_of (fun g3 => hj3 _ ?_) (fun g3 => h3'.ld_t rfl ?_))
                  · have g3 : z.t[kk].Owner ≠ p := by simpa using g3
                    rw [hat]; simp [g3]
                  · have g3 : z.t[kk].Owner = p := by simpa using g3
                    obtain ⟨c, A, B, hpp, hAl, hrow, _⟩ := h3'.at hkt
                    have htl3 := h3'.tl
                    refine idx_of hpp (n := kk) (by omega) (by omega) (ld_place hrow (by omega) (hj3 _ ?_))
                    rw [hu8, hat]
                    simp [g3, hin]
            · refine no fr3 fun q => ?_
              have hall := snd_lists.2 ⟨q.deck, q.held⟩
              have hoq := hall.1 (2 * p + k) (by omega)
              unfold okL at hoq
              rw [show (2 * p + k) % 2 = k by omega, show (2 * p + k) / 2 = p by omega, hW] at hoq
              refine hr.1 e1 ⟨fun hm => ?_, hoq.2 _ hxW⟩
              rcases List.mem_append.1 hm with hm | hm
              · obtain ⟨r', hr', hx'⟩ := mem_Mz.1 hm
                obtain ⟨q1, q2⟩ := at_inj (hoq.2 _ hxW) ((okl2 r' hr').2 _ hx')
                omega
              · have := hoq.1.sublist (List.take_sublist (m + 1) W)
                rw [tks, List.nodup_append] at this
                exact absurd rfl (this.2.2 _ hm _ (List.mem_singleton.2 rfl))
            · have hgood : W[m] ∉ Mz z (2 * p + k) ++ W.take m ∧ At z p ((k : Int) + 1) W[m] := Classical.byContradiction fun q => by rw [hr.2 q] at e1; cases e1
              refine ⟨0, by rw [lookup_s tyM sM3, if_neg hgood.1]; rfl, ?_⟩
              show GENH (aMapUpdate E 89 (.map (some H5.length)) (.int .i64 W[m]) (.int .i64 (IntKind.wrap .i64 ((0 : Int) + 1))) H3') _
              rw [show IntKind.wrap .i64 ((0 : Int) + 1) = 1 by decide]
              refine update_new tyM sM3 hgood.1 fun H4' sM4 f4' _ => ?_
              rw [i64w (by omega) (by omega)]
              refine hG3 _ _ ⟨m + 1, by simp, hlt3, ?_, ?_, fun x hx => ?_, fr3.then f4' fun c hc => by simp at hc; exact .inr (by omega)⟩ (by simp; omega)
              · rw [tks, ← List.append_assoc]; exact sM4
              · rw [tks, List.nodup_append]
                refine ⟨nd3, List.nodup_cons.2 ⟨by simp, List.nodup_nil⟩, fun a ha b hb => ?_⟩
                simp at hb; subst hb
                rintro rfl; exact hgood.1 (List.mem_append_right _ ha)
              · rw [tks, List.mem_append, List.mem_singleton] at hx
                rcases hx with q | rfl
                · exact at3 x q
                · exact hgood.2
          · have hge3 : m = W.length := by have := of_decide_eq_false hge3; omega
            subst hge3
            rw [List.take_length] at sM3 nd3 at3
            rw [i64w (by omega) (by omega)]
            refine hG2 _ _ ⟨k + 1, by simp, by omega, ?_, fun r hr => ?_, fr3⟩ (by simp; omega)
            · show SetM H3' H5.length (Mz z (2 * p + k) ++ wl z (2 * p + k))
              rw [hW]; exact sM3
            · by_cases e : r = 2 * p + k
              · subst e
                unfold okL
                rw [show (2 * p + k) % 2 = k by omega, show (2 * p + k) / 2 = p by omega, hW]
                exact ⟨nd3, at3⟩
              · exact okl2 r (by omega)
        · have hge2 : k = 2 := by have := of_decide_eq_false hge2; omega
          subst hge2
          rw [i64w (by omega) (by omega)]
          refine hG _ _ ⟨p + 1, by simp, by omega, by rw [Nat.mul_add]; exact sM2, fun r hr => okl2 r (by omega), fun p' hp' => ?_, fr2⟩ (by simp; omega)
          by_cases e : p' = p
          · subst e; omega
          · exact hnd p' (by omega)
      · have hge : p = 2 := by have := of_decide_eq_false hge; omega
        subst hge
        exact hj _ _ ⟨sM, okl, hnd, fr⟩
    · rintro _ H15 ⟨sM, okl, hnd, fr⟩
      refine ⟨(Mz z 4).length, by rw [len_s tyM sM]; rfl, hq _ _ ?_ fr⟩
      rw [← snd_of okl hnd]
      simp only [beq_iff_eq]
      omega
end
end

section
/- Zones that are handed in: the program's From, the document's. -/
open Zv
/-- An array of two slices. -/
def ArS (H : Heap) (ab : Nat) (s : Nat → Sl) : Prop := H[ab]? = some (.row [(s 0).v, (s 1).v] 2 false false true)
section
variable {H : Heap}
theorem ArS.frs {H' : Heap} {ab : Nat} {s : Nat → Sl} {B : List Nat} (h : ArS H ab s) (f : Frs B H H') (hb : ab ∉ B) : ArS H' ab s := f.get hb h
theorem ArS.lt {ab : Nat} {s : Nat → Sl} (h : ArS H ab s) : ab < H.length := get_lt h
theorem ArS.ld {ab : Nat} {s : Nat → Sl} (h : ArS H ab s) {p : Nat} (hp : p < 2) {k : Sl → Prop} (hk : k (s p)) : LD T_sl H ab (0 + (p : Int).toNat * 1) k := by
  rcases (by omega : p = 0 ∨ p = 1) with rfl | rfl
  · exact LD_of (T := T_sl) (s 0) [] [(s 1).v] h rfl rfl rfl hk
  · exact LD_of (T := T_sl) (s 1) [(s 0).v] [] h rfl rfl rfl hk
theorem ArS.ld2 {ab : Nat} {s : Nat → Sl} (h : ArS H ab s) {k : Sl × Sl → Prop} (hk : k (s 0, s 1)) : LD T_arr2_T_sl H ab 0 k := LD_of (T := T_arr2_T_sl) (s 0, s 1) [] [] h rfl rfl rfl hk
theorem ArS.put {ab : Nat} {s : Nat → Sl} (h : ArS H ab s) {p : Nat} (hp : p < 2) (x : Sl) {K : Heap → Prop} (hK : ∀ H', ArS H' ab (upd s p x) → Frs [ab] H H' → H'.length = H.length → K H') : ST H ab (0 + (p : Int).toNat * 1) [.slice x.p x.len x.cap] K := by
  have hlt := get_lt h
  rcases (by omega : p = 0 ∨ p = 1) with rfl | rfl
  · exact ST_of [] [(s 0).v] [(s 1).v] h rfl rfl rfl rfl (hK _ (by unfold ArS; rw [set_get hlt]; rfl) (Frs.set _ _ (by simp)) (by simp))
  · exact ST_of [(s 0).v] [(s 1).v] [] h rfl rfl rfl rfl (hK _ (by unfold ArS; rw [set_get hlt]; rfl) (Frs.set _ _ (by simp)) (by simp))
theorem ArS.new (H : Heap) (s : Nat → Sl) : ArS (mk H [(s 0).v, (s 1).v] 2 false) H.length s := by unfold ArS; simp [mk]

/-- A list is another that lies apart. -/
theorem ZR.set_q {e : List Value} {b : Nat} {z : Zo} {st : Sl} {ss : Nat → Sl} (h : ZR e H b z st ss) {q : Nat} (hq : q < 4) {s' : Sl} {l' : List Int} (k1 : OwJ TN H s' l') (nf : ∀ d ∈ bl s'.p, d ≠ b ∧ d ∉ bl st.p ∧ ∀ r, r < 4 → r ≠ q → d ∉ bl (ss r).p) {o : Nat} (ho : o = 1 + q) {K : Heap → Prop}
    (hK : ∀ H', ZR e H' b { z with l := upd z.l q l' } st (upd ss q s') → Frs [b] H H' → K H') : ST H b o [.slice s'.p s'.len s'.cap] K := by
  obtain ⟨⟨sz, h1⟩, h2, h3, h4, h5, h6, h7⟩ := id h
  have hlt := get_lt h1
  have fin : ∀ H', H'[b]? = some (.row (st.v :: (upd ss q s' 0).v :: (upd ss q s' 1).v :: (upd ss q s' 2).v :: (upd ss q s' 3).v :: .int .i64 z.n :: e) sz false false true) → Frs [b] H H' → K H' := by
    intro H' hb' f'
    refine hK H' ⟨⟨sz, hb'⟩, h2.frs f' (fun d hd hm => by simp at hm; subst hm; exact h4 hd), fun r hr => ?_, h4, fun r hr => ?_, fun r hr d hd => ?_, fun r r' hr hr' hne d hd => ?_⟩ f'
    · by_cases er : r = q
      · subst er; simp only [upd_same]; exact k1.frs f' fun d hd hm => by simp at hm; exact (nf d hd).1 hm
      · simp only [upd_ne _ _ er]; exact (h3 r hr).frs f' fun d hd hm => by simp at hm; subst hm; exact h5 r hr hd
    · by_cases er : r = q
      · subst er; simp only [upd_same]; exact fun hm => (nf b hm).1 rfl
      · simp only [upd_ne _ _ er]; exact h5 r hr
    · by_cases er : r = q
      · subst er; simp only [upd_same]; exact fun hm => (nf d hm).2.1 hd
      · simp only [upd_ne _ _ er]; exact h6 r hr d hd
    · by_cases er : r = q
      · subst er
        have er' : r' ≠ r := Ne.symm hne
        simp only [upd_same, upd_ne _ _ er'] at hd ⊢
        exact (nf d hd).2.2 r' hr' er'
      · simp only [upd_ne _ _ er] at hd
        by_cases er' : r' = q
        · subst er'; simp only [upd_same]; exact fun hm => (nf d hm).2.2 r hr er hd
        · simp only [upd_ne _ _ er']; exact h7 r r' hr hr' hne d hd
  rcases lt4 hq with rfl | rfl | rfl | rfl
  · exact ST_of [st.v] [(ss 0).v] _ h1 rfl ho rfl rfl (fin _ (by rw [set_get hlt]; rfl) (Frs.set _ _ (by simp)))
  · exact ST_of [st.v, (ss 0).v] [(ss 1).v] _ h1 rfl ho rfl rfl (fin _ (by rw [set_get hlt]; rfl) (Frs.set _ _ (by simp)))
  · exact ST_of [st.v, (ss 0).v, (ss 1).v] [(ss 2).v] _ h1 rfl ho rfl rfl (fin _ (by rw [set_get hlt]; rfl) (Frs.set _ _ (by simp)))
  · exact ST_of [st.v, (ss 0).v, (ss 1).v, (ss 2).v] [(ss 3).v] _ h1 rfl ho rfl rfl (fin _ (by rw [set_get hlt]; rfl) (Frs.set _ _ (by simp)))
/-- A row of zones with things. -/
theorem trow {e : List Value} {sz : Nat} {H : Heap} {st : Sl} {l : List Th} {n : Int} (h : OwJ TT H st l) : ZR e (mk H (st.v :: (Sl.mk none 0 0).v :: (Sl.mk none 0 0).v :: (Sl.mk none 0 0).v :: (Sl.mk none 0 0).v :: .int .i64 n :: e) sz false) H.length ⟨l, fun _ => [], n⟩ st (fun _ => ⟨none, 0, 0⟩) :=
  ⟨⟨sz, by simp [mk]⟩, h.frs (B := []) (Frs.app _ _ _) (by simp), fun _ _ => OwJ.nil _ _, fun hm => by have := h.lt _ hm; omega, by simp [bl], by simp [bl], by simp [bl]⟩

theorem clonet_c {a : Sl} {l : List Th} (ha : SlF TT H a l) (hl : l.length ≤ 1048600) {Q : Sl × Unit → Heap → Prop} (hq : ∀ s' H' sp, NewO TT H s' H' l sp → Q (s', ()) H') : CALL P [T_sl] n_slices_Clone_api_Thing_api_Thing [a.v] H Q := by
  apply c_slices_Clone_api_Thing_api_Thing
  unfold S_slices_Clone_api_Thing_api_Thing
  refine ifB_of (fun h => ?_) (fun _ => told_g KThings.tyS rfl (fun _ => by simp) ha hl rfl hq)
  have hp : a.p = none := by simpa using h
  have : l = [] := by
    obtain ⟨_, ⟨_, h2, _⟩ | ⟨_, _, h3, h2, _⟩ | ⟨_, _, _, _, _, _, h3, _⟩⟩ := ha
    · exact h2
    · exact h2
    · rw [hp] at h3; cases h3
  subst this
  exact hq _ H [] ⟨Ow.nil TT H, by simp, .refl _ _⟩

/-- The zones that are handed in. -/
def zz (l : List Th) (ld lh : Nat → List Int) (n : Int) (p : Nat) : Zo := ⟨l, fun q => if q < 2 then (if q < p then ld q else []) else if q < 4 then (if q - 2 < p then lh (q - 2) else []) else [], n⟩
def Lng (l : List Th) (ld lh : Nat → List Int) (p : Nat) : Prop := 2048 < l.length ∨ ∃ q, q < p ∧ (2048 < (ld q).length ∨ 2048 < (lh q).length)
theorem zz_succ {l : List Th} {ld lh : Nat → List Int} {n : Int} {p : Nat} (hp : p < 2) : { zz l ld lh n p with l := upd (upd (zz l ld lh n p).l p (ld p)) (2 + p) (lh p) } = zz l ld lh n (p + 1) := by
  show Zo.mk _ _ _ = Zo.mk _ _ _
  unfold zz
  congr 1
  funext q
  unfold upd
  rcases (by omega : p = 0 ∨ p = 1) with rfl | rfl
  · match q with
    | 0 => simp
    | 1 => simp
    | 2 => simp
    | 3 => simp
    | q + 4 => simp [show ¬ (q + 4 < 2) by omega, show ¬ (q + 4 < 4) by omega]
  · match q with
    | 0 => simp
    | 1 => simp
    | 2 => simp
    | 3 => simp
    | q + 4 => simp [show ¬ (q + 4 < 2) by omega, show ¬ (q + 4 < 4) by omega]
theorem zz_zero (l : List Th) (ld lh : Nat → List Int) (n : Int) : (⟨l, fun _ => [], n⟩ : Zo) = zz l ld lh n 0 := by
  unfold zz
  congr 1
  funext q
  simp
theorem zz_b {l : List Th} {ld lh : Nat → List Int} {n : Int} (h : ¬ Lng l ld lh 2) : (zz l ld lh n 2).t.length ≤ 2048 ∧ (∀ q, q < 4 → ((zz l ld lh n 2).l q).length ≤ 2048) ∧ ∀ q, 4 ≤ q → (zz l ld lh n 2).l q = [] := by
  have h1 : l.length ≤ 2048 := Classical.byContradiction fun q => h (.inl (by omega))
  have h2 : ∀ p, p < 2 → (ld p).length ≤ 2048 ∧ (lh p).length ≤ 2048 := fun p hp => Classical.byContradiction fun q => h (.inr ⟨p, hp, by omega⟩)
  refine ⟨h1, fun q hq => ?_, fun q hq => ?_⟩
  · unfold zz
    simp only
    by_cases e : q < 2
    · rw [if_pos e, if_pos e]; exact (h2 q e).1
    · rw [if_neg e, if_pos hq, if_pos (by omega)]; exact (h2 (q - 2) (by omega)).2
  · unfold zz
    simp only
    rw [if_neg (by omega), if_neg (by omega)]

variable {a0 : Sl} {l : List Th} {sd sh : Nat → Sl} {ld lh : Nat → List Int} {n : Int}
theorem zz_ql {p q : Nat} (h : p < 2) (hq : q = p ∨ q = 2 + p) : (zz l ld lh n p).l q = [] := by
  unfold zz
  simp only
  rcases hq with rfl | rfl
  · rw [if_pos h, if_neg (by omega)]
  · rw [if_neg (by omega), if_pos (by omega), if_neg (by omega)]

theorem pfrom_c (h0 : SlF TT H a0 l) (hd : ∀ p, p < 2 → SlF TN H (sd p) (ld p)) (hh : ∀ p, p < 2 → SlF TN H (sh p) (lh p)) (b0 : l.length ≤ 1048600) (bd : ∀ p, p < 2 → (ld p).length ≤ 1048600) (bh : ∀ p, p < 2 → (lh p).length ≤ 1048600) {Q : (Option Addr) × Int × Unit → Heap → Prop}
    (q1 : ∀ H', Lng l ld lh 2 → Frs [] H H' → Q (none, 3, ()) H') (q2 : ∀ H', ¬ Lng l ld lh 2 → ¬ Snd (zz l ld lh n 2) → Frs [] H H' → Q (none, 2, ()) H')
    (q3 : ∀ H' b st ss, ¬ Lng l ld lh 2 → Snd (zz l ld lh n 2) → ZR [] H' b (zz l ld lh n 2) st ss → Frs [] H H' → (∀ d ∈ fp b st ss, H.length ≤ d) → Q (some ⟨b, 0, none⟩, 0, ()) H') :
    CALL P [T_ptr, TN] n_zone_From [a0.v, T_arr2_T_sl.enc (sd 0, sd 1), T_arr2_T_sl.enc (sh 0, sh 1), .int .i64 n] H Q := by
  apply c_zone_From
  unfold S_zone_From NEW
  show JOIN _ _
  have f1 : Frs [] H (mk H [.slice (sd 0).p (sd 0).len (sd 0).cap, .slice (sd 1).p (sd 1).len (sd 1).cap] 2 false) := Frs.app _ _ _
  have ar1 : ArS (mk H [.slice (sd 0).p (sd 0).len (sd 0).cap, .slice (sd 1).p (sd 1).len (sd 1).cap] 2 false) H.length sd := ArS.new H sd
  have e1l : (mk H [.slice (sd 0).p (sd 0).len (sd 0).cap, .slice (sd 1).p (sd 1).len (sd 1).cap] 2 false).length = H.length + 1 := by simp [mk]
  generalize mk H [.slice (sd 0).p (sd 0).len (sd 0).cap, .slice (sd 1).p (sd 1).len (sd 1).cap] 2 false = H1 at f1 ar1 e1l ⊢
  have f2 : Frs [] H1 (mk H1 [.slice (sh 0).p (sh 0).len (sh 0).cap, .slice (sh 1).p (sh 1).len (sh 1).cap] 2 false) := Frs.app _ _ _
  have ar2 : ArS (mk H1 [.slice (sh 0).p (sh 0).len (sh 0).cap, .slice (sh 1).p (sh 1).len (sh 1).cap] 2 false) H1.length sh := ArS.new H1 sh
  generalize mk H1 [.slice (sh 0).p (sh 0).len (sh 0).cap, .slice (sh 1).p (sh 1).len (sh 1).cap] 2 false = H2 at f2 ar2 ⊢
  have ar1' := ar1.frs f2 (by simp)
  have f02 := f1.trans f2
  have e0 : a0.len = l.length := h0.1
  refine JOIN_inv (fun y H3 => ((y : (Bool × Unit) × Unit).1.1 = true ↔ Lng l ld lh 2) ∧ H3 = H2) (fun j hj => ?_) ?_
  · refine loop_of (fun (s : (Bool × Int × Unit) × Unit) H' => ∃ p : Nat, s.1.2.1 = p ∧ p ≤ 2 ∧ (s.1.1 = true ↔ Lng l ld lh p) ∧ H' = H2) (fun s => 2 - s.1.2.1.toNat) ?_ ⟨0, rfl, by omega, by simp [Lng]; omega, rfl⟩
    rintro G ⟨⟨bo, i, _⟩, _⟩ H' ⟨p, hi, hp2, hbo, rfl⟩ hG
    simp only at hi hbo; subst hi
    dsimp only at hG ⊢
    refine ifB_of (fun hlt => ?_) (fun hge => ?_)
    · have hlt : p < 2 := by have := of_decide_eq_true hlt; omega
      have hA : (0 : Int) ≤ (p : Int) ∧ (p : Int) < 2 := by omega
      have hdl := (hd p hlt).1
      have hhl := (hh p hlt).1
      have nxt : Lng l ld lh (p + 1) ↔ Lng l ld lh p ∨ 2048 < (ld p).length ∨ 2048 < (lh p).length := by
        unfold Lng
        constructor
        · rintro (q | ⟨q, hq, h⟩)
          · exact .inl (.inl q)
          · by_cases e : q = p
            · subst e; exact .inr h
            · exact .inl (.inr ⟨q, by omega, h⟩)
        · rintro ((q | ⟨q, hq, h⟩) | h)
          · exact .inl q
          · exact .inr ⟨q, by omega, h⟩
          · exact .inr ⟨p, by omega, h⟩
      refine JB (H := H') (Lng l ld lh (p + 1)) (fun j2 hj2 => ifB_of (fun g => hj2 _ ?_) (fun g => ⟨hA, ar1'.ld hlt (ifB_of (fun g2 => hj2 _ ?_) (fun g2 => ⟨hA, ar2.ld hlt (hj2 _ ?_)⟩))⟩)) fun r hr => ?_
      · rw [nxt]; simp only [true_iff]; exact .inl (hbo.1 g)
      · have := of_decide_eq_true g2; rw [nxt]; simp only [true_iff]; exact .inr (.inl (by omega))
      · have g2 := of_decide_eq_false g2
        have hn : ¬ Lng l ld lh p := fun q => by rw [hbo.2 q] at g; cases g
        rw [nxt, decide_eq_true_eq]
        constructor
        · intro q; exact .inr (.inr (by omega))
        · rintro (q | q | q)
          · exact absurd q hn
          · omega
          · omega
      · dsimp only
        rw [i64w (by omega) (by omega)]
        exact hG _ _ ⟨p + 1, by simp, by omega, hr, rfl⟩ (by simp; omega)
    · have hge : p = 2 := by have := of_decide_eq_false hge; omega
      subst hge
      exact hj _ _ ⟨hbo, rfl⟩
  rintro ⟨⟨r, _⟩, _⟩ H3 ⟨hr, rfl⟩
  simp only at hr
  refine ifB_of (fun g => q1 _ (hr.1 g) f02) (fun g => ?_)
  have hlng : ¬ Lng l ld lh 2 := fun q => by have := hr.2 q; simp only at g; rw [this] at g; cases g
  refine clonet_c (h0.frs f02 (by simp)) b0 fun s9 H6 sp9 n9 => ?_
  have zr7 : ZR [] (mk H6 [(.slice s9.p s9.len s9.cap), (.slice none 0 0), (.slice none 0 0), (.slice none 0 0), (.slice none 0 0), (.int .i64 n)] 6 false) H6.length ⟨l, fun _ => [], n⟩ s9 (fun _ => ⟨none, 0, 0⟩) := trow n9.1.j
  have f7 : Frs [] H6 (mk H6 [(.slice s9.p s9.len s9.cap), (.slice none 0 0), (.slice none 0 0), (.slice none 0 0), (.slice none 0 0), (.int .i64 n)] 6 false) := Frs.app _ _ _
  dsimp only
  generalize mk H6 [(.slice s9.p s9.len s9.cap), (.slice none 0 0), (.slice none 0 0), (.slice none 0 0), (.slice none 0 0), (.int .i64 n)] 6 false = H7 at zr7 f7 ⊢
  rw [zz_zero l ld lh n] at zr7
  have f06 := f02.trans n9.2.2
  have f07 := f06.trans f7
  have hs9 : ∀ d ∈ bl s9.p, H.length ≤ d := fun d hdm => by
    rcases newmv n9 [] d hdm with q | q
    · cases q
    · have := f02.1; omega
  have bh7 : Bh [] H (fp H6.length s9 (fun _ => ⟨none, 0, 0⟩)) H7 := ⟨f07, fun d hdm => by
    rcases mem_fp.1 hdm with rfl | q | ⟨q, _, hq⟩
    · exact .inr f06.1
    · exact .inr (hs9 d q)
    · simp [bl] at hq⟩
  have nab1 : H.length ∉ fp H6.length s9 (fun _ => ⟨none, 0, 0⟩) ∧ H1.length ∉ fp H6.length s9 (fun _ => ⟨none, 0, 0⟩) := by
    have h1 := ar2.lt
    have h2 := n9.2.2.1
    have h3 := f2.1
    have key : ∀ d, d < H3.length → d ∉ fp H6.length s9 (fun _ => ⟨none, 0, 0⟩) := fun d hdl hdm => by
      rcases mem_fp.1 hdm with rfl | q | ⟨q, _, hq⟩
      · omega
      · rcases newmv n9 [] d q with q' | q'
        · cases q'
        · omega
      · simp [bl] at hq
    exact ⟨key _ (by omega), key _ h1⟩
  refine JOIN_inv (fun _ H8 => ∃ ss, ZR [] H8 H6.length (zz l ld lh n 2) s9 ss ∧ Bh [] H (fp H6.length s9 ss) H8) (fun j hj => ?_) ?_
  · refine loop_of (fun (s : (Int × Unit) × Unit) H' => ∃ (p : Nat) (ss : Nat → Sl), s.1.1 = p ∧ p ≤ 2 ∧ ZR [] H' H6.length (zz l ld lh n p) s9 ss ∧ Bh [] H (fp H6.length s9 ss) H' ∧ (H.length ∉ fp H6.length s9 ss ∧ H1.length ∉ fp H6.length s9 ss) ∧ ArS H' H.length sd ∧ ArS H' H1.length sh) (fun s => 2 - s.1.1.toNat) ?_ ⟨0, _, rfl, by omega, zr7, bh7, nab1, (ar1'.frs n9.2.2 (by simp)).frs f7 (by simp), (ar2.frs n9.2.2 (by simp)).frs f7 (by simp)⟩
    rintro G ⟨⟨i, _⟩, _⟩ H' ⟨p, ss, hi, hp2, zr, bh', nab, r1, r2⟩ hG
    simp only at hi; subst hi
    dsimp only at hG ⊢
    refine ifB_of (fun hlt => ?_) (fun hge => ?_)
    · have hlt : p < 2 := by have := of_decide_eq_true hlt; omega
      have hA : (0 : Int) ≤ (p : Int) ∧ (p : Int) < 2 := by omega
      have hp4 : p < 4 := by omega
      have hp24 : 2 + p < 4 := by omega
      refine ⟨hA, r1.ld hlt ⟨hA, r2.ld hlt (clone_c ((hd p hlt).frs bh'.f (by simp)) (bd p hlt) fun s16 H10 sp16 n16 => ?_)⟩⟩
      refine (r2.frs n16.2.2 (by simp)).ld hlt ⟨rfl, clone_c (((hh p hlt).frs bh'.f (by simp)).frs n16.2.2 (by simp)) (bh p hlt) fun s18 H11 sp18 n18 => ⟨hA, ?_⟩⟩
      have zr11 := (zr.new n16.2.2).new n18.2.2
      have o16 : Ow TN H11 s16 (ld p) sp16 := n16.1.frs n18.2.2 (by simp [Sl.off])
      have hl16 : ∀ d ∈ bl s16.p, H'.length ≤ d ∧ d < H10.length := fun d hdm => by
        refine ⟨?_, n16.1.j.lt d hdm⟩
        rcases newmv n16 [] d hdm with q | q
        · cases q
        · exact q
      have zf : Frs [] H' H11 := n16.2.2.trans n18.2.2
      have hl18 : ∀ d ∈ bl s18.p, H10.length ≤ d := fun d hdm => by
        rcases newmv n18 [] d hdm with q | q
        · cases q
        · exact q
      have nf : ∀ d ∈ bl s16.p ++ bl s18.p, H'.length ≤ d := fun d hdm => by
        rcases List.mem_append.1 hdm with q | q
        · exact (hl16 d q).1
        · have := hl18 d q; have := n16.2.2.1; omega
      have hfl := zr.lt
      have fr1 : ∀ d, H'.length ≤ d → d ≠ H6.length ∧ d ∉ bl s9.p ∧ ∀ r, r < 4 → d ∉ bl (ss r).p := fun d hdl => by
        refine ⟨fun e => ?_, fun e => ?_, fun r hr e => ?_⟩
        · have := hfl H6.length (mem_fp.2 (.inl rfl)); omega
        · have := hfl d (mem_fp.2 (.inr (.inl e))); omega
        · have := hfl d (mem_fp.2 (.inr (.inr ⟨r, hr, e⟩))); omega
      refine zr11.set_q hp4 o16.j (fun d hdm => ?_) (by simp) fun H12 z12 f12 => ⟨hA, ?_⟩
      · obtain ⟨g1, g2, g3⟩ := fr1 d (hl16 d hdm).1; exact ⟨g1, g2, fun r hr _ => g3 r hr⟩
      have o18 : OwJ TN H12 s18 (lh p) := n18.1.j.frs f12 fun d hdm hm => by
        simp at hm; subst hm
        exact (fr1 _ (nf _ (List.mem_append_right _ hdm))).1 rfl
      refine z12.set_q hp24 o18 (fun d hdm => ?_) (by simp; omega) fun H13 z13 f13 => ?_
      · obtain ⟨g1, g2, g3⟩ := fr1 d (nf d (List.mem_append_right _ hdm))
        refine ⟨g1, g2, fun r hr hne => ?_⟩
        by_cases e : r = p
        · subst e; rw [upd_same]; intro hm; have := (hl16 d hm).2; have := hl18 d hdm; omega
        · rw [upd_ne _ _ e]; exact g3 r hr
      have fz : Bh (fp H6.length s9 ss) H' (fp H6.length s9 (upd (upd ss p s16) (2 + p) s18)) H13 := by
        have hb : H6.length ∈ fp H6.length s9 ss := mem_fp.2 (.inl rfl)
        refine ⟨((zf.mono (by simp)).trans (f12.mono (by simpa using hb))).trans (f13.mono (by simpa using hb)), fun d hdm => ?_⟩
        rcases mem_fp.1 hdm with rfl | q | ⟨r, hr, hq⟩
        · exact .inl hb
        · exact .inl (mem_fp.2 (.inr (.inl q)))
        · by_cases e2 : r = 2 + p
          · subst e2; rw [upd_same] at hq; exact .inr (nf d (List.mem_append_right _ hq))
          · rw [upd_ne _ _ e2] at hq
            by_cases e1 : r = p
            · subst e1; rw [upd_same] at hq; exact .inr (nf d (List.mem_append_left _ hq))
            · rw [upd_ne _ _ e1] at hq; exact .inl (mem_fp.2 (.inr (.inr ⟨r, hr, hq⟩)))
      have hz : ({ ({ zz l ld lh n p with l := upd (zz l ld lh n p).l p (ld p) } : Zo) with l := upd (upd (zz l ld lh n p).l p (ld p)) (2 + p) (lh p) } : Zo) = zz l ld lh n (p + 1) := zz_succ hlt
      have hH := r1.lt
      have hH1 := r2.lt
      rw [i64w (by omega) (by omega)]
      refine hG _ _ ⟨p + 1, _, by simp, by omega, by rw [← hz]; exact z13, bh'.trans fz, ⟨fun hm => ?_, fun hm => ?_⟩, r1.frs fz.f nab.1, r2.frs fz.f nab.2⟩ (by simp; omega)
      · rcases fz.g _ hm with q | q
        · exact nab.1 q
        · omega
      · rcases fz.g _ hm with q | q
        · exact nab.2 q
        · omega
    · have hge : p = 2 := by have := of_decide_eq_false hge; omega
      subst hge
      exact hj _ _ ⟨ss, zr, bh'⟩
  · rintro _ H8 ⟨ss, zr, bh'⟩
    obtain ⟨zb1, zb2, zb3⟩ := zz_b (n := n) hlng
    refine psound_c zr zb1 zb2 zb3 fun r H14 hr f14 => ifB_of (fun e => ?_) (fun e => ?_)
    · exact q2 _ hlng (fun q => by rw [hr.2 q] at e; cases e) (bh'.f.trans f14)
    · exact q3 _ _ _ _ hlng (hr.1 (by simpa using e)) (zr.new f14) (bh'.f.trans f14) fun d hdm => by
        rcases bh'.g d hdm with q | q
        · cases q
        · exact q
end
end
end Go.Proofs.YthgfjbafhjkhnaaGreat.Zq
