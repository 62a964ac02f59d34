/- Part 2 of the proof of LayerAll: what its row stands on (lemmas about the model, the evaluator, contracts of functions), put together and cut to what is used. -/
import Derived.Test.YtolekmhhkopooaaGreatDoorKLayerAll1
import Derived.Below
import Derived.IntWalk
import Derived.Shelf.Sort.Plain
import Derived.Shelf.Slices.In.SortNone
import Derived.Shelf.SlSortCmp.Whole1
import Derived.Shelf.SlSortCmp.NoneTotal
import Derived.Test.YtolekmhhkopooaaGreatDoorProg
import Derived.Shelf.Strings.SlTrimAscii
import Derived.ChangeArms
import Derived.OpenShut
import Derived.SizedLaws
import Derived.KernelRfl
section
namespace Go.Proofs.YtolekmhhkopooaaGreatDoor.Zq
variable {C : CEnv} {M M' : Mp} {H H' : Heap} {w w' : World} {L L' : Loc} {ML ML' : Ml} {fr fr' : CFr} {a a' : Act} {ro : Option Nat} {n : Nat} {loc : List Nat}
theorem jputS_get : ∀ {sl : List (Nat × Tag)} {x : TupP sl} {l : List (Nat × Option Sv)} {t : Nat} {s : Sv}, jgetS fr' sl = some x -> cget (jputS sl x l) t = some s -> cget fr'.l t = some s ∨ ((∀ p ∈ sl, p.1 ≠ t) ∧ cget l t = some s)
 | [], x, l, t, s, _, h => .inr ⟨fun p hp => by simp at hp, h⟩
 | (d, T) :: r, x, l, t, s, hg, h => by
  simp only [jgetS] at hg
  split at hg
  ·rename_i v hv
   split at hg
   ·rename_i y z h1 h2
    have hg := Option.some.inj hg
    subst hg
    simp only [jputS, cget] at h
    split at h
    ·rename_i e; subst e
     simp at h; subst h
     left
     rw [hv]
     have : v = T.enc y := by
      unfold Tag.dec at h1
      unfold Tag.enc encC
      split at h1
      ·rename_i cs
       split at h1
       ·rename_i ha; rw [if_pos ha, ← T.ok _ _ h1]
       ·simp at h1
      ·simp at h1
      ·split at h1
       ·simp at h1
       ·rename_i ha; rw [if_neg ha, ← T.ok _ _ h1]
     rw [this]
    ·rename_i e
     rcases jputS_get (x := z) h2 h with h | ⟨h3, h4⟩
     ·exact .inl h
     ·exact .inr ⟨fun p hp => (List.mem_cons.1 hp).elim (fun h => by subst h; exact e) (h3 p), h4⟩
   ·cases hg
  ·cases hg
theorem jputL_len : ∀ {lo : List (Nat × Tag)} {x : TupP lo}, (jputL lo x L).length = L.length
 | [], _ => rfl
 | (i, T) :: r, x => by
  simp only [jputL]
  split
  ·simp [jputL_len (lo := r)]
  ·exact jputL_len (lo := r)
theorem jputL_get : ∀ {lo : List (Nat × Tag)} {x : TupP lo} {i n m q : Nat} {cs cs' ds : List Value}, jgetL L' lo = some x -> L[i]? = some (n, cs) -> L'[i]? = some (m, cs') -> (jputL lo x L)[i]? = some (q, ds) →
  ((∃ p ∈ lo, p.1 = i) ∧ ds = cs' ∧ q = n + 1) ∨ ((∀ p ∈ lo, p.1 ≠ i) ∧ ds = cs ∧ q = n)
 | [], x, i, n, m, q, cs, cs', ds, _, h1, _, h3 => by
  simp only [jputL] at h3
  rw [h1] at h3; simp at h3
  exact .inr ⟨fun p hp => by simp at hp, h3.2.symm, h3.1.symm⟩
 | (j, T) :: r, x, i, n, m, q, cs, cs', ds, hg, h1, h2, h3 => by
  simp only [jgetL] at hg
  split at hg
  ·rename_i mm cc hc
   split at hg
   ·rename_i y z g1 g2
    have hg := Option.some.inj hg
    subst hg
    simp only [jputL] at h3
    by_cases e : j = i
    ·subst e
     rw [h1] at h3
     simp only at h3
     rw [List.getElem?_set_self (by rw [jputL_len]; exact (List.getElem?_eq_some_iff.1 h1).1)] at h3
     rw [h2] at hc; simp at hc; obtain ⟨_, rfl⟩ := hc
     simp at h3
     exact .inl ⟨⟨(j, T), by simp, rfl⟩, by rw [← h3.2]; exact (T.ok _ _ g1).symm, h3.1.symm⟩
    ·have h3' : (jputL r z L)[i]? = some (q, ds) := by
      split at h3
      ·rw [List.getElem?_set_ne e] at h3; exact h3
      ·exact h3
     rcases jputL_get g2 h1 h2 h3' with ⟨⟨p, hp, hpi⟩, h4⟩ | ⟨h4, h5⟩
     ·exact .inl ⟨⟨p, by simp [hp], hpi⟩, h4⟩
     ·exact .inr ⟨fun p hp => (List.mem_cons.1 hp).elim (fun h => by subst h; exact e) (h4 p), h5⟩
   ·cases hg
  ·cases hg
theorem keptL_ok : ∀ {lo : List (Nat × Tag)} {i : Nat} {L L' : Loc}, keptL lo i L L' = true -> L.length ≤ L'.length ∧ ∀ (k n m : Nat) (cs cs' : List Value), L[k]? = some (n, cs) -> L'[k]? = some (m, cs') -> n = m ∨ ∃ p ∈ lo, p.1 = i + k
 | lo, i, [], L', _ => ⟨by simp, fun k n m cs cs' h => by simp at h⟩
 | lo, i, x :: r, [], h => by simp [keptL] at h
 | lo, i, (n, cs) :: r, (m, cs') :: r', h => by
  simp only [keptL, Bool.and_eq_true, Bool.or_eq_true, beq_iff_eq, List.any_eq_true] at h
  obtain ⟨h1, h2⟩ := keptL_ok h.2
  refine ⟨by simpa using h1, fun k p q ds ds' g1 g2 => ?_⟩
  cases k with
  | zero =>
   simp at g1 g2
   rcases h.1 with h | ⟨p, hp, he⟩
   ·exact .inl (by omega)
   ·exact .inr ⟨p, hp, by omega⟩
  | succ k =>
   rcases h2 k p q ds ds' (by simpa using g1) (by simpa using g2) with h | ⟨p, hp, he⟩
   ·exact .inl h
   ·exact .inr ⟨p, hp, by omega⟩
theorem cget_app : ∀ {x l : List (Nat × Option Sv)} {t : Nat}, (∀ p ∈ x, p.1 ≠ t) -> cget (x ++ l) t = cget l t
 | [], l, t, _ => rfl
 | (i, v) :: r, l, t, h => by
  simp only [List.cons_append, cget]
  rw [if_neg (h (i, v) (by simp)), cget_app (fun p hp => h p (by simp [hp]))]
theorem cget_clr : ∀ {c : List Nat} {l : List (Nat × Option Sv)} {t : Nat} {s : Sv}, cget (c.map (fun t => (t, none)) ++ l) t = some s -> t ∉ c ∧ cget l t = some s
 | [], l, t, s, h => ⟨by simp, h⟩
 | i :: r, l, t, s, h => by
  simp only [List.map_cons, List.cons_append, cget] at h
  split at h
  ·simp at h
  ·rename_i e
   obtain ⟨h1, h2⟩ := cget_clr h
   exact ⟨by simp [h1, Ne.symm e], h2⟩
theorem jputS_noloc : ∀ {sl : List (Nat × Tag)} {x : TupP sl} {l : List (Nat × Option Sv)} {t : Nat} {s : Sv}, ((∃ i off, s = .lp i off) ∨ ∃ i m, s = .ls i m) -> (∃ q ∈ sl, q.1 = t) -> ¬ cget (jputS sl x l) t = some s
 | [], _, _, _, _, _, ⟨q, hq, _⟩ => by simp at hq
 | (d, T) :: r, x, l, t, s, hs, ⟨q, hq, he⟩ => by
  simp only [jputS, cget]
  split
  ·rename_i e
   rcases hs with ⟨i, off, rfl⟩ | ⟨i, m, rfl⟩ <;> simp
  ·rename_i e
   refine jputS_noloc hs ⟨q, ?_, he⟩
   rcases List.mem_cons.1 hq with rfl | hq
   ·exact absurd he e
   ·exact hq
theorem jputS_skip : ∀ {sl : List (Nat × Tag)} {x : TupP sl} {l : List (Nat × Option Sv)} {t : Nat} {s : Sv}, (∀ p ∈ sl, p.1 ≠ t) -> cget (jputS sl x l) t = some s -> cget l t = some s
 | [], _, _, _, _, _, h => h
 | (d, T) :: r, x, l, t, s, hn, h => by
  simp only [jputS, cget] at h
  rw [if_neg (hn (d, T) (by simp))] at h
  exact jputS_skip (fun p hp => hn p (by simp [hp])) h
theorem jputS_suf : ∀ (sl : List (Nat × Tag)) (x : TupP sl) (clr : List Nat) (l : List (Nat × Option Sv)), ∃ news, jputS sl x (clr.map (fun t => (t, none)) ++ l) = news ++ l
 | [], _, clr, l => ⟨_, rfl⟩
 | (d, T) :: r, x, clr, l => by
  obtain ⟨news, h⟩ := jputS_suf r x.2 clr l
  exact ⟨(d, some (.v (T.enc x.1))) :: news, by simp only [jputS, h, List.cons_append]⟩
theorem SvR.less {N : Ml} {s : Sv} {u u0 : Value} (h0 : SvR M ML s u0) (h : SvR M' (ML ++ N) s u) : SvR M' ML s u := by
 cases s with
 | v v => exact h
 | lp i off =>
  obtain ⟨e, h1, h2⟩ := h
  obtain ⟨e0, h3, _⟩ := h0
  have := (List.getElem?_eq_some_iff.1 h3).1
  exact ⟨e, by rw [List.getElem?_append_left this] at h1; exact h1, h2⟩
 | ls i m =>
  obtain ⟨e, h1, h2⟩ := h
  obtain ⟨e0, h3, _⟩ := h0
  have := (List.getElem?_eq_some_iff.1 h3).1
  exact ⟨e, by rw [List.getElem?_append_left this] at h1; exact h1, h2⟩
theorem jexit_ok {J : Jn} {k : J.S -> Prop} (h : jexit J fr fr' L L' k) : ∃ x : J.S, J.ok fr fr' L L' = true ∧ jgetS fr' J.sl = some x.1 ∧ jgetL L' J.lo = some x.2 ∧ k x := by
 unfold jexit at h
 split at h
 ·rename_i hok
  split at h
  ·rename_i y z h1 h2; exact ⟨(y, z), hok, h1, h2, h⟩
  ·exact h.elim
 ·exact h.elim
theorem join_ok {J : Jn} {x : J.S} (f : FS M ML fr a.tmps) (l : LR M H L ML w) (b : Behind M H L ML w fr a M' H' L' ML' w' fr' a') (hok : J.ok fr fr' L L' = true) (h1 : jgetS fr' J.sl = some x.1) (h2 : jgetL L' J.lo = some x.2) :
  Behind M H L ML w fr a M' H' (J.loc L x) ML w' (J.fr fr x) a' := by
 unfold Jn.ok at hok
 simp only [Bool.and_eq_true] at hok
 obtain ⟨⟨hk1, hk2⟩, hk3⟩ := hok
 obtain ⟨hn, news, hnews⟩ := b.suf
 obtain ⟨N, hN⟩ := b.mlx
 obtain ⟨kl1, kl2⟩ := keptL_ok hk2
 have hnw : fr'.l.take (fr'.l.length - fr.l.length) = news := by rw [hnews]; simp
 rw [hnw] at hk1
 have hdst : ∀ p ∈ news, (∃ q ∈ J.sl, q.1 = p.1) ∨ p.1 ∈ J.clr := fun p hp => by
  have := List.all_eq_true.1 hk1 p hp
  simpa using this
 have lre : ∀ i : Nat, i < L.length -> ∃ n cs m cs' q ds, L[i]? = some (n, cs) ∧ L'[i]? = some (m, cs') ∧ (J.loc L x)[i]? = some (q, ds) ∧ ds = cs' ∧ n ≤ q ∧ (q = n -> cs' = cs) := fun i hi => by
  have hi2 : i < L'.length := by omega
  have hi3 : i < (J.loc L x).length := by unfold Jn.loc; rw [jputL_len]; exact hi
  obtain ⟨⟨n0, cs0⟩, e1⟩ : ∃ p, L[i]? = some p := ⟨_, List.getElem?_eq_getElem hi⟩
  obtain ⟨⟨m0, cs0'⟩, e2⟩ : ∃ p, L'[i]? = some p := ⟨_, List.getElem?_eq_getElem hi2⟩
  obtain ⟨⟨q, ds⟩, e3⟩ : ∃ p, (J.loc L x)[i]? = some p := ⟨_, List.getElem?_eq_getElem hi3⟩
  refine ⟨_, _, _, _, _, _, e1, e2, e3, ?_⟩
  obtain ⟨r1, r2⟩ := b.rel.2 i _ _ _ _ e1 e2
  rcases jputL_get h2 e1 e2 e3 with ⟨_, g2, g3⟩ | ⟨g1, g2, g3⟩
  ·exact ⟨g2, by omega, fun e => by omega⟩
  ·have hv : n0 = m0 := by
    rcases kl2 i _ _ _ _ e1 e2 with h | ⟨p, hp, he⟩
    ·exact h
    ·exact absurd (by omega) (g1 p hp)
   have := r2 hv.symm
   exact ⟨by rw [g2, this], by omega, fun _ => this⟩
 refine ⟨⟨b.st.st, fun i e hi => b.st.mx i e (by rw [hN, List.getElem?_append_left (List.getElem?_eq_some_iff.1 hi).1]; exact hi)⟩, ⟨?_, fun i e m cs hi hL => ?_, fun i j e e' hne hi hj => ?_, fun i e hi => ?_⟩, ⟨by rw [b.fs.size]; exact hn, fun t s hs => ?_⟩, ⟨?_, fun i n cs m cs' hL hL' => ?_⟩, ⟨rfl, ?_⟩, ⟨[], by simp⟩, b.defers⟩
 ·unfold Jn.loc; rw [jputL_len]; exact l.len
 ·have hiL : i < L.length := by rw [← l.len]; exact (List.getElem?_eq_some_iff.1 hi).1
  obtain ⟨n0, cs0, m0, cs0', q, ds, a1, a2, a3, a4, _, _⟩ := lre i hiL
  rw [hL] at a3; simp at a3
  obtain ⟨_, rfl⟩ := a3
  subst a4
  exact b.lr.loc i e m0 _ (by rw [hN, List.getElem?_append_left (List.getElem?_eq_some_iff.1 hi).1]; exact hi) a2
 ·exact b.lr.sep1 i j e e' hne (by rw [hN, List.getElem?_append_left (List.getElem?_eq_some_iff.1 hi).1]; exact hi) (by rw [hN, List.getElem?_append_left (List.getElem?_eq_some_iff.1 hj).1]; exact hj)
 ·exact b.lr.sep2 i e (by rw [hN, List.getElem?_append_left (List.getElem?_eq_some_iff.1 hi).1]; exact hi)
 ·unfold Jn.fr at hs
  have key : ∀ s, cget fr'.l t = some s -> (∃ u0, SvR M ML s u0) -> SvR M' ML s (a'.tmps.getD t undef) := fun s hc ⟨u0, h0⟩ => by
   have := b.fs.get t s hc
   rw [hN] at this
   exact h0.less this
  rcases jputS_get h1 hs with h | ⟨h, h'⟩
  ·
   cases s with
   | v v => exact b.fs.get t _ h
   | lp i off =>
    rcases Classical.em (∃ q ∈ J.sl, q.1 = t) with hq | hq
    ·exact absurd hs (jputS_noloc (.inl ⟨i, off, rfl⟩) hq)
    ·have h' := jputS_skip (fun p hp e => hq ⟨p, hp, e⟩) hs
     obtain ⟨g1, g2⟩ := cget_clr h'
     exact key _ h ⟨_, f.get t _ g2⟩
   | ls i m =>
    rcases Classical.em (∃ q ∈ J.sl, q.1 = t) with hq | hq
    ·exact absurd hs (jputS_noloc (.inr ⟨i, m, rfl⟩) hq)
    ·have h' := jputS_skip (fun p hp e => hq ⟨p, hp, e⟩) hs
     obtain ⟨g1, g2⟩ := cget_clr h'
     exact key _ h ⟨_, f.get t _ g2⟩
  ·obtain ⟨g1, g2⟩ := cget_clr h'
   have hc : cget fr'.l t = some s := by
    rw [hnews, cget_app fun p hp e => ?_]
    ·exact g2
    ·rcases hdst p hp with ⟨q, hq, he⟩ | hc
     ·exact h q hq (he.trans e)
     ·exact g1 (e ▸ hc)
   exact key s hc ⟨_, f.get t s g2⟩
 ·unfold Jn.loc; rw [jputL_len]; exact Nat.le_refl _
 ·have hi := (List.getElem?_eq_some_iff.1 hL).1
  obtain ⟨n0, cs0, m0, cs0', q, ds, a1, a2, a3, a4, a5, a6⟩ := lre i hi
  rw [hL] at a1; simp at a1; obtain ⟨rfl, rfl⟩ := a1
  rw [hL'] at a3; simp at a3; obtain ⟨rfl, rfl⟩ := a3
  exact ⟨a5, fun e => by rw [a4]; exact a6 e⟩
 ·exact jputS_suf J.sl x.1 J.clr fr.l
end Go.Proofs.YtolekmhhkopooaaGreatDoor.Zq
end
section
namespace Go.Proofs.YtolekmhhkopooaaGreatDoor.Zq
variable {C : CEnv} {M M' : Mp} {H H' : Heap} {w w' : World} {L L' : Loc} {ML ML' : Ml} {fr fr' : CFr} {a a' : Act} {ro : Option Nat} {n : Nat} {loc : List Nat}
def Goes (C : CEnv) (ro : Option Nat) (c : Code) (fr : CFr) (L : Loc) (H : Heap) (K : CK) : Prop :=
 ∀ (n : Nat) (M : Mp) (ML : Ml) (a : Act) (w : World), HR M H w -> LR M H L ML w -> FS M ML fr a.tmps →
  c.wpIn (Fw ro) n C.P (fun x a' w' => ∃ e fr' L' H' M' ML', K e fr' L' H' ∧ ExR e x ∧ Behind M H L ML w fr a M' H' L' ML' w' fr' a') a w
theorem Goes.mono {c : Code} {K K' : CK} (h : Goes C ro c fr L H K) (hk : ∀ e fr' L' H', K e fr' L' H' -> K' e fr' L' H') : Goes C ro c fr L H K' :=
 fun n M ML a w h1 h2 h3 => wpIn_mono (h n M ML a w h1 h2 h3) fun _ _ _ ⟨e, fr', L', H', M', ML', q1, q2⟩ => ⟨e, fr', L', H', M', ML', hk _ _ _ _ q1, q2⟩
theorem LR.same {L2 : Loc} (l : LR M H L ML w) (hl : L2.length = L.length) (hc : ∀ (i n m : Nat) (cs cs' : List Value), L[i]? = some (n, cs) -> L2[i]? = some (m, cs') -> cs' = cs) : LR M H L2 ML w := by
 refine ⟨by rw [hl]; exact l.len, fun i e m cs hi hL => ?_, l.sep1, l.sep2⟩
 have hi' : i < L.length := by rw [← l.len]; exact (List.getElem?_eq_some_iff.1 hi).1
 obtain ⟨⟨n0, cs0⟩, e1⟩ : ∃ p, L[i]? = some p := ⟨_, List.getElem?_eq_getElem hi'⟩
 have := hc i n0 m cs0 cs e1 hL
 subst this
 exact l.loc i e n0 _ hi e1
theorem FS.same {fr2 : CFr} (f : FS M ML fr a.tmps) (hn : fr2.n = fr.n) (hc : ∀ t s, cget fr2.l t = some s -> cget fr.l t = some s) : FS M ML fr2 a.tmps :=
 ⟨by rw [hn]; exact f.size, fun t s h => f.get t s (hc t s h)⟩
theorem jputL_pass : ∀ {lo : List (Nat × Tag)} {x : TupP lo} {L : Loc} {i : Nat}, (∀ p ∈ lo, p.1 ≠ i) -> (jputL lo x L)[i]? = L[i]?
 | [], _, _, _, _ => rfl
 | (j, T) :: r, x, L, i, hn => by
  have ih := jputL_pass (lo := r) (x := x.2) (L := L) (i := i) fun p hp => hn p (by simp [hp])
  simp only [jputL]
  split
  ·rw [List.getElem?_set_ne (hn (j, T) (by simp))]; exact ih
  ·exact ih
theorem jputL_ver : ∀ {lo : List (Nat × Tag)} {x : TupP lo} {L : Loc} {i n m : Nat} {cs cs' : List Value}, L[i]? = some (n, cs) -> (jputL lo x L)[i]? = some (m, cs') -> (∃ p ∈ lo, p.1 = i) -> m = n + 1
 | [], _, _, _, _, _, _, _, _, _, ⟨p, hp, _⟩ => by simp at hp
 | (j, T) :: r, x, L, i, n, m, cs, cs', h1, h2, ⟨p, hp, he⟩ => by
  simp only [jputL] at h2
  by_cases e : j = i
  ·subst e
   rw [h1] at h2
   simp only at h2
   rw [List.getElem?_set_self (by rw [jputL_len]; exact (List.getElem?_eq_some_iff.1 h1).1)] at h2
   simp at h2; exact h2.1.symm
  ·have h2' : (jputL r x.2 L)[i]? = some (m, cs') := by
    split at h2
    ·rw [List.getElem?_set_ne e] at h2; exact h2
    ·exact h2
   refine jputL_ver h1 h2' ⟨p, ?_, he⟩
   rcases List.mem_cons.1 hp with rfl | hp
   ·exact absurd he e
   ·exact hp
theorem jgetL_lt : ∀ {lo : List (Nat × Tag)} {x : TupP lo} {L : Loc}, jgetL L lo = some x -> ∀ p ∈ lo, p.1 < L.length
 | [], _, _, _, p, hp => by simp at hp
 | (j, T) :: r, x, L, h, p, hp => by
  simp only [jgetL] at h
  split at h
  ·rename_i m cs hc
   split at h
   ·rename_i y z g1 g2
    rcases List.mem_cons.1 hp with rfl | hp
    ·exact (List.getElem?_eq_some_iff.1 hc).1
    ·exact jgetL_lt g2 p hp
   ·cases h
  ·cases h
theorem jputS_pass : ∀ {sl : List (Nat × Tag)} {x : TupP sl} {l : List (Nat × Option Sv)} {t : Nat}, (∀ p ∈ sl, p.1 ≠ t) -> cget (jputS sl x l) t = cget l t
 | [], _, _, _, _ => rfl
 | (d, T) :: r, x, l, t, hn => by
  simp only [jputS, cget]
  rw [if_neg (hn (d, T) (by simp)), jputS_pass (fun p hp => hn p (by simp [hp]))]
theorem jputS_at : ∀ {sl : List (Nat × Tag)} {x : TupP sl} {l l' : List (Nat × Option Sv)} {t : Nat} {s : Sv}, (∃ p ∈ sl, p.1 = t) -> cget (jputS sl x l) t = some s -> cget (jputS sl x l') t = some s
 | [], _, _, _, _, _, ⟨p, hp, _⟩, _ => by simp at hp
 | (d, T) :: r, x, l, l', t, s, ⟨p, hp, he⟩, h => by
  simp only [jputS, cget] at h ⊢
  by_cases e : d = t
  ·rw [if_pos e] at h ⊢; exact h
  ·rw [if_neg e] at h ⊢
   refine jputS_at ⟨p, ?_, he⟩ h
   rcases List.mem_cons.1 hp with rfl | hp
   ·exact absurd he e
   ·exact hp
theorem jputL_cell : ∀ {lo : List (Nat × Tag)} {x y : TupP lo} {L : Loc} {i n m : Nat} {cs cs' : List Value}, (jputL lo x (jputL lo y L))[i]? = some (n, cs) -> (jputL lo x L)[i]? = some (m, cs') -> (∃ L2 : Loc, jgetL L2 lo = some x) -> cs' = cs := by
 intro lo x y L i n m cs cs' h1 h2 ⟨L2, h3⟩
 have hi : i < L.length := by have := (List.getElem?_eq_some_iff.1 h2).1; rw [jputL_len] at this; exact this
 have hb : ∀ p ∈ lo, p.1 < L2.length := jgetL_lt h3
 rcases Classical.em (∃ p ∈ lo, p.1 = i) with hq | hq
 ·obtain ⟨p, hp, he⟩ := hq
  have hi2 : i < L2.length := by rw [← he]; exact hb p hp
  obtain ⟨⟨a, ds⟩, e1⟩ : ∃ q, L2[i]? = some q := ⟨_, List.getElem?_eq_getElem hi2⟩
  obtain ⟨⟨a1, ds1⟩, e2⟩ : ∃ q, L[i]? = some q := ⟨_, List.getElem?_eq_getElem hi⟩
  obtain ⟨⟨a2, ds2⟩, e3⟩ : ∃ q, (jputL lo y L)[i]? = some q := ⟨_, List.getElem?_eq_getElem (by rw [jputL_len]; exact hi)⟩
  rcases jputL_get h3 e2 e1 h2 with ⟨_, g, _⟩ | ⟨g, _⟩
  ·rcases jputL_get h3 e3 e1 h1 with ⟨_, g', _⟩ | ⟨g', _⟩
   ·rw [g, g']
   ·exact absurd he (g' p hp)
  ·exact absurd he (g p hp)
 ·have hn : ∀ p ∈ lo, p.1 ≠ i := fun p hp e => hq ⟨p, hp, e⟩
  rw [jputL_pass hn, jputL_pass hn] at h1
  rw [jputL_pass hn] at h2
  rw [h1] at h2; simp at h2; exact h2.2.symm
theorem head_loc {J : Jn} {s s' : J.S} (h : jgetL L' J.lo = some s'.2) : ∀ (i n m : Nat) (cs cs' : List Value), (J.loc (J.loc L s) s')[i]? = some (n, cs) -> (J.loc L s')[i]? = some (m, cs') -> cs' = cs :=
 fun _ _ _ _ _ h1 h2 => jputL_cell h1 h2 ⟨L', h⟩
theorem head_rel {J : Jn} (s : J.S) : LRel L (J.loc L s) := by
 refine ⟨by unfold Jn.loc; rw [jputL_len]; exact Nat.le_refl _, fun i n cs m cs' h1 h2 => ?_⟩
 unfold Jn.loc at h2
 rcases Classical.em (∃ p ∈ J.lo, p.1 = i) with hq | hq
 ·have := jputL_ver h1 h2 hq
  exact ⟨by omega, fun e => by omega⟩
 ·rw [jputL_pass (fun p hp e => hq ⟨p, hp, e⟩), h1] at h2
  simp at h2; exact ⟨by omega, fun _ => h2.2.symm⟩
theorem head_fr {J : Jn} {s s' : J.S} : ∀ t v, cget (J.fr fr s').l t = some v -> cget (J.fr (J.fr fr s) s').l t = some v := by
 intro t v h
 unfold Jn.fr at h ⊢
 simp only at h ⊢
 rcases Classical.em (∃ p ∈ J.sl, p.1 = t) with hq | hq
 ·exact jputS_at hq h
 ·have hn : ∀ p ∈ J.sl, p.1 ≠ t := fun p hp e => hq ⟨p, hp, e⟩
  have h1 := jputS_skip hn h
  rw [jputS_pass hn]
  obtain ⟨g1, g2⟩ := cget_clr h1
  rw [cget_app fun p hp e => ?_, jputS_pass hn]
  ·exact h1
  ·simp at hp; obtain ⟨c, hc, rfl⟩ := hp; exact g1 (e ▸ hc)
theorem jK_ok {J : Jn} {j : J.S -> Heap -> Prop} {K : CK} {e : Ex} (h : jK J fr L j K e fr' L' H') : (e = .normal ∧ jexit J fr fr' L L' fun x => j x H') ∨ (e ≠ .normal ∧ K e fr' L' H') := by
 unfold jK at h
 cases e with
 | normal => exact .inl ⟨rfl, h⟩
 | exit i => exact .inr ⟨by simp, h⟩
 | ret => exact .inr ⟨by simp, h⟩
theorem join_goes {c : Code} {J : Jn} {B : J.S -> Heap -> Prop} {K : CK} (h : Goes C ro c fr L H (jK J fr L B K)) (hB : ∀ x H', B x H' -> K .normal (J.fr fr x) (J.loc L x) H') : Goes C ro c fr L H K := by
 intro n M ML a w h1 h2 h3
 refine wpIn_mono (h n M ML a w h1 h2 h3) ?_
 rintro x a' w' ⟨e, fr', L', H', M', ML', q1, q2, q3⟩
 rcases jK_ok q1 with ⟨rfl, hj⟩ | ⟨hne, hk⟩
 ·obtain ⟨y, g1, g2, g3, g4⟩ := jexit_ok hj
  exact ⟨.normal, _, _, H', M', ML, hB y H' g4, q2, join_ok h3 h2 q3 g1 g2 g3⟩
 ·exact ⟨e, fr', L', H', M', ML', hk, q2, q3⟩
theorem cVals_ok {tmps : Array Value} {m : Nat} : ∀ {l : List (Nat × Option Sv)} {l' : List (Nat × Option Value)}, cVals l = some l' -> ∀ t v, look l' t = some v -> cget l t = some (.v v)
 | [], l', h, t, v, hv => by simp [cVals] at h; subst h; simp [look] at hv
 | (i, none) :: r, l', h, t, v, hv => by
  simp only [cVals] at h
  split at h
  ·rename_i q hq
   simp at h; subst h
   simp only [look] at hv
   simp only [cget]
   split at hv
   ·simp at hv
   ·rename_i hi; rw [if_neg hi]; exact cVals_ok (tmps := tmps) (m := m) hq t v hv
  ·simp at h
 | (i, some (.v x)) :: r, l', h, t, v, hv => by
  simp only [cVals] at h
  split at h
  ·rename_i q hq
   simp at h; subst h
   simp only [look] at hv
   simp only [cget]
   split at hv
   ·rename_i hi; rw [if_pos hi]; simp at hv; rw [hv]
   ·rename_i hi; rw [if_neg hi]; exact cVals_ok (tmps := tmps) (m := m) hq t v hv
  ·simp at h
 | (i, some (.lp _ _)) :: r, l', h, t, v, hv => by simp [cVals] at h
 | (i, some (.ls _ _)) :: r, l', h, t, v, hv => by simp [cVals] at h
theorem cVals_get : ∀ {l : List (Nat × Option Sv)} {l' : List (Nat × Option Value)}, cVals l = some l' -> ∀ t s, cget l t = some s -> ∃ v, s = .v v ∧ look l' t = some v
 | [], l', h, t, s, hs => by simp [cget] at hs
 | (i, none) :: r, l', h, t, s, hs => by
  simp only [cVals] at h
  split at h
  ·rename_i q hq
   simp at h; subst h
   simp only [cget] at hs
   simp only [look]
   split at hs
   ·simp at hs
   ·rename_i hi; rw [if_neg hi]; exact cVals_get hq t s hs
  ·simp at h
 | (i, some (.v x)) :: r, l', h, t, s, hs => by
  simp only [cVals] at h
  split at h
  ·rename_i q hq
   simp at h; subst h
   simp only [cget] at hs
   simp only [look]
   split at hs
   ·rename_i hi; rw [if_pos hi]; simp at hs; exact ⟨x, hs.symm, rfl⟩
   ·rename_i hi; rw [if_neg hi]; exact cVals_get hq t s hs
  ·simp at h
 | (i, some (.lp _ _)) :: r, l', h, t, s, hs => by simp [cVals] at h
 | (i, some (.ls _ _)) :: r, l', h, t, s, hs => by simp [cVals] at h
theorem jputA_ok : ∀ {sl : List (Nat × Tag)} {x : Tup (sl.map (·.2))} {args' : List Value} {l : List (Nat × Option Sv)} {k : Nat} {tmps : Array Value}, (∀ p ∈ sl, p.1 < k) -> FS M [] ⟨k, l⟩ tmps -> VL M (encs (sl.map (·.2)) x) args' →
  args'.length = sl.length ∧ FS M [] ⟨k, jputA sl x l⟩ (((sl.map (·.1)).zip args').foldl (fun tmps x => tmps.setIfInBounds x.1 x.2) tmps)
 | [], x, args', l, k, tmps, _, hf, hv => by
  have := hv.of_nil; subst this
  exact ⟨rfl, hf⟩
 | (t, T) :: r, x, args', l, k, tmps, hk, hf, hv => by
  obtain ⟨u, us, rfl, hu, ht⟩ := hv.of_cons
  have hf2 : FS M [] ⟨k, (t, some (.v (T.enc x.1))) :: l⟩ (tmps.setIfInBounds t u) := hf.put (d := t) (hk (t, T) (by simp)) (s := .v (T.enc x.1)) hu
  obtain ⟨g1, g2⟩ := jputA_ok (sl := r) (x := x.2) (fun p hp => hk p (by simp [hp])) hf2 ht
  exact ⟨by simp [g1], g2⟩
theorem RFX_out {es : List Ex} {e : Ex} {K : Ex -> Prop} (h : RFX es e K) : K e := by
 induction es with
 | nil => exact h.elim
 | cons x r ih => rcases h with ⟨rfl, h⟩ | h; exact h; exact ih h
theorem LR.empty {w : World} : LR M H [] [] w := ⟨rfl, fun i e m cs hi => by simp at hi, fun i j e e' _ hi => by simp at hi, fun i e hi => by simp at hi⟩
theorem round_ok {asg body : Code} {h : Hnt} {J : Jn} {l : Nat} {k : Nat} {fl : List (Nat × Option Value)} {fs : List (Nat × Option Sv)} {hb : Hint} {x : Tup (J.sl.map (·.2))} {H1 : Heap} {kk : Value -> Heap -> Prop}
  (iha : ∀ (ro : Option Nat) (h : Hnt) (fr : CFr) (L : Loc) (H : Heap) (K : CK), comp C loc asg h fr L H K -> Goes C ro asg fr L H K)
  (ihb : ∀ (ro : Option Nat) (h : Hnt) (fr : CFr) (L : Loc) (H : Heap) (K : CK), comp C loc body h fr L H K -> Goes C ro body fr L H K)
  (hk : ∀ p ∈ J.sl, p.1 < k)
  (lb : LoopState -> Option Ex -> ABlk) (hlb : lb = fun st pend => .loop st pend ⟨k, fl⟩ (J.sl.map (·.1)) asg body hb)
  (fsr : ∀ t s, cget fs t = some s -> ∃ v, s = .v v ∧ look fl t = some v)
  (hc : H1[l]? = some (lb .ready none) ∧ comp C loc asg .leaf ⟨k, jputA J.sl x fs⟩ [] H1 fun e fr2 L2 H2 => match e with
   | .normal => REQ (H2[l]? = some (lb .ready none)) (comp C loc body h fr2 L2 (H2.set l (lb .busy none)) fun e _ _ H3 => RK lb l kk e H3)
   | _ => False) : EVY C.P l (encs (J.sl.map (·.2)) x) H1 kk := by
 subst hlb
 obtain ⟨hl1, hc⟩ := hc
 intro n M w args' en hr hva hen
 obtain ⟨L, b1, b2, b3, b4, b5, b6, b7⟩ := hr.blk _ _ _ hen hl1
 have f0 : FS M [] ⟨k, fs⟩ L.tmps := ⟨b4.size, fun t s hs => by
  obtain ⟨v, rfl, hv⟩ := fsr t s hs
  exact b4.get t v hv⟩
 obtain ⟨p1, p2⟩ := jputA_ok hk f0 hva
 refine ⟨L, b1, by rw [p1]; have := congrArg List.length b5; simpa using this.symm, ?_⟩
 have hfold : (L.params.zip args'.toArray).foldl (fun tmps (t, a) => tmps.setIfInBounds t a) L.tmps = ((J.sl.map (·.1)).zip args').foldl (fun tmps x => tmps.setIfInBounds x.1 x.2) L.tmps := by
  rw [← Array.foldl_toList, Array.toList_zip, b5]
 rw [hfold, b6, b7]
 refine roundIn_of_wpIn (F := Fence.wide) trivial (wpIn_mono (iha (some en.blk) _ _ _ _ _ hc n M [] _ w hr .empty p2) ?_)
 rintro x1 a1 w1 ⟨e1, fr2, L2, H2, M1, ML1, q1, r1, q3⟩
 cases e1 with
 | exit i => exact q1.elim
 | ret => exact q1.elim
 | normal =>
  cases x1 <;> first | exact r1.elim | skip
  obtain ⟨hl2, hc2⟩ := q1
  have s1 := q3.st.st
  have hen1 := s1.ext _ _ hen
  obtain ⟨L1, c1, c2, c3, c4, c5, c6, c7⟩ := s1.hr.blk _ _ _ hen1 hl2
  have hlt1 := (Array.getElem?_eq_some_iff.1 c1).1
  have hH1 : l < H2.length := (List.getElem?_eq_some_iff.1 hl2).1
  have s2 := Stp.setBlk (k' := .loop .busy none ⟨k, fl⟩ (J.sl.map (·.1)) asg body hb) (o' := .loop { L1 with state := .busy }) s1.hr hl2 hen1 (by unfold writB; rw [hl2]; trivial) (by unfold writB; rw [List.getElem?_set_self hH1]; trivial)
   ⟨{ L1 with state := .busy }, by simp [hlt1], rfl, c3, c4, c5, c6, c7⟩
  refine ⟨{ w1 with heap := w1.heap.setIfInBounds en.blk (.loop { L1 with state := .busy }) }, ?_, ?_⟩
  ·have hg := run_getLoop (P := C.P) c1
   have hs' := run_setLoop (P := C.P) c1
   simp only [Instr.beginRound, Sem.run_bind, hg, Result.andThen_ok, hs', c2, Sem.run_pure]
  ·refine wpIn_mono (ihb (some en.blk) _ _ _ _ _ hc2 n M1 ML1 a1 _ s2.hr (q3.lr.step s2) (q3.fs.step s2.ext)) ?_
   rintro x2 a2 w2 ⟨e2, fr3, L3, H3, M2, ML2, ⟨hl3, hk3⟩, t1, t3⟩
   have u3 := t3.st.st
   have hen2 := u3.ext _ _ hen1
   obtain ⟨L2', d1, d2, d3, d4, d5, d6, d7⟩ := u3.hr.blk _ _ _ hen2 hl3
   have hlt2 := (Array.getElem?_eq_some_iff.1 d1).1
   have hH2 : l < H3.length := (List.getElem?_eq_some_iff.1 hl3).1
   have s12 : Stp M H1 w M2 H3 w2 := ((q3.st.trans (s2.toLSt ML1)).trans t3.st).st.toStp fun i e hi => by simp at hi
   have fin : ∀ (s : LoopState) (pe : Option Ex) (j : Option Code), PendR pe j -> Stp M H1 w M2 (H3.set l (.loop s pe ⟨k, fl⟩ (J.sl.map (·.1)) asg body hb)) { w2 with heap := w2.heap.setIfInBounds en.blk (.loop { L2' with state := s, pending := j }) } := fun s pe j hp =>
    s12.trans (Stp.setBlk u3.hr hl3 hen2 (by unfold writB; rw [hl3]; trivial) (by unfold writB; rw [List.getElem?_set_self hH2]; trivial)
     ⟨{ L2' with state := s, pending := j }, by simp [hlt2], rfl, hp, d4, d5, d6, d7⟩)
   have hend : ∀ j : Option Code, (Instr.endRound en.blk j).run C.P w2 = .ok (.bool j.isNone) { w2 with heap := w2.heap.setIfInBounds en.blk (.loop { L2' with state := if j.isNone then .ready else .done, pending := j }) } := fun j => by
    have hg := run_getLoop (P := C.P) d1
    have hs' := run_setLoop (P := C.P) d1
    simp only [Instr.endRound, Sem.run_bind, hg, Result.andThen_ok, hs', Sem.run_pure]
   cases e2 with
   | normal =>
    cases x2 <;> first | exact t1.elim | skip
    exact ⟨_, _, hend none, _, _, M2, _, rfl, fin _ none none trivial, .bool _, hk3⟩
   | ret =>
    cases x2 <;> first | exact t1.elim | skip
    exact ⟨_, _, hend (some .ret), _, _, M2, _, rfl, fin _ (some .ret) (some .ret) trivial, .bool _, hk3⟩
   | exit i =>
    cases x2 <;> first | exact t1.elim | skip
    rename_i i2
    have t1 : i = i2 := t1
    subst t1
    exact ⟨_, _, hend (some (.exit i)), _, _, M2, _, rfl, fin _ (some (.exit i)) (some (.exit i)) rfl, .bool _, hk3⟩
set_option maxHeartbeats 2000000 in
theorem range2_ok {g : Operand} {ps : Array Tmp} {asg body : Code} {h : Hnt} {J : Jn} {f : FuncId} {xs ys : Array Value} {fl : List (Nat × Option Value)} {K : CK}
  (iha : ∀ (ro : Option Nat) (h : Hnt) (fr : CFr) (L : Loc) (H : Heap) (K : CK), comp C loc asg h fr L H K -> Goes C ro asg fr L H K)
  (ihb : ∀ (ro : Option Nat) (h : Hnt) (fr : CFr) (L : Loc) (H : Heap) (K : CK), comp C loc body h fr L H K -> Goes C ro body fr L H K)
  {es : List Ex} (hj : J.sl.map (·.1) = ps.toList) (h1 : opV fr g = some (.func (.func f) xs ys)) (hfl : cVals fr.l = some fl) (hk : ∀ p ∈ J.sl, p.1 < fr.n)
  (hc : RF C.P (J.sl.map (·.2)) f xs.toList ys.toList H (fun lb x H1 k => comp C loc asg .leaf ⟨fr.n, jputA J.sl x fr.l⟩ [] H1 fun e fr2 L2 H2 => match e with
     | .normal => REQ (H2[H.length]? = some (lb .ready none)) (comp C loc body h fr2 L2 (H2.set H.length (lb .busy none)) fun e _ _ H3 => k e H3)
     | _ => False) fun e H' => RFX es e fun x => K x fr [] H') (hr : HR M H w) (hf : FS M [] fr a.tmps) :
  (Code.rangeFunc g ps asg body).wpIn (Fw none) n C.P (fun x a' w' => ∃ e H' M', K e fr [] H' ∧ ExR e x ∧ Stp M H w M' H' w' ∧ FS M' [] fr a'.tmps ∧ Marks w w' a.defers a'.defers) a w := by
 have fsr : ∀ t s, cget fr.l t = some s -> ∃ v, s = .v v ∧ look fl t = some v := cVals_get hfl
 let lb : LoopState -> Option Ex -> ABlk := fun st pend => .loop st pend ⟨fr.n, fl⟩ (J.sl.map (·.1)) asg body .leaf
 have hev := hc lb fun x H1 k hx => round_ok (hb := .leaf) (k := fr.n) (fl := fl) (fs := fr.l) (J := J) iha ihb hk lb rfl fsr hx
 refine wpIn_rangeFunc fun fn _ => ?_
 have hfv := cV_ok hf h1
 obtain ⟨us, ws, hfe, hu, hw⟩ : ∃ us ws, a.eval g = .func (.func f) us ws ∧ VL M xs.toList us.toList ∧ VL M ys.toList ws.toList := by
  generalize hq : a.eval g = q at hfv
  cases hfv with
  | func hx hy gx gy =>
   exact ⟨_, _, rfl, ⟨by simpa using hx, fun i x u hx hu => gx i x u (by simpa using hx) (by simpa using hu)⟩, ⟨by simpa using hy, fun i x u hx hu => gy i x u (by simpa using hx) (by simpa using hu)⟩⟩
 have s1 := Stp.hidden hr (.deferred (some []))
 let L0 : Loop := { state := .ready, pending := none, fn, tmps := a.tmps, params := ps, assign := asg, body, defers := w.heap.size }
 let en : Ent := ⟨w.heap.size + 1, 0, false, 0, 0, 0⟩
 have hw1s : (w.alloc (.deferred (some []))).heap.size = w.heap.size + 1 := by simp
 have hfr0 : FR M ⟨fr.n, fl⟩ a.tmps := ⟨hf.size, fun t v hv => hf.get t _ (cVals_ok (tmps := a.tmps) (m := 0) hfl t v hv)⟩
 have s2 := Stp.newBlk (o := .loop L0) (k := lb .ready none) s1.hr en (by rw [hw1s]) ⟨L0, by
   show ((w.alloc (.deferred (some []))).heap.push _)[w.heap.size + 1]? = _
   rw [Array.getElem?_push, if_pos (by rw [hw1s])], rfl, trivial, hfr0.mono (Ext.app M [some en]), hj.symm, rfl, rfl⟩
 have s12 := s1.trans s2
 have hdef : ((w.alloc (.deferred (some []))).alloc (.loop L0)).heap[w.heap.size]? = some (.deferred (some [])) := by
  show (((w.heap.push _).push _))[w.heap.size]? = _
  rw [Array.getElem?_push, if_neg (by simp), Array.getElem?_push, if_pos rfl]
 obtain ⟨⟨fng, q1, q2, q3⟩, q4⟩ := hev
 have hargs : VL (M ++ [some en]) (xs.toList ++ [.func (.yield H.length) #[] #[]] ++ ys.toList) (us.toList ++ [.func (.yield (w.heap.size + 1)) #[] #[]] ++ ws.toList) :=
  ((hu.mono s2.ext).append (.cons (.yield (get_new hr en)) (.nil _))).append (hw.mono s2.ext)
 have hcall := q4 (n - 1) (M ++ [some en]) _ _ s2.hr hargs
 have hbn : fng.body.isNone = false := by cases hb : fng.body <;> simp_all
 refine ⟨w.heap.size + 1, [{ target := .collected w.heap.size, args := #[] }], (w.alloc (.deferred (some []))).alloc (.loop L0), { target := .fn (.func f) ws, args := us ++ #[Value.func (.yield (w.heap.size + 1)) #[] #[]] }, (w.alloc (.deferred (some []))).alloc (.loop L0), f, (us.toList ++ [Value.func (.yield (w.heap.size + 1)) #[] #[]] ++ ws.toList).toArray, (w.alloc (.deferred (some []))).alloc (.loop L0), ?_, ?_, fun _ _ => trivial, ?_, by simp [Fw, Fence.wide], (callsIn_round hcall).mono ?_⟩
 ·simp only [Instr.enterLoop, Fw, Sem.run_bind, run_newObj, Result.andThen_ok, Sem.run_pure, World.alloc_eq]
  rw [hw1s]
 ·have he : (rangeCall g (w.heap.size + 1)).args.map a.eval = #[Value.func (.yield (w.heap.size + 1)) #[] #[]] := by simp only [List.map_toArray, List.map_cons, List.map_nil]; rfl
  simp only [resolve]
  rw [hfe, he]
  simp only [Deferred.ofValue, Sem.run_pure]
 ·simp only [invoke, callFunc, Sem.run_bind, run_program, Result.andThen_ok, q1, q3, Bool.false_eq_true, if_false, hbn, Sem.run_pure]
  congr 2
  apply Array.ext'; simp
 ·rintro e w3 ⟨v, v', M', H2, rfl, hs, _, st, pend, hl2, hst, hkk⟩
  have hen : M'[H.length]? = some (some en) := hs.ext _ _ (get_new hr en)
  obtain ⟨L, k1, k2, k3, k4⟩ := hs.hr.blk _ _ _ hen hl2
  have hgl : (Instr.getLoop (w.heap.size + 1)).run C.P w3 = .ok L w3 := by
   have : w3.heap[w.heap.size + 1]? = some (.loop L) := k1
   simp [Instr.getLoop, getObj, Sem.run, this]
  have hso : ∀ o, (setObj (w.heap.size + 1) o).run C.P w3 = .ok () { w3 with heap := w3.heap.setIfInBounds (w.heap.size + 1) o } := fun o => by
   have : w3.heap[w.heap.size + 1]? = some (.loop L) := k1
   simp [setObj, Sem.run, this]
  have hlt : w.heap.size + 1 < w3.heap.size := (Array.getElem?_eq_some_iff.1 k1).1
  have hnb : (L.state == .busy) = false := by rw [k2]; simpa using hst
  have hl2l : H.length < H2.length := (List.getElem?_eq_some_iff.1 hl2).1
  have s4 := Stp.setBlk (k' := lb .exhausted pend) (o' := .loop { L with state := .exhausted }) hs.hr hl2 hen (by unfold writB; rw [hl2]; trivial) (by unfold writB; rw [List.getElem?_set_self hl2l]; trivial)
   ⟨{ L with state := .exhausted }, by simp [en, hlt], rfl, k3, k4⟩
  have sall := (s12.trans hs).trans s4
  have hmarks : Marks w { w3 with heap := w3.heap.setIfInBounds en.blk (.loop { L with state := .exhausted }) } a.defers ([{ target := .collected w.heap.size, args := #[] }] ++ a.defers) := by
   refine ⟨[w.heap.size], rfl, by simp, fun r hr' => ?_⟩
   simp at hr'; subst hr'
   exact ⟨Nat.le_refl _, deferred_kept hs.hr s4 (deferred_kept s2.hr hs hdef)⟩
  refine ⟨L.pending, { w3 with heap := w3.heap.setIfInBounds (w.heap.size + 1) (.loop { L with state := .exhausted }) }, ?_, ?_⟩
  ·simp only [Instr.endLoop, Sem.run_bind, hgl, Result.andThen_ok, hnb, Bool.false_eq_true, if_false, Sem.run_ite, Sem.run_pure, hso]
  ·have hfin : ∀ x : Exit, ExR (pend.getD .normal) x -> ∃ e H' M'', K e fr [] H' ∧ ExR e x ∧ Stp M H w M'' H' { w3 with heap := w3.heap.setIfInBounds (w.heap.size + 1) (.loop { L with state := .exhausted }) } ∧ FS M'' [] fr a.tmps ∧
     Marks w { w3 with heap := w3.heap.setIfInBounds (w.heap.size + 1) (.loop { L with state := .exhausted }) } a.defers ([{ target := .collected w.heap.size, args := #[] }] ++ a.defers) := fun x hx => ⟨_, _, M', RFX_out hkk, hx, sall, hf.step sall.ext, hmarks⟩
   cases hp : L.pending with
   | none =>
    rw [hp] at k3 hfin
    cases pend with
    | none => refine hfin _ ?_; trivial
    | some e => cases e <;> exact k3.elim
   | some c =>
    rw [hp] at k3 hfin
    cases pend with
    | none => exact k3.elim
    | some e =>
     cases e with
     | normal => cases c <;> exact k3.elim
     | ret => cases c <;> first | exact k3.elim | exact wpIn_ret (by refine hfin _ ?_; trivial)
     | exit i => cases c <;> first | exact k3.elim | exact wpIn_exit (by refine hfin _ ?_; exact k3)
theorem comp_ok (hE : C.E.Ok C.P) : ∀ (c : Code) (ro : Option Nat) (_ : noRF c = true ∨ ro = none) (h : Hnt) (fr : CFr) (L : Loc) (H : Heap) (K : CK), comp C loc c h fr L H K -> Goes C ro c fr L H K := by
 intro c
 induction c with
 | skip =>
  intro ro hro h fr L H K hc n M ML a w h1 h2 h3
  replace hc : K .normal fr L H := hc
  exact wpIn_skip ⟨.normal, _, _, _, M, ML, hc, trivial, .refl h1 h2 h3⟩
 | label l =>
  intro ro hro h fr L H K hc n M ML a w h1 h2 h3
  replace hc : K .normal fr L H := hc
  exact wpIn_label ⟨.normal, _, _, _, M, ML, hc, trivial, .refl h1 h2 h3⟩
 | exit id =>
  intro ro hro h fr L H K hc n M ML a w h1 h2 h3
  replace hc : K (.exit id) fr L H := hc
  exact wpIn_exit ⟨.exit id, _, _, _, M, ML, hc, rfl, .refl h1 h2 h3⟩
 | ret =>
  intro ro hro h fr L H K hc n M ML a w h1 h2 h3
  replace hc : K .ret fr L H := hc
  exact wpIn_ret ⟨.ret, _, _, _, M, ML, hc, trivial, .refl h1 h2 h3⟩
 | region id ops draw =>
  intro ro hro h fr L H K hc
  simp only [comp] at hc
  split at hc
  ·intro n M ML a w h1 h2 h3
   exact reg_ok hE hc h1 h2 h3 fun fr' L' H' M' ML' a' w' hk hb => ⟨.normal, fr', L', H', M', ML', hk, trivial, hb⟩
  ·rename_i J hj
   unfold JOIN at hc
   intro n M ML a w h1 h2 h3
   refine reg_ok hE hc h1 h2 h3 fun fr' L' H' M' ML' a' w' hk hb => ?_
   obtain ⟨y, g1, g2, g3, g4⟩ := jexit_ok hk
   exact ⟨.normal, _, _, H', M', ML, g4, trivial, join_ok h3 h2 hb g1 g2 g3⟩
 | seq x y ihx ihy =>
  intro ro hro h fr L H K hc n M ML a w h1 h2 h3
  simp only [comp] at hc
  refine wpIn_seq (wpIn_mono (ihx ro (hro.imp_left fun q => by simp only [noRF, Bool.and_eq_true] at q; exact q.1) h.a fr L H _ hc n M ML a w h1 h2 h3) ?_)
  rintro x a' w' ⟨e, fr', L', H', M', ML', q1, q2, q3⟩
  cases e with
  | normal =>
   cases x <;> first | exact q2.elim | skip
   simp only at q1
   refine wpIn_mono (ihy ro (hro.imp_left fun q => by simp only [noRF, Bool.and_eq_true] at q; exact q.2) h.b fr' L' H' K q1 n M' ML' a' w' q3.st.st.hr q3.lr q3.fs) ?_
   rintro x2 a2 w2 ⟨e2, fr2, L2, H2, M2, ML2, r1, r2, r3⟩
   exact ⟨e2, fr2, L2, H2, M2, ML2, r1, r2, q3.trans r3⟩
  | exit i => cases x <;> first | exact q2.elim | exact ⟨.exit i, fr', L', H', M', ML', q1, q2, q3⟩
  | ret => cases x <;> first | exact q2.elim | exact ⟨.ret, fr', L', H', M', ML', q1, q2, q3⟩
 | cond c x y ihx ihy =>
  intro ro hro h fr L H K hc
  simp only [comp] at hc
  split at hc
  ·rename_i g hg
   have two : ∀ K, ifB g (comp C loc x h.a fr L H K) (comp C loc y h.b fr L H K) -> Goes C ro (.cond c x y) fr L H K := by
    intro K hk n M ML a w h1 h2 h3
    have hv := (cV_ok h3 hg).of_bool
    cases g with
    | true => exact wpIn_cond_true hv (ihx ro (hro.imp_left fun q => by simp only [noRF, Bool.and_eq_true] at q; exact q.1) h.a fr L H K hk n M ML a w h1 h2 h3)
    | false => exact wpIn_cond_false hv (ihy ro (hro.imp_left fun q => by simp only [noRF, Bool.and_eq_true] at q; exact q.2) h.b fr L H K hk n M ML a w h1 h2 h3)
   split at hc
   ·exact two K hc
   ·rename_i J hj
    unfold JOIN at hc
    exact join_goes (two _ hc) fun x H' hx => hx
  ·exact hc.elim
 | block id c ih =>
  intro ro hro h fr L H K hc
  simp only [comp] at hc
  have out : ∀ (K1 K : CK), Goes C ro c fr L H K1 -> (∀ fr' L' H', K1 .normal fr' L' H' -> K .normal fr' L' H') -> (∀ fr' L' H', K1 (.exit id) fr' L' H' -> K .normal fr' L' H') -> (∀ i fr' L' H', i ≠ id -> K1 (.exit i) fr' L' H' -> K (.exit i) fr' L' H') -> (∀ fr' L' H', K1 .ret fr' L' H' -> K .ret fr' L' H') -> Goes C ro (.block id c) fr L H K := by
   intro K1 K hg k1 k2 k3 k4 n M ML a w h1 h2 h3
   refine wpIn_block (wpIn_mono (hg n M ML a w h1 h2 h3) ?_)
   rintro x a' w' ⟨e, fr', L', H', M', ML', q1, q2, q3⟩
   cases e with
   | normal => cases x <;> first | exact q2.elim | exact ⟨.normal, fr', L', H', M', ML', k1 _ _ _ q1, trivial, q3⟩
   | ret => cases x <;> first | exact q2.elim | exact ⟨.ret, fr', L', H', M', ML', k4 _ _ _ q1, trivial, q3⟩
   | exit i =>
    cases x <;> first | exact q2.elim | skip
    rename_i i2
    have q2 : i = i2 := q2
    subst q2
    by_cases hi : i = id
    ·subst hi
     simp only [Exit.inBlock, if_true]
     exact ⟨.normal, fr', L', H', M', ML', k2 _ _ _ q1, trivial, q3⟩
    ·simp only [Exit.inBlock, if_neg hi]
     exact ⟨.exit i, fr', L', H', M', ML', k3 _ _ _ _ hi q1, rfl, q3⟩
  split at hc
  ·refine out _ K (ih ro (hro.imp_left fun q => q) h.a fr L H _ hc) (fun _ _ _ h => h) (fun _ _ _ h => ?_) (fun i _ _ _ hi h => ?_) (fun _ _ _ h => h)
   ·simpa using h
   ·simpa [hi] using h
  ·rename_i J hj
   unfold JOIN at hc
   refine join_goes (J := J) (B := fun x H' => K .normal (J.fr fr x) (J.loc L x) H') (out _ _ (ih ro (hro.imp_left fun q => q) h.a fr L H _ hc) (fun _ _ _ h => h) (fun _ _ _ h => ?_) (fun i _ _ _ hi h => ?_) (fun _ _ _ h => h)) fun x H' hx => hx
   ·simpa [jK] using h
   ·simpa [jK, hi] using h
 | scope c ih =>
  intro ro hro h fr L H K hc n M ML a w h1 h2 h3
  replace hc : comp C loc c h fr L H K := hc
  refine wpIn_scope_straight (wpIn_mono (ih ro (hro.imp_left fun q => q) h fr L H K hc n M ML a w h1 h2 h3) ?_)
  rintro x a' w' ⟨e, fr', L', H', M', ML', q1, q2, q3⟩
  cases x with
  | goto l => cases e <;> exact q2.elim
  | _ => exact ⟨e, fr', L', H', M', ML', q1, q2, q3⟩
 | loop c ih =>
  intro ro hro h fr L H K hc
  simp only [comp] at hc
  split at hc
  ·rename_i J hj
   split at hc
   ·rename_i y z hy hz
    obtain ⟨m, hm⟩ := hc
    intro n M ML a w h1 h2 h3
    have rounds : ∀ (m : Nat) (s : J.S) (H : Heap) (M' : Mp) (a' : Act) (w' : World), itP (fun rec (s : J.S) H => comp C loc c h.a (J.fr fr s) (J.loc L s) H (jK J (J.fr fr s) (J.loc L s) rec K)) m s H →
      HR M' H w' -> LR M' H (J.loc L s) ML w' -> FS M' ML (J.fr fr s) a'.tmps →
      Code.roundsIn (Fw ro) n C.P c (fun x a2 w2 => ∃ e fr' L' H' M2 ML2 s2, K e fr' L' H' ∧ ExR e x ∧ LSt M' H ML w' M2 H' ML2 w2 ∧ LR M2 H' L' ML2 w2 ∧ FS M2 ML2 fr' a2.tmps ∧ LRel (J.loc L s2) L' ∧ Suf (J.fr fr s2) fr' ∧ (∃ N, ML2 = ML ++ N) ∧ Marks w' w2 a'.defers a2.defers) m a' w' := by
     intro m
     induction m with
     | zero => intro s H M' a' w' hi; exact hi.elim
     | succ m ihm =>
      intro s H M' a' w' hi g1 g2 g3
      rw [roundsIn_succ]
      refine wpIn_mono (ih ro (hro.imp_left fun q => q) h.a _ _ _ _ hi n M' ML a' w' g1 g2 g3) ?_
      rintro x a2 w2 ⟨e, fr', L', H', M2, ML2, q1, q2, q3⟩
      rcases jK_ok q1 with ⟨rfl, hjx⟩ | ⟨hne, hk⟩
      ·cases x <;> first | exact q2.elim | skip
       obtain ⟨s', k1, k2, k3, k4⟩ := jexit_ok hjx
       have b := join_ok g3 g2 q3 k1 k2 k3
       have f' : FS M2 ML (J.fr fr s') a2.tmps := b.fs.same rfl head_fr
       have l' : LR M2 H' (J.loc L s') ML w2 := b.lr.same (by unfold Jn.loc; simp only [jputL_len]) (head_loc k3)
       refine rounds_mono ?_ m a2 w2 (ihm s' H' M2 a2 w2 k4 b.st.st.hr l' f')
       rintro x3 a3 w3 ⟨e3, fr3, L3, H3, M3, ML3, s3, r1, r2, r3, r4, r5, r6, r7, r8, r9⟩
       exact ⟨e3, fr3, L3, H3, M3, ML3, s3, r1, r2, b.st.trans r3, r4, r5, r6, r7, r8, b.defers.transL b.st.st.hr b.lr r3.st b.st.st.size r9⟩
      ·have done : ∃ e fr' L' H' M2 ML2 s2, K e fr' L' H' ∧ ExR e x ∧ LSt M' H ML w' M2 H' ML2 w2 ∧ LR M2 H' L' ML2 w2 ∧ FS M2 ML2 fr' a2.tmps ∧ LRel (J.loc L s2) L' ∧ Suf (J.fr fr s2) fr' ∧ (∃ N, ML2 = ML ++ N) ∧ Marks w' w2 a'.defers a2.defers :=
        ⟨e, fr', L', H', M2, ML2, s, hk, q2, q3.st, q3.lr, q3.fs, q3.rel, q3.suf, q3.mlx, q3.defers⟩
       cases e with
       | normal => exact absurd rfl hne
       | exit i => cases x <;> first | exact q2.elim | exact done
       | ret => cases x <;> first | exact q2.elim | exact done
    refine wpIn_loop_rounds m ?_
    have b0 := Behind.refl h1 h2 h3
    have f0 : FS M ML (J.fr fr (y, z)) a.tmps := ⟨h3.size, fun t s hs => by
     unfold Jn.fr at hs
     rcases jputS_get hy hs with h | ⟨_, h'⟩
     ·exact h3.get t s h
     ·exact h3.get t s (cget_clr h').2⟩
    have l0 : LR M H (J.loc L (y, z)) ML w := h2.same (by unfold Jn.loc; simp only [jputL_len]) fun i n m cs cs' e1 e2 => by
     rcases jputL_get hz e1 e1 e2 with ⟨_, g, _⟩ | ⟨_, g, _⟩
     ·exact g
     ·exact g
    refine rounds_mono ?_ m a w (rounds m (y, z) H M a w hm h1 l0 f0)
    rintro x a2 w2 ⟨e, fr', L', H', M2, ML2, s2, r1, r2, r3, r4, r5, r6, r7, r8, r9⟩
    exact ⟨e, fr', L', H', M2, ML2, r1, r2, ⟨r3, r4, r5, (head_rel s2).trans r6, Suf.trans (fr' := J.fr fr s2) ⟨rfl, jputS_suf J.sl s2.1 J.clr fr.l⟩ r7, r8, r9⟩⟩
   ·exact hc.elim
  ·exact hc.elim
 | rangeFunc g ps asg body iha ihb =>
  intro ro hro h fr L H K hc
  simp only [comp] at hc
  split at hc
  ·rename_i fv fl J hg hfl hj
   split at hc
   ·rename_i hps
    obtain ⟨f, xs, ys, rfl, hc⟩ := hc
    simp only [Bool.and_eq_true, beq_iff_eq, List.all_eq_true, decide_eq_true_eq] at hps
    obtain ⟨⟨hp1, hp2⟩, hp3, hp4⟩ := hps
    obtain rfl : ro = none := by
     rcases hro with q | q
     ·cases q
     ·exact q
    intro n M ML a w h1 h2 h3
    have hML : ML = [] := List.length_eq_zero_iff.1 (by rw [h2.len]; rfl)
    subst hML
    refine wpIn_mono (range2_ok (hj := hp1) (iha := fun ro => iha ro (.inl hp3)) (ihb := fun ro => ihb ro (.inl hp4)) hg hfl (fun p hp => hp2 p.1 (by rw [← hp1]; exact List.mem_map_of_mem hp)) hc h1 h3) ?_
    rintro x a' w' ⟨e, H', M', k1, k2, k3, k4, k5⟩
    exact ⟨e, fr, [], H', M', [], k1, k2, ⟨k3.toLSt [], .empty, k4, .refl _, .refl _, ⟨[], rfl⟩, k5⟩⟩
   ·exact hc.elim
  ·exact hc.elim
 | _ => intro ro hro h fr L H K hc; simp [comp] at hc
end Go.Proofs.YtolekmhhkopooaaGreatDoor.Zq
end
section
namespace Go.Proofs.YtolekmhhkopooaaGreatDoor.Zq
def kOk (P : Program) (t : TypeId) : TK -> TypeDesc -> Bool
 | .bool, .bool => true
 | .int k, .int k' => decide (k = k')
 | .string, .string => true
 | .pointer e, .pointer e' => e == e'
 | .slice e, .slice e' => e == e'
 | .array n e, .array n' e' => n == n' && e == e' && !P.eqGuardType P.depth t
 | .map k e, .map k' e' => k == k' && e == e'
 | .struct fs, .struct gs => decide (fs = gs.toList.map (fun f => (f.offset, f.type))) && gs.toList.all (fun f => f.name != "_") && !P.stoodInHeld t && !P.eqGuardType P.depth t && (gs.toList.mapM (fun f => (P.info? f.type).map fun i => (f.offset, i.size))).isSome
 | .func, .func _ _ _ => true
 | .iface, .interface _ => true
 | _, _ => false
theorem kOk_ok {P : Program} {t : TypeId} {k : TK} {d : TypeDesc} (h : kOk P t k d = true) : KOk P t k d := by
 unfold kOk at h
 split at h
 case h_8 fs gs =>
  simp only [Bool.and_eq_true, decide_eq_true_eq, Bool.not_eq_true', List.all_eq_true, bne_iff_ne] at h
  obtain ⟨⟨⟨⟨h1, h2⟩, h3⟩, h4⟩, h5⟩ := h
  exact ⟨h1, h2, h3, h4, h5⟩
 all_goals simp_all [KOk]
def isAggV : Value -> Bool
 | .agg _ => true
 | _ => false
def tiOk (P : Program) (t : TypeId) (ti : TI) : Bool :=
 match P.info? t, P.underlying t with
 | some i, some d =>
  match i.zero with
  | some z => i.size == ti.size && i.bytes == ti.bytes && sameL z.cells.toList ti.zero && ti.zero.all flat1 && ti.zero.length == ti.size && (isAggK ti.k == isAggV z) && kOk P t ti.k d
  | none => false
 | _, _ => false
theorem tiOk_ok {P : Program} {t : TypeId} {ti : TI} (h : tiOk P t ti = true) : ∃ i d z, TyOk P t ti i d z := by
 unfold tiOk at h
 split at h
 ·rename_i i d hi hd
  split at h
  ·rename_i z hz
   simp only [Bool.and_eq_true, beq_iff_eq] at h
   obtain ⟨⟨⟨⟨⟨⟨h1, h2⟩, h3⟩, h4⟩, h5⟩, h6⟩, h7⟩ := h
   refine ⟨i, d, z, hi, hd, h1, h2, hz, sameL_eq h3, h4, h5, ?_, kOk_ok h7⟩
   rw [h6]
   unfold isAggV
   split
   ·exact ⟨fun _ => ⟨_, rfl⟩, fun _ => rfl⟩
   ·rename_i hn
    exact ⟨fun h => by simp at h, fun ⟨cs, hc⟩ => absurd hc (hn cs)⟩
  ·simp at h
 ·simp at h
def tyOf (tab : List (Option TI)) (t : TypeId) : Option TI := (tab[t]?).join
def tabOk (P : Program) : List (Option TI) -> Nat -> Bool
 | [], _ => true
 | none :: r, i => tabOk P r (i + 1)
 | some ti :: r, i => tiOk P i ti && tabOk P r (i + 1)
theorem tabOk_ok {P : Program} : ∀ (l : List (Option TI)) (i : Nat), tabOk P l i = true -> ∀ j ti, l[j]? = some (some ti) -> tiOk P (i + j) ti = true
 | [], i, _, j, ti, h => by simp at h
 | none :: r, i, h, j, ti, hj => by
  cases j with
  | zero => simp at hj
  | succ j =>
   have := tabOk_ok r (i + 1) h j ti (by simpa using hj)
   rw [show i + (j + 1) = i + 1 + j by omega]; exact this
 | some t :: r, i, h, j, ti, hj => by
  simp only [tabOk, Bool.and_eq_true] at h
  cases j with
  | zero => simp at hj; subst hj; exact h.1
  | succ j =>
   have := tabOk_ok r (i + 1) h.2 j ti (by simpa using hj)
   rw [show i + (j + 1) = i + 1 + j by omega]; exact this
def fnOf (P : Program) (l : List FuncId) (f : FuncId) : Option Func := if l.contains f then P.funcs[f]? else none
def fnsOk (P : Program) (l : List FuncId) : Bool := l.all fun f => match P.funcs[f]? with | some fn => !(fn.name == "runtime.NumGoroutine") | none => true
theorem env_ok {P : Program} {tab : List (Option TI)} {l : List FuncId} {hint : FuncId -> Hint} {ext : FuncId -> Option (List Value -> Heap -> Option (Value × Heap))} (h1 : tabOk P tab 0 = true) (h2 : fnsOk P l = true) (h3 : P.follows .mixedOrders = true) :
  Env.Ok { ty := tyOf tab, fn := fnOf P l, hint, ext } P := by
 refine ⟨fun t ti ht => ?_, fun f fn hf => ?_, h3⟩
 ·have : tab[t]? = some (some ti) := by
   unfold tyOf at ht
   cases hq : tab[t]? with
   | none => simp [hq] at ht
   | some o => simp [hq] at ht; rw [ht]
  have := tabOk_ok tab 0 h1 t ti this
  rw [Nat.zero_add] at this
  exact tiOk_ok this
 ·simp only [fnOf] at hf
  split at hf
  ·rename_i hc
   refine ⟨hf, ?_⟩
   have := List.all_eq_true.1 h2 f (by simpa using hc)
   rw [hf] at this
   simpa using this
  ·simp at hf
end Go.Proofs.YtolekmhhkopooaaGreatDoor.Zq
end
section
namespace Go.Proofs.YtolekmhhkopooaaGreatDoor.Zq
open Go.RowKit
theorem Stp.below {M M' : Mp} {H H' : Heap} {w w' : World} (h : Stp M H w M' H' w') (hn : ∀ b, ¬ writB H b) : Below w.heap.size w w' :=
 ⟨h.os, h.tape, h.output, h.size, fun k hk => h.frame k hk fun b _ _ hw => absurd hw (hn b)⟩
theorem HR.nil (w : World) : HR [] [] w := ⟨rfl, fun b e k h => by simp at h, fun b b' e e' _ h => by simp at h⟩
end Go.Proofs.YtolekmhhkopooaaGreatDoor.Zq
end
section
namespace Go.Proofs.YtolekmhhkopooaaGreatDoor.Zq
variable {C : CEnv} {M M' : Mp} {H H' : Heap} {w w' : World} {L L' : Loc} {ML ML' : Ml} {fr fr' : CFr} {a a' : Act} {n : Nat} {loc : List Nat}
theorem cEnter_get : ∀ (l : List Value) (i t : Nat), cget (cEnterL i l) t = if i ≤ t then (l[t - i]?).map .v else none
 | [], i, t => by simp [cEnterL, cget]
 | v :: r, i, t => by
  simp only [cEnterL, cget, cEnter_get r (i + 1) t]
  by_cases h : i = t
  ·subst h; simp
  ·rw [if_neg h]
   by_cases h2 : i ≤ t
   ·rw [if_pos h2, if_pos (by omega)]
    obtain ⟨q, hq⟩ : ∃ q, t - i = q + 1 := ⟨t - i - 1, by omega⟩
    rw [hq, show t - (i + 1) = q by omega]; rfl
   ·rw [if_neg h2, if_neg (by omega)]
theorem cEnter_ok {ntmps : Nat} {args args' : List Value} (h : VL M args args') : FS M [] (cEnter ntmps args) (args'.toArray ++ Array.replicate (ntmps - args'.toArray.size) undef) := by
 refine ⟨by simp [cEnter, h.1], fun t s hs => ?_⟩
 unfold cEnter at hs
 simp only [cEnter_get, Nat.zero_le, if_true, Nat.sub_zero, Option.map_eq_some_iff] at hs
 obtain ⟨v, hv, rfl⟩ := hs
 have ht : t < args.length := (List.getElem?_eq_some_iff.1 hv).1
 have ht' : t < args'.length := by rw [← h.1]; exact ht
 have := h.2 t v args'[t] hv (List.getElem?_eq_getElem ht')
 have hsz : t < (args'.toArray ++ Array.replicate (ntmps - args'.toArray.size) undef).size := by simp; omega
 have he : (args'.toArray ++ Array.replicate (ntmps - args'.toArray.size) undef).getD t undef = args'[t] := by
  simp only [Array.getD, hsz, dite_true]
  simp [ht']
 show VR M v _
 rw [he]; exact this
theorem cRes_ok (hE : C.E.Ok C.P) (l : LR M H L ML w) (f : FS M ML fr a.tmps) {g : ResultVar -> Sem Value} (g1 : ∀ t, g (.tmp t) = pure (a.tmps.getD t undef)) (g2 : ∀ b t, g (.cell b t) = (do loadVar t (← asAddr (a.tmps.getD b undef)))) : ∀ {rs : List ResultVar} {vs : List Value}, cRes C fr L rs = some vs →
  ∃ us : List Value, (rs.mapM g).run C.P w = .ok us w ∧ VL M vs us
 | [], vs, hr => by simp [cRes] at hr; subst hr; exact ⟨[], by simp, .nil M⟩
 | .tmp t :: rs, vs, hr => by
  simp only [cRes] at hr
  split at hr
  ·rename_i v vs' h1 h2
   simp at hr; subst hr
   obtain ⟨us, k1, k2⟩ := cRes_ok hE l f g1 g2 h2
   exact ⟨_ :: us, by simp only [List.mapM_cons, Sem.run_bind, g1, Sem.run_pure, Result.andThen_ok, k1], .cons (f.get t _ h1) k2⟩
  ·simp at hr
 | .cell b t :: rs, vs, hr => by
  simp only [cRes] at hr
  split at hr
  ·rename_i i off ti vs' h1 h2 h3
   split at hr
   ·rename_i m cs hL
    split at hr
    ·rename_i hlen
     split at hr
     ·rename_i v hv
      simp at hr; subst hr
      obtain ⟨e, e1, e2⟩ := f.get b _ h1
      obtain ⟨u, q1, q2⟩ := locLoad_ok hE l e1 hL h2 hlen hv
      obtain ⟨us, k1, k2⟩ := cRes_ok hE l f g1 g2 h3
      exact ⟨u :: us, by simp only [List.mapM_cons, Sem.run_bind, g2, e2, asAddr, Sem.run_pure, Result.andThen_ok, q1, k1], .cons q2 k2⟩
     ·simp at hr
    ·simp at hr
   ·simp at hr
  ·simp at hr
theorem decs_ok : ∀ {rs : List Tag} {vs : List Value} {x : Tup rs}, decs rs vs = some x -> vs = encs rs x
 | [], [], x, h => rfl
 | [], _ :: _, x, h => by simp [decs] at h
 | T :: r, [], x, h => by simp [decs] at h
 | T :: r, v :: vs, x, h => by
  simp only [decs] at h
  split at h
  ·rename_i y z h1 h2
   have h := Option.some.inj h
   subst h
   simp only [encs]
   rw [decs_ok h2]
   have : v = T.enc y := by
    unfold Tag.dec at h1
    unfold Tag.enc encC
    split at h1
    ·rename_i cs
     split at h1
     ·rename_i ha; rw [if_pos ha, ← T.ok _ _ h1]
     ·simp at h1
    ·simp at h1
    ·split at h1
     ·simp at h1
     ·rename_i ha; rw [if_neg ha, ← T.ok _ _ h1]
   rw [this]
  ·cases h
theorem leaves_marksI {M M' : Mp} {H H' : Heap} {w : World} {P : Program} {fn : Func} {tmps : Array Value} {R : Ending -> World -> Prop} {n : Nat} {I : World -> Prop}
  (hI : ∀ (w' : World) (r : Nat), I w' -> w'.heap[r]? = some (.deferred (some [])) -> I { w' with heap := w'.heap.setIfInBounds r (.deferred none) })
  (hR : ∀ w', Stp M H w M' H' w' -> I w' -> ∃ v, (results fn tmps).run P w' = .ok v w' ∧ R (.returned v) w') :
  ∀ (rs : List Nat) (w' : World), Stp M H w M' H' w' -> I w' -> rs.Nodup -> (∀ r ∈ rs, w.heap.size ≤ r ∧ w'.heap[r]? = some (.deferred (some []))) →
   LeavesInM Fence.wide n P fn tmps R (rs.map fun r => { target := .collected r, args := #[] }) .returning w'
 | [], w', hs, hi, _, _ => hR w' hs hi
 | r :: rs, w', hs, hi, hn, ha => by
  obtain ⟨h1, h2⟩ := ha r (by simp)
  have hlt := (Array.getElem?_eq_some_iff.1 h2).1
  refine ⟨by simp, .inl ⟨r, { w' with heap := w'.heap.setIfInBounds r (.deferred none) }, rfl, ?_, leaves_marksI hI hR rs _ (hs.unmark _ h1 h2) (hI _ _ hi h2) (List.nodup_cons.1 hn).2 ?_⟩⟩
  ·have hg : (getObj r).run P w' = .ok (.deferred (some [])) w' := by simp [getObj, Sem.run, h2]
   have hs' : ∀ o, (setObj r o).run P w' = .ok () { w' with heap := w'.heap.setIfInBounds r o } := fun o => by simp [setObj, Sem.run, h2]
   simp only [Instr.takeDeferred, Sem.run_bind, hg, Result.andThen_ok, hs', Sem.run_pure]
  ·intro q hq
   obtain ⟨g1, g2⟩ := ha q (by simp [hq])
   refine ⟨g1, ?_⟩
   have hqr : r ≠ q := fun e => (List.nodup_cons.1 hn).1 (e ▸ hq)
   show (w'.heap.setIfInBounds r _)[q]? = _
   rw [Array.getElem?_setIfInBounds_ne hqr]; exact g2
theorem LR.unmark {M : Mp} {H : Heap} {L : Loc} {ML : Ml} {w : World} (l : LR M H L ML w) {r : Nat} (hd : w.heap[r]? = some (.deferred (some []))) : LR M H L ML { w with heap := w.heap.setIfInBounds r (.deferred none) } := by
 refine ⟨l.len, fun i e m cs hi hL => ?_, l.sep1, l.sep2⟩
 obtain ⟨h1, h2, h3, h4, h5⟩ := l.loc i e m cs hi hL
 obtain ⟨c, t, fz, g, g'⟩ := h5 rfl
 refine ⟨h1, h2, h3, h4, fun _ => ⟨c, t, fz, ?_, g'⟩⟩
 show (w.heap.setIfInBounds r _)[e.blk]? = _
 rw [Array.getElem?_setIfInBounds_ne (fun q => by rw [q, g] at hd; simp at hd)]
 exact g
theorem call_of (hE : C.E.Ok C.P) {f : FuncId} {fn : Func} {c : Code} {h : Hnt} {rs : List Tag} {args : List Value} {k : Tup rs -> Heap -> Prop} (hf : C.P.funcs[f]? = some fn) (hb : fn.body = some c) (hn : (fn.name == "runtime.NumGoroutine") = false)
  (hc : cFn C loc fn.ntmps fn.results.toList rs c h args H k) : CALL C.P rs f args H k := by
 refine ⟨⟨fn, hf, by simp [hb], hn⟩, fun n M w args' hr hv => ?_⟩
 unfold cFn at hc
 have hg := comp_ok hE c none (.inr rfl) h _ _ _ _ hc
 have l0 : LR M H [] [] w := ⟨rfl, fun i e m cs hi => by simp at hi, fun i j e e' _ hi => by simp at hi, fun i e hi => by simp at hi⟩
 refine callsIn_of_wp_marks hf hb trivial (wpIn_mono (hg n M [] _ w hr l0 (cEnter_ok hv)) ?_)
 rintro x a' w' ⟨e, fr', L', H', M', ML', q1, q2, q3⟩
 have hst : Stp M H w M' H' w' := q3.st.st.toStp fun i e hi => by simp at hi
 obtain ⟨rs0, e0, n0, a0⟩ := q3.defers
 have fin : (match cRes C fr' L' fn.results.toList with
   | some vs => cRet rs vs fun x => k x H'
   | none => False) -> LeavesInM Fence.wide n C.P fn a'.tmps (fun e w' => ∃ v v' M' H', e = .returned v' ∧ Stp M H w M' H' w' ∧ VR M' v v' ∧ ∃ x : Tup rs, v = tupleOf (encs rs x) ∧ k x H') a'.defers .returning w' := by
  intro hres
  split at hres
  ·rename_i vs hvs
   unfold cRet at hres
   split at hres
   ·rename_i x hx
    have hvx := decs_ok hx
    rw [e0]
    simp only [List.append_nil]
    refine leaves_marksI (M := M) (M' := M') (I := LR M' H' L' ML') (fun _ _ hi hd => hi.unmark hd) (fun w'' hs hi => ?_) rs0 w' hst q3.lr n0 a0
    obtain ⟨us, l1, l2⟩ := cRes_ok (g := fun r => match r with | .tmp t => pure (a'.tmps.getD t undef) | .cell b t => do loadVar t (← asAddr (a'.tmps.getD b undef))) hE hi q3.fs (fun _ => rfl) (fun _ _ => rfl) hvs
    refine ⟨_, ?_, _, _, M', H', rfl, hs, tupleOf_ok l2, x, by rw [hvx], hres⟩
    unfold results
    rw [Array.mapM_eq_mapM_toList]
    simp only [Sem.run_bind, Sem.run_map, Sem.run_pure]
    erw [l1]
    rfl
   ·exact hres.elim
  ·exact hres.elim
 cases e with
 | normal => cases x <;> first | exact q2.elim | exact fin q1
 | ret => cases x <;> first | exact q2.elim | exact fin q1
 | exit i => exact q1.elim
theorem EV.mono {P : Program} {g : FuncId} {args : List Value} {Q Q' : Value -> Heap -> Prop} (h : EV P g args H Q) (hq : ∀ v H', Q v H' -> Q' v H') : EV P g args H Q' :=
 ⟨h.1, fun n M w args' hr hv => (h.2 n M w args' hr hv).mono fun _ _ ⟨v, v', M', H', q1, q2, q3, q4⟩ => ⟨v, v', M', H', q1, q2, q3, hq v H' q4⟩⟩
theorem CALL.mono {P : Program} {rs : List Tag} {g : FuncId} {args : List Value} {k k' : Tup rs -> Heap -> Prop} (h : CALL P rs g args H k) (hk : ∀ x H', k x H' -> k' x H') : CALL P rs g args H k' :=
 EV.mono h fun _ _ ⟨x, q1, q2⟩ => ⟨x, q1, hk x _ q2⟩
theorem EV.law {P : Program} {g : FuncId} {args args' : List Value} (h : EV P g args H fun v _ => v = .bool true) (hr : HR M H w) (hv : VL M args args') (hn : ∀ b, ¬ writB H b) :
  Calls P g args'.toArray w fun e w' => e = .returned (.bool true) ∧ RowKit.Below w.heap.size w w' := by
 refine (callsIn_wide (n := 0)).1 ((h.2 0 M w args' hr hv).mono ?_)
 rintro e w' ⟨v, v', M', H', rfl, hs, hb, rfl⟩
 have := hb.of_bool
 subst this
 exact ⟨rfl, hs.below hn⟩
end Go.Proofs.YtolekmhhkopooaaGreatDoor.Zq
end
section
namespace Go.Proofs.YtolekmhhkopooaaGreatDoor.Zq
abbrev T_int (k : IntKind) : Tag := ⟨Int, false, 1, fun x => [.int k x], fun cs => match cs with | [.int k' x] => if k' = k then some x else none | _ => none, fun cs x h => by
 split at h
 ·split at h
  ·rename_i e; subst e; simp at h; subst h; rfl
  ·simp at h
 ·simp at h⟩
abbrev T_bool : Tag := ⟨Bool, false, 1, fun x => [.bool x], fun cs => match cs with | [.bool x] => some x | _ => none, fun cs x h => by
 split at h
 ·simp at h; subst h; rfl
 ·simp at h⟩
abbrev T_str : Tag := ⟨ByteArray, false, 1, fun x => [.string x], fun cs => match cs with | [.string x] => some x | _ => none, fun cs x h => by
 split at h
 ·simp at h; subst h; rfl
 ·simp at h⟩
abbrev T_ptr : Tag := ⟨Option Addr, false, 1, fun x => [.pointer x], fun cs => match cs with | [.pointer x] => some x | _ => none, fun cs x h => by
 split at h
 ·simp at h; subst h; rfl
 ·simp at h⟩
structure Sl where
 p : Option Addr
 len : Nat
 cap : Nat
def Sl.v (s : Sl) : Value := .slice s.p s.len s.cap
abbrev T_sl : Tag := ⟨Sl, false, 1, fun x => [.slice x.p x.len x.cap], fun cs => match cs with | [.slice p n c] => some ⟨p, n, c⟩ | _ => none, fun cs x h => by
 split at h
 ·simp at h; subst h; rfl
 ·simp at h⟩
abbrev T_any : Tag := ⟨Value, false, 1, fun x => [x], fun cs => match cs with | [x] => some x | _ => none, fun cs x h => by
 split at h
 ·simp at h; subst h; rfl
 ·simp at h⟩
def NEW (H : Heap) (cs : List Value) (sz : Nat) (k : Heap -> Prop) : Prop := k (mk H cs sz false)
def bodyOf (fn : Func) : Code := match fn.body with | some c => c | none => .skip
theorem call_print {C : CEnv} (hE : C.E.Ok C.P) {f : FuncId} {fn : Func} {h : Hnt} {loc : List Nat} {rs : List Tag} {args : List Value} {H : Heap} {k : Tup rs -> Heap -> Prop} {p : Prop} (hf : C.P.funcs[f]? = some fn) (hb : fn.body = some (bodyOf fn)) (hn : (fn.name == "runtime.NumGoroutine") = false)
  (he : p = cFn C loc fn.ntmps fn.results.toList rs (bodyOf fn) h args H k) (hp : p) : CALL C.P rs f args H k :=
 call_of hE hf hb hn (he ▸ hp)
end Go.Proofs.YtolekmhhkopooaaGreatDoor.Zq
end
section
namespace Go.Proofs.YtolekmhhkopooaaGreatDoor.Zq
theorem LD_of {T : Tag} {H : Heap} {b off : Nat} {c : List Value} {sz : Nat} {o ro : Bool} {k : T.α -> Prop} (x : T.α) (A B : List Value) (h : H[b]? = some (.row c sz o ro true)) (hc : c = A ++ (T.cells x ++ B)) (ho : off = A.length) (hn : (T.cells x).length = T.n) (hk : k x) : LD T H b off k := by
 refine ⟨x, ?_, hk⟩
 unfold rd
 rw [h]
 subst hc; subst ho
 simp only
 rw [if_pos (by simp; omega), List.drop_left, ← hn, List.take_left]
theorem ST_of {H : Heap} {b off : Nat} {c : List Value} {sz : Nat} {o : Bool} {vs : List Value} {k : Heap -> Prop} (A B C : List Value) (h : H[b]? = some (.row c sz o false true)) (hc : c = A ++ (B ++ C)) (ho : off = A.length) (hl : B.length = vs.length) (hv : vs.all cell1 = true) (hk : k (H.set b (.row (A ++ (vs ++ C)) sz o false true))) : ST H b off vs k := by
 refine ⟨_, ?_, hk⟩
 unfold wr
 rw [h]
 subst hc; subst ho
 simp only
 rw [if_pos (by simp; omega), if_pos hv]
 unfold patch
 rw [List.take_left, ← List.drop_drop, List.drop_left, ← hl, List.drop_left, List.append_assoc]
theorem ifB_of {g : Bool} {a b : Prop} (h1 : g = true -> a) (h2 : g = false -> b) : ifB g a b := by
 cases g
 ·exact h2 rfl
 ·exact h1 rfl
theorem ifB_t {g : Bool} {a b : Prop} (h : g = true) (h1 : a) : ifB g a b := ifB_of (fun _ => h1) (fun q => by simp [h] at q)
theorem ifB_f {g : Bool} {a b : Prop} (h : g = false) (h1 : b) : ifB g a b := ifB_of (fun q => by simp [h] at q) (fun _ => h1)
theorem JOIN_of {S : Type} {A : (S -> Heap -> Prop) -> Prop} {B : S -> Heap -> Prop} (h : A B) : JOIN A B := h
theorem JOIN_inv {S : Type} {A : (S -> Heap -> Prop) -> Prop} {B : S -> Heap -> Prop} (I : S -> Heap -> Prop) (hA : ∀ j : S -> Heap -> Prop, (∀ z H, I z H -> j z H) -> A j) (h : ∀ z H, I z H -> B z H) : JOIN A B := hA B h
theorem JOIN_to {S : Type} {A : (S -> Heap -> Prop) -> Prop} {B : S -> Heap -> Prop} (z : S) (H : Heap) (hA : ∀ j : S -> Heap -> Prop, j z H -> A j) (h : B z H) : JOIN A B := hA B h
theorem loop_of {S : Type} {F : (S -> Heap -> Prop) -> S -> Heap -> Prop} (I : S -> Heap -> Prop) (μ : S -> Nat) (hF : ∀ (G : S -> Heap -> Prop) s H, I s H -> (∀ s' H', I s' H' -> μ s' < μ s -> G s' H') -> F G s H) {s : S} {H : Heap} (h : I s H) : LOOP F s H := by
 refine ⟨μ s + 1, ?_⟩
 have : ∀ n s H, μ s < n -> I s H -> itP F n s H := by
  intro n
  induction n with
  | zero => intro s H h; omega
  | succ n ih => intro s H hm hi; exact hF _ s H hi fun s' H' h1 h2 => ih s' H' (by omega) h1
 exact this _ s H (by omega) h
def Fr (b : Nat) (H H' : Heap) : Prop := H.length ≤ H'.length ∧ ∀ c, c < H.length -> c ≠ b -> H'[c]? = H[c]?
theorem Fr.refl (b : Nat) (H : Heap) : Fr b H H := ⟨Nat.le_refl _, fun _ _ _ => rfl⟩
theorem Fr.trans {b : Nat} {H H' H'' : Heap} (h : Fr b H H') (k : Fr b H' H'') : Fr b H H'' :=
 ⟨Nat.le_trans h.1 k.1, fun c hc hb => by rw [k.2 c (Nat.lt_of_lt_of_le hc h.1) hb, h.2 c hc hb]⟩
theorem Fr.set (b : Nat) (H : Heap) (x : ABlk) : Fr b H (H.set b x) := ⟨by simp, fun c _ hb => by rw [List.getElem?_set_ne (Ne.symm hb)]⟩
theorem Fr.app (b : Nat) (H K : Heap) : Fr b H (H ++ K) := ⟨by simp, fun c hc _ => List.getElem?_append_left hc⟩
theorem Fr.get {b : Nat} {H H' : Heap} (h : Fr b H H') {c : Nat} {x : ABlk} (hb : c ≠ b) (hx : H[c]? = some x) : H'[c]? = some x := by
 rw [h.2 c (List.getElem?_eq_some_iff.1 hx).1 hb, hx]
theorem get_lt {H : Heap} {c : Nat} {x : ABlk} (h : H[c]? = some x) : c < H.length := (List.getElem?_eq_some_iff.1 h).1
theorem set_get {H : Heap} {b : Nat} {x : ABlk} (h : b < H.length) : (H.set b x)[b]? = some x := by simp [h]
theorem i64w {x : Int} (h : -9223372036854775808 ≤ x) (k : x ≤ 9223372036854775807) : IntKind.wrap .i64 x = x := IntWalk.i64_in x ⟨h, k⟩
def fl (T : Tag) (l : List T.α) : List Value := l.flatMap T.cells
theorem fl_app (T : Tag) (a b : List T.α) : fl T (a ++ b) = fl T a ++ fl T b := by simp [fl]
theorem fl_len {T : Tag} (hT : ∀ x, (T.cells x).length = T.n) : ∀ l : List T.α, (fl T l).length = l.length * T.n
 | [] => by simp [fl]
 | x :: r => by
  have := fl_len hT r
  simp only [fl, List.flatMap_cons, List.length_append, hT, List.length_cons] at this ⊢
  rw [this, Nat.add_mul]; omega
theorem fl_cut {T : Tag} (l : List T.α) (i : Nat) (x : T.α) (h : l[i]? = some x) : fl T l = fl T (l.take i) ++ (T.cells x ++ fl T (l.drop (i + 1))) := by
 obtain ⟨hi, hx⟩ := List.getElem?_eq_some_iff.1 h
 have : l = l.take i ++ (x :: l.drop (i + 1)) := by
  rw [← hx, List.getElem_cons_drop]; simp
 conv => lhs; rw [this]
 simp [fl]
def SlR (T : Tag) (H : Heap) (s : Sl) (l : List T.α) : Prop :=
 s.len = l.length ∧ (l = [] ∨ ∃ b B sz o ro, s.p = some ⟨b, 0, none⟩ ∧ H[b]? = some (.row (fl T l ++ B) sz o ro true))
end Go.Proofs.YtolekmhhkopooaaGreatDoor.Zq
end
section
namespace Go.Proofs.YtolekmhhkopooaaGreatDoor.Zq
def Frs (B : List Nat) (H H' : Heap) : Prop := H.length ≤ H'.length ∧ ∀ c, c < H.length -> c ∉ B -> H'[c]? = H[c]?
theorem Frs.refl (B : List Nat) (H : Heap) : Frs B H H := ⟨Nat.le_refl _, fun _ _ _ => rfl⟩
theorem Frs.trans {B : List Nat} {H H' H'' : Heap} (h : Frs B H H') (k : Frs B H' H'') : Frs B H H'' :=
 ⟨Nat.le_trans h.1 k.1, fun c hc hb => by rw [k.2 c (Nat.lt_of_lt_of_le hc h.1) hb, h.2 c hc hb]⟩
theorem Frs.then {B C : List Nat} {H H' H'' : Heap} (h : Frs B H H') (k : Frs C H' H'') (hC : ∀ c ∈ C, c ∈ B ∨ H.length ≤ c) : Frs B H H'' :=
 ⟨Nat.le_trans h.1 k.1, fun c hc hb => by rw [k.2 c (Nat.lt_of_lt_of_le hc h.1) (fun hm => by rcases hC c hm with q | q; exact hb q; omega), h.2 c hc hb]⟩
theorem Frs.mono {B C : List Nat} {H H' : Heap} (h : Frs B H H') (hB : ∀ c ∈ B, c ∈ C) : Frs C H H' := ⟨h.1, fun c hc hb => h.2 c hc fun q => hb (hB c q)⟩
theorem Frs.get {B : List Nat} {H H' : Heap} (h : Frs B H H') {c : Nat} {x : ABlk} (hb : c ∉ B) (hx : H[c]? = some x) : H'[c]? = some x := by rw [h.2 c (get_lt hx) hb, hx]
theorem Frs.app (B : List Nat) (H K : Heap) : Frs B H (H ++ K) := ⟨by simp, fun c hc _ => List.getElem?_append_left hc⟩
theorem Frs.set {B : List Nat} {b : Nat} (H : Heap) (x : ABlk) (hb : b ∈ B) : Frs B H (H.set b x) := ⟨by simp, fun c _ hc => by rw [List.getElem?_set_ne (by rintro rfl; exact hc hb)]⟩
theorem Fr.frs {b : Nat} {H H' : Heap} (h : Fr b H H') : Frs [b] H H' := ⟨h.1, fun c hc hb => h.2 c hc (by simpa using hb)⟩
theorem Frs.fr {b : Nat} {H H' : Heap} (h : Frs [b] H H') : Fr b H H' := ⟨h.1, fun c hc hb => h.2 c hc (by simpa using hb)⟩
def Sl.off (s : Sl) (B : List Nat) : Prop := ∀ b ∈ B, s.p ≠ some ⟨b, 0, none⟩
theorem SlR.frs {T : Tag} {H H' : Heap} {s : Sl} {l : List T.α} {B : List Nat} (h : SlR T H s l) (f : Frs B H H') (o : s.off B) : SlR T H' s l := by
 obtain ⟨h1, h2 | ⟨c, D, sz, op, ro, h3, h4⟩⟩ := h
 ·exact ⟨h1, .inl h2⟩
 ·exact ⟨h1, .inr ⟨c, D, sz, op, ro, h3, f.get (fun q => o c q h3) h4⟩⟩
def Ow (T : Tag) (H : Heap) (s : Sl) (l sp : List T.α) : Prop :=
 s.len = l.length ∧ s.cap = l.length + sp.length ∧ s.cap ≤ 9223372036854775807 ∧ (s.p = none ∧ l = [] ∧ sp = [] ∨ ∃ c, s.p = some ⟨c, 0, none⟩ ∧ H[c]? = some (.row (fl T (l ++ sp)) T.n false false true))
theorem Ow.nil (T : Tag) (H : Heap) : Ow T H ⟨none, 0, 0⟩ [] [] := ⟨rfl, rfl, by simp, .inl ⟨rfl, rfl, rfl⟩⟩
theorem Ow.rd {T : Tag} {H : Heap} {s : Sl} {l sp : List T.α} (h : Ow T H s l sp) : SlR T H s l := by
 obtain ⟨h1, _, _, ⟨_, h3, _⟩ | ⟨c, h4, h5⟩⟩ := h
 ·exact ⟨h1, .inl h3⟩
 ·exact ⟨h1, .inr ⟨c, fl T sp, T.n, false, false, h4, by rw [h5, fl_app]⟩⟩
theorem Ow.frs {T : Tag} {H H' : Heap} {s : Sl} {l sp : List T.α} {B : List Nat} (h : Ow T H s l sp) (f : Frs B H H') (o : s.off B) : Ow T H' s l sp := by
 obtain ⟨h1, h2, h0, h3 | ⟨c, h4, h5⟩⟩ := h
 ·exact ⟨h1, h2, h0, .inl h3⟩
 ·exact ⟨h1, h2, h0, .inr ⟨c, h4, f.get (fun q => o c q h4) h5⟩⟩
theorem Ow.lt {T : Tag} {H : Heap} {s : Sl} {l sp : List T.α} (h : Ow T H s l sp) {c : Nat} (hc : s.p = some ⟨c, 0, none⟩) : c < H.length := by
 obtain ⟨_, _, _, ⟨h3, _⟩ | ⟨c', h4, h5⟩⟩ := h
 ·rw [h3] at hc; cases hc
 ·rw [h4] at hc; simp at hc; subst hc; exact get_lt h5
structure TyS (E : Env) (T : Tag) (ts : TypeId) (z : T.α) : Prop where
 w : ∃ ti e te, E.ty ts = some ti ∧ ti.k = .slice e ∧ E.ty e = some te ∧ te.size = T.n ∧ te.bytes ≠ 0 ∧ te.bytes ≤ 4096 ∧ te.zero = T.cells z
 n : 0 < T.n
 len : ∀ x, (T.cells x).length = T.n
 one : ∀ x, (T.cells x).all cell1 = true
theorem fl_one {T : Tag} (h1 : ∀ x, (T.cells x).all cell1 = true) : ∀ l : List T.α, (fl T l).all cell1 = true
 | [] => rfl
 | x :: r => by
  have := fl_one h1 r
  simp only [fl, List.flatMap_cons, List.all_append, Bool.and_eq_true]
  exact ⟨h1 x, this⟩
theorem rep_fl {T : Tag} (z : T.α) : ∀ n : Nat, rep n (T.cells z) = fl T (List.replicate n z)
 | 0 => rfl
 | n + 1 => by
  have := rep_fl z n
  simp only [rep, this, List.replicate_succ, fl, List.flatMap_cons]
theorem fl_take {T : Tag} (hT : ∀ x, (T.cells x).length = T.n) (l : List T.α) (m : Nat) : (fl T l).take (m * T.n) = fl T (l.take m) := by
 by_cases h : m ≤ l.length
 ·conv => lhs; rw [← List.take_append_drop m l, fl_app]
  rw [List.take_left' (by rw [fl_len hT]; simp [Nat.min_eq_left h])]
 ·rw [List.take_of_length_le (by rw [fl_len hT]; exact Nat.mul_le_mul_right _ (by omega)), List.take_of_length_le (by omega)]
theorem fl_drop {T : Tag} (hT : ∀ x, (T.cells x).length = T.n) (l : List T.α) (m : Nat) : (fl T l).drop (m * T.n) = fl T (l.drop m) := by
 by_cases h : m ≤ l.length
 ·conv => lhs; rw [← List.take_append_drop m l, fl_app]
  rw [List.drop_left' (by rw [fl_len hT]; simp [Nat.min_eq_left h])]
 ·rw [List.drop_of_length_le (by rw [fl_len hT]; exact Nat.mul_le_mul_right _ (by omega)), List.drop_of_length_le (by omega)]; rfl
def After (s : Sl) (H H' : Heap) : Prop := H.length ≤ H'.length ∧ ∀ d, d < H.length -> s.p ≠ some ⟨d, 0, none⟩ -> H'[d]? = H[d]?
theorem After.refl (s : Sl) (H : Heap) : After s H H := ⟨Nat.le_refl _, fun _ _ _ => rfl⟩
theorem After.frs {s : Sl} {H H' : Heap} {B : List Nat} (h : After s H H') (hb : ∀ d, s.p = some ⟨d, 0, none⟩ -> d ∈ B ∨ H.length ≤ d) : Frs B H H' :=
 ⟨h.1, fun c hc hn => h.2 c hc fun e => by rcases hb c e with q | q; exact hn q; omega⟩
theorem app_c {E : Env} {T : Tag} {ts tx : TypeId} {z : T.α} (ty : TyS E T ts z) {tj : TI} (h2 : E.ty tx = some tj) (h4 : ∀ k, tj.k ≠ .int k)
  {H : Heap} {s : Sl} {l sp : List T.α} (xs : List T.α) {m : Nat} (hm : m = xs.length) {cs : List Value} (hcs : cs = fl T xs) (hbig : 2 * (l.length + xs.length) * 4096 ≤ 281474976710656) (h : Ow T H s l sp) {k : Sl -> Heap -> Prop}
  (hk : ∀ s' H' sp', Ow T H' s' (l ++ xs) sp' -> (s'.p = s.p ∨ s'.p = some ⟨H.length, 0, none⟩ ∧ H.length < H'.length) -> After s H H' -> k s' H') : APP T_sl (lenV s.v + m) (aAppE E [ts, tx] s.v m cs H) k := by
 obtain ⟨⟨ti, e, te, e1, e2, e3, e4, e5, e6, e7⟩, hn, hT, hone⟩ := ty
 subst hm; subst hcs
 obtain ⟨p, n, c⟩ := s
 obtain ⟨g1, g2, g0, g3⟩ := h
 simp only at g1 g2 g0 g3; subst g1; subst g2
 have hxl : (fl T xs).length = xs.length * T.n := fl_len hT xs
 have hb2 : 2 * (l.length + xs.length) * te.bytes ≤ 281474976710656 := Nat.le_trans (Nat.mul_le_mul_left _ e6) hbig
 have hne : te.size ≠ 0 := by omega
 intro x hx
 have hcap : l.length + xs.length + x ≤ 9223372036854775807 := by
  rcases hx with rfl | hx
  ·omega
  ·exact hx
 have grow : ∀ old : List Value, old = fl T l -> growE E [ts, tx] l.length xs.length old (fl T xs) H x = some (.slice (some ⟨H.length, 0, none⟩) (l.length + xs.length) (l.length + xs.length + x), mk H (fl T (l ++ xs ++ List.replicate x z)) T.n false) := by
  rintro old rfl
  have hol := fl_len hT l
  have : growE E [ts, tx] l.length xs.length (fl T l) (fl T xs) H x = (if te.size = 0 ∨ (fl T xs).length ≠ xs.length * te.size ∨ (fl T l).length ≠ l.length * te.size then none
     else if 2 * (l.length + xs.length) * te.bytes ≤ 281474976710656 ∧ te.bytes ≠ 0 then some (.slice (some ⟨H.length, 0, none⟩) (l.length + xs.length) (l.length + xs.length + x), mk H (fl T l ++ fl T xs ++ rep x te.zero) te.size false) else none) := by
   unfold growE
   simp only [e1, h2, e2, e3]
  rw [this, e4, if_neg (by omega), if_pos ⟨hb2, e5⟩, e7, rep_fl, fl_app, fl_app]
 have done : k ⟨some ⟨H.length, 0, none⟩, l.length + xs.length, l.length + xs.length + x⟩ (mk H (fl T (l ++ xs ++ List.replicate x z)) T.n false) := by
  refine hk _ _ (List.replicate x z) ⟨by simp, by simp, hcap, .inr ⟨H.length, rfl, ?_⟩⟩ (.inr ⟨rfl, by simp [mk]⟩) ⟨by simp [mk], fun d hd _ => by simp [mk, List.getElem?_append_left hd]⟩
  simp [mk]
 have apx : ∀ (s2 : Value), aAppX E [ts, tx] s2 xs.length (fl T xs) H = (if te.size = 0 ∨ (fl T xs).length ≠ xs.length * te.size then none else
    match s2 with
    | .slice none 0 0 =>
     if xs.length = 0 then some (.slice none 0 0, H)
     else if 2 * xs.length * te.bytes ≤ 281474976710656 ∧ te.bytes ≠ 0 ∧ (fl T xs).all cell1 = true then some (.slice (some ⟨H.length, 0, none⟩) xs.length xs.length, mk H (fl T xs) te.size true) else none
    | .slice (some ⟨b, off, none⟩) len cap =>
     if xs.length = 0 then (if len ≤ cap then some (s2, H) else none)
     else if len + xs.length ≤ cap then (wr H b (off + len * te.size) (fl T xs)).bind fun H' => some (.slice (some ⟨b, off, none⟩) (len + xs.length) cap, H')
     else if 2 * (len + xs.length) * te.bytes ≤ 281474976710656 ∧ te.bytes ≠ 0 ∧ (fl T xs).all cell1 = true then
      (rd H b off (len * te.size)).bind fun old =>
       if exact H b off cap then
        some (.slice (some ⟨H.length, 0, none⟩) (len + xs.length) (len + xs.length), mk H (old ++ fl T xs) te.size true)
       else
        match H[b]? with
        | some (.row _ sz _ false true) => if sz = te.size then some (.slice (some ⟨H.length, 0, none⟩) (len + xs.length) (len + xs.length), mk (kill H b) (old ++ fl T xs) te.size true) else none
        | _ => none
     else none
    | .slice (some ⟨b, off, some 0⟩) 0 0 => if xs.length = 0 then some (.slice (some ⟨b, off, some 0⟩) 0 0, H) else none
    | _ => none) := fun s2 => by
  unfold aAppX
  simp only [e1, h2, e2, e3, Option.bind_some]
  rfl
 have hif : ¬ (te.size = 0 ∨ (fl T xs).length ≠ xs.length * te.size) := by rw [e4]; omega
 rcases g3 with ⟨rfl, rfl, rfl⟩ | ⟨c, rfl, hc⟩
 ·by_cases hx0 : xs = []
  ·subst hx0
   have v0 : aAppE E [ts, tx] (.slice none 0 0) ([] : List T.α).length (fl T []) H x = some (.slice none 0 0, H) := by
    unfold aAppE
    simp only [List.length_nil, if_true]
    have := apx (.slice none 0 0)
    simp only [List.length_nil] at this
    rw [this, if_neg (by simpa using hif)]
    rfl
   exact ⟨⟨none, 0, 0⟩, H, v0, hk _ _ [] (Ow.nil T H) (.inl rfl) (After.refl _ _)⟩
  ·have v0 : aAppE E [ts, tx] (.slice none 0 0) xs.length (fl T xs) H x = some (.slice (some ⟨H.length, 0, none⟩) (([] : List T.α).length + xs.length) (([] : List T.α).length + xs.length + x), mk H (fl T ([] ++ xs ++ List.replicate x z)) T.n false) := by
    unfold aAppE
    simp only
    rw [if_neg (by simpa using hx0)]
    exact grow [] rfl
   exact ⟨⟨some ⟨H.length, 0, none⟩, ([] : List T.α).length + xs.length, ([] : List T.α).length + xs.length + x⟩, _, v0, done⟩
 ·have hlt := get_lt hc
  have hex : Zq.exact H c 0 (l.length + sp.length) = true := by unfold Zq.exact; rw [hc]; rfl
  by_cases hroom : xs.length ≠ 0 ∧ l.length + sp.length < l.length + xs.length
  ·have v0 : aAppE E [ts, tx] (.slice (some ⟨c, 0, none⟩) l.length (l.length + sp.length)) xs.length (fl T xs) H x = some (.slice (some ⟨H.length, 0, none⟩) (l.length + xs.length) (l.length + xs.length + x), mk H (fl T (l ++ xs ++ List.replicate x z)) T.n false) := by
    unfold aAppE
    simp only
    rw [if_pos ⟨hroom.1, hroom.2, hex⟩]
    have helt : eltE E [ts, tx] = T.n := by simp [eltE, e1, e2, e3, e4]
    have hrd : Zq.rd H c 0 (l.length * eltE E [ts, tx]) = some (fl T l) := by
     unfold Zq.rd
     rw [hc, helt]
     simp only
     rw [if_pos (by rw [fl_len hT, Nat.zero_add]; exact Nat.mul_le_mul_right _ (by simp)), List.drop_zero, fl_take hT, List.take_left]
    rw [hrd]
    exact grow _ rfl
   exact ⟨⟨some ⟨H.length, 0, none⟩, l.length + xs.length, l.length + xs.length + x⟩, _, v0, done⟩
  ·by_cases hx0 : xs = []
   ·subst hx0
    have v0 : aAppE E [ts, tx] (.slice (some ⟨c, 0, none⟩) l.length (l.length + sp.length)) ([] : List T.α).length (fl T []) H x = some (.slice (some ⟨c, 0, none⟩) l.length (l.length + sp.length), H) := by
     unfold aAppE
     simp only
     rw [if_neg (fun q => hroom ⟨q.1, q.2.1⟩), apx, if_neg hif]
     simp
    exact ⟨⟨some ⟨c, 0, none⟩, l.length, l.length + sp.length⟩, H, v0, hk _ _ sp ⟨by simp, by simp, g0, .inr ⟨c, rfl, by simpa using hc⟩⟩ (.inl rfl) (After.refl _ _)⟩
   ·have hxl0 : xs.length ≠ 0 := by simpa using hx0
    have hsp : xs.length ≤ sp.length := by omega
    have hw : wr H c (0 + l.length * te.size) (fl T xs) = some (H.set c (.row (fl T (l ++ xs ++ sp.drop xs.length)) T.n false false true)) := by
     unfold wr
     rw [hc]
     simp only
     have hsz : (fl T (l ++ sp)).length = (l.length + sp.length) * T.n := by rw [fl_len hT]; simp
     rw [if_pos (by rw [hsz, hxl, e4, Nat.zero_add, ← Nat.add_mul]; exact Nat.mul_le_mul_right _ (by omega)), if_pos (fl_one hone xs)]
     congr 3
     unfold patch
     rw [hxl, e4, Nat.zero_add, ← Nat.add_mul, fl_take hT, fl_drop hT, List.take_left, fl_app, fl_app]
     congr 2
     rw [← List.drop_drop, List.drop_left]
    have v0 : aAppE E [ts, tx] (.slice (some ⟨c, 0, none⟩) l.length (l.length + sp.length)) xs.length (fl T xs) H x = some (.slice (some ⟨c, 0, none⟩) (l.length + xs.length) (l.length + sp.length), H.set c (.row (fl T (l ++ xs ++ sp.drop xs.length)) T.n false false true)) := by
     unfold aAppE
     simp only
     rw [if_neg (fun q => hroom ⟨q.1, q.2.1⟩), apx, if_neg hif]
     simp only
     rw [if_neg hxl0, if_pos (by omega), hw]
     rfl
    exact ⟨⟨some ⟨c, 0, none⟩, l.length + xs.length, l.length + sp.length⟩, _, v0, hk _ _ (sp.drop xs.length) ⟨by simp, by simp; omega, g0, .inr ⟨c, rfl, by rw [set_get hlt]⟩⟩ (.inl rfl) ⟨by simp, fun d _ hd => by rw [List.getElem?_set_ne (by rintro rfl; exact hd rfl)]⟩⟩
def SlF (T : Tag) (H : Heap) (s : Sl) (l : List T.α) : Prop :=
 s.len = l.length ∧ ((s.p = none ∧ l = [] ∧ s.cap = 0) ∨ (∃ b off, s.p = some ⟨b, off, some 0⟩ ∧ l = [] ∧ s.cap = 0) ∨ ∃ b A B sz o ro, s.p = some ⟨b, A.length, none⟩ ∧ H[b]? = some (.row (A ++ (fl T l ++ B)) sz o ro true))
theorem SlF.frs {T : Tag} {H H' : Heap} {s : Sl} {l : List T.α} {B : List Nat} (h : SlF T H s l) (f : Frs B H H') (o : ∀ b ∈ B, ∀ off, s.p ≠ some ⟨b, off, none⟩) : SlF T H' s l := by
 obtain ⟨h1, h2 | h2 | ⟨c, A, D, sz, op, ro, h3, h4⟩⟩ := h
 ·exact ⟨h1, .inl h2⟩
 ·exact ⟨h1, .inr (.inl h2)⟩
 ·exact ⟨h1, .inr (.inr ⟨c, A, D, sz, op, ro, h3, f.get (fun q => o c q _ h3) h4⟩)⟩
theorem Ow.slf {T : Tag} {H : Heap} {s : Sl} {l sp : List T.α} (h : Ow T H s l sp) : SlF T H s l := by
 obtain ⟨h1, h2, _, ⟨h3, h4, h5⟩ | ⟨c, h4, h5⟩⟩ := h
 ·subst h4; subst h5; exact ⟨h1, .inl ⟨h3, rfl, by simpa using h2⟩⟩
 ·exact ⟨h1, .inr (.inr ⟨c, [], fl T sp, T.n, false, false, h4, by rw [h5, fl_app]; rfl⟩)⟩
theorem Ow.pre {T : Tag} {H : Heap} {s : Sl} {l sp : List T.α} (h : Ow T H s l sp) (n c : Nat) (hn : n ≤ l.length) (hc : s.p = none -> c = 0) : SlF T H ⟨s.p, n, c⟩ (l.take n) := by
 obtain ⟨h1, h2, _, ⟨h3, h4, h5⟩ | ⟨d, h4, h5⟩⟩ := h
 ·subst h4; subst h5; exact ⟨by simp at hn; simpa using hn, .inl ⟨h3, by simp, hc h3⟩⟩
 ·exact ⟨by simp; omega, .inr (.inr ⟨d, [], fl T (l.drop n ++ sp), T.n, false, false, h4, by rw [h5, ← fl_app, ← List.append_assoc, List.take_append_drop]; rfl⟩)⟩
theorem idx_ldF {T : Tag} (hT : ∀ x, (T.cells x).length = T.n) {H : Heap} {s : Sl} {l : List T.α} (h : SlF T H s l) {i : Int} {n : Nat} {x : T.α} (hi : i = n) (hx : l[n]? = some x) {k : T.α -> Prop} {sz : Nat} (hz : sz = T.n) (hk : k x) : IDX s.p s.len i sz fun b o => LD T H b o k := by
 have hl := (List.getElem?_eq_some_iff.1 hx).1
 obtain ⟨h1, ⟨_, h2, _⟩ | ⟨_, _, _, h2, _⟩ | ⟨b, A, B, z, o, ro, h3, h4⟩⟩ := h
 ·subst h2; simp at hl
 ·subst h2; simp at hl
 ·unfold IDX NIL
  rw [h3]
  refine ⟨⟨by omega, by omega⟩, ?_⟩
  refine LD_of x (A ++ fl T (l.take n)) (fl T (l.drop (n + 1)) ++ B) h4 ?_ ?_ (hT x) hk
  ·rw [fl_cut l n x hx]; simp [List.append_assoc]
  ·rw [List.length_append, fl_len hT, hi, hz, List.length_take, Nat.min_eq_left (by omega)]; simp
theorem apps_c {E : Env} {T : Tag} {ts tx : TypeId} {z : T.α} (ty : TyS E T ts z) {tj : TI} (h2 : E.ty tx = some tj) (h4 : ∀ k, tj.k ≠ .int k)
  {H : Heap} {s x : Sl} {l sp xs : List T.α} (hx : SlF T H x xs) (hbig : 2 * (l.length + xs.length) * 4096 ≤ 281474976710656) (h : Ow T H s l sp) {k : Sl -> Heap -> Prop}
  (hk : ∀ s' H' sp', Ow T H' s' (l ++ xs) sp' -> (s'.p = s.p ∨ s'.p = some ⟨H.length, 0, none⟩ ∧ H.length < H'.length) -> After s H H' -> k s' H') : APP T_sl (lenV s.v + (lenX x.v).getD 0) (aAppendE E [ts, tx] s.v x.v H) k := by
 have hx1 : x.len = xs.length := hx.1
 have hfo : firstOf x.v x.len T.n H = some (fl T xs) := by
  obtain ⟨p, n, c⟩ := x
  obtain ⟨_, ⟨h3, h5, h6⟩ | ⟨b, off, h3, h5, h6⟩ | ⟨b, A, B, sz, o, ro, h3, h5⟩⟩ := hx
  ·simp only at h3 h6 hx1; subst h3; subst h5; subst h6; subst hx1; simp [firstOf, Sl.v, fl]
  ·simp only at h3 h6 hx1; subst h3; subst h5; subst h6; subst hx1; simp [firstOf, Sl.v, fl]
  ·simp only at h3 hx1; subst h3; subst hx1
   simp only [firstOf, Sl.v]
   unfold Zq.rd
   rw [h5]
   simp only
   rw [if_pos (by simp [fl_len ty.len]), List.drop_left, List.take_left' (by rw [fl_len ty.len])]
 have := app_c (E := E) (tx := tx) ty h2 h4 (m := x.len) xs hx1 rfl hbig h hk
 intro y hy
 have h3 := this y (by simpa [lenX, Sl.v] using hy)
 obtain ⟨⟨ti, e, te, e1, e2, e3, e4, e5, e6, e7⟩, hn, hT, hone⟩ := ty
 have e8 : aAppendE E [ts, tx] s.v x.v H y = aAppE E [ts, tx] s.v x.len (fl T xs) H y := by
  unfold aAppendE
  simp only [e1, e2, e3, e4]
  have : lenX x.v = some x.len := rfl
  rw [this]
  simp only [hfo]
 rw [e8]
 exact h3
section
variable {E : Env} {T : Tag} {ts tx : TypeId} {z : T.α}
def NewO (T : Tag) (H : Heap) (s' : Sl) (H' : Heap) (l sp : List T.α) : Prop := Ow T H' s' l sp ∧ (∀ d, s'.p = some ⟨d, 0, none⟩ -> H.length ≤ d) ∧ Frs [] H H'
theorem own_frs {H0 H H' : Heap} {s : Sl} {l sp : List T.α} (h : Ow T H s l sp) (hp : ∀ d, s.p = some ⟨d, 0, none⟩ -> H0.length ≤ d) (f : Frs [] H0 H) (a : After s H H') : Frs [] H0 H' := by
 obtain ⟨_, _, _, ⟨q, _⟩ | ⟨c, q, _⟩⟩ := h
 ·exact f.trans (a.frs fun d hd => by rw [q] at hd; cases hd)
 ·exact f.then (a.frs (B := [c]) fun d hd => by rw [q] at hd; simp at hd; exact .inl (by simp [hd])) (fun d hd => by simp at hd; subst hd; exact .inr (hp _ q))
theorem NewO.app {H H1 : Heap} {s : Sl} {l sp : List T.α} (h : NewO T H s H1 l sp) {H2 : Heap} {s2 : Sl} {l2 sp2 : List T.α} (k1 : Ow T H2 s2 l2 sp2) (k2 : s2.p = s.p ∨ s2.p = some ⟨H1.length, 0, none⟩ ∧ H1.length < H2.length) (k3 : After s H1 H2) : NewO T H s2 H2 l2 sp2 := by
 obtain ⟨h1, h2, h3⟩ := h
 refine ⟨k1, fun d hd => ?_, own_frs h1 h2 h3 k3⟩
 rcases k2 with k2 | ⟨k2, _⟩
 ·exact h2 d (by rw [← k2, hd])
 ·rw [k2] at hd; simp at hd; subst hd; exact h3.1
theorem copy_g (ty : TyS E T ts z) {tj : TI} (h2 : E.ty tx = some tj) (h4 : ∀ k, tj.k ≠ .int k) {H : Heap} {a : Sl} {l : List T.α} (ha : SlF T H a l) (hl : l.length ≤ 1048600) {k : Sl -> Heap -> Prop}
  (hk : ∀ s' H' sp, NewO T H s' H' l sp -> k s' H') : APP T_sl (lenV (Sl.mk none 0 0).v + (lenX a.v).getD 0) (aAppendE E [ts, tx] (Sl.mk none 0 0).v a.v H) k := by
 refine apps_c ty h2 h4 ha (by simp only [List.length_nil]; omega) (Ow.nil T H) fun s' H' sp h1 h2 h3 => hk s' H' sp ?_
 have h0 : NewO T H ⟨none, 0, 0⟩ H [] [] := ⟨Ow.nil T H, by simp, .refl _ _⟩
 exact h0.app (by simpa only [List.nil_append] using h1) h2 h3
theorem make_c (ty : TyS E T ts z) {H : Heap} {a b : Int} {n m : Nat} (ha : a = n) (hb : b = m) (hnm : n ≤ m) (hm : m ≤ 2000000) {k : Sl -> Heap -> Prop}
  (hk : ∀ s', s' = ⟨some ⟨H.length, 0, none⟩, n, m⟩ -> NewO T H s' (mk H (fl T (List.replicate m z)) T.n false) (List.replicate n z) (List.replicate (m - n) z) -> k s' (mk H (fl T (List.replicate m z)) T.n false)) :
  GEN T_sl (aMakeSlice E ts (.int .i64 a) (.int .i64 b) H) k := by
 obtain ⟨⟨ti, e, te, e1, e2, e3, e4, e5, e6, e7⟩, hn, hT, hone⟩ := ty
 subst ha; subst hb
 have hmk : aMakeSlice E ts (.int .i64 (n : Int)) (.int .i64 (m : Int)) H = some (.slice (some ⟨H.length, 0, none⟩) n m, mk H (fl T (List.replicate m z)) T.n false) := by
  unfold aMakeSlice
  simp only [e1, e2, e3, Option.bind_some]
  have : (te.bytes : Int) * m ≤ 281474976710656 := by
   have : te.bytes * m ≤ 4096 * 2000000 := Nat.mul_le_mul e6 hm
   have h2 : ((te.bytes * m : Nat) : Int) ≤ 281474976710656 := by omega
   simpa using h2
  rw [if_pos ⟨by omega, by omega, this, by omega⟩, e7, rep_fl, e4]
  rfl
 refine ⟨⟨some ⟨H.length, 0, none⟩, n, m⟩, _, hmk, hk _ rfl ⟨⟨by simp, by simp; omega, by simp; omega, .inr ⟨_, rfl, ?_⟩⟩, by simp, Frs.app [] _ _⟩⟩
 rw [List.replicate_append_replicate, show n + (m - n) = m by omega]
 simp [mk]
theorem lent_g (ty : TyS E T ts z) {tj : TI} (h2 : E.ty tx = some tj) (h4 : ∀ k, tj.k ≠ .int k) {H : Heap} {a : Sl} {l : List T.α} (ha : SlF T H a l) (hl : l.length ≤ 1048600) (ws : List T.α) (hw : ws.length = 2) {cs : List Value} (hcs : cs = fl T ws) {k : Sl -> Heap -> Prop}
  (hk : ∀ s' H' sp, NewO T H s' H' (l ++ ws) sp -> (∃ d, s'.p = some ⟨d, 0, none⟩) -> k s' H') :
  GEN T_sl (aMakeSlice E ts (.int .i64 0) (.int .i64 (IntKind.wrap .i64 ((a.len : Int) + 2))) H) fun (x1 : Sl) H1 => APP T_sl (lenV x1.v + (lenX a.v).getD 0) (aAppendE E [ts, tx] x1.v a.v H1) fun (x2 : Sl) H2 => APP T_sl (lenV x2.v + 2) (aAppE E [ts, tx] x2.v 2 cs H2) k := by
 have ha1 : a.len = l.length := ha.1
 rw [i64w (by omega) (by omega)]
 refine make_c (n := 0) (m := l.length + 2) ty rfl (by omega) (Nat.zero_le _) (by omega) fun s0 e0 n0 => ?_
 simp only [List.replicate_zero] at n0
 refine apps_c ty h2 h4 (ha.frs n0.2.2 (by simp)) (by simp only [List.length_nil]; omega) n0.1 fun s1 H1 sp1 h1 h2' h3 => ?_
 rw [List.nil_append] at h1
 have n1 := n0.app h1 h2' h3
 refine app_c ty h2 h4 (m := 2) ws hw.symm hcs (by omega) h1 fun s2 H2 sp2 k1 k2 k3 => ?_
 refine hk s2 H2 sp2 (n1.app k1 k2 k3) ?_
 obtain ⟨_, _, _, ⟨q, e, _⟩ | ⟨d, q, _⟩⟩ := k1
 ·have := congrArg List.length e; rw [List.length_append, hw, List.length_nil] at this; omega
 ·exact ⟨d, q⟩
theorem same_g (hT : ∀ x, (T.cells x).length = T.n) {ne : T.α -> T.α -> Bool} (hne : ∀ x y, ne x y = false ↔ x = y) {n : Nat} (hn : n = T.n) {H : Heap} {a b : Sl} {l m : List T.α} (ha : SlF T H a l) (hb : SlF T H b m) (hl : l.length ≤ 4611686018427387904) {Q : Bool × Unit -> Heap -> Prop}
  (hq : ∀ r : Bool, (r = true ↔ l = m) -> Q (r, ()) H) :
  ifB ((a.len : Int) != (b.len : Int)) (Q (false, ()) H) (JOIN (fun (j1 : (Unit) × (Unit) -> Heap -> Prop) => LOOP (fun (r3 : (Int × Unit) × (Unit) -> Heap -> Prop) (s4 : (Int × Unit) × (Unit)) H2 =>
   ifB (decide (s4.1.1 < (a.len : Int))) (IDX a.p a.len s4.1.1 n fun b5 o6 => LD T H2 b5 o6 fun x7 => IDX b.p b.len s4.1.1 n fun b8 o9 => LD T H2 b8 o9 fun x10 => ifB (ne x7 x10) (Q (false, ()) H2) (r3 ((IntKind.wrap .i64 (s4.1.1 + 1), ()), (())) H2)) (j1 ((()), (())) H2)) ((0, ()), (())) H) fun (_ : (Unit) × (Unit)) H1 => Q (true, ()) H1) := by
 have ha1 : a.len = l.length := ha.1
 have hb1 : b.len = m.length := hb.1
 subst hn
 refine ifB_of (fun h => ?_) (fun h => ?_)
 ·refine hq false ⟨fun h => (by cases h), fun e => ?_⟩
  subst e
  rw [ha1, hb1] at h
  simp at h
 ·have hlm : l.length = m.length := by rw [ha1, hb1] at h; have : (l.length : Int) = m.length := (by simpa using h); omega
  refine JOIN_of ?_
  refine loop_of (fun (s : (Int × Unit) × Unit) H' => H' = H ∧ ∃ n : Nat, s.1.1 = n ∧ n ≤ l.length ∧ l.take n = m.take n) (fun s => l.length - s.1.1.toNat) ?_ ⟨rfl, 0, rfl, Nat.zero_le _, by simp⟩
  rintro G ⟨⟨i, _⟩, _⟩ H' ⟨rfl, n, hi, hn, heq⟩ hG
  simp only at hi; subst hi
  dsimp only at hG ⊢
  refine ifB_of (fun hlt => ?_) (fun hge => ?_)
  ·have hlt : n < l.length := by have := of_decide_eq_true hlt; omega
   have hlt2 : n < m.length := by omega
   refine idx_ldF (T := T) hT ha rfl (List.getElem?_eq_getElem hlt) rfl ?_
   refine idx_ldF (T := T) hT hb rfl (List.getElem?_eq_getElem hlt2) rfl ?_
   refine ifB_of (fun h1 => ?_) (fun h1 => ?_)
   ·refine hq false ⟨fun h => (by cases h), fun e => ?_⟩
    subst e
    have := (hne l[n] l[n]).2 rfl
    rw [this] at h1; cases h1
   ·have he := (hne _ _).1 h1
    rw [i64w (by omega) (by omega)]
    refine hG _ _ ⟨rfl, n + 1, by simp, hlt, ?_⟩ (by simp; omega)
    rw [List.take_succ_eq_append_getElem hlt, List.take_succ_eq_append_getElem hlt2, heq, he]
  ·have hge : l.length ≤ n := by have := of_decide_eq_false hge; omega
   refine hq true ⟨fun _ => ?_, fun _ => rfl⟩
   rw [List.take_of_length_le hge, List.take_of_length_le (by omega)] at heq
   exact heq
end
end Go.Proofs.YtolekmhhkopooaaGreatDoor.Zq
end
section
namespace Go.Proofs.YtolekmhhkopooaaGreatDoor.Zq
open Go.Shelf Go.Proofs
def lays160_ren : Go.Shelf.Ren := ⟨fun | 160 => 191 | 232 => 204 | 231 => 203 | 227 => 205 | 234 => 207 | 233 => 206 | 236 => 209 | 235 => 208 | 228 => 211 | 271 => 214 | 151 => 213 | 197 => 212 | 120 => 217 | 152 => 216 | 260 => 215 | 137 => 218 | 119 => 219 | 224 => 220 | 225 => 221 | 217 => 222 | 266 => 223 | n => n, fun | 9 => 9 | 4 => 4 | 3 => 3 | 5 => 5 | 117 => 241 | 116 => 240 | 0 => 0 | 124 => 244 | 21 => 21 | 105 => 248 | 46 => 191 | 119 => 252 | 139 => 255 | 138 => 254 | n => n, fun | 3 => 0 | 4 => 1 | n => n⟩
theorem lays160 : Go.Proofs.Lays.n160 Tryz.prog lays160_ren := {
 mixed := by kernel_rfl
 f119 := Tryz.func219.trans (congrArg some (by kernel_rfl))
 f120 := Tryz.func217.trans (congrArg some (by kernel_rfl))
 f137 := Tryz.func218.trans (congrArg some (by kernel_rfl))
 f151 := Tryz.func213.trans (congrArg some (by kernel_rfl))
 f152 := Tryz.func216.trans (congrArg some (by kernel_rfl))
 f160 := Tryz.func191.trans (congrArg some (by kernel_rfl))
 f197 := Tryz.func212.trans (congrArg some (by kernel_rfl))
 f217 := Tryz.func222.trans (congrArg some (by kernel_rfl))
 f224 := Tryz.func220.trans (congrArg some (by kernel_rfl))
 f225 := Tryz.func221.trans (congrArg some (by kernel_rfl))
 f227 := Tryz.func205.trans (congrArg some (by kernel_rfl))
 f228 := Tryz.func211.trans (congrArg some (by kernel_rfl))
 f231 := Tryz.func203.trans (congrArg some (by kernel_rfl))
 f232 := Tryz.func204.trans (congrArg some (by kernel_rfl))
 f233 := Tryz.func206.trans (congrArg some (by kernel_rfl))
 f234 := Tryz.func207.trans (congrArg some (by kernel_rfl))
 f235 := Tryz.func208.trans (congrArg some (by kernel_rfl))
 f236 := Tryz.func209.trans (congrArg some (by kernel_rfl))
 f260 := Tryz.func215.trans (congrArg some (by kernel_rfl))
 f266 := Tryz.func223.trans (congrArg some (by kernel_rfl))
 f271 := Tryz.func214.trans (congrArg some (by kernel_rfl))
 t0 := Tryz.underlying0
 a0 := Tryz.isAgg0
 z0 := Tryz.sizeOf0
 v0 := Tryz.zeroValue0
 t3 := Tryz.underlying3
 a3 := Tryz.isAgg3
 z3 := Tryz.sizeOf3
 v3 := Tryz.zeroValue3
 t4 := Tryz.underlying4
 a4 := Tryz.isAgg4
 z4 := Tryz.sizeOf4
 v4 := Tryz.zeroValue4
 t5 := Tryz.underlying5
 a5 := Tryz.isAgg5
 z5 := Tryz.sizeOf5
 v5 := Tryz.zeroValue5
 t9 := Tryz.underlying9
 a9 := Tryz.isAgg9
 z9 := Tryz.sizeOf9
 v9 := Tryz.zeroValue9
 t21 := Tryz.underlying21
 a21 := Tryz.isAgg21
 z21 := Tryz.sizeOf21
 v21 := Tryz.zeroValue21
 t46 := Tryz.underlying191
 a46 := Tryz.isAgg191
 z46 := Tryz.sizeOf191
 v46 := Tryz.zeroValue191
 t105 := Tryz.underlying248
 a105 := Tryz.isAgg248
 z105 := Tryz.sizeOf248
 v105 := Tryz.zeroValue248
 t116 := Tryz.underlying240
 a116 := Tryz.isAgg240
 z116 := Tryz.sizeOf240
 t117 := Tryz.underlying241
 a117 := Tryz.isAgg241
 z117 := Tryz.sizeOf241
 v117 := Tryz.zeroValue241
 t119 := Tryz.underlying252
 a119 := Tryz.isAgg252
 z119 := Tryz.sizeOf252
 t124 := Tryz.underlying244
 a124 := Tryz.isAgg244
 z124 := Tryz.sizeOf244
 v124 := Tryz.zeroValue244
 t138 := Tryz.underlying254
 a138 := Tryz.isAgg254
 z138 := Tryz.sizeOf254
 v138 := Tryz.zeroValue254
 t139 := Tryz.underlying255
 a139 := Tryz.isAgg255
 z139 := Tryz.sizeOf255
 v139 := Tryz.zeroValue255
 g3 := by kernel_rfl
 g4 := by kernel_rfl }
def laysF_ren : Go.Shelf.Ren := ⟨fun | 6 => 127 | 15 => 152 | 14 => 151 | 28 => 188 | 29 => 189 | 20 => 180 | 21 => 181 | 22 => 182 | 23 => 183 | 24 => 184 | 25 => 185 | 26 => 186 | 27 => 187 | 46 => 198 | 47 => 199 | 48 => 200 | 49 => 201 | 50 => 202 | 57 => 210 | n => n, fun | 22 => 35 | 24 => 3 | 25 => 65 | 3 => 3 | 39 => 191 | 0 => 0 | 53 => 222 | 55 => 224 | 4 => 4 | 46 => 215 | 45 => 214 | 50 => 219 | 5 => 5 | 9 => 9 | 66 => 232 | 70 => 236 | 76 => 245 | 77 => 227 | n => n, fun | n => n⟩
theorem laysF : Go.Proofs.SlLaysF.n6 Tryz.prog laysF_ren := {
 mixed := by kernel_rfl
 f6 := ⟨Tryz.f127.name, by decide, Tryz.func127.trans (congrArg some (by kernel_rfl))⟩
 f14 := ⟨Tryz.f151.name, by decide, Tryz.func151.trans (congrArg some (by kernel_rfl))⟩
 f15 := Tryz.func152.trans (congrArg some (by kernel_rfl))
 f20 := ⟨Tryz.f180.name, by decide, Tryz.func180.trans (congrArg some (by kernel_rfl))⟩
 f21 := ⟨Tryz.f181.name, by decide, Tryz.func181.trans (congrArg some (by kernel_rfl))⟩
 f22 := ⟨Tryz.f182.name, by decide, Tryz.func182.trans (congrArg some (by kernel_rfl))⟩
 f23 := ⟨Tryz.f183.name, by decide, Tryz.func183.trans (congrArg some (by kernel_rfl))⟩
 f24 := ⟨Tryz.f184.name, by decide, Tryz.func184.trans (congrArg some (by kernel_rfl))⟩
 f25 := ⟨Tryz.f185.name, by decide, Tryz.func185.trans (congrArg some (by kernel_rfl))⟩
 f26 := ⟨Tryz.f186.name, by decide, Tryz.func186.trans (congrArg some (by kernel_rfl))⟩
 f27 := ⟨Tryz.f187.name, by decide, Tryz.func187.trans (congrArg some (by kernel_rfl))⟩
 f28 := Tryz.func188.trans (congrArg some (by kernel_rfl))
 f29 := Tryz.func189.trans (congrArg some (by kernel_rfl))
 f46 := ⟨Tryz.f198.name, by decide, Tryz.func198.trans (congrArg some (by kernel_rfl))⟩
 f47 := Tryz.func199.trans (congrArg some (by kernel_rfl))
 f48 := Tryz.func200.trans (congrArg some (by kernel_rfl))
 f49 := ⟨Tryz.f201.name, by decide, Tryz.func201.trans (congrArg some (by kernel_rfl))⟩
 f50 := ⟨Tryz.f202.name, by decide, Tryz.func202.trans (congrArg some (by kernel_rfl))⟩
 f57 := ⟨Tryz.f210.name, by decide, Tryz.func210.trans (congrArg some (by kernel_rfl))⟩
 t0 := Tryz.underlying0
 a0 := Tryz.isAgg0
 z0 := Tryz.sizeOf0
 v0 := Tryz.zeroValue0
 t3 := Tryz.underlying3
 a3 := Tryz.isAgg3
 z3 := Tryz.sizeOf3
 v3 := Tryz.zeroValue3
 t4 := Tryz.underlying4
 a4 := Tryz.isAgg4
 z4 := Tryz.sizeOf4
 v4 := Tryz.zeroValue4
 t5 := Tryz.underlying5
 a5 := Tryz.isAgg5
 z5 := Tryz.sizeOf5
 v5 := Tryz.zeroValue5
 t9 := Tryz.underlying9
 a9 := Tryz.isAgg9
 z9 := Tryz.sizeOf9
 v9 := Tryz.zeroValue9
 t22 := Tryz.underlying35
 a22 := Tryz.isAgg35
 z22 := Tryz.sizeOf35
 v22 := Tryz.zeroValue35
 a24 := Tryz.isAgg3
 z24 := Tryz.sizeOf3
 t25 := Tryz.underlying65
 a25 := Tryz.isAgg65
 z25 := Tryz.sizeOf65
 v25 := Tryz.zeroValue65
 t39 := Tryz.underlying191
 a39 := Tryz.isAgg191
 z39 := Tryz.sizeOf191
 v39 := Tryz.zeroValue191
 t45 := Tryz.underlying214
 a45 := Tryz.isAgg214
 z45 := Tryz.sizeOf214
 v45 := Tryz.zeroValue214
 t46 := Tryz.underlying215
 a46 := Tryz.isAgg215
 z46 := Tryz.sizeOf215
 v46 := Tryz.zeroValue215
 t50 := Tryz.underlying219
 a50 := Tryz.isAgg219
 z50 := Tryz.sizeOf219
 v50 := Tryz.zeroValue219
 t53 := Tryz.underlying222
 a53 := Tryz.isAgg222
 z53 := Tryz.sizeOf222
 v53 := Tryz.zeroValue222
 t55 := Tryz.underlying224
 a55 := Tryz.isAgg224
 z55 := Tryz.sizeOf224
 v55 := Tryz.zeroValue224
 t66 := Tryz.underlying232
 a66 := Tryz.isAgg232
 z66 := Tryz.sizeOf232
 v66 := Tryz.zeroValue232
 t70 := Tryz.underlying236
 a70 := Tryz.isAgg236
 z70 := Tryz.sizeOf236
 v70 := Tryz.zeroValue236
 t76 := Tryz.underlying245
 a76 := Tryz.isAgg245
 z76 := Tryz.sizeOf245
 v76 := Tryz.zeroValue245
 t77 := Tryz.underlying227
 a77 := Tryz.isAgg227
 z77 := Tryz.sizeOf227
 v77 := Tryz.zeroValue227 }
def laysF0_ren : Go.Shelf.Ren := ⟨fun | 6 => 127 | 15 => 152 | 14 => 151 | 28 => 188 | 29 => 189 | 20 => 180 | 21 => 181 | 22 => 182 | 23 => 183 | 24 => 184 | 25 => 185 | 26 => 186 | 27 => 187 | 46 => 198 | 47 => 199 | 48 => 200 | 49 => 201 | 50 => 202 | 57 => 210 | n => n, fun | 22 => 35 | 24 => 3 | 25 => 65 | 3 => 3 | 39 => 191 | 0 => 0 | 53 => 222 | 55 => 224 | 4 => 4 | 46 => 215 | 45 => 214 | 50 => 219 | 5 => 5 | 9 => 9 | 66 => 232 | 70 => 236 | 76 => 245 | 77 => 227 | n => n, fun | n => n⟩
theorem laysF0 : Go.Proofs.SlLaysF0.n6 Tryz.prog laysF0_ren := {
 mixed := by kernel_rfl
 f6 := ⟨Tryz.f127.name, by decide, Tryz.func127.trans (congrArg some (by kernel_rfl))⟩
 f14 := ⟨Tryz.f151.name, by decide, Tryz.func151.trans (congrArg some (by kernel_rfl))⟩
 f15 := Tryz.func152.trans (congrArg some (by kernel_rfl))
 f20 := ⟨Tryz.f180.name, by decide, Tryz.func180.trans (congrArg some (by kernel_rfl))⟩
 f21 := ⟨Tryz.f181.name, by decide, Tryz.func181.trans (congrArg some (by kernel_rfl))⟩
 f22 := ⟨Tryz.f182.name, by decide, Tryz.func182.trans (congrArg some (by kernel_rfl))⟩
 f23 := ⟨Tryz.f183.name, by decide, Tryz.func183.trans (congrArg some (by kernel_rfl))⟩
 f24 := ⟨Tryz.f184.name, by decide, Tryz.func184.trans (congrArg some (by kernel_rfl))⟩
 f25 := ⟨Tryz.f185.name, by decide, Tryz.func185.trans (congrArg some (by kernel_rfl))⟩
 f26 := ⟨Tryz.f186.name, by decide, Tryz.func186.trans (congrArg some (by kernel_rfl))⟩
 f27 := ⟨Tryz.f187.name, by decide, Tryz.func187.trans (congrArg some (by kernel_rfl))⟩
 f28 := Tryz.func188.trans (congrArg some (by kernel_rfl))
 f29 := Tryz.func189.trans (congrArg some (by kernel_rfl))
 f46 := ⟨Tryz.f198.name, by decide, Tryz.func198.trans (congrArg some (by kernel_rfl))⟩
 f47 := Tryz.func199.trans (congrArg some (by kernel_rfl))
 f48 := Tryz.func200.trans (congrArg some (by kernel_rfl))
 f49 := ⟨Tryz.f201.name, by decide, Tryz.func201.trans (congrArg some (by kernel_rfl))⟩
 f50 := ⟨Tryz.f202.name, by decide, Tryz.func202.trans (congrArg some (by kernel_rfl))⟩
 f57 := ⟨Tryz.f210.name, by decide, Tryz.func210.trans (congrArg some (by kernel_rfl))⟩
 t0 := Tryz.underlying0
 a0 := Tryz.isAgg0
 z0 := Tryz.sizeOf0
 v0 := Tryz.zeroValue0
 t3 := Tryz.underlying3
 a3 := Tryz.isAgg3
 z3 := Tryz.sizeOf3
 v3 := Tryz.zeroValue3
 t4 := Tryz.underlying4
 a4 := Tryz.isAgg4
 z4 := Tryz.sizeOf4
 v4 := Tryz.zeroValue4
 t5 := Tryz.underlying5
 a5 := Tryz.isAgg5
 z5 := Tryz.sizeOf5
 v5 := Tryz.zeroValue5
 t9 := Tryz.underlying9
 a9 := Tryz.isAgg9
 z9 := Tryz.sizeOf9
 v9 := Tryz.zeroValue9
 t22 := Tryz.underlying35
 a22 := Tryz.isAgg35
 z22 := Tryz.sizeOf35
 v22 := Tryz.zeroValue35
 t25 := Tryz.underlying65
 a25 := Tryz.isAgg65
 z25 := Tryz.sizeOf65
 v25 := Tryz.zeroValue65
 t39 := Tryz.underlying191
 a39 := Tryz.isAgg191
 z39 := Tryz.sizeOf191
 v39 := Tryz.zeroValue191
 t45 := Tryz.underlying214
 a45 := Tryz.isAgg214
 z45 := Tryz.sizeOf214
 v45 := Tryz.zeroValue214
 t46 := Tryz.underlying215
 a46 := Tryz.isAgg215
 z46 := Tryz.sizeOf215
 v46 := Tryz.zeroValue215
 t50 := Tryz.underlying219
 a50 := Tryz.isAgg219
 z50 := Tryz.sizeOf219
 v50 := Tryz.zeroValue219
 t53 := Tryz.underlying222
 a53 := Tryz.isAgg222
 z53 := Tryz.sizeOf222
 v53 := Tryz.zeroValue222
 t55 := Tryz.underlying224
 a55 := Tryz.isAgg224
 z55 := Tryz.sizeOf224
 v55 := Tryz.zeroValue224
 t66 := Tryz.underlying232
 a66 := Tryz.isAgg232
 z66 := Tryz.sizeOf232
 v66 := Tryz.zeroValue232
 t70 := Tryz.underlying236
 a70 := Tryz.isAgg236
 z70 := Tryz.sizeOf236
 v70 := Tryz.zeroValue236
 t76 := Tryz.underlying245
 a76 := Tryz.isAgg245
 z76 := Tryz.sizeOf245
 v76 := Tryz.zeroValue245
 t77 := Tryz.underlying227
 a77 := Tryz.isAgg227
 z77 := Tryz.sizeOf227
 v77 := Tryz.zeroValue227 }
open Go.RowKit Go.Lib Go.Sort in
theorem slices_SortFunc_none {α : Type} [Inhabited α] (p : Option Addr) (cap : Nat) (fv : Value) (w : World) :
  Calls Tryz.prog 127 #[.slice p 0 cap, fv] w fun e w' => e = .returned (.tuple #[]) ∧ w' = w := AnyF.slices_SortFunc_none laysF0 p cap fv w
end Go.Proofs.YtolekmhhkopooaaGreatDoor.Zq
end
section
namespace Go.Proofs.YtolekmhhkopooaaGreatDoor.Zq
variable {P : Program} {M : Mp} {H : Heap} {w : World}
def WTc (P : Program) (H : Heap) : Nat -> TypeId -> List Value -> Prop
 | 0, _, _ => False
 | d + 1, t, cs => cs.length = P.cellsOf t ∧
  match P.underlying t with
  | some .bool => ∃ b, cs = [.bool b]
  | some (.int k) => ∃ n, cs = [.int k n] ∧ (Lit.int k n).wf = true
  | some .string => ∃ s : ByteArray, cs = [.string s] ∧ s.size ≤ maxLen
  | some (.slice e) => cs = [.slice none 0 0] ∨ (∃ b off, cs = [.slice (some ⟨b, off, some 0⟩) 0 0]) ∨
    ∃ b len cap, ∃ acss : List (List Value), cs = [.slice (some ⟨b, 0, none⟩) len cap] ∧ len ≤ cap ∧ cap ≤ maxLen ∧ acss.length = cap ∧ 0 < cap ∧ H[b]? = some (.row acss.flatten (P.cellsOf e) false true true) ∧ ∀ a ∈ acss, WTc P H d e a
  | some (.struct fs) => ∃ acss : List (List Value), acss.length = fs.size ∧ cs = acss.flatten ∧ ∀ (i : Nat) (f : Field) (a : List Value), fs[i]? = some f -> acss[i]? = some a -> WTc P H d f.type a
  | some (.array n e) => ∃ acss : List (List Value), acss.length = n ∧ cs = acss.flatten ∧ ∀ a ∈ acss, WTc P H d e a
  | _ => False
theorem WTc.len {d : Nat} {t : TypeId} {cs : List Value} (h : WTc P H d t cs) : cs.length = P.cellsOf t := by
 cases d with
 | zero => exact h.elim
 | succ d => exact h.1
theorem WTc.app {K : Heap} : ∀ {d : Nat} {t : TypeId} {cs : List Value}, WTc P H d t cs -> WTc P (H ++ K) d t cs
 | 0, _, _, h => h.elim
 | d + 1, t, cs, h => by
  simp only [WTc] at h ⊢
  refine ⟨h.1, ?_⟩
  have h := h.2
  split at h
  ·exact h
  ·exact h
  ·exact h
  ·rcases h with h | h | ⟨b, len, cap, acss, h1, h2, h3, h4, h5, h6, h7⟩
   ·exact .inl h
   ·exact .inr (.inl h)
   ·exact .inr (.inr ⟨b, len, cap, acss, h1, h2, h3, h4, h5, by rw [List.getElem?_append_left (List.getElem?_eq_some_iff.1 h6).1]; exact h6, fun a ha => (h7 a ha).app⟩)
  ·obtain ⟨acss, h1, h2, h3⟩ := h
   exact ⟨acss, h1, h2, fun i f a hf ha => (h3 i f a hf ha).app⟩
  ·obtain ⟨acss, h1, h2, h3⟩ := h
   exact ⟨acss, h1, h2, fun a ha => (h3 a ha).app⟩
  ·exact h
def contig (P : Program) : List Field -> Nat -> Nat -> Bool
 | [], o, n => o == n
 | f :: r, o, n => f.offset == o && contig P r (o + P.cellsOf f.type) n
def okD (P : Program) : Nat -> TypeId -> Bool
 | 0, _ => false
 | d + 1, t =>
  match P.underlying t with
  | some .bool | some (.int _) | some .string => P.cellsOf t == 1
  | some (.slice e) => P.cellsOf t == 1 && decide (0 < P.cellsOf e) && okD P d e
  | some (.struct fs) => contig P fs.toList 0 (P.cellsOf t) && fs.toList.all fun f => okD P d f.type
  | some (.array n e) => n * P.cellsOf e == P.cellsOf t && okD P d e
  | _ => false
def RoH (H : Heap) : Prop := ∀ b, ¬ writB H b
theorem RoH.app {H K : Heap} (h : RoH H) (k : ∀ x ∈ K, ∃ c sz l, x = .row c sz false true l) : RoH (H ++ K) := by
 intro b hb
 unfold writB at hb
 by_cases hl : b < H.length
 ·rw [List.getElem?_append_left hl] at hb
  exact h b (by unfold writB; exact hb)
 ·rw [List.getElem?_append_right (by omega)] at hb
  cases hq : K[b - H.length]? with
  | none => rw [hq] at hb; exact hb
  | some x =>
   obtain ⟨c, sz, l, rfl⟩ := k x (List.mem_of_getElem? hq)
   rw [hq] at hb; simp at hb
structure Adds (M : Mp) (H : Heap) (w : World) (N : Mp) (K : Heap) : Prop where
 hr : HR (M ++ N) (H ++ K) w
 ro : ∀ x ∈ K, ∃ c sz l, x = .row c sz false true l
theorem Adds.refl (h : HR M H w) : Adds M H w [] [] := ⟨by simpa using h, fun x hx => by simp at hx⟩
theorem Adds.trans {N N' : Mp} {K K' : Heap} (h : Adds M H w N K) (k : Adds (M ++ N) (H ++ K) w N' K') : Adds M H w (N ++ N') (K ++ K') :=
 ⟨by simpa [List.append_assoc] using k.hr, fun x hx => by rcases List.mem_append.1 hx with h1 | h1; exact h.ro x h1; exact k.ro x h1⟩
theorem addRow (h : HR M H w) (hro : RoH H) {cells us : List Value} {sz b o : Nat} (hc : ∃ c t fz, w.heap[b]? = some (.cells c t fz) ∧ o + us.length ≤ c.size ∧ (c.toList.drop o).take us.length = us) (hv : VL M cells us) :
  ∃ e : Ent, e.blk = b ∧ e.base = o ∧ e.opn = false ∧ Adds M H w [some e] [.row cells sz false true true] := by
 obtain ⟨c, t, fz, hw, hle, htk⟩ := hc
 refine ⟨⟨b, o, false, cells.length, sz, c.size⟩, rfl, rfl, rfl, ⟨?_, fun x hx => by simp at hx; exact ⟨_, _, _, hx⟩⟩⟩
 have hx := Ext.app M [some (⟨b, o, false, cells.length, sz, c.size⟩ : Ent)]
 have hlen := h.len
 have hro' : RoH (H ++ [.row cells sz false true true]) := hro.app fun x hx => by simp at hx; exact ⟨_, _, _, hx⟩
 refine ⟨by simp [hlen], fun q e k hq hk => ?_, fun q q' e e' _ _ _ hwr _ => absurd hwr (hro' q)⟩
 by_cases hl : q < M.length
 ·rw [List.getElem?_append_left hl] at hq
  rw [List.getElem?_append_left (by omega)] at hk
  exact (h.blk q e k hq hk).mono hx
 ·have e0 : q = M.length := by
   have := (List.getElem?_eq_some_iff.1 hq).1
   simp at this; omega
  subst e0
  rw [List.getElem?_append_right (Nat.le_refl _)] at hq
  rw [hlen, List.getElem?_append_right (Nat.le_refl _)] at hk
  simp at hq hk; subst hq; subst hk
  exact ⟨rfl, rfl, rfl, fun _ => ⟨c, t, fz, hw, rfl, by have := hv.1; simp; omega, by
   have e : (c.toList.drop o).take cells.length = us := by rw [hv.1]; exact htk
   simp only
   rw [e]; exact hv.mono hx, fun hf => by simp at hf⟩⟩
theorem pieces {P : Program} : ∀ {l : List Field} {o n : Nat} {cs : List Value}, contig P l o n = true -> cs.length = n -> o ≤ n ∧ ((l.map fun f => (cs.drop f.offset).take (P.cellsOf f.type)).flatten = cs.drop o)
 | [], o, n, cs, h, hl => by
  simp [contig] at h; subst h
  exact ⟨Nat.le_refl _, by simp [hl]⟩
 | f :: r, o, n, cs, h, hl => by
  simp only [contig, Bool.and_eq_true, beq_iff_eq] at h
  obtain ⟨h1, h2⟩ := h
  obtain ⟨h3, h4⟩ := pieces h2 hl
  refine ⟨by omega, ?_⟩
  simp only [List.map_cons, List.flatten_cons, h4, h1]
  rw [← List.drop_drop]
  exact List.take_append_drop _ _
theorem piecesN : ∀ (n sz : Nat) (cs : List Value), cs.length = n * sz -> ((List.range n).map fun i => (cs.drop (i * sz)).take sz).flatten = cs
 | 0, sz, cs, h => by simp at h; simp [h]
 | n + 1, sz, cs, h => by
  rw [List.range_succ, List.map_append, List.flatten_append]
  have hl : (cs.take (n * sz)).length = n * sz := by simp; rw [h, Nat.add_mul]; omega
  have := piecesN n sz (cs.take (n * sz)) hl
  have e : ((List.range n).map fun i => (cs.drop (i * sz)).take sz) = (List.range n).map fun i => ((cs.take (n * sz)).drop (i * sz)).take sz := by
   apply List.map_congr_left
   intro i hi
   have hi : i < n := by simpa using hi
   rw [List.drop_take, List.take_take]
   congr 1
   have : (i + 1) * sz ≤ n * sz := Nat.mul_le_mul_right _ hi
   rw [Nat.add_mul] at this
   omega
  rw [e, this]
  simp only [List.map_cons, List.map_nil, List.flatten_cons, List.flatten_nil, List.append_nil]
  rw [List.take_of_length_le (l := cs.drop (n * sz)) (by simp; rw [h, Nat.add_mul]; omega)]
  exact List.take_append_drop _ _
section
variable {HH : Type} {enc : TypeId × Value -> HH} {base : Nat} {spare : Nat -> Bool} {held : Bool}
theorem flat_vl (M : Mp) {v : Value} (h : flat1 v = true) : VL M [v] [v] := VL.cons (VR.flat1 h) (VL.nil M)
end
end Go.Proofs.YtolekmhhkopooaaGreatDoor.Zq
end
section
namespace Go.Proofs.YtolekmhhkopooaaGreatDoor.Zq
section
variable {Pr : Program} {H : Heap}
inductive Sh where
 | b
 | i (k : IntKind)
 | s
 | sl
def ShL : List Sh -> List Value -> Prop
 | [], cs => cs = []
 | .b :: r, cs => ∃ x t, cs = .bool x :: t ∧ ShL r t
 | .i k :: r, cs => ∃ x t, cs = .int k x :: t ∧ ShL r t
 | .s :: r, cs => ∃ x t, cs = .string x :: t ∧ ShL r t
 | .sl :: r, cs => ∃ (x : Sl) (t : List Value), cs = x.v :: t ∧ ShL r t
theorem ShL.app : ∀ {a b : List Sh} {x y : List Value}, ShL a x -> ShL b y -> ShL (a ++ b) (x ++ y)
 | [], b, x, y, h, k => by
  have h : x = [] := h
  subst h; exact k
 | .b :: r, b, x, y, h, k => by obtain ⟨q, t, rfl, h⟩ := h; exact ⟨q, t ++ y, rfl, ShL.app h k⟩
 | .i _ :: r, b, x, y, h, k => by obtain ⟨q, t, rfl, h⟩ := h; exact ⟨q, t ++ y, rfl, ShL.app h k⟩
 | .s :: r, b, x, y, h, k => by obtain ⟨q, t, rfl, h⟩ := h; exact ⟨q, t ++ y, rfl, ShL.app h k⟩
 | .sl :: r, b, x, y, h, k => by obtain ⟨q, t, rfl, h⟩ := h; exact ⟨q, t ++ y, rfl, ShL.app h k⟩
def catO : List (Option (List Sh)) -> Option (List Sh)
 | [] => some []
 | x :: r => match x, catO r with | some a, some b => some (a ++ b) | _, _ => none
def shp (P : Program) : Nat -> TypeId -> Option (List Sh)
 | 0, _ => none
 | d + 1, t =>
  match P.underlying t with
  | some .bool => some [.b]
  | some (.int k) => some [.i k]
  | some .string => some [.s]
  | some (.slice _) => some [.sl]
  | some (.struct fs) => catO (fs.toList.map fun f => shp P d f.type)
  | some (.array n e) => catO ((List.range n).map fun _ => shp P d e)
  | _ => none
theorem catO_ok : ∀ (l : List (Option (List Sh))) (acss : List (List Value)) (ss : List Sh), acss.length = l.length -> (∀ (i : Nat) o a, l[i]? = some o -> acss[i]? = some a -> ∀ s, o = some s -> ShL s a) -> catO l = some ss -> ShL ss acss.flatten
 | [], [], ss, _, _, h => by simp [catO] at h; subst h; rfl
 | o :: l, a :: acss, ss, hl, hp, h => by
  simp only [catO] at h
  split at h
  ·rename_i x y hy
   cases h
   rw [List.flatten_cons]
   exact ShL.app (hp 0 _ a rfl rfl x rfl) (catO_ok l acss y (by simpa using hl) (fun i o a h1 h2 => hp (i + 1) o a (by simpa using h1) (by simpa using h2)) hy)
  ·cases h
 | [], _ :: _, _, h, _, _ => by simp at h
 | _ :: _, [], _, h, _, _ => by simp at h
theorem WTc.shp : ∀ {d : Nat} {t : TypeId} {cs : List Value} {ss : List Sh}, WTc Pr H d t cs -> Zq.shp Pr d t = some ss -> ShL ss cs
 | 0, _, _, _, h, _ => h.elim
 | d + 1, t, cs, ss, h, hs => by
  simp only [WTc] at h
  simp only [Zq.shp] at hs
  obtain ⟨_, h⟩ := h
  split at h
  ·rename_i ht
   rw [ht] at hs; cases hs
   obtain ⟨b, rfl⟩ := h
   exact ⟨b, [], rfl, rfl⟩
  ·rename_i ht
   rw [ht] at hs; cases hs
   obtain ⟨b, rfl, _⟩ := h
   exact ⟨b, [], rfl, rfl⟩
  ·rename_i ht
   rw [ht] at hs; cases hs
   obtain ⟨b, rfl, _⟩ := h
   exact ⟨b, [], rfl, rfl⟩
  ·rename_i ht
   rw [ht] at hs; cases hs
   rcases h with rfl | ⟨b, off, rfl⟩ | ⟨b, len, cap, acss, rfl, _⟩
   ·exact ⟨⟨none, 0, 0⟩, [], rfl, rfl⟩
   ·exact ⟨⟨some ⟨b, off, some 0⟩, 0, 0⟩, [], rfl, rfl⟩
   ·exact ⟨⟨some ⟨b, 0, none⟩, len, cap⟩, [], rfl, rfl⟩
  ·rename_i fs ht
   rw [ht] at hs
   obtain ⟨acss, hl, rfl, hp⟩ := h
   refine catO_ok _ acss ss (by simp [hl]) (fun i o a h1 h2 s hs => ?_) hs
   simp only [List.getElem?_map, Option.map_eq_some_iff] at h1
   obtain ⟨f, h3, h4⟩ := h1
   exact WTc.shp (hp i f a (by simpa using h3) h2) (h4.trans hs)
  ·rename_i n e ht
   rw [ht] at hs
   obtain ⟨acss, hl, rfl, hp⟩ := h
   refine catO_ok _ acss ss (by simp [hl]) (fun i o a h1 h2 s hs => ?_) hs
   simp only [List.getElem?_map, Option.map_eq_some_iff] at h1
   obtain ⟨f, h3, h4⟩ := h1
   exact WTc.shp (hp a (List.mem_of_getElem? h2)) (h4.trans hs)
  ·exact h.elim
end
section
variable {P : Program}
theorem RoH.nil : RoH [] := fun b hb => by unfold writB at hb; simp at hb
theorem CALL.law {M : Mp} {H : Heap} {w : World} {g : FuncId} {args args' : List Value} (h : CALL P [T_bool] g args H fun x _ => x.1 = true) (hr : HR M H w) (hv : VL M args args') (hn : RoH H) :
  Calls P g args'.toArray w fun e w' => e = .returned (.bool true) ∧ RowKit.Below w.heap.size w w' := by
 refine EV.law (EV.mono h ?_) hr hv hn
 rintro v H' ⟨x, rfl, hx⟩
 show Value.bool x.1 = _
 rw [hx]
theorem RoH.adds {M N : Mp} {H K : Heap} {w : World} (h : RoH H) (a : Adds M H w N K) : RoH (H ++ K) := h.app a.ro
end
end Go.Proofs.YtolekmhhkopooaaGreatDoor.Zq
end
section
namespace Go.Proofs.YtolekmhhkopooaaGreatDoor.Zq
section
section
variable {Pr : Program} {H : Heap}
theorem flatten_at : ∀ (acss : List (List Value)) (i : Nat) (a : List Value), acss[i]? = some a -> (acss.flatten.drop ((acss.take i).map List.length).sum).take a.length = a
 | [], i, a, h => by simp at h
 | x :: r, 0, a, h => by simp at h; subst h; simp
 | x :: r, i + 1, a, h => by
  have := flatten_at r i a (by simpa using h)
  simp only [List.flatten_cons, List.take_succ_cons, List.map_cons, List.sum_cons]
  rw [← List.drop_drop, List.drop_left]; exact this
theorem lens_eq {d : Nat} {fs : List Field} : ∀ {acss : List (List Value)} (i : Nat), (∀ (j : Nat) (f : Field) (a : List Value), fs[j]? = some f -> acss[j]? = some a -> WTc Pr H d f.type a) -> acss.length = fs.length -> ((acss.take i).map List.length).sum = ((fs.take i).map fun f => Pr.cellsOf f.type).sum := by
 induction fs with
 | nil => intro acss i _ hl; have : acss = [] := List.length_eq_zero_iff.1 hl; subst this; simp
 | cons f r ih =>
  intro acss i hp hl
  cases acss with
  | nil => simp at hl
  | cons a q =>
   cases i with
   | zero => rfl
   | succ i =>
    simp only [List.take_succ_cons, List.map_cons, List.sum_cons]
    rw [(hp 0 f a rfl rfl).len, ih i (fun j g b h1 h2 => hp (j + 1) g b (by simpa using h1) (by simpa using h2)) (by simpa using hl)]
theorem WTc.fld {d : Nat} {t : TypeId} {cs : List Value} {fs : Array Field} (ht : Pr.underlying t = some (.struct fs)) {i off : Nat} {f : Field} (hf : fs[i]? = some f) (hoff : ((fs.toList.take i).map fun f => Pr.cellsOf f.type).sum = off) (h : WTc Pr H (d + 1) t cs) :
  WTc Pr H d f.type ((cs.drop off).take (Pr.cellsOf f.type)) := by
 simp only [WTc, ht] at h
 obtain ⟨_, acss, hl, rfl, hp⟩ := h
 have hi : i < fs.size := (Array.getElem?_eq_some_iff.1 hf).1
 have ha : acss[i]? = some acss[i] := List.getElem?_eq_getElem (by omega)
 have hw := hp i f _ hf ha
 have := flatten_at acss i _ ha
 rw [lens_eq (Pr := Pr) (H := H) (d := d) (fs := fs.toList) i (fun j f a h1 h2 => hp j f a (by simpa using h1) h2) (by simpa using hl), hoff, hw.len] at this
 rw [this]; exact hw
theorem Sl.v_inj {s u : Sl} (h : s.v = u.v) : s = u := by
 cases s; cases u
 simp only [Sl.v, Value.slice.injEq] at h
 obtain ⟨rfl, rfl, rfl⟩ := h; rfl
end
end
section
variable {B : Nat} {P : Program} {M : Mp} {H : Heap} {w : World}
def WTcB (B : Nat) (P : Program) (H : Heap) : Nat -> TypeId -> List Value -> Prop
 | 0, _, _ => False
 | d + 1, t, cs => cs.length = P.cellsOf t ∧
  match P.underlying t with
  | some .bool => ∃ b, cs = [.bool b]
  | some (.int k) => ∃ n, cs = [.int k n] ∧ (Lit.int k n).wf = true
  | some .string => ∃ s : ByteArray, cs = [.string s] ∧ s.size ≤ maxLen
  | some (.slice e) => cs = [.slice none 0 0] ∨ (∃ b off, cs = [.slice (some ⟨b, off, some 0⟩) 0 0]) ∨
    ∃ b len cap, ∃ acss : List (List Value), cs = [.slice (some ⟨b, 0, none⟩) len cap] ∧ len ≤ cap ∧ cap ≤ maxLen ∧ len ≤ B ∧ acss.length = cap ∧ 0 < cap ∧ H[b]? = some (.row acss.flatten (P.cellsOf e) false true true) ∧ ∀ a ∈ acss, WTcB B P H d e a
  | some (.struct fs) => ∃ acss : List (List Value), acss.length = fs.size ∧ cs = acss.flatten ∧ ∀ (i : Nat) (f : Field) (a : List Value), fs[i]? = some f -> acss[i]? = some a -> WTcB B P H d f.type a
  | some (.array n e) => ∃ acss : List (List Value), acss.length = n ∧ cs = acss.flatten ∧ ∀ a ∈ acss, WTcB B P H d e a
  | _ => False
theorem WTcB.len {d : Nat} {t : TypeId} {cs : List Value} (h : WTcB B P H d t cs) : cs.length = P.cellsOf t := by
 cases d with
 | zero => exact h.elim
 | succ d => exact h.1
theorem WTcB.app {K : Heap} : ∀ {d : Nat} {t : TypeId} {cs : List Value}, WTcB B P H d t cs -> WTcB B P (H ++ K) d t cs
 | 0, _, _, h => h.elim
 | d + 1, t, cs, h => by
  simp only [WTcB] at h ⊢
  refine ⟨h.1, ?_⟩
  have h := h.2
  split at h
  ·exact h
  ·exact h
  ·exact h
  ·rcases h with h | h | ⟨b, len, cap, acss, h1, h2, h3, hB, h4, h5, h6, h7⟩
   ·exact .inl h
   ·exact .inr (.inl h)
   ·exact .inr (.inr ⟨b, len, cap, acss, h1, h2, h3, hB, h4, h5, by rw [List.getElem?_append_left (List.getElem?_eq_some_iff.1 h6).1]; exact h6, fun a ha => (h7 a ha).app⟩)
  ·obtain ⟨acss, h1, h2, h3⟩ := h
   exact ⟨acss, h1, h2, fun i f a hf ha => (h3 i f a hf ha).app⟩
  ·obtain ⟨acss, h1, h2, h3⟩ := h
   exact ⟨acss, h1, h2, fun a ha => (h3 a ha).app⟩
  ·exact h
section
variable {HH : Type} {S : DataW HH -> Prop} {enc : TypeId × Value -> HH} {base : Nat} {spare : Nat -> Bool} {held : Bool}
def OpenB (B : Nat) (S : DataW HH -> Prop) (P : Program) (w : World) (enc : TypeId × Value -> HH) (base : Nat) (spare : Nat -> Bool) (held : Bool) (d : Nat) (t : TypeId) : Prop :=
 ∀ (fuel : Nat) (cs : List Value) (x : DataW HH × List MemPlace) (M : Mp) (H : Heap), DataW.trod enc P w base spare held fuel t cs = some x -> S x.1 -> HR M H w -> RoH H →
  ∃ N K acs, Adds M H w N K ∧ VL (M ++ N) acs cs ∧ WTcB B P (H ++ K) d t acs
theorem openLB {d : Nat} : ∀ (l : List (TypeId × List Value)) (M : Mp) (H : Heap), (∀ p ∈ l, OpenB B S P w enc base spare held d p.1) -> (∀ p ∈ l, ∃ fuel x, DataW.trod enc P w base spare held fuel p.1 p.2 = some x ∧ S x.1) -> HR M H w -> RoH H →
  ∃ N K acss, Adds M H w N K ∧ acss.length = l.length ∧ VL (M ++ N) (List.flatten acss) (l.map (·.2)).flatten ∧ ∀ (i : Nat) (p : TypeId × List Value) (a : List Value), l[i]? = some p -> acss[i]? = some a -> WTcB B P (H ++ K) d p.1 a
 | [], M, H, _, _, h, _ => ⟨[], [], [], .refl h, rfl, by simpa using VL.nil _, fun i p a hi => by simp at hi⟩
 | p :: l, M, H, ho, hr, h, hro => by
  obtain ⟨fuel, x, hx, hs⟩ := hr p (by simp)
  obtain ⟨N, K, acs, h1, h2, h3⟩ := ho p (by simp) fuel p.2 x M H hx hs h hro
  obtain ⟨N', K', acss, g1, g2, g3, g4⟩ := openLB l (M ++ N) (H ++ K) (fun q hq => ho q (by simp [hq])) (fun q hq => hr q (by simp [hq])) h1.hr (hro.app h1.ro)
  refine ⟨N ++ N', K ++ K', acs :: acss, h1.trans g1, by simp [g2], ?_, fun i q a hi ha => ?_⟩
  ·simp only [List.map_cons, List.flatten_cons]
   rw [← List.append_assoc]
   exact (h2.mono (Ext.app _ _)).append g3
  ·cases i with
   | zero => simp at hi ha; subst hi; subst ha; rw [← List.append_assoc]; exact h3.app
   | succ i => rw [← List.append_assoc]; exact g4 i q a (by simpa using hi) (by simpa using ha)
theorem openB (hS1 : ∀ e r, S (.slice e r) -> e.length ≤ B ∧ ∀ d ∈ e ++ r, S d) (hS2 : ∀ l, S (.agg l) -> ∀ d ∈ l, S d) : ∀ (d : Nat) (t : TypeId), okD P d t = true -> OpenB B S P w enc base (fun _ => true) held d t
 | 0, t, h => by simp [okD] at h
 | d + 1, t, h => by
  intro fuel cs x M H hx hs hr hro
  unfold okD at h
  split at h
  ·rename_i ht
   obtain ⟨b, rfl, _⟩ := DataW.trod_bool ht hx
   exact ⟨[], [], _, .refl hr, flat_vl _ rfl, by simp only [WTcB, ht]; exact ⟨by simpa using (by simpa using h : P.cellsOf t = 1).symm, b, rfl⟩⟩
  ·rename_i k ht
   obtain ⟨n, rfl, _, hw⟩ := DataW.trod_int ht hx
   exact ⟨[], [], _, .refl hr, flat_vl _ rfl, by simp only [WTcB, ht]; exact ⟨by simpa using (by simpa using h : P.cellsOf t = 1).symm, n, rfl, hw⟩⟩
  ·rename_i ht
   obtain ⟨s, rfl, _, hs⟩ := DataW.trod_string ht hx
   exact ⟨[], [], _, .refl hr, flat_vl _ rfl, by simp only [WTcB, ht]; exact ⟨by simpa using (by simpa using h : P.cellsOf t = 1).symm, s, rfl, hs⟩⟩
  ·rename_i e ht
   simp only [Bool.and_eq_true, beq_iff_eq, decide_eq_true_eq] at h
   obtain ⟨⟨hc1, hc0⟩, hok⟩ := h
   rcases DataW.trod_slice ht hx with ⟨rfl, _⟩ | ⟨a, len, cap, elems, rest, n, _, rfl, hxe, hb, hl, hm, hlen, hel, hsp, _⟩
   ·exact ⟨[], [], _, .refl hr, flat_vl _ rfl, by simp [WTcB, ht, hc1]⟩
   ·obtain ⟨hrl, hre⟩ := hsp rfl
    rw [hxe] at hs
    obtain ⟨hsl, hsm⟩ := hS1 _ _ hs
    rw [List.length_map, hlen] at hsl
    by_cases hcap : cap = 0
    ·subst hcap
     have : len = 0 := by omega
     subst this
     exact ⟨[], [], [.slice (some ⟨0, 0, some 0⟩) 0 0], .refl hr, VL.cons .sliceE (VL.nil _), by simp only [WTcB, ht]; exact ⟨by simp [hc1], .inr (.inl ⟨0, 0, rfl⟩)⟩⟩
    ·have hall : ∀ i, i < cap -> ∃ ci y, w.cells? base (a.add (i * P.cellsOf e)) (P.cellsOf e) = some ci ∧ DataW.trod enc P w base (fun _ => true) held n e ci = some y ∧ S y.1 := by
      intro i hi
      by_cases h' : i < len
      ·have := hel i h'
       rw [List.getElem?_eq_getElem (by omega), Option.bind_eq_some_iff] at this
       obtain ⟨ci, q1, q2⟩ := this
       exact ⟨ci, _, q1, q2, hsm _ (List.mem_append_left _ (List.mem_map.2 ⟨_, List.getElem_mem _, rfl⟩))⟩
      ·have := hre (i - len) (by omega)
       rw [show len + (i - len) = i by omega, List.getElem?_eq_getElem (by omega), Option.bind_eq_some_iff] at this
       obtain ⟨ci, q1, q2⟩ := this
       exact ⟨ci, _, q1, q2, hsm _ (List.mem_append_right _ (List.mem_map.2 ⟨_, List.getElem_mem _, rfl⟩))⟩
     have hspot : a.spot = none := by
      obtain ⟨ci, y, q1, _⟩ := hall 0 (by omega)
      obtain ⟨_, q3, q4⟩ := World.cells?_some q1
      have := q4 0 hc0
      rw [List.getElem?_eq_getElem (by omega)] at this
      simp only [Nat.zero_mul] at this
      unfold World.cell? at this
      simp only [Addr.add, if_true] at this
      split at this
      ·split at this
       ·simp at this
       ·rename_i hns; simpa using hns
      ·simp at this
     obtain ⟨bl, of, sp⟩ := a
     simp only at hspot; subst hspot
     obtain ⟨c, ct, fz, hw⟩ : ∃ c ct fz, w.heap[bl]? = some (.cells c ct fz) := by
      obtain ⟨ci, y, q1, _⟩ := hall 0 (by omega)
      obtain ⟨_, q3, q4⟩ := World.cells?_some q1
      have := q4 0 hc0
      rw [List.getElem?_eq_getElem (by omega)] at this
      simp only [Nat.zero_mul] at this
      unfold World.cell? at this
      simp only [Addr.add, if_true] at this
      split at this
      ·rename_i c ct fz hw; exact ⟨c, ct, fz, hw⟩
      ·simp at this
     have hci : ∀ i, i < cap -> w.cells? base ((⟨bl, of, none⟩ : Addr).add (i * P.cellsOf e)) (P.cellsOf e) = some ((c.toList.drop (of + i * P.cellsOf e)).take (P.cellsOf e)) ∧ of + i * P.cellsOf e + P.cellsOf e ≤ c.size := by
      intro i hi
      obtain ⟨ci, y, q1, _⟩ := hall i hi
      obtain ⟨_, q3, q4⟩ := World.cells?_some q1
      have hj : ∀ j, j < P.cellsOf e -> c.toList[of + i * P.cellsOf e + j]? = ci[j]? := by
       intro j hj
       have := q4 j hj
       rw [Addr.add_lit, Addr.add_lit] at this
       unfold World.cell? at this
       simp only [hw] at this
       simpa using this
      have hsz : of + i * P.cellsOf e + P.cellsOf e ≤ c.size := by
       have := hj (P.cellsOf e - 1) (by omega)
       rw [List.getElem?_eq_getElem (l := ci) (by omega)] at this
       have := (List.getElem?_eq_some_iff.1 this).1
       simp at this; omega
      refine ⟨?_, hsz⟩
      rw [q1]; congr 1
      apply List.ext_getElem?
      intro j
      rw [List.getElem?_take, List.getElem?_drop]
      by_cases hjl : j < P.cellsOf e
      ·rw [if_pos hjl, hj j hjl]
      ·rw [if_neg hjl, List.getElem?_eq_none (by omega)]
     let us := (c.toList.drop of).take (cap * P.cellsOf e)
     have hul : us.length = cap * P.cellsOf e := by
      have := (hci (cap - 1) (by omega)).2
      have h2 : (cap - 1) * P.cellsOf e + P.cellsOf e = cap * P.cellsOf e := by rw [← Nat.succ_mul]; congr 1; omega
      simp [us]; omega
     let l := (List.range cap).map fun i => (e, (us.drop (i * P.cellsOf e)).take (P.cellsOf e))
     have hpc : ∀ i, i < cap -> (us.drop (i * P.cellsOf e)).take (P.cellsOf e) = (c.toList.drop (of + i * P.cellsOf e)).take (P.cellsOf e) := by
      intro i hi
      simp only [us]
      rw [List.drop_take, List.take_take, List.drop_drop]
      congr 1
      have : (i + 1) * P.cellsOf e ≤ cap * P.cellsOf e := Nat.mul_le_mul_right _ hi
      rw [Nat.add_mul] at this
      omega
     obtain ⟨N, K, acss, g1, g2, g3, g4⟩ := openLB (d := d) l M H (fun p hp => by
       obtain ⟨i, _, rfl⟩ := List.mem_map.1 hp
       exact openB hS1 hS2 d e hok) (fun p hp => by
       obtain ⟨i, hi, rfl⟩ := List.mem_map.1 hp
       have hi : i < cap := by simpa using hi
       obtain ⟨ci, y, q1, q2, q3⟩ := hall i hi
       rw [(hci i hi).1] at q1
       have q1 := Option.some.inj q1
       refine ⟨n, y, ?_, q3⟩
       simp only
       rw [hpc i hi, q1]; exact q2) hr hro
     have hfl : (l.map (·.2)).flatten = us := by
      simp only [l, List.map_map]
      exact piecesN cap _ us hul
     rw [hfl] at g3
     obtain ⟨en, k1, k2, k3, k4⟩ := addRow (sz := P.cellsOf e) (b := bl) (o := of) g1.hr (hro.app g1.ro) ⟨c, ct, fz, hw, by
      have := (hci (cap - 1) (by omega)).2
      have h2 : (cap - 1) * P.cellsOf e + P.cellsOf e = cap * P.cellsOf e := by rw [← Nat.succ_mul]; congr 1; omega
      rw [hul]; omega, by rw [hul]⟩ g3
     refine ⟨N ++ [some en], K ++ [.row acss.flatten (P.cellsOf e) false true true], [.slice (some ⟨(H ++ K).length, 0, none⟩) len cap], g1.trans k4, ?_, ?_⟩
     ·refine VL.cons ?_ (VL.nil _)
      have hget : (M ++ (N ++ [some en]))[(H ++ K).length]? = some (some en) := by
       have := g1.hr.len
       rw [← List.append_assoc, ← this]; simp
      have := VR.slice (M := M ++ (N ++ [some en])) (off := 0) (len := len) (cap := cap) (c := cap) hget (.inl rfl)
      rw [k1, k2] at this
      exact this
     ·simp only [WTcB, ht]
      refine ⟨by simp [hc1], .inr (.inr ⟨_, len, cap, acss, rfl, hl, hm, hsl, by rw [g2]; simp [l], by omega, ?_, fun x hxm => ?_⟩)⟩
      ·rw [← List.append_assoc]; simp
      ·obtain ⟨i, hi⟩ := List.mem_iff_getElem?.1 hxm
       have hil : i < cap := by have := (List.getElem?_eq_some_iff.1 hi).1; rw [g2] at this; simpa [l] using this
       have := g4 i (e, (us.drop (i * P.cellsOf e)).take (P.cellsOf e)) x (by simp [l, hil]) hi
       rw [← List.append_assoc]; exact this.app
  ·rename_i fs ht
   simp only [Bool.and_eq_true, List.all_eq_true] at h
   obtain ⟨hct, hok⟩ := h
   obtain ⟨xs, n, _, hxe, hl, hxl, hxs⟩ := DataW.trod_struct ht hx
   rw [hxe] at hs
   have hsm := hS2 _ hs
   obtain ⟨_, hfl⟩ := pieces hct hl
   obtain ⟨N, K, acss, g1, g2, g3, g4⟩ := openLB (d := d) (fs.toList.map fun f => (f.type, (cs.drop f.offset).take (P.cellsOf f.type))) M H (fun p hp => by
     obtain ⟨f, hf, rfl⟩ := List.mem_map.1 hp
     exact openB hS1 hS2 d f.type (hok f hf)) (fun p hp => by
     obtain ⟨f, hf, rfl⟩ := List.mem_map.1 hp
     obtain ⟨i, hi⟩ := List.mem_iff_getElem?.1 hf
     have hi' : fs[i]? = some f := by simpa using hi
     have hil : i < xs.length := by rw [hxl]; exact (Array.getElem?_eq_some_iff.1 hi').1
     exact ⟨n, xs[i], by rw [hxs i f hi', List.getElem?_eq_getElem hil], hsm _ (List.mem_map.2 ⟨_, List.getElem_mem _, rfl⟩)⟩) hr hro
   refine ⟨N, K, acss.flatten, g1, ?_, ?_⟩
   ·have e : ((fs.toList.map fun f => (f.type, (cs.drop f.offset).take (P.cellsOf f.type))).map (·.2)).flatten = cs := by
     rw [List.map_map]
     have := hfl
     rw [List.drop_zero] at this
     exact this
    rw [e] at g3; exact g3
   ·simp only [WTcB, ht]
    refine ⟨?_, acss, by rw [g2]; simp, rfl, fun i f a hf ha => g4 i _ a (by simp only [List.getElem?_map]; rw [show fs.toList[i]? = some f by simpa using hf]; rfl) ha⟩
    have := g3.1
    rw [this, List.map_map, ← hl]
    have e := hfl
    rw [List.drop_zero] at e
    exact congrArg List.length e
  ·rename_i m e ht
   simp only [Bool.and_eq_true, beq_iff_eq] at h
   obtain ⟨hct, hok⟩ := h
   obtain ⟨xs, n, _, hxe, hl, hxl, hxs⟩ := DataW.trod_array ht hx
   rw [hxe] at hs
   have hsm := hS2 _ hs
   have hfl := piecesN m (P.cellsOf e) cs (by rw [hl, hct])
   obtain ⟨N, K, acss, g1, g2, g3, g4⟩ := openLB (d := d) ((List.range m).map fun i => (e, (cs.drop (i * P.cellsOf e)).take (P.cellsOf e))) M H (fun p hp => by
     obtain ⟨i, hi, rfl⟩ := List.mem_map.1 hp
     exact openB hS1 hS2 d e hok) (fun p hp => by
     obtain ⟨i, hi, rfl⟩ := List.mem_map.1 hp
     have hi : i < m := by simpa using hi
     exact ⟨n, xs[i]'(by omega), by simp only; rw [hxs i hi, List.getElem?_eq_getElem (by omega)], hsm _ (List.mem_map.2 ⟨_, List.getElem_mem _, rfl⟩)⟩) hr hro
   have e1 : (((List.range m).map fun i => (e, (cs.drop (i * P.cellsOf e)).take (P.cellsOf e))).map (·.2)).flatten = cs := by rw [List.map_map]; exact hfl
   rw [e1] at g3
   refine ⟨N, K, acss.flatten, g1, g3, ?_⟩
   simp only [WTcB, ht]
   refine ⟨by rw [g3.1, hl], acss, by rw [g2]; simp, rfl, fun a ha => ?_⟩
   obtain ⟨i, hi⟩ := List.mem_iff_getElem?.1 ha
   have him : i < m := by have := (List.getElem?_eq_some_iff.1 hi).1; rw [g2] at this; simpa using this
   exact g4 i (e, (cs.drop (i * P.cellsOf e)).take (P.cellsOf e)) a (by simp [him]) hi
  ·simp at h
end
theorem WTcB.wt : ∀ {d : Nat} {t : TypeId} {cs : List Value}, WTcB B P H d t cs -> WTc P H d t cs
 | 0, _, _, h => h.elim
 | d + 1, t, cs, h => by
  simp only [WTcB] at h
  simp only [WTc]
  refine ⟨h.1, ?_⟩
  have h := h.2
  split at h
  ·rename_i ht; (try simp only [ht]); exact h
  ·rename_i ht; (try simp only [ht]); exact h
  ·rename_i ht; (try simp only [ht]); exact h
  ·rename_i ht
   (try simp only [ht])
   rcases h with h | h | ⟨b, len, cap, acss, h1, h2, h3, hB, h4, h5, h6, h7⟩
   ·exact .inl h
   ·exact .inr (.inl h)
   ·exact .inr (.inr ⟨b, len, cap, acss, h1, h2, h3, h4, h5, h6, fun a ha => (h7 a ha).wt⟩)
  ·rename_i ht
   (try simp only [ht])
   obtain ⟨acss, h1, h2, h3⟩ := h
   exact ⟨acss, h1, h2, fun i f a hf ha => (h3 i f a hf ha).wt⟩
  ·rename_i ht
   (try simp only [ht])
   obtain ⟨acss, h1, h2, h3⟩ := h
   exact ⟨acss, h1, h2, fun a ha => (h3 a ha).wt⟩
  ·exact h.elim
theorem lens_eqB {d : Nat} {fs : List Field} : ∀ {acss : List (List Value)} (i : Nat), (∀ (j : Nat) (f : Field) (a : List Value), fs[j]? = some f -> acss[j]? = some a -> WTcB B P H d f.type a) -> acss.length = fs.length -> ((acss.take i).map List.length).sum = ((fs.take i).map fun f => P.cellsOf f.type).sum :=
 fun i h hl => lens_eq i (fun j f a h1 h2 => (h j f a h1 h2).wt) hl
theorem WTcB.fld {d : Nat} {t : TypeId} {cs : List Value} {fs : Array Field} (ht : P.underlying t = some (.struct fs)) {i off : Nat} {f : Field} (hf : fs[i]? = some f) (hoff : ((fs.toList.take i).map fun f => P.cellsOf f.type).sum = off) (h : WTcB B P H (d + 1) t cs) :
  WTcB B P H d f.type ((cs.drop off).take (P.cellsOf f.type)) := by
 simp only [WTcB, ht] at h
 obtain ⟨_, acss, hl, rfl, hp⟩ := h
 have hi : i < fs.size := (Array.getElem?_eq_some_iff.1 hf).1
 have ha : acss[i]? = some acss[i] := List.getElem?_eq_getElem (by omega)
 have hw := hp i f _ hf ha
 have := flatten_at acss i _ ha
 rw [lens_eqB (P := P) (H := H) (d := d) (fs := fs.toList) i (fun j f a h1 h2 => hp j f a (by simpa using h1) h2) (by simpa using hl), hoff, hw.len] at this
 rw [this]; exact hw
end
def okCell : Value -> Prop
 | .int k n => (Lit.int k n).wf = true
 | .string s => s.size ≤ maxLen
 | _ => True
theorem WTc.okc {P : Program} {H : Heap} : ∀ {d : Nat} {t : TypeId} {cs : List Value}, WTc P H d t cs -> ∀ v ∈ cs, okCell v
 | 0, _, _, h => h.elim
 | d + 1, t, cs, h => by
  simp only [WTc] at h
  obtain ⟨_, h⟩ := h
  intro v hv
  split at h
  ·obtain ⟨b, rfl⟩ := h
   simp at hv; subst hv; trivial
  ·obtain ⟨b, rfl, q⟩ := h
   simp at hv; subst hv; exact q
  ·obtain ⟨b, rfl, q⟩ := h
   simp at hv; subst hv; exact q
  ·rcases h with rfl | ⟨b, off, rfl⟩ | ⟨b, len, cap, acss, rfl, _⟩ <;> (simp at hv; subst hv; trivial)
  ·obtain ⟨acss, hl, rfl, hp⟩ := h
   obtain ⟨a, ha, hva⟩ := List.mem_flatten.1 hv
   obtain ⟨i, hi⟩ := List.mem_iff_getElem?.1 ha
   have hil := (List.getElem?_eq_some_iff.1 hi).1
   exact WTc.okc (hp i _ a (Array.getElem?_eq_getElem (by omega)) hi) v hva
  ·obtain ⟨acss, hl, rfl, hp⟩ := h
   obtain ⟨a, ha, hva⟩ := List.mem_flatten.1 hv
   exact WTc.okc (hp a ha) v hva
  ·exact h.elim
end Go.Proofs.YtolekmhhkopooaaGreatDoor.Zq
end
section
namespace Go.Proofs.YtolekmhhkopooaaGreatDoor
open Go Zq
def Tryz.tab : List (Option TI) := [
 none,
 none,
 none,
 some ⟨.int .i64, 1, 8, [.int .i64 0]⟩,
 some ⟨.bool, 1, 1, [.bool false]⟩,
 some ⟨.int .u8, 1, 1, [.int .u8 0]⟩,
 none,
 none,
 none,
 some ⟨.string, 1, 16, [.string ⟨#[]⟩]⟩,
 none,
 none,
 none,
 none,
 none,
 none,
 none,
 none,
 none,
 none,
 none,
 some ⟨.int .i32, 1, 4, [.int .i32 0]⟩,
 some ⟨.slice 113, 1, 24, [.slice none 0 0]⟩,
 some ⟨.slice 117, 1, 24, [.slice none 0 0]⟩,
 none,
 some ⟨.struct [(0, 22), (1, 23), (2, 4)], 3, 56, [.slice none 0 0, .slice none 0 0, .bool false]⟩,
 some ⟨.slice 48, 1, 24, [.slice none 0 0]⟩,
 some ⟨.slice 44, 1, 24, [.slice none 0 0]⟩,
 none,
 some ⟨.struct [(0, 25), (3, 26), (4, 27), (5, 4)], 6, 112, [.slice none 0 0, .slice none 0 0, .bool false, .slice none 0 0, .slice none 0 0, .bool false]⟩,
 some ⟨.pointer 160, 1, 8, [.pointer none]⟩,
 some ⟨.pointer 162, 1, 8, [.pointer none]⟩,
 none,
 none,
 none,
 some ⟨.slice 3, 1, 24, [.slice none 0 0]⟩,
 none,
 none,
 none,
 none,
 none,
 some ⟨.int .u16, 1, 2, [.int .u16 0]⟩,
 some ⟨.int .u8, 1, 1, [.int .u8 0]⟩,
 none,
 some ⟨.struct [(0, 3), (1, 42), (2, 41), (3, 3), (4, 3)], 5, 32, [.int .i64 0, .int .u8 0, .int .u16 0, .int .i64 0, .int .i64 0]⟩,
 some ⟨.int .u8, 1, 1, [.int .u8 0]⟩,
 some ⟨.array 4 3, 4, 32, [.int .i64 0, .int .i64 0, .int .i64 0, .int .i64 0]⟩,
 none,
 some ⟨.struct [(0, 3), (1, 3), (2, 45), (3, 3), (4, 3), (5, 46), (9, 3), (10, 4)], 11, 88, [.int .i64 0, .int .i64 0, .int .u8 0, .int .i64 0, .int .i64 0, .int .i64 0, .int .i64 0, .int .i64 0, .int .i64 0, .int .i64 0, .bool false]⟩,
 none,
 none,
 none,
 none,
 none,
 none,
 none,
 none,
 none,
 none,
 none,
 some ⟨.slice 35, 1, 24, [.slice none 0 0]⟩,
 none,
 none,
 some ⟨.struct [(0, 26), (1, 27)], 2, 48, [.slice none 0 0, .slice none 0 0]⟩,
 none,
 some ⟨.func, 1, 8, [.nilFunc]⟩,
 some ⟨.slice 82, 1, 24, [.slice none 0 0]⟩,
 some ⟨.int .i64, 1, 8, [.int .i64 0]⟩,
 none,
 none,
 none,
 none,
 none,
 none,
 some ⟨.int .u8, 1, 1, [.int .u8 0]⟩,
 some ⟨.int .u8, 1, 1, [.int .u8 0]⟩,
 some ⟨.int .u8, 1, 1, [.int .u8 0]⟩,
 some ⟨.int .u8, 1, 1, [.int .u8 0]⟩,
 some ⟨.int .u8, 1, 1, [.int .u8 0]⟩,
 none,
 some ⟨.struct [(0, 74), (1, 75), (2, 76), (3, 3), (4, 42), (5, 77), (6, 78), (7, 9)], 8, 40, [.int .u8 0, .int .u8 0, .int .u8 0, .int .i64 0, .int .u8 0, .int .u8 0, .int .u8 0, .string ⟨#[]⟩]⟩,
 none,
 some ⟨.struct [(0, 3), (1, 3), (2, 80)], 10, 56, [.int .i64 0, .int .i64 0, .int .u8 0, .int .u8 0, .int .u8 0, .int .i64 0, .int .u8 0, .int .u8 0, .int .u8 0, .string ⟨#[]⟩]⟩,
 none,
 none,
 none,
 none,
 some ⟨.slice 4, 1, 24, [.slice none 0 0]⟩,
 none,
 none,
 none,
 none,
 none,
 none,
 none,
 none,
 none,
 none,
 none,
 none,
 some ⟨.slice 27, 1, 24, [.slice none 0 0]⟩,
 none,
 none,
 none,
 none,
 some ⟨.slice 66, 1, 24, [.slice none 0 0]⟩,
 none,
 none,
 none,
 none,
 some ⟨.int .u8, 1, 1, [.int .u8 0]⟩,
 some ⟨.slice 80, 1, 24, [.slice none 0 0]⟩,
 none,
 some ⟨.struct [(0, 9), (1, 42), (2, 110), (3, 3), (4, 3), (5, 3), (6, 41), (7, 4), (8, 111)], 9, 80, [.string ⟨#[]⟩, .int .u8 0, .int .u8 0, .int .i64 0, .int .i64 0, .int .i64 0, .int .u16 0, .bool false, .slice none 0 0]⟩,
 none,
 none,
 none,
 some ⟨.struct [(0, 78), (1, 9), (2, 3), (3, 3)], 4, 40, [.int .u8 0, .string ⟨#[]⟩, .int .i64 0, .int .i64 0]⟩,
 none,
 none,
 none,
 some ⟨.func, 1, 8, [.nilFunc]⟩,
 none,
 none,
 none,
 none,
 none,
 none,
 none,
 none,
 none,
 none,
 none,
 none,
 some ⟨.struct [(0, 30), (1, 26), (2, 22), (3, 35)], 4, 80, [.pointer none, .slice none 0 0, .slice none 0 0, .slice none 0 0]⟩,
 none,
 none,
 none,
 none,
 none,
 none,
 none,
 none,
 none,
 none,
 none,
 none,
 none,
 none,
 none,
 none,
 none,
 none,
 none,
 none,
 none,
 some ⟨.array 64 113, 576, 5120, [.string ⟨#[]⟩, .int .u8 0, .int .u8 0, .int .i64 0, .int .i64 0, .int .i64 0, .int .u16 0, .bool false, .slice none 0 0, .string ⟨#[]⟩, .int .u8 0, .int .u8 0, .int .i64 0, .int .i64 0, .int .i64 0, .int .u16 0, .bool false, .slice none 0 0, .string ⟨#[]⟩, .int .u8 0, .int .u8 0, .int .i64 0, .int .i64 0, .int .i64 0, .int .u16 0, .bool false, .slice none 0 0, .string ⟨#[]⟩, .int .u8 0, .int .u8 0, .int .i64 0, .int .i64 0, .int .i64 0, .int .u16 0, .bool false, .slice none 0 0, .string ⟨#[]⟩, .int .u8 0, .int .u8 0, .int .i64 0, .int .i64 0, .int .i64 0, .int .u16 0, .bool false, .slice none 0 0, .string ⟨#[]⟩, .int .u8 0, .int .u8 0, .int .i64 0, .int .i64 0, .int .i64 0, .int .u16 0, .bool false, .slice none 0 0, .string ⟨#[]⟩, .int .u8 0, .int .u8 0, .int .i64 0, .int .i64 0, .int .i64 0, .int .u16 0, .bool false, .slice none 0 0, .string ⟨#[]⟩, .int .u8 0, .int .u8 0, .int .i64 0, .int .i64 0, .int .i64 0, .int .u16 0, .bool false, .slice none 0 0, .string ⟨#[]⟩, .int .u8 0, .int .u8 0, .int .i64 0, .int .i64 0, .int .i64 0, .int .u16 0, .bool false, .slice none 0 0, .string ⟨#[]⟩, .int .u8 0, .int .u8 0, .int .i64 0, .int .i64 0, .int .i64 0, .int .u16 0, .bool false, .slice none 0 0, .string ⟨#[]⟩, .int .u8 0, .int .u8 0, .int .i64 0, .int .i64 0, .int .i64 0, .int .u16 0, .bool false, .slice none 0 0, .string ⟨#[]⟩, .int .u8 0, .int .u8 0, .int .i64 0, .int .i64 0, .int .i64 0, .int .u16 0, .bool false, .slice none 0 0, .string ⟨#[]⟩, .int .u8 0, .int .u8 0, .int .i64 0, .int .i64 0, .int .i64 0, .int .u16 0, .bool false, .slice none 0 0, .string ⟨#[]⟩, .int .u8 0, .int .u8 0, .int .i64 0, .int .i64 0, .int .i64 0, .int .u16 0, .bool false, .slice none 0 0, .string ⟨#[]⟩, .int .u8 0, .int .u8 0, .int .i64 0, .int .i64 0, .int .i64 0, .int .u16 0, .bool false, .slice none 0 0, .string ⟨#[]⟩, .int .u8 0, .int .u8 0, .int .i64 0, .int .i64 0, .int .i64 0, .int .u16 0, .bool false, .slice none 0 0, .string ⟨#[]⟩, .int .u8 0, .int .u8 0, .int .i64 0, .int .i64 0, .int .i64 0, .int .u16 0, .bool false, .slice none 0 0, .string ⟨#[]⟩, .int .u8 0, .int .u8 0, .int .i64 0, .int .i64 0, .int .i64 0, .int .u16 0, .bool false, .slice none 0 0, .string ⟨#[]⟩, .int .u8 0, .int .u8 0, .int .i64 0, .int .i64 0, .int .i64 0, .int .u16 0, .bool false, .slice none 0 0, .string ⟨#[]⟩, .int .u8 0, .int .u8 0, .int .i64 0, .int .i64 0, .int .i64 0, .int .u16 0, .bool false, .slice none 0 0, .string ⟨#[]⟩, .int .u8 0, .int .u8 0, .int .i64 0, .int .i64 0, .int .i64 0, .int .u16 0, .bool false, .slice none 0 0, .string ⟨#[]⟩, .int .u8 0, .int .u8 0, .int .i64 0, .int .i64 0, .int .i64 0, .int .u16 0, .bool false, .slice none 0 0, .string ⟨#[]⟩, .int .u8 0, .int .u8 0, .int .i64 0, .int .i64 0, .int .i64 0, .int .u16 0, .bool false, .slice none 0 0, .string ⟨#[]⟩, .int .u8 0, .int .u8 0, .int .i64 0, .int .i64 0, .int .i64 0, .int .u16 0, .bool false, .slice none 0 0, .string ⟨#[]⟩, .int .u8 0, .int .u8 0, .int .i64 0, .int .i64 0, .int .i64 0, .int .u16 0, .bool false, .slice none 0 0, .string ⟨#[]⟩, .int .u8 0, .int .u8 0, .int .i64 0, .int .i64 0, .int .i64 0, .int .u16 0, .bool false, .slice none 0 0, .string ⟨#[]⟩, .int .u8 0, .int .u8 0, .int .i64 0, .int .i64 0, .int .i64 0, .int .u16 0, .bool false, .slice none 0 0, .string ⟨#[]⟩, .int .u8 0, .int .u8 0, .int .i64 0, .int .i64 0, .int .i64 0, .int .u16 0, .bool false, .slice none 0 0, .string ⟨#[]⟩, .int .u8 0, .int .u8 0, .int .i64 0, .int .i64 0, .int .i64 0, .int .u16 0, .bool false, .slice none 0 0, .string ⟨#[]⟩, .int .u8 0, .int .u8 0, .int .i64 0, .int .i64 0, .int .i64 0, .int .u16 0, .bool false, .slice none 0 0, .string ⟨#[]⟩, .int .u8 0, .int .u8 0, .int .i64 0, .int .i64 0, .int .i64 0, .int .u16 0, .bool false, .slice none 0 0, .string ⟨#[]⟩, .int .u8 0, .int .u8 0, .int .i64 0, .int .i64 0, .int .i64 0, .int .u16 0, .bool false, .slice none 0 0, .string ⟨#[]⟩, .int .u8 0, .int .u8 0, .int .i64 0, .int .i64 0, .int .i64 0, .int .u16 0, .bool false, .slice none 0 0, .string ⟨#[]⟩, .int .u8 0, .int .u8 0, .int .i64 0, .int .i64 0, .int .i64 0, .int .u16 0, .bool false, .slice none 0 0, .string ⟨#[]⟩, .int .u8 0, .int .u8 0, .int .i64 0, .int .i64 0, .int .i64 0, .int .u16 0, .bool false, .slice none 0 0, .string ⟨#[]⟩, .int .u8 0, .int .u8 0, .int .i64 0, .int .i64 0, .int .i64 0, .int .u16 0, .bool false, .slice none 0 0, .string ⟨#[]⟩, .int .u8 0, .int .u8 0, .int .i64 0, .int .i64 0, .int .i64 0, .int .u16 0, .bool false, .slice none 0 0, .string ⟨#[]⟩, .int .u8 0, .int .u8 0, .int .i64 0, .int .i64 0, .int .i64 0, .int .u16 0, .bool false, .slice none 0 0, .string ⟨#[]⟩, .int .u8 0, .int .u8 0, .int .i64 0, .int .i64 0, .int .i64 0, .int .u16 0, .bool false, .slice none 0 0, .string ⟨#[]⟩, .int .u8 0, .int .u8 0, .int .i64 0, .int .i64 0, .int .i64 0, .int .u16 0, .bool false, .slice none 0 0, .string ⟨#[]⟩, .int .u8 0, .int .u8 0, .int .i64 0, .int .i64 0, .int .i64 0, .int .u16 0, .bool false, .slice none 0 0, .string ⟨#[]⟩, .int .u8 0, .int .u8 0, .int .i64 0, .int .i64 0, .int .i64 0, .int .u16 0, .bool false, .slice none 0 0, .string ⟨#[]⟩, .int .u8 0, .int .u8 0, .int .i64 0, .int .i64 0, .int .i64 0, .int .u16 0, .bool false, .slice none 0 0, .string ⟨#[]⟩, .int .u8 0, .int .u8 0, .int .i64 0, .int .i64 0, .int .i64 0, .int .u16 0, .bool false, .slice none 0 0, .string ⟨#[]⟩, .int .u8 0, .int .u8 0, .int .i64 0, .int .i64 0, .int .i64 0, .int .u16 0, .bool false, .slice none 0 0, .string ⟨#[]⟩, .int .u8 0, .int .u8 0, .int .i64 0, .int .i64 0, .int .i64 0, .int .u16 0, .bool false, .slice none 0 0, .string ⟨#[]⟩, .int .u8 0, .int .u8 0, .int .i64 0, .int .i64 0, .int .i64 0, .int .u16 0, .bool false, .slice none 0 0, .string ⟨#[]⟩, .int .u8 0, .int .u8 0, .int .i64 0, .int .i64 0, .int .i64 0, .int .u16 0, .bool false, .slice none 0 0, .string ⟨#[]⟩, .int .u8 0, .int .u8 0, .int .i64 0, .int .i64 0, .int .i64 0, .int .u16 0, .bool false, .slice none 0 0, .string ⟨#[]⟩, .int .u8 0, .int .u8 0, .int .i64 0, .int .i64 0, .int .i64 0, .int .u16 0, .bool false, .slice none 0 0, .string ⟨#[]⟩, .int .u8 0, .int .u8 0, .int .i64 0, .int .i64 0, .int .i64 0, .int .u16 0, .bool false, .slice none 0 0, .string ⟨#[]⟩, .int .u8 0, .int .u8 0, .int .i64 0, .int .i64 0, .int .i64 0, .int .u16 0, .bool false, .slice none 0 0, .string ⟨#[]⟩, .int .u8 0, .int .u8 0, .int .i64 0, .int .i64 0, .int .i64 0, .int .u16 0, .bool false, .slice none 0 0, .string ⟨#[]⟩, .int .u8 0, .int .u8 0, .int .i64 0, .int .i64 0, .int .i64 0, .int .u16 0, .bool false, .slice none 0 0, .string ⟨#[]⟩, .int .u8 0, .int .u8 0, .int .i64 0, .int .i64 0, .int .i64 0, .int .u16 0, .bool false, .slice none 0 0, .string ⟨#[]⟩, .int .u8 0, .int .u8 0, .int .i64 0, .int .i64 0, .int .i64 0, .int .u16 0, .bool false, .slice none 0 0, .string ⟨#[]⟩, .int .u8 0, .int .u8 0, .int .i64 0, .int .i64 0, .int .i64 0, .int .u16 0, .bool false, .slice none 0 0, .string ⟨#[]⟩, .int .u8 0, .int .u8 0, .int .i64 0, .int .i64 0, .int .i64 0, .int .u16 0, .bool false, .slice none 0 0, .string ⟨#[]⟩, .int .u8 0, .int .u8 0, .int .i64 0, .int .i64 0, .int .i64 0, .int .u16 0, .bool false, .slice none 0 0, .string ⟨#[]⟩, .int .u8 0, .int .u8 0, .int .i64 0, .int .i64 0, .int .i64 0, .int .u16 0, .bool false, .slice none 0 0, .string ⟨#[]⟩, .int .u8 0, .int .u8 0, .int .i64 0, .int .i64 0, .int .i64 0, .int .u16 0, .bool false, .slice none 0 0, .string ⟨#[]⟩, .int .u8 0, .int .u8 0, .int .i64 0, .int .i64 0, .int .i64 0, .int .u16 0, .bool false, .slice none 0 0, .string ⟨#[]⟩, .int .u8 0, .int .u8 0, .int .i64 0, .int .i64 0, .int .i64 0, .int .u16 0, .bool false, .slice none 0 0, .string ⟨#[]⟩, .int .u8 0, .int .u8 0, .int .i64 0, .int .i64 0, .int .i64 0, .int .u16 0, .bool false, .slice none 0 0]⟩,
 some ⟨.array 9 9, 9, 144, [.string ⟨#[]⟩, .string ⟨#[]⟩, .string ⟨#[]⟩, .string ⟨#[]⟩, .string ⟨#[]⟩, .string ⟨#[]⟩, .string ⟨#[]⟩, .string ⟨#[]⟩, .string ⟨#[]⟩]⟩,
 some ⟨.array 5 117, 20, 200, [.int .u8 0, .string ⟨#[]⟩, .int .i64 0, .int .i64 0, .int .u8 0, .string ⟨#[]⟩, .int .i64 0, .int .i64 0, .int .u8 0, .string ⟨#[]⟩, .int .i64 0, .int .i64 0, .int .u8 0, .string ⟨#[]⟩, .int .i64 0, .int .i64 0, .int .u8 0, .string ⟨#[]⟩, .int .i64 0, .int .i64 0]⟩,
 none,
 some ⟨.struct [(0, 4), (1, 4), (2, 3), (3, 156), (579, 157), (588, 158)], 608, 5480, [.bool false, .bool false, .int .i64 0, .string ⟨#[]⟩, .int .u8 0, .int .u8 0, .int .i64 0, .int .i64 0, .int .i64 0, .int .u16 0, .bool false, .slice none 0 0, .string ⟨#[]⟩, .int .u8 0, .int .u8 0, .int .i64 0, .int .i64 0, .int .i64 0, .int .u16 0, .bool false, .slice none 0 0, .string ⟨#[]⟩, .int .u8 0, .int .u8 0, .int .i64 0, .int .i64 0, .int .i64 0, .int .u16 0, .bool false, .slice none 0 0, .string ⟨#[]⟩, .int .u8 0, .int .u8 0, .int .i64 0, .int .i64 0, .int .i64 0, .int .u16 0, .bool false, .slice none 0 0, .string ⟨#[]⟩, .int .u8 0, .int .u8 0, .int .i64 0, .int .i64 0, .int .i64 0, .int .u16 0, .bool false, .slice none 0 0, .string ⟨#[]⟩, .int .u8 0, .int .u8 0, .int .i64 0, .int .i64 0, .int .i64 0, .int .u16 0, .bool false, .slice none 0 0, .string ⟨#[]⟩, .int .u8 0, .int .u8 0, .int .i64 0, .int .i64 0, .int .i64 0, .int .u16 0, .bool false, .slice none 0 0, .string ⟨#[]⟩, .int .u8 0, .int .u8 0, .int .i64 0, .int .i64 0, .int .i64 0, .int .u16 0, .bool false, .slice none 0 0, .string ⟨#[]⟩, .int .u8 0, .int .u8 0, .int .i64 0, .int .i64 0, .int .i64 0, .int .u16 0, .bool false, .slice none 0 0, .string ⟨#[]⟩, .int .u8 0, .int .u8 0, .int .i64 0, .int .i64 0, .int .i64 0, .int .u16 0, .bool false, .slice none 0 0, .string ⟨#[]⟩, .int .u8 0, .int .u8 0, .int .i64 0, .int .i64 0, .int .i64 0, .int .u16 0, .bool false, .slice none 0 0, .string ⟨#[]⟩, .int .u8 0, .int .u8 0, .int .i64 0, .int .i64 0, .int .i64 0, .int .u16 0, .bool false, .slice none 0 0, .string ⟨#[]⟩, .int .u8 0, .int .u8 0, .int .i64 0, .int .i64 0, .int .i64 0, .int .u16 0, .bool false, .slice none 0 0, .string ⟨#[]⟩, .int .u8 0, .int .u8 0, .int .i64 0, .int .i64 0, .int .i64 0, .int .u16 0, .bool false, .slice none 0 0, .string ⟨#[]⟩, .int .u8 0, .int .u8 0, .int .i64 0, .int .i64 0, .int .i64 0, .int .u16 0, .bool false, .slice none 0 0, .string ⟨#[]⟩, .int .u8 0, .int .u8 0, .int .i64 0, .int .i64 0, .int .i64 0, .int .u16 0, .bool false, .slice none 0 0, .string ⟨#[]⟩, .int .u8 0, .int .u8 0, .int .i64 0, .int .i64 0, .int .i64 0, .int .u16 0, .bool false, .slice none 0 0, .string ⟨#[]⟩, .int .u8 0, .int .u8 0, .int .i64 0, .int .i64 0, .int .i64 0, .int .u16 0, .bool false, .slice none 0 0, .string ⟨#[]⟩, .int .u8 0, .int .u8 0, .int .i64 0, .int .i64 0, .int .i64 0, .int .u16 0, .bool false, .slice none 0 0, .string ⟨#[]⟩, .int .u8 0, .int .u8 0, .int .i64 0, .int .i64 0, .int .i64 0, .int .u16 0, .bool false, .slice none 0 0, .string ⟨#[]⟩, .int .u8 0, .int .u8 0, .int .i64 0, .int .i64 0, .int .i64 0, .int .u16 0, .bool false, .slice none 0 0, .string ⟨#[]⟩, .int .u8 0, .int .u8 0, .int .i64 0, .int .i64 0, .int .i64 0, .int .u16 0, .bool false, .slice none 0 0, .string ⟨#[]⟩, .int .u8 0, .int .u8 0, .int .i64 0, .int .i64 0, .int .i64 0, .int .u16 0, .bool false, .slice none 0 0, .string ⟨#[]⟩, .int .u8 0, .int .u8 0, .int .i64 0, .int .i64 0, .int .i64 0, .int .u16 0, .bool false, .slice none 0 0, .string ⟨#[]⟩, .int .u8 0, .int .u8 0, .int .i64 0, .int .i64 0, .int .i64 0, .int .u16 0, .bool false, .slice none 0 0, .string ⟨#[]⟩, .int .u8 0, .int .u8 0, .int .i64 0, .int .i64 0, .int .i64 0, .int .u16 0, .bool false, .slice none 0 0, .string ⟨#[]⟩, .int .u8 0, .int .u8 0, .int .i64 0, .int .i64 0, .int .i64 0, .int .u16 0, .bool false, .slice none 0 0, .string ⟨#[]⟩, .int .u8 0, .int .u8 0, .int .i64 0, .int .i64 0, .int .i64 0, .int .u16 0, .bool false, .slice none 0 0, .string ⟨#[]⟩, .int .u8 0, .int .u8 0, .int .i64 0, .int .i64 0, .int .i64 0, .int .u16 0, .bool false, .slice none 0 0, .string ⟨#[]⟩, .int .u8 0, .int .u8 0, .int .i64 0, .int .i64 0, .int .i64 0, .int .u16 0, .bool false, .slice none 0 0, .string ⟨#[]⟩, .int .u8 0, .int .u8 0, .int .i64 0, .int .i64 0, .int .i64 0, .int .u16 0, .bool false, .slice none 0 0, .string ⟨#[]⟩, .int .u8 0, .int .u8 0, .int .i64 0, .int .i64 0, .int .i64 0, .int .u16 0, .bool false, .slice none 0 0, .string ⟨#[]⟩, .int .u8 0, .int .u8 0, .int .i64 0, .int .i64 0, .int .i64 0, .int .u16 0, .bool false, .slice none 0 0, .string ⟨#[]⟩, .int .u8 0, .int .u8 0, .int .i64 0, .int .i64 0, .int .i64 0, .int .u16 0, .bool false, .slice none 0 0, .string ⟨#[]⟩, .int .u8 0, .int .u8 0, .int .i64 0, .int .i64 0, .int .i64 0, .int .u16 0, .bool false, .slice none 0 0, .string ⟨#[]⟩, .int .u8 0, .int .u8 0, .int .i64 0, .int .i64 0, .int .i64 0, .int .u16 0, .bool false, .slice none 0 0, .string ⟨#[]⟩, .int .u8 0, .int .u8 0, .int .i64 0, .int .i64 0, .int .i64 0, .int .u16 0, .bool false, .slice none 0 0, .string ⟨#[]⟩, .int .u8 0, .int .u8 0, .int .i64 0, .int .i64 0, .int .i64 0, .int .u16 0, .bool false, .slice none 0 0, .string ⟨#[]⟩, .int .u8 0, .int .u8 0, .int .i64 0, .int .i64 0, .int .i64 0, .int .u16 0, .bool false, .slice none 0 0, .string ⟨#[]⟩, .int .u8 0, .int .u8 0, .int .i64 0, .int .i64 0, .int .i64 0, .int .u16 0, .bool false, .slice none 0 0, .string ⟨#[]⟩, .int .u8 0, .int .u8 0, .int .i64 0, .int .i64 0, .int .i64 0, .int .u16 0, .bool false, .slice none 0 0, .string ⟨#[]⟩, .int .u8 0, .int .u8 0, .int .i64 0, .int .i64 0, .int .i64 0, .int .u16 0, .bool false, .slice none 0 0, .string ⟨#[]⟩, .int .u8 0, .int .u8 0, .int .i64 0, .int .i64 0, .int .i64 0, .int .u16 0, .bool false, .slice none 0 0, .string ⟨#[]⟩, .int .u8 0, .int .u8 0, .int .i64 0, .int .i64 0, .int .i64 0, .int .u16 0, .bool false, .slice none 0 0, .string ⟨#[]⟩, .int .u8 0, .int .u8 0, .int .i64 0, .int .i64 0, .int .i64 0, .int .u16 0, .bool false, .slice none 0 0, .string ⟨#[]⟩, .int .u8 0, .int .u8 0, .int .i64 0, .int .i64 0, .int .i64 0, .int .u16 0, .bool false, .slice none 0 0, .string ⟨#[]⟩, .int .u8 0, .int .u8 0, .int .i64 0, .int .i64 0, .int .i64 0, .int .u16 0, .bool false, .slice none 0 0, .string ⟨#[]⟩, .int .u8 0, .int .u8 0, .int .i64 0, .int .i64 0, .int .i64 0, .int .u16 0, .bool false, .slice none 0 0, .string ⟨#[]⟩, .int .u8 0, .int .u8 0, .int .i64 0, .int .i64 0, .int .i64 0, .int .u16 0, .bool false, .slice none 0 0, .string ⟨#[]⟩, .int .u8 0, .int .u8 0, .int .i64 0, .int .i64 0, .int .i64 0, .int .u16 0, .bool false, .slice none 0 0, .string ⟨#[]⟩, .int .u8 0, .int .u8 0, .int .i64 0, .int .i64 0, .int .i64 0, .int .u16 0, .bool false, .slice none 0 0, .string ⟨#[]⟩, .int .u8 0, .int .u8 0, .int .i64 0, .int .i64 0, .int .i64 0, .int .u16 0, .bool false, .slice none 0 0, .string ⟨#[]⟩, .int .u8 0, .int .u8 0, .int .i64 0, .int .i64 0, .int .i64 0, .int .u16 0, .bool false, .slice none 0 0, .string ⟨#[]⟩, .int .u8 0, .int .u8 0, .int .i64 0, .int .i64 0, .int .i64 0, .int .u16 0, .bool false, .slice none 0 0, .string ⟨#[]⟩, .int .u8 0, .int .u8 0, .int .i64 0, .int .i64 0, .int .i64 0, .int .u16 0, .bool false, .slice none 0 0, .string ⟨#[]⟩, .int .u8 0, .int .u8 0, .int .i64 0, .int .i64 0, .int .i64 0, .int .u16 0, .bool false, .slice none 0 0, .string ⟨#[]⟩, .int .u8 0, .int .u8 0, .int .i64 0, .int .i64 0, .int .i64 0, .int .u16 0, .bool false, .slice none 0 0, .string ⟨#[]⟩, .int .u8 0, .int .u8 0, .int .i64 0, .int .i64 0, .int .i64 0, .int .u16 0, .bool false, .slice none 0 0, .string ⟨#[]⟩, .int .u8 0, .int .u8 0, .int .i64 0, .int .i64 0, .int .i64 0, .int .u16 0, .bool false, .slice none 0 0, .string ⟨#[]⟩, .int .u8 0, .int .u8 0, .int .i64 0, .int .i64 0, .int .i64 0, .int .u16 0, .bool false, .slice none 0 0, .string ⟨#[]⟩, .int .u8 0, .int .u8 0, .int .i64 0, .int .i64 0, .int .i64 0, .int .u16 0, .bool false, .slice none 0 0, .string ⟨#[]⟩, .int .u8 0, .int .u8 0, .int .i64 0, .int .i64 0, .int .i64 0, .int .u16 0, .bool false, .slice none 0 0, .string ⟨#[]⟩, .int .u8 0, .int .u8 0, .int .i64 0, .int .i64 0, .int .i64 0, .int .u16 0, .bool false, .slice none 0 0, .string ⟨#[]⟩, .int .u8 0, .int .u8 0, .int .i64 0, .int .i64 0, .int .i64 0, .int .u16 0, .bool false, .slice none 0 0, .string ⟨#[]⟩, .string ⟨#[]⟩, .string ⟨#[]⟩, .string ⟨#[]⟩, .string ⟨#[]⟩, .string ⟨#[]⟩, .string ⟨#[]⟩, .string ⟨#[]⟩, .string ⟨#[]⟩, .int .u8 0, .string ⟨#[]⟩, .int .i64 0, .int .i64 0, .int .u8 0, .string ⟨#[]⟩, .int .i64 0, .int .i64 0, .int .u8 0, .string ⟨#[]⟩, .int .i64 0, .int .i64 0, .int .u8 0, .string ⟨#[]⟩, .int .i64 0, .int .i64 0, .int .u8 0, .string ⟨#[]⟩, .int .i64 0, .int .i64 0]⟩,
 none,
 some ⟨.struct [(0, 4), (1, 4), (2, 22), (3, 157), (12, 158)], 32, 376, [.bool false, .bool false, .slice none 0 0, .string ⟨#[]⟩, .string ⟨#[]⟩, .string ⟨#[]⟩, .string ⟨#[]⟩, .string ⟨#[]⟩, .string ⟨#[]⟩, .string ⟨#[]⟩, .string ⟨#[]⟩, .string ⟨#[]⟩, .int .u8 0, .string ⟨#[]⟩, .int .i64 0, .int .i64 0, .int .u8 0, .string ⟨#[]⟩, .int .i64 0, .int .i64 0, .int .u8 0, .string ⟨#[]⟩, .int .i64 0, .int .i64 0, .int .u8 0, .string ⟨#[]⟩, .int .i64 0, .int .i64 0, .int .u8 0, .string ⟨#[]⟩, .int .i64 0, .int .i64 0]⟩,
 none,
 none,
 none,
 none,
 none,
 none,
 none,
 none,
 none,
 some ⟨.func, 1, 8, [.nilFunc]⟩,
 some ⟨.slice 9, 1, 24, [.slice none 0 0]⟩,
 none,
 none,
 none,
 none,
 none,
 none,
 none,
 none,
 none,
 none,
 none,
 none,
 none,
 none,
 none,
 none,
 none,
 some ⟨.int .u64, 1, 8, [.int .u64 0]⟩,
 none,
 none,
 none,
 none,
 none,
 none,
 none,
 none,
 none,
 none,
 none,
 none,
 none,
 none,
 none,
 none,
 none,
 none,
 none,
 none,
 none,
 none,
 some ⟨.int .i64, 1, 8, [.int .i64 0]⟩,
 none,
 none,
 none,
 none,
 none,
 none,
 none,
 some ⟨.int .u32, 1, 4, [.int .u32 0]⟩,
 none,
 some ⟨.int .u64, 1, 8, [.int .u64 0]⟩,
 none,
 none,
 none,
 none,
 none,
 none,
 none,
 some ⟨.int .u64, 1, 8, [.int .u64 0]⟩,
 none,
 none,
 none,
 some ⟨.pointer 3, 1, 8, [.pointer none]⟩,
 none,
 none,
 none,
 some ⟨.array 256 4, 256, 256, [.bool false, .bool false, .bool false, .bool false, .bool false, .bool false, .bool false, .bool false, .bool false, .bool false, .bool false, .bool false, .bool false, .bool false, .bool false, .bool false, .bool false, .bool false, .bool false, .bool false, .bool false, .bool false, .bool false, .bool false, .bool false, .bool false, .bool false, .bool false, .bool false, .bool false, .bool false, .bool false, .bool false, .bool false, .bool false, .bool false, .bool false, .bool false, .bool false, .bool false, .bool false, .bool false, .bool false, .bool false, .bool false, .bool false, .bool false, .bool false, .bool false, .bool false, .bool false, .bool false, .bool false, .bool false, .bool false, .bool false, .bool false, .bool false, .bool false, .bool false, .bool false, .bool false, .bool false, .bool false, .bool false, .bool false, .bool false, .bool false, .bool false, .bool false, .bool false, .bool false, .bool false, .bool false, .bool false, .bool false, .bool false, .bool false, .bool false, .bool false, .bool false, .bool false, .bool false, .bool false, .bool false, .bool false, .bool false, .bool false, .bool false, .bool false, .bool false, .bool false, .bool false, .bool false, .bool false, .bool false, .bool false, .bool false, .bool false, .bool false, .bool false, .bool false, .bool false, .bool false, .bool false, .bool false, .bool false, .bool false, .bool false, .bool false, .bool false, .bool false, .bool false, .bool false, .bool false, .bool false, .bool false, .bool false, .bool false, .bool false, .bool false, .bool false, .bool false, .bool false, .bool false, .bool false, .bool false, .bool false, .bool false, .bool false, .bool false, .bool false, .bool false, .bool false, .bool false, .bool false, .bool false, .bool false, .bool false, .bool false, .bool false, .bool false, .bool false, .bool false, .bool false, .bool false, .bool false, .bool false, .bool false, .bool false, .bool false, .bool false, .bool false, .bool false, .bool false, .bool false, .bool false, .bool false, .bool false, .bool false, .bool false, .bool false, .bool false, .bool false, .bool false, .bool false, .bool false, .bool false, .bool false, .bool false, .bool false, .bool false, .bool false, .bool false, .bool false, .bool false, .bool false, .bool false, .bool false, .bool false, .bool false, .bool false, .bool false, .bool false, .bool false, .bool false, .bool false, .bool false, .bool false, .bool false, .bool false, .bool false, .bool false, .bool false, .bool false, .bool false, .bool false, .bool false, .bool false, .bool false, .bool false, .bool false, .bool false, .bool false, .bool false, .bool false, .bool false, .bool false, .bool false, .bool false, .bool false, .bool false, .bool false, .bool false, .bool false, .bool false, .bool false, .bool false, .bool false, .bool false, .bool false, .bool false, .bool false, .bool false, .bool false, .bool false, .bool false, .bool false, .bool false, .bool false, .bool false, .bool false, .bool false, .bool false, .bool false, .bool false, .bool false, .bool false, .bool false, .bool false, .bool false, .bool false, .bool false, .bool false, .bool false, .bool false, .bool false, .bool false, .bool false, .bool false, .bool false, .bool false, .bool false, .bool false, .bool false, .bool false]⟩,
 none,
 none,
 none,
 some ⟨.pointer 240, 1, 8, [.pointer none]⟩,
 some ⟨.pointer 232, 1, 8, [.pointer none]⟩,
 none,
 none,
 none,
 none,
 none,
 none,
 some ⟨.array 256 5, 256, 256, [.int .u8 0, .int .u8 0, .int .u8 0, .int .u8 0, .int .u8 0, .int .u8 0, .int .u8 0, .int .u8 0, .int .u8 0, .int .u8 0, .int .u8 0, .int .u8 0, .int .u8 0, .int .u8 0, .int .u8 0, .int .u8 0, .int .u8 0, .int .u8 0, .int .u8 0, .int .u8 0, .int .u8 0, .int .u8 0, .int .u8 0, .int .u8 0, .int .u8 0, .int .u8 0, .int .u8 0, .int .u8 0, .int .u8 0, .int .u8 0, .int .u8 0, .int .u8 0, .int .u8 0, .int .u8 0, .int .u8 0, .int .u8 0, .int .u8 0, .int .u8 0, .int .u8 0, .int .u8 0, .int .u8 0, .int .u8 0, .int .u8 0, .int .u8 0, .int .u8 0, .int .u8 0, .int .u8 0, .int .u8 0, .int .u8 0, .int .u8 0, .int .u8 0, .int .u8 0, .int .u8 0, .int .u8 0, .int .u8 0, .int .u8 0, .int .u8 0, .int .u8 0, .int .u8 0, .int .u8 0, .int .u8 0, .int .u8 0, .int .u8 0, .int .u8 0, .int .u8 0, .int .u8 0, .int .u8 0, .int .u8 0, .int .u8 0, .int .u8 0, .int .u8 0, .int .u8 0, .int .u8 0, .int .u8 0, .int .u8 0, .int .u8 0, .int .u8 0, .int .u8 0, .int .u8 0, .int .u8 0, .int .u8 0, .int .u8 0, .int .u8 0, .int .u8 0, .int .u8 0, .int .u8 0, .int .u8 0, .int .u8 0, .int .u8 0, .int .u8 0, .int .u8 0, .int .u8 0, .int .u8 0, .int .u8 0, .int .u8 0, .int .u8 0, .int .u8 0, .int .u8 0, .int .u8 0, .int .u8 0, .int .u8 0, .int .u8 0, .int .u8 0, .int .u8 0, .int .u8 0, .int .u8 0, .int .u8 0, .int .u8 0, .int .u8 0, .int .u8 0, .int .u8 0, .int .u8 0, .int .u8 0, .int .u8 0, .int .u8 0, .int .u8 0, .int .u8 0, .int .u8 0, .int .u8 0, .int .u8 0, .int .u8 0, .int .u8 0, .int .u8 0, .int .u8 0, .int .u8 0, .int .u8 0, .int .u8 0, .int .u8 0, .int .u8 0, .int .u8 0, .int .u8 0, .int .u8 0, .int .u8 0, .int .u8 0, .int .u8 0, .int .u8 0, .int .u8 0, .int .u8 0, .int .u8 0, .int .u8 0, .int .u8 0, .int .u8 0, .int .u8 0, .int .u8 0, .int .u8 0, .int .u8 0, .int .u8 0, .int .u8 0, .int .u8 0, .int .u8 0, .int .u8 0, .int .u8 0, .int .u8 0, .int .u8 0, .int .u8 0, .int .u8 0, .int .u8 0, .int .u8 0, .int .u8 0, .int .u8 0, .int .u8 0, .int .u8 0, .int .u8 0, .int .u8 0, .int .u8 0, .int .u8 0, .int .u8 0, .int .u8 0, .int .u8 0, .int .u8 0, .int .u8 0, .int .u8 0, .int .u8 0, .int .u8 0, .int .u8 0, .int .u8 0, .int .u8 0, .int .u8 0, .int .u8 0, .int .u8 0, .int .u8 0, .int .u8 0, .int .u8 0, .int .u8 0, .int .u8 0, .int .u8 0, .int .u8 0, .int .u8 0, .int .u8 0, .int .u8 0, .int .u8 0, .int .u8 0, .int .u8 0, .int .u8 0, .int .u8 0, .int .u8 0, .int .u8 0, .int .u8 0, .int .u8 0, .int .u8 0, .int .u8 0, .int .u8 0, .int .u8 0, .int .u8 0, .int .u8 0, .int .u8 0, .int .u8 0, .int .u8 0, .int .u8 0, .int .u8 0, .int .u8 0, .int .u8 0, .int .u8 0, .int .u8 0, .int .u8 0, .int .u8 0, .int .u8 0, .int .u8 0, .int .u8 0, .int .u8 0, .int .u8 0, .int .u8 0, .int .u8 0, .int .u8 0, .int .u8 0, .int .u8 0, .int .u8 0, .int .u8 0, .int .u8 0, .int .u8 0, .int .u8 0, .int .u8 0, .int .u8 0, .int .u8 0, .int .u8 0, .int .u8 0, .int .u8 0, .int .u8 0, .int .u8 0, .int .u8 0, .int .u8 0, .int .u8 0, .int .u8 0, .int .u8 0, .int .u8 0, .int .u8 0, .int .u8 0, .int .u8 0, .int .u8 0, .int .u8 0, .int .u8 0, .int .u8 0, .int .u8 0, .int .u8 0, .int .u8 0, .int .u8 0]⟩,
 none,
 some ⟨.struct [(0, 5), (1, 5)], 2, 2, [.int .u8 0, .int .u8 0]⟩,
 some ⟨.array 16 254, 32, 32, [.int .u8 0, .int .u8 0, .int .u8 0, .int .u8 0, .int .u8 0, .int .u8 0, .int .u8 0, .int .u8 0, .int .u8 0, .int .u8 0, .int .u8 0, .int .u8 0, .int .u8 0, .int .u8 0, .int .u8 0, .int .u8 0, .int .u8 0, .int .u8 0, .int .u8 0, .int .u8 0, .int .u8 0, .int .u8 0, .int .u8 0, .int .u8 0, .int .u8 0, .int .u8 0, .int .u8 0, .int .u8 0, .int .u8 0, .int .u8 0, .int .u8 0, .int .u8 0]⟩]
def Tryz.fns : List FuncId := [3, 4, 5, 6, 7, 8, 9, 10, 11, 12, 13, 14, 15, 16, 17, 18, 19, 20, 21, 22, 23, 24, 25, 26, 27, 28, 29, 30, 31, 32, 33, 34, 35, 36, 37, 38, 39, 40, 41, 42, 43, 44, 45, 46, 47, 48, 49, 50, 51, 52, 53, 54, 55, 56, 57, 58, 59, 60, 61, 62, 63, 64, 65, 66, 67, 68, 69, 70, 71, 72, 73, 74, 75, 76, 77, 78, 79, 80, 81, 82, 83, 84, 85, 86, 87, 88, 89, 90, 91, 92, 93, 94, 95, 96, 97, 98, 99, 100, 101, 102, 103, 104, 105, 106, 107, 108, 109, 110, 111, 112, 113, 114, 115, 116, 117, 118, 119, 120, 121, 122, 123, 124, 125, 126, 127, 128, 129, 130, 131, 132, 133, 134, 135, 136, 137, 138, 139, 140, 141, 142, 143, 144, 145, 146, 147, 148, 149, 150, 151, 152, 153, 154, 155, 156, 157, 158, 159, 160, 161, 162, 163, 164, 165, 166, 167, 168, 169, 170, 171, 172, 173, 174, 175, 176, 177, 178, 179, 180, 181, 182, 183, 184, 185, 186, 187, 188, 189, 190, 191, 192, 193, 194, 195, 196, 197, 198, 199, 200, 201, 202, 203, 204, 205, 206, 207, 208, 209, 210, 211, 212, 213, 214, 215, 216, 217, 218, 219]
def Tryz.hint : FuncId -> Hint := fun f => match f with
 | 3 => (.seq .leaf (.seq .leaf (.seq .leaf (.seq .leaf (.seq .leaf (.seq (.seq .leaf (.sub none (.loop [2, 4, 5, 8, 9, 10, 11] .leaf))) .leaf))))))
 | 5 => (.seq .leaf (.seq .leaf (.seq .leaf (.seq .leaf (.seq .leaf (.seq .leaf (.seq (.seq .leaf (.sub none (.loop [2, 3, 5, 8, 9, 10, 13, 14] .leaf))) .leaf)))))))
 | 6 => (.seq .leaf (.seq .leaf (.seq .leaf (.seq .leaf (.seq .leaf (.seq .leaf (.seq .leaf (.seq .leaf (.seq .leaf (.seq .leaf (.seq .leaf (.seq .leaf (.seq (.seq .leaf (.sub none (.loop [5, 8, 9, 15, 16, 18, 20, 21, 22] .leaf))) (.seq (.seq .leaf (.sub none (.loop [5, 8, 9, 15, 18, 20, 23] .leaf))) .leaf))))))))))))))
 | 7 => (.seq .leaf (.seq .leaf (.seq .leaf (.seq .leaf (.seq .leaf (.seq .leaf (.seq .leaf (.seq .leaf (.seq .leaf (.seq (.seq .leaf (.sub none (.loop [2, 4, 6, 7, 8, 11, 13, 14, 16, 17] .leaf))) .leaf))))))))))
 | 9 => (.seq .leaf (.seq .leaf (.seq .leaf (.seq .leaf (.seq .leaf (.seq .leaf (.seq .leaf (.seq .leaf (.seq .leaf (.seq .leaf (.seq .leaf (.seq .leaf (.seq .leaf (.seq .leaf (.seq .leaf (.seq (.seq .leaf (.sub none (.loop [2, 5, 8, 9, 10, 12, 13, 14, 15, 20, 25, 30, 31, 32, 33] .leaf))) .leaf))))))))))))))))
 | 10 => (.seq .leaf (.seq .leaf (.seq (.seq .leaf (.sub none (.loop [1, 2, 3, 4, 5, 6, 7] .leaf))) (.seq (.seq .leaf (.sub none (.loop [1, 2, 3, 4, 5, 6, 8] .leaf))) .leaf))))
 | 15 => (.seq .leaf (.seq .leaf (.seq (.seq .leaf (.sub none (.loop [0, 1, 5, 6] .leaf))) .leaf)))
 | 18 => (.seq .leaf (.seq .leaf (.seq (.seq .leaf (.sub none (.loop [0, 1, 4, 5] .leaf))) .leaf)))
 | 19 => (.seq .leaf (.seq .leaf (.seq .leaf (.seq (.seq .leaf (.sub none (.loop [0, 1, 2, 3, 9, 10] .leaf))) .leaf))))
 | 25 => (.seq .leaf (.seq .leaf (.seq (.seq .leaf (.sub none (.loop [0, 3, 4] .leaf))) (.seq (.seq .leaf (.sub none (.loop [3, 5] (.seq .leaf (.seq (.sub none (.seq .leaf (.sub none (.loop [3, 5, 6] .leaf)))) .leaf))))) (.seq (.seq .leaf (.sub none (.loop [2, 3, 7] (.seq .leaf (.seq (.sub none (.seq .leaf (.sub none (.loop [2, 3, 7, 8] .leaf)))) .leaf))))) .leaf)))))
 | 30 => (.seq .leaf (.seq .leaf (.seq .leaf (.seq .leaf (.seq .leaf (.seq .leaf (.seq (.sub none (.loop [11, 13, 15, 16] .leaf)) .leaf)))))))
 | 31 => (.seq .leaf (.seq .leaf (.seq (.seq .leaf (.sub none (.loop [0, 1, 4, 5] .leaf))) .leaf)))
 | 32 => (.seq .leaf (.seq .leaf (.seq (.seq .leaf (.sub none (.loop [0, 1, 4, 5] .leaf))) .leaf)))
 | 45 => (.seq .leaf (.seq .leaf (.seq .leaf (.seq .leaf (.seq .leaf (.seq .leaf (.seq (.sub none (.loop [0, 1, 11, 13, 14] .leaf)) .leaf)))))))
 | 49 => (.seq .leaf (.seq .leaf (.seq (.seq .leaf (.sub none (.loop [0, 3, 4] .leaf))) (.seq (.seq .leaf (.sub none (.loop [3, 5] (.seq .leaf (.seq (.sub none (.seq .leaf (.sub none (.loop [3, 5, 6] .leaf)))) .leaf))))) (.seq (.seq .leaf (.sub none (.loop [2, 3, 7] (.seq .leaf (.seq (.sub none (.seq .leaf (.sub none (.loop [2, 3, 7, 8] .leaf)))) .leaf))))) .leaf)))))
 | 50 => (.seq .leaf (.seq .leaf (.seq (.seq .leaf (.sub none (.loop [0, 3, 4] .leaf))) (.seq (.seq .leaf (.sub none (.loop [3, 5] (.seq .leaf (.seq (.sub none (.seq .leaf (.sub none (.loop [3, 5, 6] .leaf)))) .leaf))))) (.seq (.seq .leaf (.sub none (.loop [2, 3, 7] (.seq .leaf (.seq (.sub none (.seq .leaf (.sub none (.loop [2, 3, 7, 8] .leaf)))) .leaf))))) .leaf)))))
 | 53 => (.seq .leaf (.seq .leaf (.seq .leaf (.seq .leaf (.seq (.sub none (.loop [0, 3, 7] .leaf)) .leaf)))))
 | 55 => (.seq .leaf (.seq .leaf (.seq .leaf (.seq .leaf (.seq .leaf (.seq .leaf (.seq .leaf (.seq .leaf (.seq .leaf (.seq (.seq .leaf (.sub none (.loop [0, 3, 6, 7, 8] .leaf))) .leaf))))))))))
 | 56 => (.seq .leaf (.seq .leaf (.seq .leaf (.seq (.seq .leaf (.sub none (.loop [0, 3, 4, 52, 53] .leaf))) .leaf))))
 | 57 => (.seq .leaf (.seq .leaf (.seq .leaf (.seq .leaf (.seq .leaf (.seq (.seq .leaf (.sub none (.loop [0, 3, 4, 5] .leaf))) .leaf))))))
 | 58 => (.seq .leaf (.seq .leaf (.seq (.seq .leaf (.sub none (.loop [0, 2, 21, 22, 23] (.seq .leaf (.seq .leaf (.seq (.sub none (.seq .leaf (.seq .leaf (.sub none (.loop [0, 2, 21, 22, 23, 28, 29, 30] .leaf))))) .leaf)))))) .leaf)))
 | 59 => (.seq .leaf (.seq .leaf (.seq .leaf (.seq (.seq .leaf (.sub none (.loop [0, 2, 3] (.seq .leaf (.seq (.sub none (.seq .leaf (.sub none (.loop [0, 2, 3, 4] .leaf)))) .leaf))))) .leaf))))
 | 65 => (.seq .leaf (.seq .leaf (.seq (.seq .leaf (.sub none (.loop [1, 2, 7, 8] .leaf))) .leaf)))
 | 74 => (.seq .leaf (.seq (.seq .leaf (.sub none (.loop [1, 2, 3] .leaf))) .leaf))
 | 75 => (.seq .leaf (.seq .leaf (.seq (.seq .leaf (.sub none (.loop [0, 1, 4, 5] .leaf))) .leaf)))
 | 77 => (.seq .leaf (.seq .leaf (.seq .leaf (.seq .leaf (.seq .leaf (.seq .leaf (.seq .leaf (.seq .leaf (.seq .leaf (.seq (.seq .leaf (.sub none (.loop [1, 2, 3, 4, 5] .leaf))) .leaf))))))))))
 | 78 => (.seq .leaf (.seq .leaf (.seq .leaf (.seq (.seq .leaf (.sub none (.loop [0, 2, 4, 6, 7, 8, 49, 50, 51] .leaf))) (.seq .leaf (.seq (.seq .leaf (.sub none (.loop [4, 6, 7, 8, 15] .leaf))) .leaf))))))
 | 80 => (.seq .leaf (.sub none (.seq .leaf (.seq .leaf (.seq (.seq .leaf (.sub none (.loop [1, 2, 3, 7, 8, 13, 14, 15] (.seq .leaf (.seq .leaf (.seq (.sub none (.seq .leaf (.seq .leaf (.seq (.seq .leaf (.sub none (.loop [1, 2, 3, 7, 8, 9, 10, 13, 14, 15, 32, 33, 34] .leaf))) .leaf)))) .leaf)))))) .leaf)))))
 | 81 => (.seq .leaf (.seq .leaf (.seq (.seq .leaf (.sub none (.loop [1, 5, 7, 16, 17, 18] .leaf))) .leaf)))
 | 84 => (.seq .leaf (.seq .leaf (.seq (.seq .leaf (.sub none (.loop [1, 2, 3, 7, 13, 14, 15] (.seq .leaf (.seq .leaf (.seq (.sub none (.seq .leaf (.seq .leaf (.seq .leaf (.sub none (.loop [1, 2, 3, 7, 9, 13, 14, 15, 30, 31, 32] .leaf)))))) .leaf)))))) .leaf)))
 | 86 => (.seq .leaf (.seq .leaf (.seq (.seq .leaf (.sub none (.loop [1, 3, 5, 7, 11, 12, 13] .leaf))) .leaf)))
 | 89 => (.seq .leaf (.seq (.seq .leaf (.sub none (.loop [1, 2, 4, 9, 10, 11] (.seq .leaf (.seq .leaf (.seq (.sub none (.seq .leaf (.seq .leaf (.seq .leaf (.sub none (.loop [1, 2, 4, 6, 9, 10, 11, 35, 36, 37] .leaf)))))) .leaf)))))) .leaf))
 | 92 => (.seq .leaf (.seq .leaf (.seq (.seq .leaf (.sub none (.loop [0, 1, 2, 6, 7] (.seq .leaf (.seq (.sub none (.seq .leaf (.seq .leaf (.sub none (.loop [0, 1, 2, 6, 7, 8] .leaf))))) .leaf))))) .leaf)))
 | 93 => (.seq .leaf (.seq .leaf (.seq (.seq .leaf (.sub none (.loop [0, 1, 2, 3, 9, 10, 11] (.seq .leaf (.seq (.sub none (.seq .leaf (.seq .leaf (.seq (.seq .leaf (.sub none (.loop [0, 1, 2, 3, 9, 10, 11, 12, 13] .leaf))) .leaf)))) .leaf))))) .leaf)))
 | 94 => (.seq .leaf (.seq .leaf (.seq .leaf (.seq (.seq .leaf (.sub none (.loop [0, 1, 2, 3, 9, 10, 11] (.seq .leaf (.seq (.sub none (.seq .leaf (.seq .leaf (.seq .leaf (.sub none (.loop [0, 1, 2, 3, 9, 10, 11, 12, 14] .leaf)))))) .leaf))))) .leaf))))
 | 95 => (.seq .leaf (.seq .leaf (.seq .leaf (.seq .leaf (.seq .leaf (.seq (.seq .leaf (.sub none (.loop [7, 9, 10, 11, 12] .leaf))) .leaf))))))
 | 102 => (.seq .leaf (.seq .leaf (.seq (.seq .leaf (.sub none (.loop [1, 2, 13, 14, 15] .leaf))) .leaf)))
 | 103 => (.seq .leaf (.seq (.seq .leaf (.sub none (.loop [0, 1, 4, 9, 10] .leaf))) .leaf))
 | 108 => (.seq .leaf (.seq .leaf (.seq .leaf (.seq (.seq .leaf (.sub none (.loop [1, 2, 4] .leaf))) .leaf))))
 | 109 => (.seq .leaf (.seq (.seq .leaf (.sub none (.loop [0, 1, 4, 5] .leaf))) .leaf))
 | 113 => (.seq .leaf (.seq .leaf (.seq (.seq .leaf (.sub none (.loop [2, 19] .leaf))) .leaf)))
 | 114 => (.seq .leaf (.seq .leaf (.seq (.seq .leaf (.sub none (.loop [0, 2, 3] .leaf))) .leaf)))
 | 116 => (.seq .leaf (.seq .leaf (.seq .leaf (.seq .leaf (.seq (.seq .leaf (.sub none (.loop [0, 1, 2, 8, 10] .leaf))) .leaf)))))
 | 118 => (.seq .leaf (.seq .leaf (.seq .leaf (.seq (.seq .leaf (.sub none (.loop [0, 1, 2, 6, 7, 8] (.seq .leaf (.seq (.sub none (.seq .leaf (.seq .leaf (.seq .leaf (.seq .leaf (.seq .leaf (.seq .leaf (.seq .leaf (.sub none (.loop [0, 1, 2, 6, 7, 8, 9, 12] .leaf)))))))))) .leaf))))) .leaf))))
 | 132 => (.seq .leaf (.seq .leaf (.seq (.seq .leaf (.sub none (.loop [0, 1, 4, 12, 13] .leaf))) .leaf)))
 | 137 => (.seq .leaf (.seq .leaf (.seq .leaf (.sub none (.loop [0, 2, 3, 4] (.sub none (.seq .leaf (.seq (.seq .leaf (.sub none (.loop [0, 3, 4, 5, 6] .leaf))) .leaf))))))))
 | 138 => (.seq .leaf (.seq .leaf (.seq .leaf (.seq (.seq .leaf (.sub none (.loop [0, 1, 2, 7, 9, 10, 11] .leaf))) .leaf))))
 | 142 => (.seq .leaf (.seq .leaf (.seq (.seq .leaf (.sub none (.loop [0, 2, 3] .leaf))) .leaf)))
 | 146 => (.seq .leaf (.seq .leaf (.seq .leaf (.seq .leaf (.seq .leaf (.seq .leaf (.seq .leaf (.seq .leaf (.seq .leaf (.seq (.seq .leaf (.sub none (.loop [1, 4, 5, 7, 11] (.seq .leaf (.seq (.sub none (.seq .leaf (.sub none (.loop [1, 4, 5, 7, 11, 12] .leaf)))) .leaf))))) .leaf))))))))))
 | 147 => (.seq .leaf (.seq .leaf (.seq (.seq .leaf (.sub none (.loop [0, 1, 2, 7, 8] .leaf))) .leaf)))
 | 150 => (.seq .leaf (.seq (.seq .leaf (.sub none (.loop [0, 1, 4, 7, 8] .leaf))) .leaf))
 | 151 => (.seq .leaf (.seq .leaf (.sub none (.loop [0, 1, 2, 3, 4, 10, 11] .leaf))))
 | 154 => (.seq .leaf (.seq .leaf (.seq (.seq .leaf (.sub none (.loop [0, 1, 4, 5] .leaf))) .leaf)))
 | 177 => (.seq .leaf (.seq .leaf (.seq (.seq .leaf (.sub none (.loop [0, 2, 3] .leaf))) .leaf)))
 | 178 => (.seq .leaf (.seq .leaf (.seq (.seq .leaf (.sub none (.loop [0, 1, 4, 5, 6, 7] .leaf))) .leaf)))
 | 179 => (.seq .leaf (.seq .leaf (.seq (.seq .leaf (.sub none (.loop [0, 4, 5, 6, 7, 8] .leaf))) (.seq (.seq .leaf (.sub none (.loop [0, 4, 5, 6, 9] .leaf))) .leaf))))
 | 180 => (.seq .leaf (.sub none (.loop [0, 1, 2, 3, 8] (.seq .leaf (.seq (.sub none (.seq .leaf (.sub none (.loop [0, 1, 2, 3, 8, 9] .leaf)))) .leaf)))))
 | 181 => (.seq .leaf (.seq .leaf (.seq .leaf (.seq (.seq .leaf (.sub none (.loop [0, 3, 8, 9, 10, 11] .leaf))) (.seq .leaf (.sub none (.loop [0, 3, 8, 9, 12] .leaf)))))))
 | 182 => (.seq .leaf (.seq .leaf (.cond none (.seq .leaf (.seq .leaf (.seq .leaf (.sub none (.loop [0, 1, 8, 9, 10, 11] .leaf))))) .leaf)))
 | 184 => (.seq .leaf (.seq .leaf (.sub none (.loop [0, 8, 9] .leaf))))
 | 185 => (.seq .leaf (.seq .leaf (.seq (.seq .leaf (.sub none (.loop [0, 1, 2, 3, 8, 9, 10] (.seq .leaf (.seq (.sub none (.seq (.sub none (.loop [0, 1, 2, 3, 9, 10] .leaf)) (.seq .leaf (.seq .leaf (.seq .leaf (.seq (.seq .leaf (.cond none (.seq .leaf (.sub none (.loop [0, 1, 2, 3, 9, 10, 11] .leaf))) .leaf)) (.seq .leaf (.cond none (.seq .leaf (.sub none (.loop [0, 1, 2, 3, 9, 10, 12] .leaf))) .leaf)))))))) .leaf))))) .leaf)))
 | 186 => (.seq .leaf (.seq .leaf (.seq .leaf (.seq (.sub none (.loop [0, 1, 4, 11, 12] (.sub none (.seq (.sub none (.loop [0, 1, 4, 11, 12] .leaf)) (.seq (.sub none (.loop [0, 1, 4, 11, 12] .leaf)) .leaf))))) .leaf))))
 | 187 => (.seq .leaf (.seq .leaf (.seq .leaf (.seq (.sub none (.loop [0, 1, 4, 12, 13] .leaf)) (.seq (.sub none (.loop [0, 1, 4, 12, 13] .leaf)) (.seq .leaf (.seq .leaf (.seq .leaf (.seq .leaf (.seq (.sub none (.loop [0, 1, 4, 12, 13] (.sub none (.seq (.sub none (.loop [0, 1, 4, 12, 13] .leaf)) (.seq (.sub none (.loop [0, 1, 4, 12, 13] .leaf)) .leaf))))) .leaf))))))))))
 | 198 => (.seq .leaf (.sub none (.loop [0, 2, 3, 4, 10] .leaf)))
 | 203 => (.seq .leaf (.seq (.sub none (.loop [0, 1] .leaf)) .leaf))
 | 204 => (.seq .leaf (.seq (.sub none (.loop [0, 1] .leaf)) .leaf))
 | 205 => (.seq .leaf (.seq (.seq .leaf (.sub none (.loop [0, 2, 3, 4] .leaf))) .leaf))
 | 206 => (.seq .leaf (.seq (.sub none (.loop [0, 1] .leaf)) .leaf))
 | 207 => (.seq .leaf (.seq (.sub none (.loop [0, 1] .leaf)) .leaf))
 | 208 => (.seq .leaf (.seq (.sub none (.loop [0, 1] .leaf)) .leaf))
 | 209 => (.seq .leaf (.seq (.sub none (.loop [0, 1] .leaf)) .leaf))
 | 214 => (.seq .leaf (.seq .leaf (.seq .leaf (.seq .leaf (.seq .leaf (.seq .leaf (.seq .leaf (.seq (.seq .leaf (.sub none (.loop [0, 4, 5, 6] .leaf))) .leaf))))))))
 | 216 => .leaf
 | _ => .leaf
noncomputable def Tryz.env : Env := { ty := tyOf Tryz.tab, fn := fnOf Tryz.prog Tryz.fns, hint := Tryz.hint, ext := fun _ => none }
theorem Tryz.envOk : Tryz.env.Ok Tryz.prog := env_ok (by kernel_rfl) (by kernel_rfl) (by kernel_rfl)
end Go.Proofs.YtolekmhhkopooaaGreatDoor
end
