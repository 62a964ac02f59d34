/- Part 6 of the proof of Lay19: what its row stands on (lemmas about the model, the evaluator, contracts of functions), put together and cut to what is used. -/
import Derived.Test.YtolekmhhkopooaaGreatDoorKLay195
section
namespace Go.Proofs.YtolekmhhkopooaaGreatDoor.Zq
open Zv
section
variable {H : Heap} {b m : Nat} {se : Bool} {B : List Cd} {ms : List G_api_MarkInfo}
theorem setE_0 {ts : List Tg} {fs : List G_api_Feature} (h1 : ¬ 2048 < ts.length) (h2 : ¬ (se = false ∨ fs.length ≠ ts.length)) : (Tog B ts fs -> setE se B ts fs = 0) ∧ (¬ Tog B ts fs -> setE se B ts fs = 2) := by
 unfold setE
 rw [if_neg h1, if_neg h2]
 exact ⟨fun h => if_pos h, fun h => if_neg h⟩
structure Sc (m : Nat) (H : Heap) (B : List Cd) (ts : List Tg) (n : Nat) (cl : List G_api_Card) (so : Sl) : Prop where
 len : cl.length = ts.length
 c : ∀ (i : Nat) t c, i < n -> ts[i]? = some t -> t.Place = 4 -> B[(t.Card - 1).toNat]? = some c -> ∃ g, cl[i]? = some g ∧ CR m H g c ∧ ∀ x off, g.Parts.p = some ⟨x, off, none⟩ -> so.p ≠ some ⟨x, 0, none⟩
theorem Ow.after {T : Tag} {H1 H2 : Heap} {out s : Sl} {l sp : List T.α} (h : Ow T H1 s l sp) (a : After out H1 H2) (ap : ∀ d, s.p = some ⟨d, 0, none⟩ -> out.p ≠ some ⟨d, 0, none⟩) : Ow T H2 s l sp := by
 by_cases hq : ∃ d, out.p = some ⟨d, 0, none⟩
 ·obtain ⟨d0, hd0⟩ := hq
  exact h.frs (a.frs (B := [d0]) fun d hd => by rw [hd0] at hd; cases hd; simp) fun x hx e => by simp at hx; subst hx; exact ap _ e hd0
 ·exact h.frs (a.frs (B := []) fun d hd => absurd ⟨d, hd⟩ hq) (by simp [Sl.off])
theorem Flat.frs {H' : Heap} {s : Sl} (h : Flat H s) (f : Frs [] H H') : Flat H' s := fun d off e => by
 obtain ⟨c, sz, o, r, l, h1, h2⟩ := h d off e
 exact ⟨c, sz, o, r, l, f.get (by simp) h1, h2⟩
theorem tyI : TyS E TN' 35 (0 : Int) := ⟨⟨_, _, _, rfl, rfl, rfl, rfl, by decide, by decide, rfl⟩, by decide, hTN', fun _ => rfl⟩
theorem setup_c (h : BP m H b se B ms) (okB : OkB B) {a1 a2 : Sl} {ts : List Tg} {fs : List G_api_Feature} (hs : SlF TT' H a1 ts) (hf : SlF TF H a2 fs) (fla : Flat H a1) (okt : ∀ t ∈ ts, t.Stamp ≤ 9223372036854775807) (okf : ∀ f ∈ fs, 0 ≤ f.Traits) (bts : ts.length ≤ 1048600) {Q : G_layer_place × Int × Unit -> Heap -> Prop}
  (q1 : ∀ p H', setE se B ts fs ≠ 0 -> Frs [] H H' -> Q (p, setE se B ts fs, ()) H') (q0 : ∀ cs so cl ol H', setE se B ts fs = 0 -> Tog B ts fs -> Pl H H' cs so B ts cl ol -> Q (⟨some ⟨b, 0, none⟩, a1, cs, so⟩, 0, ()) H') :
  CALL P [T_G_layer_place, TN'] n_layer_setup [.pointer (some ⟨b, 0, none⟩), a1.v, a2.v] H Q := by
 apply c_layer_setup
 unfold S_layer_setup
 have hsl := hs.1
 have hfl := hf.1
 unfold NEW
 have r1 : (mk H [(.slice a1.p a1.len a1.cap)] 1 false)[H.length]? = some (.row [a1.v] 1 false false true) := by simp [mk, Sl.v]
 have f1 : Frs [] H (mk H [(.slice a1.p a1.len a1.cap)] 1 false) := Frs.app _ _ _
 have l1 : (mk H [(.slice a1.p a1.len a1.cap)] 1 false).length = H.length + 1 := by simp [mk]
 generalize mk H [(.slice a1.p a1.len a1.cap)] 1 false = H1 at r1 f1 l1
 have ldv : ∀ {H' : Heap} {k : Sl -> Prop}, Frs [] H1 H' -> k a1 -> LD T_sl H' H.length 0 k := fun f hk => LD_of (T := T_sl) a1 [] [] (f.get (by simp) r1) rfl rfl rfl hk
 refine ldv (.refl _ _) (ldv (.refl _ _) ?_)
 rw [hsl]
 refine make_c tyC (n := ts.length) (m := ts.length) rfl rfl (Nat.le_refl _) (by omega) fun s3 e3 n3 => ?_
 have l2 : (mk H1 (fl TC (List.replicate ts.length zC)) TC.n false).length = H1.length + 1 := by simp [mk]
 generalize mk H1 (fl TC (List.replicate ts.length zC)) TC.n false = H2 at n3 l2
 have f2 := n3.2.2
 have f02 : Frs [] H H2 := f1.trans f2
 have h2 := h.new f02
 have o3 : Ow TC H2 s3 (List.replicate ts.length zC) [] := by simpa using n3.1
 have p3 : s3.p = some ⟨H1.length, 0, none⟩ := by rw [e3]
 refine ldv f2 ⟨rfl, pfind_c h2 fun i e he => ?_⟩
 refine ifB_f (by simpa using he) (ldv f2 (ifD (fun hlong => ?_) (fun hlong => ?_)))
 ·have e : setE se B ts fs = 3 := by unfold setE; rw [if_pos (by omega)]
  have := q1 ⟨some ⟨b, 0, none⟩, a1, s3, ⟨none, 0, 0⟩⟩ H2 (by rw [e]; decide) f02
  rwa [e] at this
 have hlong : ¬ 2048 < ts.length := by omega
 refine hJ (se = false ∨ fs.length ≠ ts.length) (fun j hj => psealed_c h2 (ifB_of (fun e => hj _ ?_) (fun e => ldv f2 (hj _ ?_)))) (fun hbad => ?_) (fun hgood => ?_)
 ·simp only [true_iff]; exact .inl (by simpa using e)
 ·have : ¬ se = false := by simpa using e
  simp only [bne_iff_ne, ne_eq]
  constructor
  ·intro q; exact .inr (by omega)
  ·rintro (q | q)
   ·exact absurd q this
   ·omega
 ·have e : setE se B ts fs = 2 := by unfold setE; rw [if_neg hlong, if_pos hbad]
  have := q1 ⟨some ⟨b, 0, none⟩, a1, s3, ⟨none, 0, 0⟩⟩ H2 (by rw [e]; decide) f02
  rwa [e] at this
 have hse : se = true := by cases hs : se with | true => rfl | false => exact absurd (.inl hs) hgood
 have hfe : fs.length = ts.length := Classical.byContradiction fun q => hgood (.inr q)
 obtain ⟨eT, eF⟩ := setE_0 (B := B) hlong hgood
 have bad : ∀ p H', ¬ Tog B ts fs -> Frs [] H H' -> Q (p, 2, ()) H' := fun p H' hn f => by
  have e := eF hn
  have := q1 p H' (by rw [e]; decide) f
  rwa [e] at this
 refine ldv f2 ?_
 refine JOIN_inv (fun (y : Unit × (G_layer_place × G_layer_place × Unit)) H' => ∃ (so : Sl) (cl : List G_api_Card) (sp : List Int), y.2.2.1 = ⟨some ⟨b, 0, none⟩, a1, s3, so⟩ ∧ NewO TN' H1 so H' (tabI ts ts.length) sp ∧ (∀ d, so.p = some ⟨d, 0, none⟩ -> H2.length ≤ d) ∧ Ow TC H' s3 cl [] ∧ Sc H2.length H' B ts ts.length cl so ∧ (∀ (i : Nat) t f, ts[i]? = some t -> fs[i]? = some f -> okTh B t f) ∧ (tabI ts ts.length).length ≤ 16) (fun j hj => ?_) ?_
 ·refine loop_of (fun (y : (Int × Unit) × (G_layer_place × G_layer_place × Unit)) H' => ∃ (n : Nat) (so : Sl) (cl : List G_api_Card) (sp : List Int), y.1.1 = n ∧ n ≤ ts.length ∧ y.2.2.1 = ⟨some ⟨b, 0, none⟩, a1, s3, so⟩ ∧ NewO TN' H1 so H' (tabI ts n) sp ∧ (∀ d, so.p = some ⟨d, 0, none⟩ -> H2.length ≤ d) ∧ Ow TC H' s3 cl [] ∧ Sc H2.length H' B ts n cl so ∧ (∀ (i : Nat) t f, i < n -> ts[i]? = some t -> fs[i]? = some f -> okTh B t f) ∧ (tabI ts n).length ≤ 16) (fun y => ts.length - y.1.1.toNat) ?_
   ⟨0, ⟨none, 0, 0⟩, _, [], rfl, Nat.zero_le _, rfl, ⟨Ow.nil TN' H2, by simp, f2⟩, by simp, o3, ⟨by simp, fun i t c hi => by omega⟩, fun i t f hi => by omega, by simp [tabI]⟩
  rintro G ⟨⟨i, _⟩, p1, p2, _⟩ H' ⟨n, so, cl, sp, hi, hn, hp2, no, hso, oc, sc, hok, hfew⟩ hG
  simp only at hi hp2; subst hi; subst hp2
  dsimp only at hG ⊢
  have fb := no.2.2
  have f0' : Frs [] H H' := f1.trans fb
  have h' := h.new f0'
  have h2l : H2.length ≤ H'.length := by have := oc.lt p3; omega
  refine ifD (fun hlt => JOIN_of ?_) (fun hge => hj _ _ ?_)
  ·have hlt : n < ts.length := by omega
   have hx : ts[n]? = some ts[n] := List.getElem?_eq_getElem hlt
   have hy : fs[n]? = some (fs[n]'(by omega)) := List.getElem?_eq_getElem (by omega)
   have tbs : tabI ts (n + 1) = tabI ts n ++ if (ts[n]).Place = 4 then [(n : Int)] else [] := by
    simp only [tabI, hx, Option.map_some, Option.some.injEq]
   have hmt : ts[n] ∈ ts := List.getElem_mem hlt
   have hmf : fs[n]'(by omega) ∈ fs := List.getElem_mem (by omega)
   generalize ts[n] = t at hx tbs hmt
   generalize (fs[n]'(by omega)) = f at hy hmf
   have notog : ¬ okTh B t f -> ¬ Tog B ts fs := fun q k => q (k.all n t f hx hy)
   refine idx_ldF (T := TT') hTT' (hs.frs f0' (by simp)) rfl hx rfl (tcard_c h' okB (fun q => ?_) (fun c g H9 _ hc1 hcx cr f9 => ?_))
   ·refine JOIN_of (ifB_t rfl (ifB_t rfl (bad _ _ (notog ?_) f0')))
    rintro ⟨c, k1, k2, _⟩
    have := (List.getElem?_eq_some_iff.1 k2).1
    rcases q with q | q | q
    ·rw [hse] at q; cases q
    ·omega
    ·omega
   have okiff : okTh B t f ↔ (t.Owner = 0 ∨ t.Owner = 1) ∧ 1 ≤ t.Place ∧ t.Place ≤ 5 ∧ (t.Place = 4 -> c.g.Kind ≠ 2 ∧ 1 ≤ t.Stamp ∧ (f.Holder = 0 ∨ f.Holder = 1) ∧ f.Traits < 256) := by
    constructor
    ·rintro ⟨c', k1, k2, k3⟩
     rw [hcx] at k2; cases k2; exact k3
    ·exact fun q => ⟨c, hc1, hcx, q⟩
   have f09 : Frs [] H H9 := f0'.trans f9
   refine hJ (¬ (t.Owner = 0 ∨ t.Owner = 1) ∨ t.Place < 1 ∨ 5 < t.Place) (fun j2 hj2 => ifB_f rfl (ifN (fun e1 => ifN (fun e2 => hj2 _ (by simp; omega)) (fun e2 => ifD (fun e3 => hj2 _ (by simp; omega)) (fun e3 => hj2 _ (by simp; omega)))) (fun e1 => ifD (fun e3 => hj2 _ (by simp; omega)) (fun e3 => hj2 _ (by simp; omega))))) (fun q => bad _ _ (notog fun k => ?_) f09) (fun hA => ?_)
   ·have := okiff.1 k; omega
   have no9 : NewO TN' H1 so H9 (tabI ts n) sp := ⟨no.1.frs f9 (by simp [Sl.off]), no.2.1, fb.trans f9⟩
   have oc9 : Ow TC H9 s3 cl [] := oc.frs f9 (by simp [Sl.off])
   have sc9 : ∀ (i : Nat) t c, i < n -> ts[i]? = some t -> t.Place = 4 -> B[(t.Card - 1).toNat]? = some c -> ∃ g, cl[i]? = some g ∧ CR H2.length H9 g c ∧ ∀ x off, g.Parts.p = some ⟨x, off, none⟩ -> so.p ≠ some ⟨x, 0, none⟩ := fun i t c k1 k2 k3 k4 => by
    obtain ⟨g', w1, w2, w3⟩ := sc.c i t c k1 k2 k3 k4
    exact ⟨g', w1, w2.frs f9 (by simp), w3⟩
   refine ifN (fun hp4 => ?_) (fun hp4 => ?_)
   ·rw [if_neg hp4, List.append_nil] at tbs
    rw [i64w (by omega) (by omega)]
    refine hG _ _ ⟨n + 1, so, cl, sp, by simp, hlt, rfl, by rw [tbs]; exact no9, hso, oc9, ⟨sc.len, fun i t' c' k1 k2 k3 k4 => ?_⟩, fun i t' f' k1 k2 k3 => ?_, by rw [tbs]; exact hfew⟩ (by simp; omega)
    ·by_cases e : i = n
     ·subst e; rw [hx] at k2; cases k2; exact absurd k3 hp4
     ·exact sc9 i t' c' (by omega) k2 k3 k4
    ·by_cases e : i = n
     ·subst e; rw [hx] at k2; cases k2; rw [hy] at k3; cases k3
      exact okiff.2 ⟨by omega, by omega, by omega, fun q => absurd q hp4⟩
     ·exact hok i t' f' (by omega) k2 k3
   ·rw [if_pos hp4] at tbs
    have hkd : g.Kind = c.g.Kind := by rw [← cr.e]; rfl
    have hf9 := hf.frs f09 (by simp)
    have hy0 := okf f hmf
    refine hJ (c.g.Kind = 2 ∨ t.Stamp < 1 ∨ ¬ (f.Holder = 0 ∨ f.Holder = 1) ∨ ¬ f.Traits < 256) (fun j2 hj2 => ?_) (fun q => bad _ _ (notog fun k => ?_) f09) (fun hB => ?_)
    ·rw [hkd]
     refine ifE (fun e => hj2 _ (by simp; omega)) (fun e => ifD (fun e1 => hj2 _ (by simp; omega)) (fun e1 => idx_holder hf9 hy (ifN (fun e2 => idx_holder hf9 hy (ifN (fun e3 => hj2 _ (by simp; omega)) (fun e3 => idx_traits hf9 rfl hy (traits_c hy0 (hj2 _ (by simp; omega)))))) (fun e2 => idx_traits hf9 rfl hy (traits_c hy0 (hj2 _ (by simp; omega)))))))
    ·have := (okiff.1 k).2.2.2 hp4; omega
    have okn : okTh B t f := okiff.2 ⟨by omega, by omega, by omega, fun _ => ⟨by omega, by omega, by omega, by omega⟩⟩
    have hcl := sc.len
    have hl9 := f9.1
    refine oc9.put (n := n) hTC (fun x => tyC.one x) rfl (by omega) g rfl fun c0 H14 hc0 oc14 f14 l14 => ?_
    rw [p3] at hc0; cases hc0
    have cgn : CR H2.length H14 g c := by
     have : CR H2.length H9 g c := ⟨cr.e, cr.p, fun d hd => by have := cr.lo d hd; omega⟩
     exact this.frs f14 fun d hd => by simp at hd; omega
    have no14 : NewO TN' H1 so H14 (tabI ts n) sp := by
     refine ⟨no9.1.frs f14 fun d hd e => ?_, no9.2.1, no9.2.2.then f14 fun d hd => ?_⟩
     ·simp at hd; subst hd
      have := hso _ e; omega
     ·simp at hd; subst hd; exact .inr (Nat.le_refl _)
    have htl := tabI_le (ts := ts) n
    refine app_c tyI rfl (fun _ => by simp) (m := 1) [(n : Int)] rfl rfl (by show 2 * ((tabI ts n).length + 1) * 4096 ≤ _; omega) no14.1 fun s42 H15 sp15 k1 k2 k3 => ?_
    have no15 : NewO TN' H1 s42 H15 (tabI ts n ++ [(n : Int)]) sp15 := no14.app k1 k2 k3
    have hlen42 : s42.len = (tabI ts (n + 1)).length := by rw [tbs]; exact k1.1
    refine ifD (fun hbig => bad _ _ (fun k => ?_) (f1.trans no15.2.2)) (fun hsm => ?_)
    ·have := k.few
     have := tabI_mono (ts := ts) (n := n + 1) (k := ts.length - (n + 1))
     rw [show n + 1 + (ts.length - (n + 1)) = ts.length by omega] at this
     omega
    have l14' : H9.length ≤ H14.length := by omega
    have hso' : ∀ d, s42.p = some ⟨d, 0, none⟩ -> H2.length ≤ d := fun d hd => by
     rcases k2 with q | ⟨q, _⟩
     ·exact hso d (by rw [← q]; exact hd)
     ·rw [q] at hd; cases hd; omega
    have ap42 : ∀ (g' : G_api_Card) d', CR H2.length H14 g' d' -> (∀ x off, g'.Parts.p = some ⟨x, off, none⟩ -> so.p ≠ some ⟨x, 0, none⟩) -> ∀ x off, g'.Parts.p = some ⟨x, off, none⟩ -> s42.p ≠ some ⟨x, 0, none⟩ := fun g' d' cr' a' x off e e2 => by
     rcases k2 with q | ⟨q, _⟩
     ·exact a' x off e (by rw [← q]; exact e2)
     ·rw [q] at e2
      have := slF_lt cr'.p e
      cases e2; omega
    have gap : ∀ x off, g.Parts.p = some ⟨x, off, none⟩ -> so.p ≠ some ⟨x, 0, none⟩ := fun x off e e2 => by
     have := cr.lo x (by rw [e]; simp [bl])
     have := no.1.lt e2; omega
    rw [i64w (by omega) (by omega)]
    refine hG _ _ ⟨n + 1, s42, cl.set n g, sp15, by simp, hlt, rfl, by rw [tbs]; exact no15, hso', oc14.after k3 (fun d hd e => by rw [p3] at hd; cases hd; have := hso _ e; omega), ⟨by simpa using sc.len, fun i t' c' w1 w2 w3 w4 => ?_⟩, fun i t' f' w1 w2 w3 => ?_, by omega⟩ (by simp; omega)
    ·by_cases e : i = n
     ·subst e; rw [hx] at w2; cases w2
      rw [hcx] at w4; cases w4
      exact ⟨g, List.getElem?_set_self (by omega), cgn.after k3 gap, ap42 g c cgn gap⟩
     ·obtain ⟨g', v1, v2, v3⟩ := sc9 i t' c' (by omega) w2 w3 w4
      have v2' : CR H2.length H14 g' c' := v2.frs f14 fun d hd => by simp at hd; omega
      exact ⟨g', by rw [List.getElem?_set_ne (by omega)]; exact v1, v2'.after k3 v3, ap42 g' c' v2' v3⟩
    ·by_cases e : i = n
     ·subst e; rw [hx] at w2; cases w2; rw [hy] at w3; cases w3; exact okn
     ·exact hok i t' f' (by omega) w2 w3
  ·have hge : n = ts.length := by omega
   subst hge
   exact ⟨so, cl, sp, rfl, no, hso, oc, sc, fun i t f w1 w2 => hok i t f (List.getElem?_eq_some_iff.1 w1).1 w1 w2, hfew⟩
 ·rintro ⟨_, p1, p2, _⟩ H6 ⟨so, cl, sp, hp2, no, hso, oc, sc, hok, hfew⟩
  simp only at hp2; subst hp2
  dsimp only
  have fb := no.2.2
  have f06 : Frs [] H H6 := f1.trans fb
  have onT : ∀ x ∈ tabI ts ts.length, ∃ (k : Nat) (t : Tg), x = k ∧ ts[k]? = some t ∧ t.Place = 4 ∧ 1 ≤ t.Stamp ∧ t.Stamp ≤ 9223372036854775807 := fun x hx => by
   obtain ⟨k, t, h1, rfl, h3, h4⟩ := mem_tabI.1 hx
   have hk : k < fs.length := by rw [hfe]; exact h1
   obtain ⟨c, _, _, _, _, _, w⟩ := hok k t _ h3 (List.getElem?_eq_getElem hk)
   exact ⟨k, t, rfl, h3, h4, (w h4).2.1, okt t (List.mem_of_getElem? h3)⟩
  refine osort_c (vb := H.length) no ⟨1, fb.get (by simp) r1⟩ (hs.frs f06 (by simp)) (fla.frs f06) (by omega) (fun d off e => by have := slF_lt hs e; omega) (fun x hx => by obtain ⟨k, t, e, w1, w2, w3⟩ := onT x hx; exact ⟨k, t, e, w1, w3⟩) (by omega) fun H16 l' hperm hsort no16 aft => ?_
  have f016 : Frs [] H H16 := f1.trans no16.2.2
  have hl' : l'.length = (tabI ts ts.length).length := hperm.length_eq
  have hso16 := no16.1.slf
  have hsol := hso16.1
  have hs16 := hs.frs f016 (by simp)
  have nd : l'.Nodup := hperm.symm.nodup (tabI_nodup _)
  have at' : ∀ (k : Nat) x, l'[k]? = some x -> ∃ (j : Nat) (t : Tg), x = j ∧ ts[j]? = some t ∧ t.Place = 4 ∧ stampAt ts x.toNat = t.Stamp := fun k x hx => by
   obtain ⟨j, t, rfl, w1, w2, _⟩ := onT x (hperm.mem_iff.1 (List.mem_of_getElem? hx))
   exact ⟨j, t, rfl, w1, w2, by simp [stampAt, w1]⟩
  refine JOIN_inv (fun _ H' => H' = H16 ∧ ∀ (j : Nat) x y, 1 ≤ j -> l'[j - 1]? = some x -> l'[j]? = some y -> stampAt ts x.toNat < stampAt ts y.toNat) (fun j hj => ?_) ?_
  ·refine loop_of (fun (t : (Int × Unit) × (G_layer_place × Unit)) H' => H' = H16 ∧ ∃ k : Nat, t.1.1 = k ∧ 1 ≤ k ∧ ∀ (j : Nat) x y, 1 ≤ j -> j < k -> l'[j - 1]? = some x -> l'[j]? = some y -> stampAt ts x.toNat < stampAt ts y.toNat) (fun t => l'.length + 1 - t.1.1.toNat) ?_ ⟨rfl, 1, rfl, Nat.le_refl _, fun j x y w1 w2 => by omega⟩
   rintro G ⟨⟨i, _⟩, p3', _⟩ H' ⟨rfl, k, hk, hk1, hno⟩ hG
   simp only at hk; subst hk
   dsimp only at hG ⊢
   refine ifD (fun hlt => ?_) (fun hge => hj _ _ ⟨rfl, fun j x y w1 w2 w3 => hno j x y w1 (by have := (List.getElem?_eq_some_iff.1 w3).1; omega) w2 w3⟩)
   have hkl : k < l'.length := by omega
   have hxk : l'[k - 1]? = some (l'[k - 1]'(by omega)) := List.getElem?_eq_getElem (by omega)
   have hyk : l'[k]? = some l'[k] := List.getElem?_eq_getElem hkl
   have hne := List.pairwise_iff_getElem.1 nd (k - 1) k (by omega) hkl (by omega)
   generalize (l'[k - 1]'(by omega)) = x at hxk hne
   generalize l'[k] = y at hyk hne
   obtain ⟨jx, tx, ex, hjx, px, sx⟩ := at' _ x hxk
   obtain ⟨jy, ty, ey, hjy, py, sy⟩ := at' _ y hyk
   rw [i64w (x := (k : Int) - 1) (by omega) (by omega)]
   refine ldv no16.2.2 (idx_ldF (T := TN') hTN' hso16 (n := k - 1) (by omega) hxk rfl (idx_stamp' hs16 ex hjx (ldv no16.2.2 (idx_ldF (T := TN') hTN' hso16 (n := k) rfl hyk rfl (idx_stamp' hs16 ey hjy (ifE (fun e => bad _ _ (fun w => ?_) f016) (fun e => ?_)))))))
   ·exact w.dst jx jy tx ty (fun q => hne (by rw [ex, ey, q])) hjx hjy px py e
   ·rw [i64w (by omega) (by omega)]
    refine hG _ _ ⟨rfl, k + 1, by simp, by omega, fun j a b w1 w2 w3 w4 => ?_⟩ (by simp; omega)
    by_cases ej : j = k
    ·subst ej; rw [hxk] at w3; cases w3; rw [hyk] at w4; cases w4
     have := hsort (j - 1) j x y (by omega) hxk hyk
     rw [sx, sy] at this ⊢
     omega
    ·exact hno j a b w1 (by omega) w3 w4
  ·rintro ⟨_, p4, _⟩ H17 ⟨rfl, hstr⟩
   have lt2 : ∀ (p q : Nat) x y, p < q -> l'[p]? = some x -> l'[q]? = some y -> stampAt ts x.toNat < stampAt ts y.toNat := fun p q x y hpq hx hy => by
    have hql := (List.getElem?_eq_some_iff.1 hy).1
    have hz : l'[p + 1]? = some (l'[p + 1]'(by omega)) := List.getElem?_eq_getElem (by omega)
    have h1 := hstr (p + 1) x _ (by omega) (by simpa using hx) hz
    by_cases e : p + 1 = q
    ·subst e; rw [hy] at hz; cases hz; exact h1
    ·have h2 := hsort (p + 1) q _ y (by omega) hz hy
     omega
   have tog : Tog B ts fs := ⟨hok, hfew, fun i j t u hij hi hj pt pu => by
    have mi : (i : Int) ∈ l' := hperm.mem_iff.2 (mem_tabI.2 ⟨i, t, (List.getElem?_eq_some_iff.1 hi).1, rfl, hi, pt⟩)
    have mj : (j : Int) ∈ l' := hperm.mem_iff.2 (mem_tabI.2 ⟨j, u, (List.getElem?_eq_some_iff.1 hj).1, rfl, hj, pu⟩)
    obtain ⟨p, hp⟩ := List.mem_iff_getElem?.1 mi
    obtain ⟨q, hq⟩ := List.mem_iff_getElem?.1 mj
    have si : stampAt ts (i : Int).toNat = t.Stamp := by simp [stampAt, hi]
    have sj : stampAt ts (j : Int).toNat = u.Stamp := by simp [stampAt, hj]
    rcases Nat.lt_trichotomy p q with w | w | w
    ·have := lt2 p q _ _ w hp hq; omega
    ·subst w; rw [hp] at hq; simp at hq; exact absurd (by omega) hij
    ·have := lt2 q p _ _ w hq hp; omega⟩
   refine q0 s3 so cl l' H17 (eT tog) tog ⟨(oc.after aft (fun d hd e => by rw [p3] at hd; cases hd; have := hso _ e; omega)).slf, sc.len, fun i t c w1 w2 w3 w4 => ?_, hso16, ⟨hperm, hsort⟩, f016⟩
   obtain ⟨g', v1, v2, v3⟩ := sc.c i t c (List.getElem?_eq_some_iff.1 w1).1 w1 w2 w4
   have := v2.after aft v3
   exact ⟨g', v1, this.e, this.p, fun d hd => by have := this.lo d hd; omega⟩
end
end Go.Proofs.YtolekmhhkopooaaGreatDoor.Zq
end
section
namespace Go.Proofs.YtolekmhhkopooaaGreatDoor.Zq
open Zv
section
variable {H : Heap}
def bitI (t : Int) : Int := if 1 ≤ t ∧ t ≤ 8 then IntKind.wrap .u16 (1 * 2 ^ (min (IntKind.wrap .u8 (t - 1)).toNat (IntKind.bits .u16))) else 0
def hasT (s t : Int) : Bool := (IntKind.wrap .u16 (((BitVec.ofInt (IntKind.bits .u16) s &&& BitVec.ofInt (IntKind.bits .u16) (bitI t)).toNat : Int))) != 0
def withT (s t : Int) : Int := IntKind.wrap .u16 (((BitVec.ofInt (IntKind.bits .u16) s ||| BitVec.ofInt (IntKind.bits .u16) (bitI t)).toNat : Int))
def woutT (s t : Int) : Int := IntKind.wrap .u16 (((BitVec.ofInt (IntKind.bits .u16) s &&& ~~~BitVec.ofInt (IntKind.bits .u16) (bitI t)).toNat : Int))
def layV (v : Int) : Int := if v = 10 then 1 else if v = 11 then 2 else if v = 12 ∨ v = 13 then 3 else if v = 14 then 4 else if v = 15 then 5 else 0
theorem u8nn (x : Int) : 0 ≤ IntKind.wrap .u8 x := by
 show 0 ≤ x % 256
 omega
theorem u16nn (x : Int) : 0 ≤ IntKind.wrap .u16 x := by
 show 0 ≤ x % 65536
 omega
theorem pbit_c {t : Int} {Q : Int × Unit -> Heap -> Prop} (hq : Q (bitI t, ()) H) : CALL P [T_int .u16] n_trait_bit [.int .u8 t] H Q := by
 apply c_trait_bit
 unfold S_trait_bit
 apply c_trait_is
 unfold S_trait_is
 refine JD (1 ≤ t ∧ t ≤ 8) (fun j hj => ifD (fun h => hj _ (by simp; omega)) (fun h => hj _ (by simp; omega))) ?_
 refine ifQ (fun h => ?_) (fun h => ?_)
 ·unfold bitI at hq; rw [if_neg h] at hq; exact hq
 ·unfold bitI at hq; rw [if_pos h] at hq; exact ⟨u8nn _, hq⟩
theorem phas_c {s t : Int} {Q : Bool × Unit -> Heap -> Prop} (hq : Q (hasT s t, ()) H) : CALL P [T_bool] n_trait_Has [.int .u16 s, .int .u8 t] H Q := by
 apply c_trait_Has
 unfold S_trait_Has
 exact pbit_c hq
theorem pwith_c {s t : Int} {Q : Int × Unit -> Heap -> Prop} (hq : Q (withT s t, ()) H) : CALL P [T_int .u16] n_trait_With [.int .u16 s, .int .u8 t] H Q := by
 apply c_trait_With
 unfold S_trait_With
 exact pbit_c hq
theorem pwout_c {s t : Int} {Q : Int × Unit -> Heap -> Prop} (hq : Q (woutT s t, ()) H) : CALL P [T_int .u16] n_trait_Without [.int .u16 s, .int .u8 t] H Q := by
 apply c_trait_Without
 unfold S_trait_Without
 exact pbit_c hq
theorem play_c {v : Int} {Q : Int × Unit -> Heap -> Prop} (hq : Q (layV v, ()) H) : CALL P [T_int .i64] n_effect_Layer [.int .u8 v] H Q := by
 apply c_effect_Layer
 unfold S_effect_Layer
 unfold layV at hq
 refine ifE (fun h => by rwa [if_pos h] at hq) (fun h1 => ifE (fun h => by rwa [if_neg h1, if_pos h] at hq) (fun h2 => hJ (v = 12 ∨ v = 13) (fun j hj => ifE (fun h => hj _ (by simp; omega)) (fun h => hj _ (by simp; omega))) (fun h3 => by rwa [if_neg h1, if_neg h2, if_pos h3] at hq) (fun h3 => ?_)))
 rw [if_neg h1, if_neg h2, if_neg h3] at hq
 exact ifE (fun h => by rwa [if_pos h] at hq) (fun h4 => ifE (fun h => by rwa [if_neg h4, if_pos h] at hq) (fun h5 => by rwa [if_neg h4, if_neg h5] at hq))
theorem NewO.older {T : Tag} {H H1 H' : Heap} {s : Sl} {l sp : List T.α} (h : NewO T H1 s H' l sp) (f : Frs [] H H1) : NewO T H s H' l sp :=
 ⟨h.1, fun d hd => Nat.le_trans f.1 (h.2.1 d hd), f.trans h.2.2⟩
theorem NewO.new {T : Tag} {H H1 H' : Heap} {s : Sl} {l sp : List T.α} (h : NewO T H s H1 l sp) (f : Frs [] H1 H') : NewO T H s H' l sp :=
 ⟨h.1.frs f (by simp [Sl.off]), h.2.1, h.2.2.trans f⟩
theorem NewO.nil' (T : Tag) (H : Heap) : NewO T H ⟨none, 0, 0⟩ H [] [] := ⟨Ow.nil T H, by simp, .refl _ _⟩
end
end Go.Proofs.YtolekmhhkopooaaGreatDoor.Zq
end
section
namespace Go.Proofs.YtolekmhhkopooaaGreatDoor.Zq
open Zv
section
abbrev TSt : Tag := T_G_api_Standing
abbrev Sg := G_api_Standing
abbrev Ft := G_api_Feature
theorem hTSt (x : Sg) : (TSt.cells x).length = TSt.n := rfl
theorem tySt : TyS E TSt 66 (⟨0, 0, ⟨0, 0, 0, 0, 0, 0, 0, ByteArray.mk #[]⟩⟩ : Sg) := ⟨⟨_, _, _, rfl, rfl, rfl, rfl, by decide, by decide, rfl⟩, by decide, hTSt, fun _ => rfl⟩
theorem tyF : TyS E TF 27 (⟨0, 0, 0, 0, 0⟩ : Ft) := ⟨⟨_, _, _, rfl, rfl, rfl, rfl, by decide, by decide, rfl⟩, by decide, hTF, fun _ => rfl⟩
def ftI (fs : List Ft) (i : Int) : Ft := fs[i.toNat]?.getD ⟨0, 0, 0, 0, 0⟩
def cdI (B : List Cd) (ts : List Tg) (i : Int) : Option Cd := ts[i.toNat]?.bind fun t => B[(t.Card - 1).toNat]?
def cpI (B : List Cd) (ts : List Tg) (i : Int) : List Pt := ((cdI B ts i).map (·.ps)).getD []
def ckI (B : List Cd) (ts : List Tg) (i : Int) : Int := ((cdI B ts i).map (·.g.Kind)).getD 0
def effN1 (n k : Int) (p : Pt × Nat) : List Sg := if p.1.When = 5 ∧ layV p.1.Verb = k then [⟨n, p.2, p.1⟩] else []
def effN (n k : Int) (ps : List Pt) : List Sg := ps.zipIdx.flatMap (effN1 n k)
def effO1 (B : List Cd) (ts : List Tg) (fs : List Ft) (k i : Int) : List Sg := if hasT (ftI fs i).Traits 6 = true then [] else effN (i + 1) k (cpI B ts i)
def effs (B : List Cd) (ts : List Tg) (fs : List Ft) (ol : List Int) (k : Int) : List Sg := ol.flatMap (effO1 B ts fs k)
def meansB (B : List Cd) (ts : List Tg) (fs : List Ft) (s : Sg) (i : Int) : Bool :=
 if s.What.Whom = 4 then i == s.Thing - 1
 else if ckI B ts i ≠ 1 then false
 else if s.What.Whom = 5 then (ftI fs i).Holder == (ftI fs (s.Thing - 1)).Holder
 else if s.What.Whom = 6 then (ftI fs i).Holder != (ftI fs (s.Thing - 1)).Holder
 else if s.What.Whom = 7 then true
 else if s.What.Whom = 8 then (ftI fs i).Holder == (ftI fs (s.Thing - 1)).Holder && i != s.Thing - 1
 else if s.What.Whom = 9 then (ftI fs i).Suit == s.What.Suit
 else if s.What.Whom = 10 then hasT (ftI fs i).Traits s.What.Trait
 else false
def abouts1 (B : List Cd) (ts : List Tg) (fs : List Ft) (s : Sg) (i : Int) : List Int := if meansB B ts fs s i = true then [i + 1] else []
def abouts (B : List Cd) (ts : List Tg) (fs : List Ft) (ol : List Int) (s : Sg) : List Int := ol.flatMap (abouts1 B ts fs s)
def doneF (f : Ft) (p : Pt) (h : Int) : Ft :=
 if p.Verb = 10 then { f with Holder := h }
 else if p.Verb = 11 then { f with Suit := p.Suit }
 else if p.Verb = 12 then { f with Traits := withT f.Traits p.Trait }
 else if p.Verb = 13 then { f with Traits := woutT f.Traits p.Trait }
 else if p.Verb = 14 then { f with Power := p.Count, Health := p.Count }
 else if p.Verb = 15 then { f with Power := IntKind.wrap .i64 (f.Power + p.Count), Health := IntKind.wrap .i64 (f.Health + p.Count) }
 else f
def put1 (s : Sg) (h : Int) (out : List Ft) (n : Int) : List Ft := out.set (n - 1).toNat (doneF (ftI out (n - 1)) s.What h)
def applyF (B : List Cd) (ts : List Tg) (fs : List Ft) (ol : List Int) (s : Sg) : List Ft :=
 (abouts B ts fs ol s).foldl (put1 s (ftI fs (s.Thing - 1)).Holder) fs
def dependsB (B : List Cd) (ts : List Tg) (fs : List Ft) (ol : List Int) (s o : Sg) : Bool := decide (abouts B ts fs ol s ≠ abouts B ts (applyF B ts fs ol o) ol s)
theorem fm_take {α β : Type} (f : α -> List β) {l : List α} {n : Nat} {x : α} (hx : l[n]? = some x) : (l.take (n + 1)).flatMap f = (l.take n).flatMap f ++ f x := by
 rw [List.take_add_one, hx, List.flatMap_append]; simp
theorem fold_take {α β : Type} (f : β -> α -> β) (b : β) {l : List α} {n : Nat} {x : α} (hx : l[n]? = some x) : (l.take (n + 1)).foldl f b = f ((l.take n).foldl f b) x := by
 rw [List.take_add_one, hx, List.foldl_append]; simp
theorem fm_len {α β : Type} {f : α -> List β} {c : Nat} : ∀ {l : List α}, (∀ x ∈ l, (f x).length ≤ c) -> (l.flatMap f).length ≤ c * l.length
 | [], _ => by simp
 | x :: r, h => by
  rw [List.flatMap_cons, List.length_append, List.length_cons, Nat.mul_succ]
  have := fm_len (l := r) (fun y hy => h y (by simp [hy]))
  have := h x (by simp)
  omega
theorem effN1_len (n k : Int) (p : Pt × Nat) : (effN1 n k p).length ≤ 1 := by unfold effN1; split <;> simp
theorem effN_len (n k : Int) (ps : List Pt) : (effN n k ps).length ≤ ps.length := by
 have := fm_len (f := effN1 n k) (c := 1) (l := ps.zipIdx) (fun x _ => effN1_len n k x)
 rw [List.length_zipIdx] at this
 unfold effN; omega
theorem abouts1_len (B : List Cd) (ts : List Tg) (fs : List Ft) (s : Sg) (i : Int) : (abouts1 B ts fs s i).length ≤ 1 := by unfold abouts1; split <;> simp
theorem abouts_len (B : List Cd) (ts : List Tg) (fs : List Ft) (ol : List Int) (s : Sg) : (abouts B ts fs ol s).length ≤ ol.length := by
 have := fm_len (f := abouts1 B ts fs s) (c := 1) (l := ol) (fun x _ => abouts1_len B ts fs s x)
 unfold abouts; omega
theorem mem_abouts {B : List Cd} {ts : List Tg} {fs : List Ft} {ol : List Int} {s : Sg} {x : Int} : x ∈ abouts B ts fs ol s ↔ x - 1 ∈ ol ∧ meansB B ts fs s (x - 1) = true := by
 unfold abouts abouts1
 simp only [List.mem_flatMap]
 constructor
 ·rintro ⟨i, h1, h2⟩
  split at h2
  ·simp at h2; subst h2
   rename_i h3
   rw [show i + 1 - 1 = i by omega]; exact ⟨h1, h3⟩
  ·cases h2
 ·rintro ⟨h1, h2⟩
  exact ⟨_, h1, by rw [if_pos h2]; simp⟩
theorem put1_len (s : Sg) (h : Int) (out : List Ft) (n : Int) : (put1 s h out n).length = out.length := by unfold put1; simp
theorem fold_put_len (s : Sg) (h : Int) : ∀ (l : List Int) (out : List Ft), (l.foldl (put1 s h) out).length = out.length
 | [], _ => rfl
 | x :: r, out => by rw [List.foldl_cons, fold_put_len s h r, put1_len]
theorem applyF_len (B : List Cd) (ts : List Tg) (fs : List Ft) (ol : List Int) (s : Sg) : (applyF B ts fs ol s).length = fs.length := fold_put_len _ _ _ _
theorem ftI_at {fs : List Ft} {i : Int} {n : Nat} {f : Ft} (hi : i = n) (hf : fs[n]? = some f) : ftI fs i = f := by
 subst hi; simp [ftI, hf]
def aheadB (ts : List Tg) (s o : Sg) : Bool :=
 decide (stampAt ts (s.Thing - 1).toNat < stampAt ts (o.Thing - 1).toNat) || (decide (stampAt ts (s.Thing - 1).toNat = stampAt ts (o.Thing - 1).toNat) && decide (s.Place < o.Place))
def sgI (l : List Sg) (i : Int) : Sg := l[i.toNat]?.getD ⟨0, 0, ⟨0, 0, 0, 0, 0, 0, 0, ByteArray.mk #[]⟩⟩
theorem sgI_at {l : List Sg} {i : Int} {n : Nat} {s : Sg} (hi : i = n) (h : l[n]? = some s) : sgI l i = s := by subst hi; simp [sgI, h]
def hangsB (B : List Cd) (ts : List Tg) (fs : List Ft) (ol : List Int) (l : List Sg) (i k : Nat) : Bool := (List.range k).any fun j => j != i && dependsB B ts fs ol (sgI l (i : Int)) (sgI l (j : Int))
def nx (B : List Cd) (ts : List Tg) (fs : List Ft) (ol : List Int) (l : List Sg) : Nat -> Int × Int
 | 0 => (-1, 0)
 | n + 1 => (if (!hangsB B ts fs ol l n l.length && (decide ((nx B ts fs ol l n).1 < 0) || aheadB ts (sgI l n) (sgI l (nx B ts fs ol l n).1))) = true then (n : Int) else (nx B ts fs ol l n).1,
   if aheadB ts (sgI l n) (sgI l (nx B ts fs ol l n).2) = true then (n : Int) else (nx B ts fs ol l n).2)
def nextF (B : List Cd) (ts : List Tg) (fs : List Ft) (ol : List Int) (l : List Sg) : Int := if (nx B ts fs ol l l.length).1 < 0 then (nx B ts fs ol l l.length).2 else (nx B ts fs ol l l.length).1
theorem nx_rng (B : List Cd) (ts : List Tg) (fs : List Ft) (ol : List Int) (l : List Sg) : ∀ n, -1 ≤ (nx B ts fs ol l n).1 ∧ (nx B ts fs ol l n).1 < n ∧ 0 ≤ (nx B ts fs ol l n).2 ∧ ((nx B ts fs ol l n).2 < n ∨ (nx B ts fs ol l n).2 = 0)
 | 0 => by simp [nx]
 | n + 1 => by
  obtain ⟨h1, h2, h3, h4⟩ := nx_rng B ts fs ol l n
  unfold nx
  refine ⟨?_, ?_, ?_, ?_⟩ <;> dsimp only <;> split <;> omega
theorem nextF_rng (B : List Cd) (ts : List Tg) (fs : List Ft) (ol : List Int) {l : List Sg} (h : 0 < l.length) : 0 ≤ nextF B ts fs ol l ∧ nextF B ts fs ol l < l.length := by
 obtain ⟨h1, h2, h3, h4⟩ := nx_rng B ts fs ol l l.length
 unfold nextF
 split <;> omega
def allS (B : List Cd) (ts : List Tg) (ol : List Int) (fs : List Ft) (l : List Sg) : Nat -> List Ft × List Sg × List Sg
 | 0 => (fs, l, [])
 | n + 1 =>
  let q := allS B ts ol fs l n
  let i := nextF B ts q.1 ol q.2.1
  (applyF B ts q.1 ol (sgI q.2.1 i), q.2.1.eraseIdx i.toNat, q.2.2 ++ [sgI q.2.1 i])
theorem allS_inv (B : List Cd) (ts : List Tg) (ol : List Int) (fs : List Ft) (l : List Sg) : ∀ n, n ≤ l.length -> (allS B ts ol fs l n).1.length = fs.length ∧ (allS B ts ol fs l n).2.1.length = l.length - n ∧ (∀ s ∈ (allS B ts ol fs l n).2.1, s ∈ l) ∧ (allS B ts ol fs l n).2.2.length = n
 | 0, _ => by simp [allS]
 | n + 1, hn => by
  obtain ⟨h1, h2, h3, h4⟩ := allS_inv B ts ol fs l n (by omega)
  have hr := nextF_rng B ts (allS B ts ol fs l n).1 ol (l := (allS B ts ol fs l n).2.1) (by omega)
  unfold allS
  refine ⟨?_, ?_, fun s hs => h3 s ?_, ?_⟩
  ·dsimp only; rw [applyF_len, h1]
  ·dsimp only; rw [List.length_eraseIdx, if_pos (by omega), h2]; omega
  ·exact List.mem_of_mem_eraseIdx hs
  ·dsimp only; rw [List.length_append, h4]; rfl
theorem mem_effs {B : List Cd} {ts : List Tg} {fs : List Ft} {ol : List Int} {k : Int} {s : Sg} (h : s ∈ effs B ts fs ol k) : s.Thing - 1 ∈ ol ∧ ∃ i : Nat, s.Place = i ∧ (cpI B ts (s.Thing - 1))[i]? = some s.What ∧ s.What.When = 5 ∧ layV s.What.Verb = k ∧ hasT (ftI fs (s.Thing - 1)).Traits 6 = false := by
 unfold effs at h
 obtain ⟨x, hx, h⟩ := List.mem_flatMap.1 h
 unfold effO1 at h
 split at h
 ·cases h
 ·rename_i hh
  unfold effN at h
  obtain ⟨p, hp, h⟩ := List.mem_flatMap.1 h
  unfold effN1 at h
  split at h
  ·rename_i hc
   simp at h; subst h
   have := List.mk_mem_zipIdx_iff_getElem?.1 (show (p.1, p.2) ∈ (cpI B ts x).zipIdx from hp)
   have e : x + 1 - 1 = x := by omega
   simp only [e]
   exact ⟨hx, p.2, rfl, this, hc.1, hc.2, by simpa using hh⟩
  ·cases h
end
end Go.Proofs.YtolekmhhkopooaaGreatDoor.Zq
end
section
namespace Go.Proofs.YtolekmhhkopooaaGreatDoor.Zq
open Zv
section
variable {H : Heap} {b m : Nat} {se : Bool} {B : List Cd} {ms : List G_api_MarkInfo}
structure OrdT (B : List Cd) (ts : List Tg) (ol : List Int) : Prop where
 few : ol.length ≤ 16
 nd : ol.Nodup
 srt : ∀ (i j : Nat) a b, i < j -> ol[i]? = some a -> ol[j]? = some b -> stampAt ts a.toNat < stampAt ts b.toNat
 at' : ∀ i ∈ ol, ∃ (k : Nat) (t : Tg) (c : Cd), i = k ∧ ts[k]? = some t ∧ t.Place = 4 ∧ 1 ≤ t.Card ∧ B[(t.Card - 1).toNat]? = some c ∧ 1 ≤ t.Stamp ∧ c.g.Kind ≠ 2 ∧ c.ps.length ≤ 4
 all : ∀ (k : Nat) t, ts[k]? = some t -> t.Place = 4 -> (k : Int) ∈ ol
 len : ts.length ≤ 2048
theorem OkB.p4 (h : OkB B) {c : Cd} (hc : c ∈ B) : c.ps.length ≤ 4 := by
 have := h.ok c hc
 unfold chkC at this
 by_cases hf : chkF c = 0
 ·exact chkF_len hf
 ·rw [if_neg hf] at this; exact absurd this hf
theorem IsOrd.ordT {ts : List Tg} {fs : List Ft} {ol : List Int} (h : IsOrd ts ol) (tog : Tog B ts fs) (hfe : fs.length = ts.length) (okB : OkB B) (hlen : ts.length ≤ 2048) : OrdT B ts ol := by
 obtain ⟨hp, hs⟩ := h
 have nd : ol.Nodup := hp.symm.nodup (tabI_nodup _)
 have at' : ∀ i ∈ ol, ∃ (k : Nat) (t : Tg) (c : Cd), i = k ∧ ts[k]? = some t ∧ t.Place = 4 ∧ 1 ≤ t.Card ∧ B[(t.Card - 1).toNat]? = some c ∧ 1 ≤ t.Stamp ∧ c.g.Kind ≠ 2 ∧ c.ps.length ≤ 4 := fun i hi => by
  obtain ⟨k, t, h1, rfl, h3, h4⟩ := mem_tabI.1 (hp.mem_iff.1 hi)
  have hk : k < fs.length := by omega
  obtain ⟨c, w1, w2, _, _, _, w⟩ := tog.all k t _ h3 (List.getElem?_eq_getElem hk)
  exact ⟨k, t, c, rfl, h3, h4, w1, w2, (w h4).2.1, (w h4).1, okB.p4 (List.mem_of_getElem? w2)⟩
 refine ⟨by rw [hp.length_eq]; exact tog.few, nd, fun i j a b' hij ha hb => ?_, at', fun k t h1 h2 => hp.mem_iff.2 (mem_tabI.2 ⟨k, t, (List.getElem?_eq_some_iff.1 h1).1, rfl, h1, h2⟩), hlen⟩
 have h1 := hs i j a b' hij ha hb
 obtain ⟨k, t, _, e1, e2, e3, _⟩ := at' a (List.mem_of_getElem? ha)
 obtain ⟨k', t', _, e1', e2', e3', _⟩ := at' b' (List.mem_of_getElem? hb)
 have ea : stampAt ts a.toNat = t.Stamp := by subst e1; simp [stampAt, e2]
 have eb : stampAt ts b'.toNat = t'.Stamp := by subst e1'; simp [stampAt, e2']
 rw [ea, eb] at h1 ⊢
 have hab : k ≠ k' := fun q => by
  have hi := (List.getElem?_eq_some_iff.1 ha)
  have hj := (List.getElem?_eq_some_iff.1 hb)
  have := List.pairwise_iff_getElem.1 nd i j hi.1 hj.1 hij
  exact this (by rw [hi.2, hj.2, e1, e1', q])
 have := tog.dst k k' t t' hab e2 e2' e3 e3'
 omega
structure Plc (m : Nat) (H : Heap) (a1 cs so : Sl) (B : List Cd) (ts : List Tg) (ol : List Int) : Prop where
 hs : SlF TT' H a1 ts
 c : ∃ cl, SlF TC H cs cl ∧ ∀ (i : Nat) t c, ts[i]? = some t -> t.Place = 4 -> 1 ≤ t.Card -> B[(t.Card - 1).toNat]? = some c -> ∃ g, cl[i]? = some g ∧ CR m H g c
 o : SlF TN' H so ol
 ot : OrdT B ts ol
theorem Plc.new {H' : Heap} {a1 cs so : Sl} {ts : List Tg} {ol : List Int} (h : Plc m H a1 cs so B ts ol) (f : Frs [] H H') : Plc m H' a1 cs so B ts ol := by
 obtain ⟨h1, ⟨cl, h2, h3⟩, h4, h5⟩ := h
 exact ⟨h1.frs f (by simp), ⟨cl, h2.frs f (by simp), fun i t c w1 w2 w3 w4 => by obtain ⟨g, q1, q2⟩ := h3 i t c w1 w2 w3 w4; exact ⟨g, q1, q2.frs f (by simp)⟩⟩, h4.frs f (by simp), h5⟩
theorem Plc.card {a1 cs so : Sl} {ts : List Tg} {ol : List Int} (h : Plc m H a1 cs so B ts ol) : ∃ cl, SlF TC H cs cl ∧ ∀ i ∈ ol, ∃ (k : Nat) (t : Tg) (c : Cd) (g : G_api_Card), i = k ∧ ts[k]? = some t ∧ cl[k]? = some g ∧ CR m H g c ∧ cpI B ts i = c.ps ∧ ckI B ts i = c.g.Kind ∧ g.Kind = c.g.Kind ∧ c.ps.length ≤ 4 := by
 obtain ⟨h1, ⟨cl, h2, h3⟩, h4, h5⟩ := h
 refine ⟨cl, h2, fun i hi => ?_⟩
 obtain ⟨k, t, c, e1, e2, e3, e4, e5, e6, e7, e8⟩ := h5.at' i hi
 obtain ⟨g, q1, q2⟩ := h3 k t c e2 e3 e4 e5
 subst e1
 have hk : g.Kind = c.g.Kind := by rw [← q2.e]; rfl
 have hcd : cdI B ts (k : Int) = some c := by unfold cdI; rw [Int.toNat_natCast, e2]; exact e5
 exact ⟨k, t, c, g, rfl, e2, q1, q2, by unfold cpI; rw [hcd]; rfl, by unfold ckI; rw [hcd]; rfl, hk, e8⟩
theorem setup2_c (h : BP m H b se B ms) (okB : OkB B) {a1 a2 : Sl} {ts : List Tg} {fs : List G_api_Feature} (hs : SlF TT' H a1 ts) (hf : SlF TF H a2 fs) (fla : Flat H a1) (okt : ∀ t ∈ ts, t.Stamp ≤ 9223372036854775807) (okf : ∀ f ∈ fs, 0 ≤ f.Traits) (bts : ts.length ≤ 1048600) {Q : G_layer_place × Int × Unit -> Heap -> Prop}
  (q1 : ∀ p H', setE se B ts fs ≠ 0 -> Frs [] H H' -> Q (p, setE se B ts fs, ()) H') (q0 : ∀ cs so ol H', setE se B ts fs = 0 -> Tog B ts fs -> Plc H.length H' a1 cs so B ts ol -> Frs [] H H' -> Q (⟨some ⟨b, 0, none⟩, a1, cs, so⟩, 0, ()) H') :
  CALL P [T_G_layer_place, TN'] n_layer_setup [.pointer (some ⟨b, 0, none⟩), a1.v, a2.v] H Q := by
 refine setup_c h okB hs hf fla okt okf bts q1 fun cs so cl ol H' e tog pl => ?_
 have hfe : fs.length = ts.length := by
  refine Classical.byContradiction fun q => ?_
  unfold setE at e
  split at e
  ·cases e
  ·rw [if_pos (.inr q)] at e; cases e
 have hlen : ts.length ≤ 2048 := by
  refine Classical.byContradiction fun q => ?_
  unfold setE at e
  rw [if_pos (by omega)] at e; cases e
 exact q0 cs so ol H' e tog ⟨hs.frs pl.f (by simp), ⟨cl, pl.c, pl.card⟩, pl.o, pl.ord.ordT tog hfe okB hlen⟩ pl.f
theorem idx_part {s : Sl} {l : List Pt} (h : SlF TP H s l) {i : Int} {n : Nat} {x : Pt} (hi : i = n) (hx : l[n]? = some x) {K : Pt -> Prop} (hK : K x) : IDX s.p s.len i 8 fun b o => LD TP H b o K := idx_ldF (T := TP) hTP h hi hx rfl hK
theorem idx_cparts {s : Sl} {gs : List G_api_Card} (h : SlF TC H s gs) {i : Int} {n : Nat} {g : G_api_Card} (hi : i = n) (hx : gs[n]? = some g) {K : Sl -> Prop} (hk : K g.Parts) : IDX s.p s.len i 9 fun b o => LD T_sl H b (o + 8) K := by
 subst hi; exact idx_parts h hx hk
theorem peff_c {a1 a2 cs so : Sl} {bp : Option Addr} {ts : List Tg} {fs : List Ft} {ol : List Int} (pl : Plc m H a1 cs so B ts ol) (hf : SlF TF H a2 fs) (hfe : fs.length = ts.length) {k : Int} {Q : Sl × Unit -> Heap -> Prop}
  (hq : ∀ s H' sp, NewO TSt H s H' (effs B ts fs ol k) sp -> Q (s, ()) H') : CALL P [T_sl] n_layer_place_effects [T_G_layer_place.enc ⟨bp, a1, cs, so⟩, a2.v, .int .i64 k] H Q := by
 apply c_layer_place_effects
 unfold S_layer_place_effects
 have hol := pl.o.1
 obtain ⟨cl, hcl, cd⟩ := pl.card
 refine JOIN_inv (fun y H' => ∃ sp, NewO TSt H y.1.1 H' (effs B ts fs ol k) sp) (fun j hj => ?_) (fun y H' h => by obtain ⟨sp, h⟩ := h; exact hq _ _ _ h)
 refine loop_of (fun (y : (Sl × Int × Unit) × Unit) H' => ∃ (n : Nat) (sp : List Sg), y.1.2.1 = n ∧ n ≤ ol.length ∧ NewO TSt H y.1.1 H' ((ol.take n).flatMap (effO1 B ts fs k)) sp) (fun y => ol.length - y.1.2.1.toNat) ?_ ⟨0, [], rfl, Nat.zero_le _, by simpa using NewO.nil' TSt H⟩
 rintro G ⟨⟨out, i, _⟩, _⟩ H1 ⟨n, sp, hi, hn, no⟩ hG
 simp only at hi no; subst hi
 dsimp only at hG ⊢
 have f1 := no.2.2
 refine ifD (fun hlt => ?_) (fun hge => hj _ _ ⟨sp, ?_⟩)
 ·have hlt : n < ol.length := by omega
  have hx : ol[n]? = some ol[n] := List.getElem?_eq_getElem hlt
  have hm : ol[n] ∈ ol := List.getElem_mem hlt
  generalize ol[n] = x at hx hm
  obtain ⟨kx, t, c, g, ek, et, eg, cr, ecp, eck, egk, e4⟩ := cd x hm
  have hkl : kx < fs.length := by rw [hfe]; exact (List.getElem?_eq_some_iff.1 et).1
  have hfx : fs[kx]? = some fs[kx] := List.getElem?_eq_getElem hkl
  generalize fs[kx] = f at hfx
  have eft : ftI fs x = f := ftI_at ek hfx
  have tk := fm_take (effO1 B ts fs k) hx
  have hpre : ((ol.take n).flatMap (effO1 B ts fs k)).length ≤ 64 := by
   have := fm_len (f := effO1 B ts fs k) (c := 4) (l := ol.take n) fun y hy => by
    obtain ⟨_, _, c', _, _, _, _, _, ecp', _, _, e4'⟩ := cd y (List.mem_of_mem_take hy)
    unfold effO1
    split
    ·simp
    ·have := effN_len (y + 1) k (cpI B ts y)
     rw [ecp'] at this ⊢; omega
   have h16 := pl.ot.few
   rw [List.length_take] at this
   omega
  refine JOIN_inv (fun y H' => ∃ sp, NewO TSt H y.1.1 H' ((ol.take (n + 1)).flatMap (effO1 B ts fs k)) sp) (fun j2 hj2 => ?_) ?_
  ·refine idx_ldF (T := TN') hTN' (pl.o.frs f1 (by simp)) rfl hx rfl (idx_traits (hf.frs f1 (by simp)) ek hfx (phas_c (ifB_of (fun hM => ?_) (fun hM => ?_))))
   ·refine hj2 _ _ ⟨sp, ?_⟩
    have : effO1 B ts fs k x = [] := by unfold effO1; rw [eft, if_pos hM]
    rw [tk, this, List.append_nil]; exact no
   ·have e1 : effO1 B ts fs k x = effN (x + 1) k c.ps := by
     unfold effO1; rw [eft, if_neg (by have hM : hasT f.Traits 6 = false := hM; rw [hM]; decide), ecp]
    rw [e1] at tk
    refine idx_cparts (hcl.frs f1 (by simp)) ek eg ?_
    have hps := cr.p
    have hpl := hps.1
    refine JOIN_inv (fun y H' => ∃ sp, NewO TSt H y.1.1 H' ((ol.take (n + 1)).flatMap (effO1 B ts fs k)) sp) (fun j3 hj3 => ?_) (fun y H' h => hj2 _ _ h)
    refine loop_of (fun (y : (Sl × Int × Unit) × Unit) H' => ∃ (i : Nat) (sp : List Sg), y.1.2.1 = i ∧ i ≤ c.ps.length ∧ NewO TSt H y.1.1 H' ((ol.take n).flatMap (effO1 B ts fs k) ++ (c.ps.zipIdx.take i).flatMap (effN1 (x + 1) k)) sp) (fun y => c.ps.length - y.1.2.1.toNat) ?_ ⟨0, sp, rfl, Nat.zero_le _, by simpa using no⟩
    rintro G2 ⟨⟨out2, i2, _⟩, _⟩ H2 ⟨i, sp2, hi, hin, no2⟩ hG2
    simp only at hi no2; subst hi
    dsimp only at hG2 ⊢
    have f2 := no2.2.2
    refine ifD (fun hlt2 => ?_) (fun hge2 => hj3 _ _ ⟨sp2, ?_⟩)
    ·have hlt2 : i < c.ps.length := by omega
     have hy : c.ps[i]? = some c.ps[i] := List.getElem?_eq_getElem hlt2
     have hz : c.ps.zipIdx[i]? = some (c.ps[i], i) := by rw [List.getElem?_zipIdx, hy]; simp
     generalize c.ps[i] = p at hy hz
     have tk2 := fm_take (effN1 (x + 1) k) hz
     have hpre2 : ((c.ps.zipIdx.take i).flatMap (effN1 (x + 1) k)).length ≤ 4 := by
      have := fm_len (f := effN1 (x + 1) k) (c := 1) (l := c.ps.zipIdx.take i) fun y _ => effN1_len _ _ y
      rw [List.length_take, List.length_zipIdx] at this
      omega
     refine idx_part (hps.frs f2 (by simp)) rfl hy (JD (p.When = 5 ∧ layV p.Verb = k) (fun j4 hj4 => ifE (fun e5 => play_c (hj4 _ (by simp [e5]))) (fun e5 => hj4 _ (by simp [e5]))) ?_)
     refine JOIN_inv (fun y H' => ∃ sp, NewO TSt H y.1.1 H' ((ol.take n).flatMap (effO1 B ts fs k) ++ (c.ps.zipIdx.take (i + 1)).flatMap (effN1 (x + 1) k)) sp) (fun j5 hj5 => ifD (fun hc => ?_) (fun hc => hj5 _ _ ⟨sp2, ?_⟩)) ?_
     ·have e2 : effN1 (x + 1) k (p, i) = [⟨x + 1, i, p⟩] := by unfold effN1; rw [if_pos hc]
      have hkx : x + 1 ≤ 9223372036854775807 ∧ 0 ≤ x := by
       have h1 := pl.ot.len
       omega
      rw [i64w (by omega) (by omega)]
      refine app_c tySt rfl (fun _ => by simp) (m := 1) [(⟨x + 1, i, p⟩ : Sg)] rfl rfl (by rw [List.length_append]; show 2 * (_ + 1) * 4096 ≤ _; omega) no2.1 fun s4 H5 sp5 k1 k2 k3 => ?_
      refine hj5 _ _ ⟨sp5, ?_⟩
      rw [tk2, e2, ← List.append_assoc]
      exact no2.app k1 k2 k3
     ·have e2 : effN1 (x + 1) k (p, i) = [] := by unfold effN1; rw [if_neg hc]
      rw [tk2, e2, List.append_nil]; exact no2
     ·rintro ⟨⟨out3, _⟩, _⟩ H3 ⟨sp3, no3⟩
      rw [i64w (by omega) (by omega)]
      exact hG2 _ _ ⟨i + 1, sp3, by simp, hlt2, no3⟩ (by simp; omega)
    ·have : i = c.ps.length := by omega
     subst this
     have e3 : c.ps.zipIdx.take c.ps.length = c.ps.zipIdx := by rw [← List.length_zipIdx (l := c.ps) (i := 0), List.take_length]
     rw [e3] at no2
     rw [tk]; exact no2
  ·rintro ⟨⟨out3, _⟩, _⟩ H3 ⟨sp3, no3⟩
   have := pl.ot.few
   rw [i64w (by omega) (by omega)]
   exact hG _ _ ⟨n + 1, sp3, by simp, hlt, no3⟩ (by simp; omega)
 ·have : n = ol.length := by omega
  subst this
  rw [List.take_length] at no; exact no
theorem effects_c (h : BP m H b se B ms) (okB : OkB B) {a1 a2 : Sl} {ts : List Tg} {fs : List G_api_Feature} (hs : SlF TT' H a1 ts) (hf : SlF TF H a2 fs) (fla : Flat H a1) (okt : ∀ t ∈ ts, t.Stamp ≤ 9223372036854775807) (okf : ∀ f ∈ fs, 0 ≤ f.Traits) (bts : ts.length ≤ 1048600) {k : Int} {Q : Sl × Int × Unit -> Heap -> Prop}
  (q1 : ∀ H', setE se B ts fs ≠ 0 -> Frs [] H H' -> Q (⟨none, 0, 0⟩, setE se B ts fs, ()) H') (q2 : ∀ H', setE se B ts fs = 0 -> (k < 1 ∨ 5 < k) -> Frs [] H H' -> Q (⟨none, 0, 0⟩, 2, ()) H')
  (q0 : ∀ s ol H' sp, setE se B ts fs = 0 -> Tog B ts fs -> 1 ≤ k -> k ≤ 5 -> OrdT B ts ol -> NewO TSt H s H' (effs B ts fs ol k) sp -> Q (s, 0, ()) H') :
  CALL P [T_sl, TN'] n_layer_Effects [.pointer (some ⟨b, 0, none⟩), a1.v, a2.v, .int .i64 k] H Q := by
 apply c_layer_Effects
 unfold S_layer_Effects
 refine setup2_c h okB hs hf fla okt okf bts (fun p H' e f => ifB_t (by simpa using e) (q1 H' e f)) fun cs so ol H' e tog pl f => ifB_f rfl ?_
 have hfe : fs.length = ts.length := by
  refine Classical.byContradiction fun q => ?_
  unfold setE at e
  split at e
  ·cases e
  ·rw [if_pos (.inr q)] at e; cases e
 refine hJ (k < 1 ∨ 5 < k) (fun j hj => ifD (fun h => hj _ (by simp; omega)) (fun h => hj _ (by simp; omega))) (fun hk => q2 _ e hk f) (fun hk => ?_)
 exact peff_c pl (hf.frs f (by simp)) hfe fun s H2 sp no => q0 s ol H2 sp e tog (by omega) (by omega) pl.ot (no.older f)
end
end Go.Proofs.YtolekmhhkopooaaGreatDoor.Zq
end
section
namespace Go.Proofs.YtolekmhhkopooaaGreatDoor.Zq
open Zv
section
variable {H : Heap} {b m : Nat} {se : Bool} {B : List Cd} {ms : List G_api_MarkInfo}
structure Gv (H : Heap) (a1 a2 : Sl) (ts : List Tg) (fs : List Ft) : Prop where
 s : SlF TT' H a1 ts
 f : SlF TF H a2 fs
 fl : Flat H a1
 okt : ∀ t ∈ ts, t.Stamp ≤ 9223372036854775807
 okf : ∀ f ∈ fs, 0 ≤ f.Traits
 len : ts.length ≤ 1048600
variable {a1 a2 : Sl} {ts : List Tg} {fs : List Ft}
theorem Gv.new {H' : Heap} (h : Gv H a1 a2 ts fs) (f : Frs [] H H') : Gv H' a1 a2 ts fs := ⟨h.s.frs f (by simp), h.f.frs f (by simp), h.fl.frs f, h.okt, h.okf, h.len⟩
theorem setE_ok {e : setE se B ts fs = 0} : se = true ∧ fs.length = ts.length ∧ ts.length ≤ 2048 ∧ Tog B ts fs := by
 unfold setE at e
 split at e
 ·cases e
 ·rename_i h1
  split at e
  ·cases e
  ·rename_i h2
   split at e
   ·rename_i h3
    refine ⟨?_, Classical.byContradiction fun q => h2 (.inr q), by omega, h3⟩
    cases hs : se with
    | true => rfl
    | false => exact absurd (.inl hs) h2
   ·cases e
theorem tyI' : TyS E TN' 35 (0 : Int) := tyI
theorem row1 (H : Heap) (c : List Value) (z : Nat) : (mk H c z false)[H.length]? = some (.row c z false false true) ∧ Frs [] H (mk H c z false) ∧ (mk H c z false).length = H.length + 1 := ⟨by simp [mk], Frs.app _ _ _, by simp [mk]⟩
end
end Go.Proofs.YtolekmhhkopooaaGreatDoor.Zq
end
section
namespace Go.Proofs.YtolekmhhkopooaaGreatDoor.Zq
open Zv
section
variable {H : Heap} {b m : Nat} {se : Bool} {B : List Cd} {ms : List G_api_MarkInfo} {a1 a2 : Sl} {ts : List Tg} {fs : List Ft}
theorem idx_fld {T T1 : Tag} (hT : ∀ x, (T.cells x).length = T.n) {s : Sl} {l : List T.α} (h : SlF T H s l) {i : Int} {n : Nat} {x : T.α} (hi : i = n) (hx : l[n]? = some x) {sz : Nat} (hz : sz = T.n) (pre post : List Value) {v : T1.α} {of : Nat}
  (hcut : T.cells x = pre ++ (T1.cells v ++ post)) (hpre : pre.length = of) (hn : (T1.cells v).length = T1.n) {K : T1.α -> Prop} (hK : K v) : IDX s.p s.len i sz fun b o => LD T1 H b (o + of) K := by
 have hl := (List.getElem?_eq_some_iff.1 hx).1
 obtain ⟨h1, ⟨_, h2, _⟩ | ⟨_, _, _, h2, _⟩ | ⟨b, A, B, z, o, ro, h3, h4⟩⟩ := h
 ·subst h2; simp at hl
 ·subst h2; simp at hl
 ·subst hi; subst hz
  unfold IDX NIL
  rw [h3]
  refine ⟨⟨by omega, by omega⟩, ?_⟩
  refine LD_of (T := T1) v (A ++ (fl T (l.take n) ++ pre)) (post ++ (fl T (l.drop (n + 1)) ++ B)) h4 ?_ ?_ hn hK
  ·rw [fl_cut (T := T) l n x hx, hcut]; simp [List.append_assoc]
  ·rw [List.length_append, List.length_append, fl_len hT, List.length_take, Nat.min_eq_left (by omega), Int.toNat_natCast, hpre]
   omega
theorem idx_place {s : Sl} {l : List Tg} (h : SlF TT' H s l) {i : Int} {n : Nat} {x : Tg} (hi : i = n) (hx : l[n]? = some x) {K : Int -> Prop} (hK : K x.Place) : IDX s.p s.len i 11 fun b o => LD (T_int .u8) H b (o + 2) K :=
 idx_fld (T := TT') (T1 := T_int .u8) hTT' h hi hx rfl ((TT'.cells x).take 2) ((TT'.cells x).drop 3) rfl rfl rfl hK
theorem idx_hold {s : Sl} {l : List Ft} (h : SlF TF H s l) {i : Int} {n : Nat} {x : Ft} (hi : i = n) (hx : l[n]? = some x) {K : Int -> Prop} (hK : K x.Holder) : IDX s.p s.len i 5 fun b o => LD TN' H b (o + 0) K :=
 idx_fld (T := TF) (T1 := TN') hTF h hi hx rfl [] ((TF.cells x).drop 1) rfl rfl rfl hK
theorem idx_when' {s : Sl} {l : List Pt} (h : SlF TP H s l) {i : Int} {n : Nat} {x : Pt} (hi : i = n) (hx : l[n]? = some x) {K : Int -> Prop} (hK : K x.When) : IDX s.p s.len i 8 fun b o => LD (T_int .u8) H b (o + 0) K :=
 idx_fld (T := TP) (T1 := T_int .u8) hTP h hi hx rfl [] ((TP.cells x).drop 1) rfl rfl rfl hK
end
end Go.Proofs.YtolekmhhkopooaaGreatDoor.Zq
end
section
namespace Go.Proofs.YtolekmhhkopooaaGreatDoor.Zq
open Zv
section
variable {H : Heap} {b m : Nat} {B : List Cd} {ms : List G_api_MarkInfo} {a1 a2 : Sl} {ts : List Tg} {fs : List Ft} {ol : List Int}
theorem stampAt_at {x : Int} {k : Nat} {t : Tg} (e : x = k) (h : ts[k]? = some t) : stampAt ts x.toNat = t.Stamp := by subst e; simp [stampAt, h]
end
end Go.Proofs.YtolekmhhkopooaaGreatDoor.Zq
end
section
namespace Go.Proofs.YtolekmhhkopooaaGreatDoor.Zq
open Zv
section
variable {H : Heap} {b m : Nat} {B : List Cd} {ms : List G_api_MarkInfo} {a1 a2 : Sl} {ts : List Tg} {fs : List Ft} {ol : List Int}
theorem NewO.ptr {T : Tag} {H0 H : Heap} {s : Sl} {l sp : List T.α} (h : NewO T H0 s H l sp) : ∀ c, s.p = some ⟨c, 0, none⟩ -> H0.length ≤ c ∧ c < H.length := fun c hc => ⟨h.2.1 c hc, h.1.lt hc⟩
end
end Go.Proofs.YtolekmhhkopooaaGreatDoor.Zq
end
section
namespace Go.Proofs.YtolekmhhkopooaaGreatDoor.Zq
open Zv
section
variable {H : Heap} {b m : Nat} {se : Bool} {B : List Cd} {ms : List G_api_MarkInfo} {a1 a2 a3 : Sl} {ts : List Tg} {fs : List Ft} {ol : List Int} {l : List Sg}
theorem eq_of_at {α : Type} {x y : List α} (hl : x.length = y.length) (h : ∀ (i : Nat) a c, i < x.length -> x[i]? = some a -> y[i]? = some c -> a = c) : x = y := by
 apply List.ext_getElem hl
 intro i h1 h2
 exact h i _ _ h1 (List.getElem?_eq_getElem h1) (List.getElem?_eq_getElem h2)
theorem hangs_true {i k j : Nat} (hj : j < k) (h : (j != i && dependsB B ts fs ol (sgI l (i : Int)) (sgI l (j : Int))) = true) : hangsB B ts fs ol l i k = true := List.any_eq_true.2 ⟨j, List.mem_range.2 hj, h⟩
end
end Go.Proofs.YtolekmhhkopooaaGreatDoor.Zq
end
section
namespace Go.Proofs.YtolekmhhkopooaaGreatDoor.Zq
open Zv
section
variable {H : Heap} {b m : Nat} {se : Bool} {B : List Cd} {ms : List G_api_MarkInfo} {a1 a2 a3 : Sl} {ts : List Tg} {fs : List Ft} {ol : List Int} {l : List Sg}
theorem srt_uniq {f : Int -> Int} : ∀ {l1 l2 : List Int}, l1.Pairwise (fun a c => f a < f c) -> l2.Pairwise (fun a c => f a < f c) -> (∀ x, x ∈ l1 ↔ x ∈ l2) -> l1 = l2
 | [], [], _, _, _ => rfl
 | [], c :: r, _, _, h => by have := (h c).2 (by simp); cases this
 | a :: r, [], _, _, h => by have := (h a).1 (by simp); cases this
 | a :: r, c :: q, h1, h2, h => by
  rw [List.pairwise_cons] at h1 h2
  have e : a = c := by
   refine Classical.byContradiction fun n => ?_
   rcases List.mem_cons.1 ((h a).1 (by simp)) with w | w
   ·exact n w
   ·rcases List.mem_cons.1 ((h c).2 (by simp)) with w2 | w2
    ·exact n w2.symm
    ·have := h1.1 c w2; have := h2.1 a w; omega
  subst e
  congr 1
  refine srt_uniq h1.2 h2.2 fun x => ⟨fun hx => ?_, fun hx => ?_⟩
  ·rcases List.mem_cons.1 ((h x).1 (by simp [hx])) with w | w
   ·subst w; have := h1.1 x hx; omega
   ·exact w
  ·rcases List.mem_cons.1 ((h x).2 (by simp [hx])) with w | w
   ·subst w; have := h2.1 x hx; omega
   ·exact w
theorem OrdT.uniq {l1 l2 : List Int} (h1 : OrdT B ts l1) (h2 : OrdT B ts l2) : l1 = l2 := by
 have pw : ∀ {l : List Int}, OrdT B ts l -> l.Pairwise (fun a c => stampAt ts a.toNat < stampAt ts c.toNat) := fun h => List.pairwise_iff_getElem.2 fun i j hi hj hij => h.srt i j _ _ hij (List.getElem?_eq_getElem hi) (List.getElem?_eq_getElem hj)
 refine srt_uniq (f := fun a => stampAt ts a.toNat) (pw h1) (pw h2) fun x => ⟨fun hx => ?_, fun hx => ?_⟩
 ·obtain ⟨k, t, c, e1, e2, e3, _⟩ := h1.at' x hx; subst e1; exact h2.all k t e2 e3
 ·obtain ⟨k, t, c, e1, e2, e3, _⟩ := h2.at' x hx; subst e1; exact h1.all k t e2 e3
theorem SlF.after {T : Tag} {H1 H2 : Heap} {out s : Sl} {l : List T.α} (h : SlF T H1 s l) (a : After out H1 H2) (ap : ∀ d off, s.p = some ⟨d, off, none⟩ -> out.p ≠ some ⟨d, 0, none⟩) : SlF T H2 s l := by
 by_cases hq : ∃ d, out.p = some ⟨d, 0, none⟩
 ·obtain ⟨d0, hd0⟩ := hq
  exact h.frs (a.frs (B := [d0]) fun d hd => by rw [hd0] at hd; cases hd; simp) fun x hx off e => by simp at hx; subst hx; exact ap _ _ e hd0
 ·exact h.frs (a.frs (B := []) fun d hd => absurd ⟨d, hd⟩ hq) (by simp)
end
end Go.Proofs.YtolekmhhkopooaaGreatDoor.Zq
end
section
namespace Go.Proofs.YtolekmhhkopooaaGreatDoor.Zq
open Zv
section
variable {H : Heap} {b m : Nat} {se : Bool} {B : List Cd} {ms : List G_api_MarkInfo} {a1 a2 a3 : Sl} {ts : List Tg} {fs : List Ft} {ol : List Int} {l : List Sg}
theorem OwJ.take {E : Env} {T : Tag} {ts : TypeId} {z : T.α} (ty : TyS E T ts z) {H : Heap} {s : Sl} {l : List T.α} (h : OwJ T H s l) {i : Int} {n : Nat} (hi : i = n) (hn : n ≤ l.length) (hp : s.p ≠ none) {k : Sl -> Prop} (hk : OwJ T H ⟨s.p, n, s.cap⟩ (l.take n) -> k ⟨s.p, n, s.cap⟩) : GENV T_sl (aSlice E ts s.v none (some (.int .i64 i)) none H) k := by
 obtain ⟨⟨ti, e, te, e1, e2, e3, e4, e5, e6, e7⟩, hn0, hT, hone⟩ := ty
 subst hi
 obtain ⟨p, m, c⟩ := s
 obtain ⟨g1, g2, g0, ⟨g3, g4, g5⟩ | ⟨d, r, g3, g4, g5, g6⟩⟩ := h
 ·exact absurd g3 hp
 ·simp only at g1 g2 g3 g5 g6 g0; subst g3
  refine ⟨⟨some ⟨d, 0, none⟩, n, c⟩, ?_, hk ⟨by simp; omega, by simp only; omega, by simp only; omega, .inr ⟨d, r, rfl, g4, by simp only; omega, by simp only; rw [← g6, List.take_take, Nat.min_eq_left (by omega)]⟩⟩⟩
  unfold aSlice
  have hex : Zq.exact H d 0 c = true := by unfold Zq.exact; rw [g4]; rfl
  simp only [e1, e2, e3, Option.bind_some, Sl.v, natOf, Option.isSome_none, Bool.false_and, Bool.false_eq_true, if_false, hex, or_true, if_true]
  rw [if_pos (by omega)]
  simp only [Option.bind_some, Int.toNat_natCast]
  rw [if_pos (by omega)]
  simp [Tag.enc, encC]
theorem Ow.pne {T : Tag} {H : Heap} {s : Sl} {l sp : List T.α} (h : Ow T H s l sp) (hl : 0 < l.length) : ∃ d, s.p = some ⟨d, 0, none⟩ := by
 obtain ⟨_, _, _, ⟨_, h4, _⟩ | ⟨c, h4, _⟩⟩ := h
 ·subst h4; simp at hl
 ·exact ⟨c, h4⟩
theorem effs_len {B : List Cd} {ts : List Tg} {ol : List Int} (ot : OrdT B ts ol) (fs : List Ft) (k : Int) : (effs B ts fs ol k).length ≤ 64 := by
 have := fm_len (f := effO1 B ts fs k) (c := 4) (l := ol) fun y hy => by
  obtain ⟨k', t, c, e1, e2, e3, e4, e5, e6, e7, e8⟩ := ot.at' y hy
  unfold effO1
  split
  ·simp
  ·have := effN_len (y + 1) k (cpI B ts y)
   have hc : cpI B ts y = c.ps := by subst e1; unfold cpI cdI; rw [Int.toNat_natCast, e2]; show ((B[(t.Card - 1).toNat]?).map (·.ps)).getD [] = _; rw [e5]; rfl
   rw [hc] at this ⊢; omega
 have := ot.few
 unfold effs; omega
end
end Go.Proofs.YtolekmhhkopooaaGreatDoor.Zq
end
section
namespace Go.Proofs.YtolekmhhkopooaaGreatDoor.Zq
open Zv
section
variable {se : Bool} {B : List Cd} {ts : List Tg} {fs : List Ft} {ol : List Int}
theorem bitI_rng (t : Int) : 0 ≤ bitI t ∧ bitI t ≤ 128 := by
 unfold bitI
 split
 ·rename_i h
  have : t = 1 ∨ t = 2 ∨ t = 3 ∨ t = 4 ∨ t = 5 ∨ t = 6 ∨ t = 7 ∨ t = 8 := by omega
  rcases this with rfl | rfl | rfl | rfl | rfl | rfl | rfl | rfl <;> decide
 ·omega
theorem bv_nat {s : Int} (h0 : 0 ≤ s) (h1 : s < 256) : (BitVec.ofInt (IntKind.bits .u16) s).toNat = s.toNat := by
 show (BitVec.ofInt 16 s).toNat = _
 rw [BitVec.toNat_ofInt]
 omega
theorem withT_rng {s : Int} (t : Int) (h0 : 0 ≤ s) (h1 : s < 256) : 0 ≤ withT s t ∧ withT s t < 256 := by
 obtain ⟨b0, b1⟩ := bitI_rng t
 unfold withT
 refine ⟨u16nn _, ?_⟩
 have e : (BitVec.ofInt (IntKind.bits .u16) s ||| BitVec.ofInt (IntKind.bits .u16) (bitI t)).toNat < 2 ^ 8 := by
  rw [BitVec.toNat_or, bv_nat h0 h1, bv_nat b0 (by omega)]
  exact Nat.or_lt_two_pow (by omega) (by omega)
 generalize (BitVec.ofInt (IntKind.bits .u16) s ||| BitVec.ofInt (IntKind.bits .u16) (bitI t)).toNat = x at e
 show (x : Int) % 65536 < 256
 omega
theorem woutT_rng {s : Int} (t : Int) (h0 : 0 ≤ s) (h1 : s < 256) : 0 ≤ woutT s t ∧ woutT s t < 256 := by
 unfold woutT
 refine ⟨u16nn _, ?_⟩
 have e : (BitVec.ofInt (IntKind.bits .u16) s &&& ~~~BitVec.ofInt (IntKind.bits .u16) (bitI t)).toNat < 256 := by
  rw [BitVec.toNat_and, bv_nat h0 h1]
  exact Nat.lt_of_le_of_lt Nat.and_le_left (by omega)
 generalize (BitVec.ofInt (IntKind.bits .u16) s &&& ~~~BitVec.ofInt (IntKind.bits .u16) (bitI t)).toNat = x at e
 show (x : Int) % 65536 < 256
 omega
theorem doneF_nn {f : Ft} (p : Pt) (h : Int) (h0 : 0 ≤ f.Traits) : 0 ≤ (doneF f p h).Traits := by
 unfold doneF
 split
 ·exact h0
 split
 ·exact h0
 split
 ·exact u16nn _
 split
 ·exact u16nn _
 split
 ·exact h0
 split
 ·exact h0
 ·exact h0
theorem doneF_ok {f : Ft} (p : Pt) {h : Int} (hh : h = 0 ∨ h = 1) (h0 : 0 ≤ f.Traits) (h1 : f.Traits < 256) (hd : f.Holder = 0 ∨ f.Holder = 1) : ((doneF f p h).Holder = 0 ∨ (doneF f p h).Holder = 1) ∧ (doneF f p h).Traits < 256 := by
 unfold doneF
 split
 ·exact ⟨hh, h1⟩
 split
 ·exact ⟨hd, h1⟩
 split
 ·exact ⟨hd, (withT_rng _ h0 h1).2⟩
 split
 ·exact ⟨hd, (woutT_rng _ h0 h1).2⟩
 split
 ·exact ⟨hd, h1⟩
 split
 ·exact ⟨hd, h1⟩
 ·exact ⟨hd, h1⟩
structure FtJ (ts : List Tg) (out : List Ft) : Prop where
 len : out.length = ts.length
 nn : ∀ f ∈ out, 0 ≤ f.Traits
 ok : ∀ (i : Nat) t f, ts[i]? = some t -> out[i]? = some f -> t.Place = 4 -> (f.Holder = 0 ∨ f.Holder = 1) ∧ f.Traits < 256
theorem Tog.j (tog : Tog B ts fs) (hfe : fs.length = ts.length) (nn : ∀ f ∈ fs, 0 ≤ f.Traits) : FtJ ts fs :=
 ⟨hfe, nn, fun i t f h1 h2 h3 => by obtain ⟨c, _, _, _, _, _, w⟩ := tog.all i t f h1 h2; exact ⟨(w h3).2.2.1, (w h3).2.2.2⟩⟩
theorem FtJ.tog {out : List Ft} (j : FtJ ts out) (tog : Tog B ts fs) (hfe : fs.length = ts.length) : Tog B ts out := by
 refine ⟨fun i t f h1 h2 => ?_, tog.few, tog.dst⟩
 have hi := (List.getElem?_eq_some_iff.1 h1).1
 obtain ⟨c, w1, w2, w3, w4, w5, w⟩ := tog.all i t _ h1 (List.getElem?_eq_getElem (by omega))
 exact ⟨c, w1, w2, w3, w4, w5, fun h4 => ⟨(w h4).1, (w h4).2.1, (j.ok i t f h1 h2 h4).1, (j.ok i t f h1 h2 h4).2⟩⟩
theorem FtJ.put {out : List Ft} (j : FtJ ts out) (s : Sg) {h : Int} (hh : h = 0 ∨ h = 1) {n : Int} {k : Nat} {t : Tg} (hk : n = (k : Int) + 1) (ht : ts[k]? = some t) (hp : t.Place = 4) : FtJ ts (put1 s h out n) := by
 have hkl := (List.getElem?_eq_some_iff.1 ht).1
 have hl := j.len
 have hx : out[k]? = some (out[k]'(by omega)) := List.getElem?_eq_getElem (by omega)
 have hm : out[k]'(by omega) ∈ out := List.getElem_mem (by omega)
 generalize (out[k]'(by omega)) = f at hx hm
 have ef : ftI out (n - 1) = f := ftI_at (by omega) hx
 have e : put1 s h out n = out.set k (doneF f s.What h) := by unfold put1; rw [ef, show (n - 1).toNat = k by omega]
 rw [e]
 obtain ⟨o1, o2⟩ := j.ok k t f ht hx hp
 refine ⟨by simpa using hl, fun g hg => ?_, fun i u g h1 h2 h3 => ?_⟩
 ·rcases List.mem_or_eq_of_mem_set hg with w | rfl
  ·exact j.nn g w
  ·exact doneF_nn _ _ (j.nn f hm)
 ·by_cases ei : i = k
  ·subst ei
   rw [List.getElem?_set_self (by omega)] at h2
   cases h2
   exact doneF_ok _ hh (j.nn f hm) o2 o1
  ·rw [List.getElem?_set_ne (fun q => ei q.symm)] at h2
   exact j.ok i u g h1 h2 h3
theorem FtJ.apply (ot : OrdT B ts ol) (j : FtJ ts fs) {s : Sg} (hs : s.Thing - 1 ∈ ol) : FtJ ts (applyF B ts fs ol s) := by
 obtain ⟨k, t, c, e1, e2, e3, _⟩ := ot.at' _ hs
 have hkl := (List.getElem?_eq_some_iff.1 e2).1
 have hl := j.len
 have hx : fs[k]? = some (fs[k]'(by omega)) := List.getElem?_eq_getElem (by omega)
 have hh := (j.ok k t _ e2 hx e3).1
 rw [← ftI_at e1 hx] at hh
 unfold applyF
 generalize (ftI fs (s.Thing - 1)).Holder = h at hh
 have : ∀ (L : List Int) (out : List Ft), (∀ x ∈ L, x - 1 ∈ ol) -> FtJ ts out -> FtJ ts (L.foldl (put1 s h) out) := by
  intro L
  induction L with
  | nil => intro out _ j; exact j
  | cons x r ih =>
   intro out hL j
   obtain ⟨k, t, c, e1, e2, e3, _⟩ := ot.at' _ (hL x (by simp))
   exact ih _ (fun y hy => hL y (by simp [hy])) (j.put s hh (k := k) (by omega) e2 e3)
 exact this _ fs (fun x hx => (mem_abouts.1 hx).1) j
theorem FtJ.all (ot : OrdT B ts ol) (j : FtJ ts fs) {l : List Sg} (lv : ∀ s ∈ l, s.Thing - 1 ∈ ol) : ∀ n, n ≤ l.length -> FtJ ts (allS B ts ol fs l n).1
 | 0, _ => j
 | n + 1, hn => by
  obtain ⟨i1, i2, i3, i4⟩ := allS_inv B ts ol fs l n (by omega)
  have hr := nextF_rng B ts (allS B ts ol fs l n).1 ol (l := (allS B ts ol fs l n).2.1) (by omega)
  have ih := FtJ.all ot j lv n (by omega)
  unfold allS
  refine ih.apply ot (lv _ (i3 _ ?_))
  unfold sgI
  rw [List.getElem?_eq_getElem (by omega)]
  exact List.getElem_mem _
theorem FtJ.setE {out : List Ft} (j : FtJ ts out) (e : setE se B ts fs = 0) : setE se B ts out = 0 := by
 obtain ⟨e1, e2, e3, e4⟩ := setE_ok (e := e)
 refine (setE_0 (by omega) (fun q => ?_)).1 (j.tog e4 e2)
 rcases q with q | q
 ·rw [e1] at q; cases q
 ·exact q j.len
end
end Go.Proofs.YtolekmhhkopooaaGreatDoor.Zq
end
section
namespace Go.Proofs.YtolekmhhkopooaaGreatDoor.Zq
open Zv
section
variable {B : List Cd} {ts : List Tg} {fs : List Ft} {ol : List Int}
theorem abouts_eq (B : List Cd) (ts : List Tg) (fs : List Ft) (ol : List Int) (s : Sg) : abouts B ts fs ol s = (ol.filter (meansB B ts fs s)).map (· + 1) := by
 unfold abouts
 induction ol with
 | nil => rfl
 | cons x r ih =>
  rw [List.flatMap_cons, ih, List.filter_cons]
  unfold abouts1
  split <;> simp
theorem OrdT.pw (ot : OrdT B ts ol) : ol.Pairwise fun a c => stampAt ts a.toNat < stampAt ts c.toNat :=
 List.pairwise_iff_getElem.2 fun i j hi hj h => ot.srt i j _ _ h (List.getElem?_eq_getElem hi) (List.getElem?_eq_getElem hj)
theorem abouts_pw (ot : OrdT B ts ol) (fs : List Ft) (s : Sg) : (abouts B ts fs ol s).Pairwise fun a c => stampAt ts (a - 1).toNat < stampAt ts (c - 1).toNat := by
 rw [abouts_eq, List.pairwise_map]
 simp only [Int.add_sub_cancel]
 exact ot.pw.filter _
theorem abouts_nodup (ot : OrdT B ts ol) (fs : List Ft) (s : Sg) : (abouts B ts fs ol s).Nodup :=
 (abouts_pw ot fs s).imp fun h e => by subst e; omega
theorem fold_put_at (s : Sg) (h : Int) : ∀ (L : List Int) (out : List Ft), L.Nodup -> (∀ x ∈ L, 1 ≤ x) -> ∀ (i : Nat) f, out[i]? = some f -> (L.foldl (put1 s h) out)[i]? = some (if (i : Int) + 1 ∈ L then doneF f s.What h else f)
 | [], out, _, _, i, f, hf => by simpa using hf
 | x :: r, out, nd, ge, i, f, hf => by
  rw [List.foldl_cons]
  have nd' := List.nodup_cons.1 nd
  have gx := ge x (by simp)
  have gr : ∀ y ∈ r, 1 ≤ y := fun y hy => ge y (by simp [hy])
  by_cases e : (i : Int) + 1 = x
  ·have e1 : (put1 s h out x)[i]? = some (doneF f s.What h) := by
    unfold put1
    rw [show (x - 1).toNat = i by omega, ftI_at (n := i) (by omega) hf, List.getElem?_set_self (List.getElem?_eq_some_iff.1 hf).1]
   rw [fold_put_at s h r _ nd'.2 gr i _ e1, if_neg (by rw [e]; exact nd'.1), if_pos (by rw [e]; simp)]
  ·have e1 : (put1 s h out x)[i]? = some f := by
    unfold put1; rw [List.getElem?_set_ne (by omega)]; exact hf
   rw [fold_put_at s h r _ nd'.2 gr i _ e1]
   by_cases w : (i : Int) + 1 ∈ r
   ·rw [if_pos w, if_pos (by simp [w])]
   ·rw [if_neg w, if_neg (by simp [w, e])]
theorem applyF_at (ot : OrdT B ts ol) (s : Sg) {i : Nat} {f : Ft} (hf : fs[i]? = some f) : (applyF B ts fs ol s)[i]? = some (if (i : Int) + 1 ∈ abouts B ts fs ol s then doneF f s.What (ftI fs (s.Thing - 1)).Holder else f) :=
 fold_put_at _ _ _ _ (abouts_nodup ot fs s) (fun x hx => by obtain ⟨k, _, _, e, _⟩ := ot.at' _ (mem_abouts.1 hx).1; omega) _ _ hf
theorem wrap_comm (x a c : Int) : IntKind.wrap .i64 (IntKind.wrap .i64 (x + a) + c) = IntKind.wrap .i64 (IntKind.wrap .i64 (x + c) + a) := by
 have key : ∀ y : Int, IntKind.wrap .i64 y = if y % 18446744073709551616 ≥ 9223372036854775808 then y % 18446744073709551616 - 18446744073709551616 else y % 18446744073709551616 := fun y => by
  show (if (true && decide (y % 18446744073709551616 ≥ 9223372036854775808)) = true then _ else _) = _
  rw [Bool.true_and]
  by_cases h : y % 18446744073709551616 ≥ 9223372036854775808
  ·rw [if_pos h, if_pos (by simpa using h)]; rfl
  ·rw [if_neg h, if_neg (by simpa using h)]; rfl
 simp only [key]
 split <;> split <;> split <;> split <;> omega
theorem layV5 {v : Int} (h : layV v = 5) : v = 15 := by
 unfold layV at h
 repeat' split at h
 all_goals first | assumption | omega
theorem doneF_raise {f : Ft} {p : Pt} {h : Int} (e : p.Verb = 15) : doneF f p h = { f with Power := IntKind.wrap .i64 (f.Power + p.Count), Health := IntKind.wrap .i64 (f.Health + p.Count) } := by
 unfold doneF; simp [e]
theorem raises_comm (ot : OrdT B ts ol) {s o : Sg} (hs : s.What.Verb = 15) (ho : o.What.Verb = 15) (p : dependsB B ts fs ol s o = false) (q : dependsB B ts fs ol o s = false) :
  applyF B ts (applyF B ts fs ol s) ol o = applyF B ts (applyF B ts fs ol o) ol s := by
 have ep : abouts B ts fs ol s = abouts B ts (applyF B ts fs ol o) ol s := by unfold dependsB at p; simpa using p
 have eq : abouts B ts fs ol o = abouts B ts (applyF B ts fs ol s) ol o := by unfold dependsB at q; simpa using q
 apply List.ext_getElem?
 intro i
 by_cases hi : i < fs.length
 ·have hf := List.getElem?_eq_getElem hi
  generalize fs[i] = f at hf
  rw [applyF_at ot o (applyF_at ot s hf), applyF_at ot s (applyF_at ot o hf), ← ep, ← eq]
  congr 1
  by_cases a : (i : Int) + 1 ∈ abouts B ts fs ol s <;> by_cases c : (i : Int) + 1 ∈ abouts B ts fs ol o <;> simp only [a, c, if_true, if_false, doneF_raise hs, doneF_raise ho]
  rw [wrap_comm f.Power, wrap_comm f.Health]
 ·rw [List.getElem?_eq_none (by rw [applyF_len, applyF_len]; omega), List.getElem?_eq_none (by rw [applyF_len, applyF_len]; omega)]
end
end Go.Proofs.YtolekmhhkopooaaGreatDoor.Zq
end
section
namespace Go.Proofs.YtolekmhhkopooaaGreatDoor.Zq
open Zv
section
theorem idx_ow {T : Tag} {H : Heap} {s : Sl} {l sp : List T.α} (h : Ow T H s l sp) {i : Int} {n : Nat} (hi : i = n) (hn : n < l.length) {sz : Nat} (hz : sz = T.n) {K : Nat -> Nat -> Prop} (hk : ∀ c o, s.p = some ⟨c, 0, none⟩ -> o = n * T.n -> K c o) : IDX s.p s.len i sz K := by
 obtain ⟨g1, g2, g0, ⟨_, g3, _⟩ | ⟨c, g3, g4⟩⟩ := id h
 ·subst g3; simp at hn
 ·subst hi; subst hz
  unfold IDX NIL
  rw [g3]
  exact ⟨⟨by omega, by omega⟩, hk c _ g3 (by rw [Int.toNat_natCast]; simp)⟩
theorem ow_ld {T T1 : Tag} (hT : ∀ x, (T.cells x).length = T.n) {H : Heap} {s : Sl} {l sp : List T.α} (h : Ow T H s l sp) {c : Nat} (hc : s.p = some ⟨c, 0, none⟩) {n : Nat} {x : T.α} (hx : l[n]? = some x) (pre post : List Value) (of : Nat) {v : T1.α} {o : Nat} (ho : o = n * T.n)
  (e1 : T.cells x = pre ++ (T1.cells v ++ post)) (hp : pre.length = of) (hn : (T1.cells v).length = T1.n) {K : T1.α -> Prop} (hK : K v) : LD T1 H c (o + of) K := by
 obtain ⟨g1, g2, g0, ⟨g3, _⟩ | ⟨c', g3, g4⟩⟩ := id h
 ·rw [hc] at g3; cases g3
 ·rw [hc] at g3; cases g3
  have hl := (List.getElem?_eq_some_iff.1 hx).1
  have hx1 : (l ++ sp)[n]? = some x := by rw [List.getElem?_append_left hl, hx]
  refine LD_of (T := T1) v (fl T ((l ++ sp).take n) ++ pre) (post ++ fl T ((l ++ sp).drop (n + 1))) g4 ?_ ?_ hn hK
  ·rw [fl_cut _ _ _ hx1, e1]; simp [List.append_assoc]
  ·rw [List.length_append, fl_len hT, List.length_take, Nat.min_eq_left (by rw [List.length_append]; omega), hp, ho]
theorem ow_st {T : Tag} (hT : ∀ x, (T.cells x).length = T.n) {H : Heap} {s : Sl} {l sp : List T.α} (h : Ow T H s l sp) {c : Nat} (hc : s.p = some ⟨c, 0, none⟩) {n : Nat} {x x' : T.α} (hx : l[n]? = some x) (pre post old vs : List Value) (of : Nat) {o : Nat} (ho : o = n * T.n)
  (e1 : T.cells x = pre ++ (old ++ post)) (e2 : T.cells x' = pre ++ (vs ++ post)) (hp : pre.length = of) (hl : old.length = vs.length) (hv : vs.all cell1 = true) {K : Heap -> Prop}
  (hK : ∀ H', Ow T H' s (l.set n x') sp -> Frs [c] H H' -> H'.length = H.length -> K H') : ST H c (o + of) vs K := by
 obtain ⟨g1, g2, g0, ⟨g3, _⟩ | ⟨c', g3, g4⟩⟩ := id h
 ·rw [hc] at g3; cases g3
 ·rw [hc] at g3; cases g3
  have hn := (List.getElem?_eq_some_iff.1 hx).1
  have hx1 : (l ++ sp)[n]? = some x := by rw [List.getElem?_append_left hn, hx]
  refine ST_of (fl T ((l ++ sp).take n) ++ pre) old (post ++ fl T ((l ++ sp).drop (n + 1))) g4 ?_ ?_ hl hv ?_
  ·rw [fl_cut _ _ _ hx1, e1]; simp [List.append_assoc]
  ·rw [List.length_append, fl_len hT, List.length_take, Nat.min_eq_left (by rw [List.length_append]; omega), hp, ho]
  ·refine hK _ ⟨by simpa using g1, by simpa using g2, g0, .inr ⟨c, hc, ?_⟩⟩ (Frs.set _ _ (by simp)) (by simp)
   rw [set_get (get_lt g4)]
   have hx2 : (l.set n x' ++ sp)[n]? = some x' := by rw [List.getElem?_append_left (by simpa using hn), List.getElem?_set_self hn]
   rw [fl_cut _ _ _ hx2, e2]
   have e3 : (l.set n x' ++ sp).take n = (l ++ sp).take n := by
    rw [List.take_append_of_le_length (by simp; omega), List.take_append_of_le_length (by omega), List.take_set_of_le (Nat.le_refl _)]
   have e4 : (l.set n x' ++ sp).drop (n + 1) = (l ++ sp).drop (n + 1) := by
    rw [← List.set_append_left n x' hn, List.drop_set_of_lt (by omega)]
   rw [e3, e4]; simp [List.append_assoc]
theorem idx_any {T : Tag} (hT : ∀ x, (T.cells x).length = T.n) {H : Heap} {s : Sl} {l : List T.α} (h : SlF T H s l) {i : Int} {n : Nat} {x : T.α} (hi : i = n) (hx : l[n]? = some x) {sz : Nat} (hz : sz = T.n) {K : Nat -> Nat -> Prop}
  (hk : ∀ b o, (∀ H2, SlF T H2 s l -> ∀ (T1 : Tag) (pre post : List Value) (v : T1.α) (of : Nat) (k : T1.α -> Prop), T.cells x = pre ++ (T1.cells v ++ post) -> pre.length = of -> (T1.cells v).length = T1.n -> k v -> LD T1 H2 b (o + of) k) -> K b o) : IDX s.p s.len i sz K := by
 have t := idx_ldF hT h hi hx (k := fun _ => True) hz trivial
 have hl := (List.getElem?_eq_some_iff.1 hx).1
 obtain ⟨h1, ⟨_, h2, _⟩ | ⟨_, _, _, h2, _⟩ | ⟨b, A, B, z, o, ro, h3, h4⟩⟩ := id h
 ·subst h2; simp at hl
 ·subst h2; simp at hl
 ·unfold IDX NIL at t ⊢
  rw [h3] at t ⊢
  refine ⟨t.1, hk _ _ fun H2 h2 T1 pre post v of k e1 e2 e3 hk => ?_⟩
  have t2 := idx_fld hT h2 hi hx hz pre post (T1 := T1) e1 e2 e3 (K := k) hk
  unfold IDX NIL at t2
  rw [h3] at t2
  exact t2.2
theorem set_same {α : Type} {l : List α} {n : Nat} {x : α} (h : l[n]? = some x) : l.set n x = l := by
 apply List.ext_getElem?
 intro i
 by_cases e : i = n
 ·subst e; rw [List.getElem?_set_self (List.getElem?_eq_some_iff.1 h).1, h]
 ·rw [List.getElem?_set_ne (fun q => e q.symm)]
theorem clone_g {E : Env} {T : Tag} {ts : TypeId} {z : T.α} (ty : TyS E T ts z) {tj : TI} (h2 : E.ty ts = some tj) (h4 : ∀ k, tj.k ≠ .int k) {H : Heap} {s : Sl} {l : List T.α} (hf : SlF T H s l) (hl : l.length ≤ 1048600) {n : Nat} (hn : n = T.n) {Q : Sl × Unit -> Heap -> Prop} (hq : ∀ r H' sp, NewO T H r H' l sp -> Q (r, ()) H') :
  ifB s.p.isNone (Q ((Sl.mk none 0 0), ()) H) (NEW H [] n fun H1 => APP T_sl (lenV ((Sl.mk (some ⟨H.length, 0, none⟩) 0 0)).v + (lenX s.v).getD 0) (aAppendE E [ts, ts] ((Sl.mk (some ⟨H.length, 0, none⟩) 0 0)).v s.v H1) fun (x1 : Sl) H2 => Q (x1, ()) H2) := by
 subst hn
 refine ifB_of (fun e => ?_) (fun e => ?_)
 ·obtain ⟨h1, ⟨_, h2, _⟩ | ⟨_, _, h3, _⟩ | ⟨_, _, _, _, _, _, h3, _⟩⟩ := hf
  ·subst h2; exact hq _ _ [] (NewO.nil' T H)
  ·rw [h3] at e; cases e
  ·rw [h3] at e; cases e
 ·unfold NEW
  have r1 : (mk H [] T.n false)[H.length]? = some (.row [] T.n false false true) := by simp [mk]
  have f1 : Frs [] H (mk H [] T.n false) := Frs.app _ _ _
  generalize mk H [] T.n false = H1 at r1 f1
  have o1 : Ow T H1 ⟨some ⟨H.length, 0, none⟩, 0, 0⟩ [] [] := ⟨rfl, rfl, by simp, .inr ⟨_, rfl, r1⟩⟩
  have n1 : NewO T H ⟨some ⟨H.length, 0, none⟩, 0, 0⟩ H1 [] [] := ⟨o1, fun d hd => by simp at hd; subst hd; exact Nat.le_refl _, f1⟩
  refine apps_c ty h2 h4 (hf.frs f1 (by simp)) (by simp only [List.length_nil]; omega) o1 fun s8 H8 sp8 k1 k2 k3 => ?_
  have := n1.app k1 k2 k3
  rw [List.nil_append] at this
  exact hq _ _ sp8 this
variable {H : Heap} {b m : Nat} {se : Bool} {B : List Cd} {ms : List G_api_MarkInfo} {a1 a2 a3 cs so : Sl} {bp : Option Addr} {ts : List Tg} {fs : List Ft} {ol : List Int} {l : List Sg}
theorem pclone_c (hf : SlF TF H a2 fs) (hl : fs.length ≤ 1048600) {Q : Sl × Unit -> Heap -> Prop} (hq : ∀ r H' sp, NewO TF H r H' fs sp -> Q (r, ()) H') : CALL P [T_sl] n_slices_Clone_api_Feature_api_Feature [a2.v] H Q := by
 apply c_slices_Clone_api_Feature_api_Feature
 unfold S_slices_Clone_api_Feature_api_Feature
 exact clone_g tyF rfl (fun _ => by simp) hf hl rfl hq
theorem pclonest_c (hf : SlF TSt H a2 l) (hl : l.length ≤ 1048600) {Q : Sl × Unit -> Heap -> Prop} (hq : ∀ r H' sp, NewO TSt H r H' l sp -> Q (r, ()) H') : CALL P [T_sl] n_slices_Clone_api_Standing_api_Standing [a2.v] H Q := by
 apply c_slices_Clone_api_Standing_api_Standing
 unfold S_slices_Clone_api_Standing_api_Standing
 exact clone_g tySt rfl (fun _ => by simp) hf hl rfl hq
theorem peq_c {s r : Sl} {x y : List Int} (hx : SlF TN' H s x) (hy : SlF TN' H r y) (hl : x.length ≤ 1048600) {Q : Bool × Unit -> Heap -> Prop} (hq : Q (decide (x = y), ()) H) : CALL P [T_bool] n_slices_Equal_int_int [s.v, r.v] H Q := by
 apply c_slices_Equal_int_int
 unfold S_slices_Equal_int_int
 have h1 := hx.1
 have h2 := hy.1
 have no : ¬ x = y -> Q (false, ()) H := fun q => by have := hq; rwa [decide_eq_false q] at this
 refine ifN (fun e => no fun q => by subst q; omega) (fun e => ?_)
 have hll : x.length = y.length := by omega
 refine JOIN_inv (fun _ H' => H' = H ∧ x = y) (fun j hj => ?_) (fun _ H' hh => by obtain ⟨rfl, e⟩ := hh; rwa [decide_eq_true e] at hq)
 refine loop_of (fun (t : (Int × Unit) × Unit) H' => H' = H ∧ ∃ n : Nat, t.1.1 = n ∧ n ≤ x.length ∧ ∀ (i : Nat) a c, i < n -> x[i]? = some a -> y[i]? = some c -> a = c) (fun t => x.length - t.1.1.toNat) ?_ ⟨rfl, 0, rfl, Nat.zero_le _, fun i a c h => by omega⟩
 rintro G ⟨⟨i, _⟩, _⟩ H' ⟨rfl, n, hi, hn, inv⟩ hG
 simp only at hi; subst hi
 dsimp only at hG ⊢
 refine ifD (fun hlt => ?_) (fun hge => hj _ _ ⟨rfl, eq_of_at hll fun i a c w => inv i a c (by omega)⟩)
 have hlt : n < x.length := by omega
 have ha : x[n]? = some x[n] := List.getElem?_eq_getElem hlt
 have hc : y[n]? = some (y[n]'(by omega)) := List.getElem?_eq_getElem (by omega)
 generalize x[n] = a at ha
 generalize (y[n]'(by omega)) = c at hc
 refine idx_ldF (T := TN') hTN' hx rfl ha rfl (idx_ldF (T := TN') hTN' hy rfl hc rfl (ifN (fun q => no fun w => ?_) (fun q => ?_)))
 ·subst w; rw [ha] at hc; cases hc; exact q rfl
 ·rw [i64w (by omega) (by omega)]
  refine hG _ _ ⟨rfl, n + 1, by simp, hlt, fun i a' c' w1 w2 w3 => ?_⟩ (by simp; omega)
  by_cases e : i = n
  ·subst e; rw [ha] at w2; rw [hc] at w3; cases w2; cases w3; exact q
  ·exact inv i a' c' (by omega) w2 w3
theorem Plc.at4 (pl : Plc m H a1 cs so B ts ol) (hfe : fs.length = ts.length) : ∃ cl, SlF TC H cs cl ∧ ∀ x ∈ ol, ∃ (k : Nat) (t : Tg) (c : Cd) (g : G_api_Card) (f : Ft), x = k ∧ k < 2048 ∧ ts[k]? = some t ∧ t.Place = 4 ∧ 1 ≤ t.Stamp ∧ cl[k]? = some g ∧ CR m H g c ∧ cpI B ts x = c.ps ∧ ckI B ts x = c.g.Kind ∧ g.Kind = c.g.Kind ∧ c.ps.length ≤ 4 ∧ fs[k]? = some f ∧ ftI fs x = f := by
 obtain ⟨cl, hcl, cd⟩ := pl.card
 refine ⟨cl, hcl, fun x hx => ?_⟩
 obtain ⟨k, t, c, g, ek, et, eg, cr, ecp, eck, egk, e4⟩ := cd x hx
 obtain ⟨k', t', _, e1', e2', e3', _, _, e6', _⟩ := pl.ot.at' x hx
 have : k' = k := by omega
 subst this; rw [et] at e2'; cases e2'
 have hkl := (List.getElem?_eq_some_iff.1 et).1
 have hlen := pl.ot.len
 have hfx : fs[k']? = some (fs[k']'(by omega)) := List.getElem?_eq_getElem (by omega)
 exact ⟨k', t, c, g, _, ek, by omega, et, e3', e6', eg, cr, ecp, eck, egk, e4, hfx, ftI_at ek hfx⟩
theorem pmeans_c (pl : Plc m H a1 cs so B ts ol) (hf : SlF TF H a2 fs) (hfe : fs.length = ts.length) {s : Sg} (hs : s.Thing - 1 ∈ ol) {x : Int} (hx : x ∈ ol) {Q : Bool × Unit -> Heap -> Prop} (hq : Q (meansB B ts fs s x, ()) H) :
  CALL P [T_bool] n_layer_place_means [T_G_layer_place.enc ⟨bp, a1, cs, so⟩, a2.v, TSt.enc s, .int .i64 x] H Q := by
 apply c_layer_place_means
 unfold S_layer_place_means
 obtain ⟨cl, hcl, cd⟩ := pl.at4 hfe
 obtain ⟨k, t, c, g, f, ek, k2, et, ep, est, eg, cr, ecp, eck, egk, e4, hfx, ef⟩ := cd x hx
 obtain ⟨k', t', c', g', f', ek', k2', et', ep', est', eg', cr', ecp', eck', egk', e4', hfx', ef'⟩ := cd _ hs
 rw [i64w (by omega) (by omega)]
 unfold meansB at hq
 refine ifE (fun q => ?_) (fun q4 => ?_)
 ·rw [if_pos q] at hq; exact hq
 rw [if_neg q4, ef, ef', eck, ← egk] at hq
 refine idx_ldF (T := TF) hTF hf ek hfx rfl ?_
 refine idx_any (T := TF) hTF hf ek' hfx' rfl fun b o rd => rd H hf TN' [] ((TF.cells f').drop 1) f'.Holder 0 _ rfl rfl rfl ⟨rfl, rd H hf TN' [] ((TF.cells f').drop 1) f'.Holder 0 _ rfl rfl rfl ⟨rfl, ?_⟩⟩
 refine idx_fld (T := TC) (T1 := T_int .u8) hTC hcl ek eg rfl ((TC.cells g).take 2) ((TC.cells g).drop 3) rfl rfl rfl (ifN (fun q => ?_) (fun q => ?_))
 ·rw [if_pos q] at hq; exact hq
 rw [if_neg (fun w => w q)] at hq
 refine ifE (fun q => by rw [if_pos q] at hq; exact hq) (fun q5 => ?_)
 rw [if_neg q5] at hq
 refine ifE (fun q => by rw [if_pos q] at hq; exact hq) (fun q6 => ?_)
 rw [if_neg q6] at hq
 refine ifE (fun q => by rw [if_pos q] at hq; exact hq) (fun q7 => ?_)
 rw [if_neg q7] at hq
 refine ifE (fun q => ?_) (fun q8 => ?_)
 ·rw [if_pos q] at hq
  refine JOIN_of (ifB_of (fun e => ?_) (fun e => ?_))
  ·have e : (f.Holder == f'.Holder) = true := e
   rw [e, Bool.true_and] at hq; exact hq
  ·have e : (f.Holder == f'.Holder) = false := e
   rw [e, Bool.false_and] at hq; exact hq
 rw [if_neg q8] at hq
 refine ifE (fun q => by rw [if_pos q] at hq; exact hq) (fun q9 => ?_)
 rw [if_neg q9] at hq
 refine ifE (fun q => ?_) (fun q10 => ?_)
 ·rw [if_pos q] at hq; exact phas_c hq
 ·rw [if_neg q10] at hq; exact hq
end
end Go.Proofs.YtolekmhhkopooaaGreatDoor.Zq
end
section
namespace Go.Proofs.YtolekmhhkopooaaGreatDoor.Zq
open Zv
section
variable {H : Heap} {b m : Nat} {se : Bool} {B : List Cd} {ms : List G_api_MarkInfo} {a1 a2 a3 cs so : Sl} {bp : Option Addr} {ts : List Tg} {fs : List Ft} {ol : List Int} {l : List Sg}
theorem pabt_c (pl : Plc m H a1 cs so B ts ol) (hf : SlF TF H a2 fs) (hfe : fs.length = ts.length) {s : Sg} (hs : s.Thing - 1 ∈ ol) {Q : Sl × Unit -> Heap -> Prop} (hq : ∀ r H' sp, NewO TN' H r H' (abouts B ts fs ol s) sp -> Q (r, ()) H') :
  CALL P [T_sl] n_layer_place_about [T_G_layer_place.enc ⟨bp, a1, cs, so⟩, a2.v, TSt.enc s] H Q := by
 apply c_layer_place_about
 unfold S_layer_place_about
 have hol := pl.o.1
 have few := pl.ot.few
 have hlen := pl.ot.len
 obtain ⟨cl, hcl, cd⟩ := pl.at4 hfe
 refine JOIN_inv (fun y H' => ∃ sp, NewO TN' H y.1.1 H' (abouts B ts fs ol s) sp) (fun j hj => ?_) (fun y H' h => by obtain ⟨sp, h⟩ := h; exact hq _ _ _ h)
 refine loop_of (fun (y : (Sl × Int × Unit) × Unit) H' => ∃ (n : Nat) (sp : List Int), y.1.2.1 = n ∧ n ≤ ol.length ∧ NewO TN' H y.1.1 H' ((ol.take n).flatMap (abouts1 B ts fs s)) sp) (fun y => ol.length - y.1.2.1.toNat) ?_ ⟨0, [], rfl, Nat.zero_le _, by simpa using NewO.nil' TN' H⟩
 rintro G ⟨⟨out, i, _⟩, _⟩ H1 ⟨n, sp, hi, hn, no⟩ hG
 simp only at hi no; subst hi
 dsimp only at hG ⊢
 have f1 := no.2.2
 refine ifD (fun hlt => ?_) (fun hge => hj _ _ ⟨sp, ?_⟩)
 ·have hlt : n < ol.length := by omega
  have hx : ol[n]? = some ol[n] := List.getElem?_eq_getElem hlt
  have hm : ol[n] ∈ ol := List.getElem_mem hlt
  generalize ol[n] = x at hx hm
  obtain ⟨kx, _, _, _, _, ek, k2, _⟩ := cd x hm
  have tk := fm_take (abouts1 B ts fs s) hx
  have hpre : ((ol.take n).flatMap (abouts1 B ts fs s)).length ≤ 16 := by
   have := fm_len (f := abouts1 B ts fs s) (c := 1) (l := ol.take n) fun y _ => abouts1_len B ts fs s y
   rw [List.length_take] at this
   omega
  refine idx_ldF (T := TN') hTN' (pl.o.frs f1 (by simp)) rfl hx rfl (pmeans_c (pl.new f1) (hf.frs f1 (by simp)) hfe hs hm ?_)
  refine JOIN_inv (fun y H' => ∃ sp, NewO TN' H y.1.1 H' ((ol.take (n + 1)).flatMap (abouts1 B ts fs s)) sp) (fun j2 hj2 => ifB_of (fun e => ?_) (fun e => ?_)) ?_
  ·have e1 : abouts1 B ts fs s x = [x + 1] := if_pos e
   rw [i64w (by omega) (by omega)]
   refine app_c tyI' rfl (fun _ => by simp) (m := 1) [x + 1] rfl rfl (by show 2 * (_ + 1) * 4096 ≤ _; omega) no.1 fun s4 H5 sp5 k1 k2 k3 => ?_
   exact hj2 _ _ ⟨sp5, by rw [tk, e1]; exact no.app k1 k2 k3⟩
  ·have e1 : abouts1 B ts fs s x = [] := if_neg (by have e : meansB B ts fs s x = false := e; rw [e]; decide)
   exact hj2 _ _ ⟨sp, by rw [tk, e1, List.append_nil]; exact no⟩
  ·rintro ⟨⟨out3, _⟩, _⟩ H3 ⟨sp3, no3⟩
   rw [i64w (by omega) (by omega)]
   exact hG _ _ ⟨n + 1, sp3, by simp, hlt, no3⟩ (by simp; omega)
 ·have : n = ol.length := by omega
  subst this
  rw [List.take_length] at no; exact no
theorem papply_c (pl : Plc m H a1 cs so B ts ol) (hf : SlF TF H a2 fs) (hfe : fs.length = ts.length) {s : Sg} (hs : s.Thing - 1 ∈ ol) {Q : Sl × Unit -> Heap -> Prop} (hq : ∀ r H' sp, NewO TF H r H' (applyF B ts fs ol s) sp -> Q (r, ()) H') :
  CALL P [T_sl] n_layer_place_apply [T_G_layer_place.enc ⟨bp, a1, cs, so⟩, a2.v, TSt.enc s] H Q := by
 apply c_layer_place_apply
 unfold S_layer_place_apply
 have hlen := pl.ot.len
 refine pclone_c hf (by omega) fun x1 H1 sp1 n1 => ?_
 refine pabt_c (pl.new n1.2.2) (hf.frs n1.2.2 (by simp)) hfe hs fun x2 H2 sp2 n2 => ?_
 obtain ⟨cl, hcl, cd⟩ := pl.at4 hfe
 obtain ⟨k', t', c', g', f', ek', k2', et', ep', est', eg', cr', ecp', eck', egk', e4', hfx', ef'⟩ := cd _ hs
 have hl2 : x2.len = (abouts B ts fs ol s).length := n2.1.1
 have hmem : ∀ x ∈ abouts B ts fs ol s, ∃ k : Nat, x = (k : Int) + 1 ∧ k < fs.length := fun x hx => by
  obtain ⟨k, t, c, g, f, e1, _, e2, _⟩ := cd _ (mem_abouts.1 hx).1
  have := (List.getElem?_eq_some_iff.1 e2).1
  exact ⟨k, by omega, by omega⟩
 have hal := abouts_len B ts fs ol s
 have few := pl.ot.few
 generalize hL : abouts B ts fs ol s = L at hl2 hmem n2 hal
 have eap : applyF B ts fs ol s = L.foldl (put1 s f'.Holder) fs := by unfold applyF; rw [hL, ef']
 refine JOIN_inv (fun _ H' => NewO TF H x1 H' (L.foldl (put1 s f'.Holder) fs) sp1) (fun j hj => ?_) (fun _ H' hh => hq _ _ sp1 (by rw [eap]; exact hh))
 refine loop_of (fun (y : (Int × Unit) × Unit) H' => ∃ n : Nat, y.1.1 = n ∧ n ≤ L.length ∧ NewO TF H x1 H' ((L.take n).foldl (put1 s f'.Holder) fs) sp1 ∧ Ow TN' H' x2 L sp2) (fun y => L.length - y.1.1.toNat) ?_ ⟨0, rfl, Nat.zero_le _, by simpa using n1.new n2.2.2, n2.1⟩
 rintro G ⟨⟨i, _⟩, _⟩ H4 ⟨n, hi, hn, no, o2⟩ hG
 simp only at hi; subst hi
 dsimp only at hG ⊢
 refine ifD (fun hlt => ?_) (fun hge => hj _ _ ?_)
 ·have hlt : n < L.length := by omega
  have hx : L[n]? = some L[n] := List.getElem?_eq_getElem hlt
  obtain ⟨k, ek, hk⟩ := hmem L[n] (List.getElem_mem hlt)
  generalize L[n] = x at hx ek
  have tk := fold_take (put1 s f'.Holder) fs hx
  have hcl := fold_put_len s f'.Holder (L.take n) fs
  generalize hcur : (L.take n).foldl (put1 s f'.Holder) fs = cur at no tk hcl
  have hky : cur[k]? = some (cur[k]'(by omega)) := List.getElem?_eq_getElem (by omega)
  generalize (cur[k]'(by omega)) = g at hky
  have eg : ftI cur (x - 1) = g := ftI_at (by omega) hky
  have w3 : IntKind.wrap .i64 (x - 1) = (k : Int) := by rw [i64w (by omega) (by omega)]; omega
  have w4 : IntKind.wrap .i64 (s.Thing - 1) = (k' : Int) := by rw [i64w (by omega) (by omega)]; omega
  refine idx_ldF (T := TN') hTN' o2.slf rfl hx rfl ?_
  rw [w3, w4]
  refine idx_ow no.1 rfl (by omega) rfl fun c0 o hc0 ho => ?_
  have ep : put1 s f'.Holder cur x = cur.set k (doneF g s.What f'.Holder) := by
   unfold put1
   rw [eg, show (x - 1).toNat = k by omega]
  refine JOIN_inv (fun _ H' => Ow TF H' x1 (cur.set k (doneF g s.What f'.Holder)) sp1 ∧ Frs [c0] H4 H' ∧ H'.length = H4.length) (fun j12 hj12 => ?_) ?_
  ·have hkl : k < cur.length := (List.getElem?_eq_some_iff.1 hky).1
   unfold doneF at hj12
   refine ifE (fun e => ?_) (fun e10 => ?_)
   ·rw [if_pos e] at hj12
    exact idx_hold (hf.frs no.2.2 (by simp)) rfl hfx' (ow_st (T := TF) hTF no.1 hc0 hky [] ((TF.cells g).drop 1) ((TF.cells g).take 1) [.int .i64 f'.Holder] 0 ho rfl (x' := ⟨f'.Holder, g.Suit, g.Traits, g.Power, g.Health⟩) rfl rfl rfl rfl fun H6 o6 f6 l6 => hj12 _ _ ⟨o6, f6, l6⟩)
   rw [if_neg e10] at hj12
   refine JOIN_inv _ (fun j17 hj17 => ?_) (fun _ H' hh => hj12 _ H' hh)
   refine ifE (fun e => ?_) (fun e11 => ?_)
   ·rw [if_pos e] at hj17
    exact ow_st (T := TF) hTF no.1 hc0 hky ((TF.cells g).take 1) ((TF.cells g).drop 2) [.int .u8 g.Suit] [.int .u8 s.What.Suit] 1 ho rfl (x' := ⟨g.Holder, s.What.Suit, g.Traits, g.Power, g.Health⟩) rfl rfl rfl rfl fun H6 o6 f6 l6 => hj17 _ _ ⟨o6, f6, l6⟩
   rw [if_neg e11] at hj17
   refine JOIN_inv _ (fun j19 hj19 => ?_) (fun _ H' hh => hj17 _ H' hh)
   refine ifE (fun e => ?_) (fun e12 => ?_)
   ·rw [if_pos e] at hj19
    exact ow_ld (T := TF) (T1 := T_int .u16) hTF no.1 hc0 hky ((TF.cells g).take 2) ((TF.cells g).drop 3) 2 (v := g.Traits) ho rfl rfl rfl (pwith_c (ow_st (T := TF) hTF no.1 hc0 hky ((TF.cells g).take 2) ((TF.cells g).drop 3) [.int .u16 g.Traits] [.int .u16 (withT g.Traits s.What.Trait)] 2 ho rfl (x' := ⟨g.Holder, g.Suit, withT g.Traits s.What.Trait, g.Power, g.Health⟩) rfl rfl rfl rfl fun H6 o6 f6 l6 => hj19 _ _ ⟨o6, f6, l6⟩))
   rw [if_neg e12] at hj19
   refine JOIN_inv _ (fun j23 hj23 => ?_) (fun _ H' hh => hj19 _ H' hh)
   refine ifE (fun e => ?_) (fun e13 => ?_)
   ·rw [if_pos e] at hj23
    exact ow_ld (T := TF) (T1 := T_int .u16) hTF no.1 hc0 hky ((TF.cells g).take 2) ((TF.cells g).drop 3) 2 (v := g.Traits) ho rfl rfl rfl (pwout_c (ow_st (T := TF) hTF no.1 hc0 hky ((TF.cells g).take 2) ((TF.cells g).drop 3) [.int .u16 g.Traits] [.int .u16 (woutT g.Traits s.What.Trait)] 2 ho rfl (x' := ⟨g.Holder, g.Suit, woutT g.Traits s.What.Trait, g.Power, g.Health⟩) rfl rfl rfl rfl fun H6 o6 f6 l6 => hj23 _ _ ⟨o6, f6, l6⟩))
   rw [if_neg e13] at hj23
   refine JOIN_inv _ (fun j27 hj27 => ?_) (fun _ H' hh => hj23 _ H' hh)
   refine ifE (fun e => ?_) (fun e14 => ?_)
   ·rw [if_pos e] at hj27
    refine ow_st (T := TF) hTF no.1 hc0 hky ((TF.cells g).take 3) ((TF.cells g).drop 4) [.int .i64 g.Power] [.int .i64 s.What.Count] 3 ho rfl (x' := ⟨g.Holder, g.Suit, g.Traits, s.What.Count, g.Health⟩) rfl rfl rfl rfl fun H6 o6 f6 l6 => ⟨rfl, ?_⟩
    refine ow_st (T := TF) hTF o6 hc0 (List.getElem?_set_self hkl) ((TF.cells (⟨g.Holder, g.Suit, g.Traits, s.What.Count, g.Health⟩ : Ft)).take 4) [] [.int .i64 g.Health] [.int .i64 s.What.Count] 4 ho rfl (x' := ⟨g.Holder, g.Suit, g.Traits, s.What.Count, s.What.Count⟩) rfl rfl rfl rfl fun H7 o7 f7 l7 => hj27 _ _ ⟨?_, f6.trans f7, by omega⟩
    rw [List.set_set] at o7; exact o7
   rw [if_neg e14] at hj27
   refine JOIN_inv _ (fun j29 hj29 => ?_) (fun _ H' hh => hj27 _ H' hh)
   refine ifE (fun e => ?_) (fun e15 => ?_)
   ·rw [if_pos e] at hj29
    refine ow_ld (T := TF) (T1 := TN') hTF no.1 hc0 hky ((TF.cells g).take 3) ((TF.cells g).drop 4) 3 (v := g.Power) ho rfl rfl rfl ?_
    refine ow_st (T := TF) hTF no.1 hc0 hky ((TF.cells g).take 3) ((TF.cells g).drop 4) [.int .i64 g.Power] [.int .i64 (IntKind.wrap .i64 (g.Power + s.What.Count))] 3 ho rfl (x' := ⟨g.Holder, g.Suit, g.Traits, IntKind.wrap .i64 (g.Power + s.What.Count), g.Health⟩) rfl rfl rfl rfl fun H6 o6 f6 l6 => ?_
    refine ow_ld (T := TF) (T1 := TN') hTF o6 hc0 (List.getElem?_set_self hkl) ((TF.cells (⟨g.Holder, g.Suit, g.Traits, IntKind.wrap .i64 (g.Power + s.What.Count), g.Health⟩ : Ft)).take 4) [] 4 (v := g.Health) ho rfl rfl rfl ?_
    refine ow_st (T := TF) hTF o6 hc0 (List.getElem?_set_self hkl) ((TF.cells (⟨g.Holder, g.Suit, g.Traits, IntKind.wrap .i64 (g.Power + s.What.Count), g.Health⟩ : Ft)).take 4) [] [.int .i64 g.Health] [.int .i64 (IntKind.wrap .i64 (g.Health + s.What.Count))] 4 ho rfl (x' := ⟨g.Holder, g.Suit, g.Traits, IntKind.wrap .i64 (g.Power + s.What.Count), IntKind.wrap .i64 (g.Health + s.What.Count)⟩) rfl rfl rfl rfl fun H7 o7 f7 l7 => hj29 _ _ ⟨?_, f6.trans f7, by omega⟩
    rw [List.set_set] at o7; exact o7
   rw [if_neg e15, set_same hky] at hj29
   exact hj29 _ _ ⟨no.1, .refl _ _, rfl⟩
  ·rintro _ H6 ⟨o6, f6, l6⟩
   obtain ⟨p1, p2⟩ := no.ptr _ hc0
   obtain ⟨p3, p4⟩ := n1.ptr _ hc0
   rw [i64w (by omega) (by omega)]
   refine hG _ _ ⟨n + 1, by simp, hlt, by rw [tk, ep]; exact ⟨o6, no.2.1, no.2.2.then f6 fun d hd => by simp at hd; subst hd; exact .inr p1⟩, o2.frs f6 fun d hd e => ?_⟩ (by simp; omega)
   simp at hd; subst hd
   have := n2.2.1 _ e; omega
 ·have : n = L.length := by omega
  subst this
  rw [List.take_length] at no; exact no
theorem plah_c (pl : Plc m H a1 cs so B ts ol) {s o : Sg} (hs : s.Thing - 1 ∈ ol) (ho : o.Thing - 1 ∈ ol) {Q : Bool × Unit -> Heap -> Prop} (hq : Q (aheadB ts s o, ()) H) : CALL P [T_bool] n_layer_place_ahead [T_G_layer_place.enc ⟨bp, a1, cs, so⟩, TSt.enc s, TSt.enc o] H Q := by
 apply c_layer_place_ahead
 unfold S_layer_place_ahead
 obtain ⟨k, t, c, e1, e2, _⟩ := pl.ot.at' _ hs
 obtain ⟨k', t', c', e1', e2', _⟩ := pl.ot.at' _ ho
 have hlen := pl.ot.len
 have hk := (List.getElem?_eq_some_iff.1 e2).1
 have hk' := (List.getElem?_eq_some_iff.1 e2').1
 have w1 : IntKind.wrap .i64 (s.Thing - 1) = (k : Int) := by rw [i64w (by omega) (by omega)]; omega
 have w2 : IntKind.wrap .i64 (o.Thing - 1) = (k' : Int) := by rw [i64w (by omega) (by omega)]; omega
 rw [w1, w2]
 unfold aheadB at hq
 rw [stampAt_at e1 e2, stampAt_at e1' e2'] at hq
 refine idx_stamp' pl.hs rfl e2 (idx_stamp' pl.hs rfl e2' (JOIN_of (ifD (fun q => ?_) (fun q => ifE (fun q2 => ?_) (fun q2 => ?_)))))
 ·rw [decide_eq_true q, Bool.true_or] at hq; exact hq
 ·rw [decide_eq_false q, decide_eq_true q2, Bool.false_or, Bool.true_and] at hq; exact hq
 ·rw [decide_eq_false q, decide_eq_false q2] at hq; exact hq
theorem pdep_c (pl : Plc m H a1 cs so B ts ol) (hf : SlF TF H a2 fs) (hfe : fs.length = ts.length) {s o : Sg} (hs : s.Thing - 1 ∈ ol) (ho : o.Thing - 1 ∈ ol) {Q : Bool × Unit -> Heap -> Prop} (hq : ∀ H', Frs [] H H' -> Q (dependsB B ts fs ol s o, ()) H') :
  CALL P [T_bool] n_layer_place_depends [T_G_layer_place.enc ⟨bp, a1, cs, so⟩, a2.v, TSt.enc s, TSt.enc o] H Q := by
 apply c_layer_place_depends
 unfold S_layer_place_depends
 have few := pl.ot.few
 have hal := abouts_len B ts fs ol s
 refine pabt_c pl hf hfe hs fun x1 H1 sp1 n1 => ⟨rfl, rfl, rfl, rfl, ?_⟩
 refine papply_c (pl.new n1.2.2) (hf.frs n1.2.2 (by simp)) hfe ho fun x2 H2 sp2 n2 => ⟨rfl, rfl, ?_⟩
 have f02 := n1.2.2.trans n2.2.2
 refine pabt_c (pl.new f02) n2.1.slf (by rw [applyF_len]; exact hfe) hs fun x3 H3 sp3 n3 => ?_
 refine peq_c ((n1.new n2.2.2).new n3.2.2).1.slf n3.1.slf (by omega) ?_
 have := hq H3 (f02.trans n3.2.2)
 unfold dependsB at this
 simpa using this
def mayS (B : List Cd) (ts : List Tg) (s : Sg) : Prop := 1 ≤ s.Thing ∧ (∃ t, ts[(s.Thing - 1).toNat]? = some t ∧ t.Place = 4) ∧ 0 ≤ s.Place ∧ (cpI B ts (s.Thing - 1))[s.Place.toNat]? = some s.What ∧ s.What.When = 5
theorem mayS.mem (ot : OrdT B ts ol) {s : Sg} (h : mayS B ts s) : s.Thing - 1 ∈ ol := by
 obtain ⟨h1, ⟨t, h2, h3⟩, _⟩ := h
 have := ot.all _ t h2 h3
 rwa [show (((s.Thing - 1).toNat : Nat) : Int) = s.Thing - 1 by omega] at this
theorem ba_inj {x y : ByteArray} (h : x.toList = y.toList) : x = y := by
 obtain ⟨⟨x⟩⟩ := x
 obtain ⟨⟨y⟩⟩ := y
 rw [ByteArray.toList_mk, ByteArray.toList_mk] at h
 rw [h]
theorem ba_iff {x y : ByteArray} : x.toList = y.toList ↔ x = y := ⟨ba_inj, by rintro rfl; rfl⟩
theorem pt_eq (x y : Pt) : ((x.When == y.When) && ((x.Verb == y.Verb) && ((x.Whom == y.Whom) && ((x.Count == y.Count) && ((x.Suit == y.Suit) && ((x.Trait == y.Trait) && ((x.Mark == y.Mark) && ((x.Name.toList == y.Name.toList) && true)))))))) = true ↔ x = y := by
 simp only [Bool.and_eq_true, and_true, beq_iff_eq, ba_iff]
 obtain ⟨x1, x2, x3, x4, x5, x6, x7, x8⟩ := x
 obtain ⟨y1, y2, y3, y4, y5, y6, y7, y8⟩ := y
 simp
theorem psame_c {x y : Pt} {Q : Bool × Unit -> Heap -> Prop} (hq : ∀ r, (r = true ↔ x = y) -> Q (r, ()) H) : CALL P [T_bool] n_effect_Same [TP.enc x, TP.enc y] H Q := by
 apply c_effect_Same
 unfold S_effect_Same
 exact hq _ (pt_eq x y)
theorem pmay_c (pl : Plc m H a1 cs so B ts ol) {s : Sg} {Q : Bool × Unit -> Heap -> Prop} (hq : ∀ r, (r = true ↔ mayS B ts s) -> Q (r, ()) H) : CALL P [T_bool] n_layer_place_may [T_G_layer_place.enc ⟨bp, a1, cs, so⟩, TSt.enc s] H Q := by
 apply c_layer_place_may
 unfold S_layer_place_may
 have hlen := pl.ot.len
 have hsl := pl.hs.1
 obtain ⟨cl, hcl, cd⟩ := pl.card
 by_cases h1 : s.Thing < 1
 ·exact JOIN_of (ifB_t (by simpa using h1) (ifB_t rfl (hq _ ⟨fun q => (by cases q), fun q => by have := q.1; omega⟩)))
 by_cases h2 : (ts.length : Int) < s.Thing
 ·refine JOIN_of (ifB_f (by simpa using h1) (ifB_t (by simp; omega) (ifB_t rfl (hq _ ⟨fun q => (by cases q), fun q => ?_⟩))))
  obtain ⟨_, ⟨t, q, _⟩, _⟩ := q
  have := (List.getElem?_eq_some_iff.1 q).1; omega
 have hw : IntKind.wrap .i64 (s.Thing - 1) = ((s.Thing - 1).toNat : Int) := by rw [i64w (by omega) (by omega)]; omega
 rw [hw]
 have ht : ts[(s.Thing - 1).toNat]? = some (ts[(s.Thing - 1).toNat]'(by omega)) := List.getElem?_eq_getElem (by omega)
 generalize (ts[(s.Thing - 1).toNat]'(by omega)) = t at ht
 refine JOIN_of (ifB_f (by simpa using h1) (ifB_f (by simp; omega) (idx_place pl.hs rfl ht (ifN (fun q => ?_) (fun q => ?_)))))
 ·refine hq _ ⟨fun q => (by cases q), fun w => ?_⟩
  obtain ⟨_, ⟨t', w1, w2⟩, _⟩ := w
  rw [ht] at w1; cases w1; exact absurd w2 q
 ·have hm := pl.ot.all _ t ht q
  obtain ⟨k, t', c, g, ek, et, eg, cr, ecp, eck, egk, e4⟩ := cd _ hm
  have : k = (s.Thing - 1).toNat := by omega
  subst this
  rw [show (((s.Thing - 1).toNat : Nat) : Int) = s.Thing - 1 by omega] at ecp
  have hps := cr.p
  have hpl := hps.1
  have key : mayS B ts s ↔ 0 ≤ s.Place ∧ c.ps[s.Place.toNat]? = some s.What ∧ s.What.When = 5 := by
   unfold mayS
   rw [ecp]
   exact ⟨fun w => w.2.2, fun w => ⟨by omega, ⟨t, ht, q⟩, w⟩⟩
  refine idx_cparts hcl rfl eg (JOIN_of (ifD (fun p0 => ?_) (fun p0 => hq _ ⟨fun q => (by cases q), fun w => absurd (key.1 w).1 p0⟩)))
  refine ifD (fun p1 => ?_) (fun p1 => hq _ ⟨fun q => (by cases q), fun w => ?_⟩)
  ·have hp : c.ps[s.Place.toNat]? = some (c.ps[s.Place.toNat]'(by omega)) := List.getElem?_eq_getElem (by omega)
   generalize (c.ps[s.Place.toNat]'(by omega)) = p at hp
   have pn : s.Place = (s.Place.toNat : Int) := by omega
   refine idx_when' hps pn hp (ifE (fun w5 => ?_) (fun w5 => hq _ ⟨fun q => (by cases q), fun w => ?_⟩))
   ·refine idx_part hps pn hp (psame_c fun r hr => hq r ?_)
    rw [hr, key, hp]
    constructor
    ·rintro rfl; exact ⟨by omega, rfl, w5⟩
    ·rintro ⟨_, w, _⟩; simpa using w
   ·obtain ⟨_, w1, w2⟩ := key.1 w
    rw [hp] at w1; simp at w1; subst w1; exact absurd w2 w5
  ·have := (List.getElem?_eq_some_iff.1 (key.1 w).2.1).1; omega
end
end Go.Proofs.YtolekmhhkopooaaGreatDoor.Zq
end
section
namespace Go.Proofs.YtolekmhhkopooaaGreatDoor.Zq
open Zv
section
variable {H : Heap} {b m : Nat} {se : Bool} {B : List Cd} {ms : List G_api_MarkInfo} {a1 a2 a3 cs so : Sl} {bp : Option Addr} {ts : List Tg} {fs : List Ft} {ol : List Int} {l : List Sg}
theorem OwJ.pne {T : Tag} {H : Heap} {s : Sl} {l : List T.α} (h : OwJ T H s l) (hl : 0 < l.length) : s.p ≠ none := by
 obtain ⟨_, _, _, ⟨_, h4, _⟩ | ⟨c, _, h4, _⟩⟩ := h
 ·subst h4; simp at hl
 ·rw [h4]; simp
def okS (B : List Cd) (ts : List Tg) (l : List Sg) (i : Nat) (s : Sg) : Prop := mayS B ts s ∧ layV s.What.Verb = layV (sgI l 0).What.Verb ∧ ∀ (j : Nat) o, j < i -> l[j]? = some o -> ¬ (o.Thing = s.Thing ∧ o.Place = s.Place)
def listS (B : List Cd) (ts : List Tg) (l : List Sg) : Prop := ∀ (i : Nat) s, l[i]? = some s -> okS B ts l i s
theorem listS.mem (h : listS B ts l) (ot : OrdT B ts ol) : ∀ s ∈ l, s.Thing - 1 ∈ ol := fun s hs => by
 obtain ⟨i, hi⟩ := List.mem_iff_getElem?.1 hs
 exact (h i s hi).1.mem ot
theorem plisted_c (pl : Plc m H a1 cs so B ts ol) (hl : OwJ TSt H a3 l) (hll : l.length ≤ 1048600) {Q : Bool × Unit -> Heap -> Prop} (hq : ∀ r, (r = true ↔ listS B ts l) -> Q (r, ()) H) :
  CALL P [T_bool] n_layer_place_listed [T_G_layer_place.enc ⟨bp, a1, cs, so⟩, a3.v] H Q := by
 apply c_layer_place_listed
 unfold S_layer_place_listed
 have hs := hl.slf
 have h3 := hs.1
 have no : ¬ listS B ts l -> Q (false, ()) H := fun q => hq false ⟨fun e => (by cases e), fun w => absurd w q⟩
 refine JOIN_inv (fun _ H' => H' = H ∧ listS B ts l) (fun j hj => ?_) (fun _ H' hh => by obtain ⟨rfl, e⟩ := hh; exact hq true ⟨fun _ => e, fun _ => rfl⟩)
 refine loop_of (fun (y : (Int × Unit) × Unit) H' => H' = H ∧ ∃ n : Nat, y.1.1 = n ∧ n ≤ l.length ∧ ∀ (i : Nat) s, i < n -> l[i]? = some s -> okS B ts l i s) (fun y => l.length - y.1.1.toNat) ?_ ⟨rfl, 0, rfl, Nat.zero_le _, fun i s h => by omega⟩
 rintro G ⟨⟨i, _⟩, _⟩ H' ⟨rfl, n, hi, hn, inv⟩ hG
 simp only at hi; subst hi
 dsimp only at hG ⊢
 refine ifD (fun hlt => ?_) (fun hge => hj _ _ ⟨rfl, fun i s h => inv i s (by have := (List.getElem?_eq_some_iff.1 h).1; omega) h⟩)
 have hlt : n < l.length := by omega
 have hx : l[n]? = some l[n] := List.getElem?_eq_getElem hlt
 generalize l[n] = s at hx
 have hz : l[0]? = some (l[0]'(by omega)) := List.getElem?_eq_getElem (by omega)
 generalize (l[0]'(by omega)) = z at hz
 have ez : sgI l 0 = z := sgI_at (n := 0) rfl hz
 refine JOIN_inv (fun _ H2 => H2 = H' ∧ okS B ts l n s) (fun j5 hj5 => ?_) (fun _ H2 hh => ?_)
 ·refine idx_ldF (T := TSt) hTSt hs rfl hx rfl ?_
  refine hJ (¬ (mayS B ts s ∧ layV s.What.Verb = layV z.What.Verb)) (fun j10 hj10 => pmay_c pl fun r hr => ifB_of (fun e => hj10 _ ?_) (fun e => ?_)) (fun c => no fun w => c ⟨(w n s hx).1, by rw [← ez]; exact (w n s hx).2.1⟩) (fun c => ?_)
  ·have e : (!r) = true := e
   simp only [true_iff]
   intro w
   rw [hr.2 w.1] at e; cases e
  ·have e : (!r) = false := e
   have hr1 : r = true := by simpa using e
   refine idx_any (T := TSt) hTSt hs rfl hz rfl fun b o rd => rd _ hs (T_int .u8) ((TSt.cells z).take 3) ((TSt.cells z).drop 4) z.What.Verb 3 _ rfl rfl rfl (play_c (rd _ hs (T_int .u8) ((TSt.cells z).take 3) ((TSt.cells z).drop 4) z.What.Verb 3 _ rfl rfl rfl ⟨rfl, play_c (hj10 _ ?_)⟩))
   simp only [bne_iff_ne, ne_eq]
   constructor
   ·exact fun q w => q w.2
   ·exact fun q w => q ⟨hr.1 hr1, w⟩
  ·obtain ⟨c1, c2⟩ := Classical.not_not.1 c
   refine hl.take tySt rfl (by omega) (hl.pne (by omega)) fun o19 => ?_
   refine JOIN_inv (fun _ H2 => H2 = H' ∧ okS B ts l n s) (fun j20 hj20 => ?_) (fun _ H2 hh => hj5 _ _ hh)
   refine loop_of (fun (y : (Int × Unit) × Unit) H2 => H2 = H' ∧ ∃ k : Nat, y.1.1 = k ∧ k ≤ n ∧ ∀ (j : Nat) o, j < k -> l[j]? = some o -> ¬ (o.Thing = s.Thing ∧ o.Place = s.Place)) (fun y => n - y.1.1.toNat) ?_ ⟨rfl, 0, rfl, Nat.zero_le _, fun j o h => by omega⟩
   rintro G2 ⟨⟨i2, _⟩, _⟩ H2 ⟨rfl, k, hk, hkn, inv2⟩ hG2
   simp only at hk; subst hk
   dsimp only at hG2 ⊢
   refine ifD (fun hlt2 => ?_) (fun hge2 => hj20 _ _ ⟨rfl, c1, by rw [ez]; exact c2, fun j o w => inv2 j o (by omega)⟩)
   have hlt2 : k < n := by omega
   have hu : l[k]? = some (l[k]'(by omega)) := List.getElem?_eq_getElem (by omega)
   generalize (l[k]'(by omega)) = u at hu
   have hu' : (l.take n)[k]? = some u := by rw [List.getElem?_take, if_pos hlt2]; exact hu
   refine idx_ldF (T := TSt) hTSt o19.slf rfl hu' rfl (hJ (u.Thing = s.Thing ∧ u.Place = s.Place) (fun j27 hj27 => ifE (fun e => hj27 _ (by simp [e])) (fun e => hj27 _ (by simp [e]))) (fun c => no fun w => (w n s hx).2.2 k u hlt2 hu c) (fun c => ?_))
   rw [i64w (by omega) (by omega)]
   refine hG2 _ _ ⟨rfl, k + 1, by simp, hlt2, fun j o w h => ?_⟩ (by simp; omega)
   by_cases e : j = k
   ·subst e; rw [hu] at h; cases h; exact c
   ·exact inv2 j o (by omega) h
 ·obtain ⟨rfl, ok⟩ := hh
  rw [i64w (by omega) (by omega)]
  refine hG _ _ ⟨rfl, n + 1, by simp, hlt, fun i u w h => ?_⟩ (by simp; omega)
  by_cases e : i = n
  ·subst e; rw [hx] at h; cases h; exact ok
  ·exact inv i u (by omega) h
theorem pnext_c (pl : Plc m H a1 cs so B ts ol) (hf : SlF TF H a2 fs) (hfe : fs.length = ts.length) (hl : SlF TSt H a3 l) (hll : l.length ≤ 1048600) (lv : ∀ s ∈ l, s.Thing - 1 ∈ ol) {Q : Int × Unit -> Heap -> Prop} (hq : ∀ H', Frs [] H H' -> Q (if l.length = 0 then -1 else nextF B ts fs ol l, ()) H') :
  CALL P [TN'] n_layer_place_next [T_G_layer_place.enc ⟨bp, a1, cs, so⟩, a2.v, a3.v] H Q := by
 apply c_layer_place_next
 unfold S_layer_place_next
 have h3 := hl.1
 refine JOIN_inv (fun (y : (Int × Int × Unit) × Unit) H' => Frs [] H H' ∧ y.1.1 = (nx B ts fs ol l l.length).1 ∧ y.1.2.1 = if l.length = 0 then -1 else (nx B ts fs ol l l.length).2) (fun j hj => ?_) ?_
 ·refine loop_of (fun (y : (Int × Int × Int × Unit) × Unit) H' => ∃ n : Nat, y.1.2.2.1 = n ∧ n ≤ l.length ∧ Frs [] H H' ∧ y.1.1 = (nx B ts fs ol l n).1 ∧ y.1.2.1 = if n = 0 then -1 else (nx B ts fs ol l n).2) (fun y => l.length - y.1.2.2.1.toNat) ?_ ⟨0, rfl, Nat.zero_le _, .refl _ _, rfl, rfl⟩
  rintro G ⟨⟨free, first, i, _⟩, _⟩ H1 ⟨n, hi, hn, f1, hfr, hfi⟩ hG
  simp only at hi hfr hfi; subst hi
  dsimp only at hG ⊢
  refine ifD (fun hlt => ?_) (fun hge => hj _ _ ?_)
  ·have hlt : n < l.length := by omega
   obtain ⟨r1, r2, r3, r4⟩ := nx_rng B ts fs ol l n
   have hx : l[n]? = some l[n] := List.getElem?_eq_getElem hlt
   have hxm := lv _ (List.getElem_mem hlt)
   generalize l[n] = s at hx hxm
   have es : sgI l (n : Int) = s := sgI_at rfl hx
   have enx : nx B ts fs ol l (n + 1) = (if (!hangsB B ts fs ol l n l.length && (decide (free < 0) || aheadB ts s (sgI l free))) = true then (n : Int) else free, if aheadB ts s (sgI l (nx B ts fs ol l n).2) = true then (n : Int) else (nx B ts fs ol l n).2) := by
    rw [hfr]
    show (_, _) = _
    rw [es]
   rw [← hfr] at r1 r2
   have h1 := pl.new f1
   have hf1 := hf.frs f1 (by simp)
   have hl1 := hl.frs f1 (by simp)
   refine JOIN_inv (fun (y : (Int × Int × Unit) × Unit) H' => Frs [] H H' ∧ y.1.1 = (nx B ts fs ol l (n + 1)).1 ∧ y.1.2.1 = (nx B ts fs ol l (n + 1)).2) (fun j5 hj5 => ?_) ?_
   ·refine idx_ldF (T := TSt) hTSt hl1 rfl hx rfl ?_
    refine JOIN_inv (fun (y : (Bool × Unit) × Unit) H' => H' = H1 ∧ (if y.1.1 = true then (n : Int) else first) = (nx B ts fs ol l (n + 1)).2) (fun j10 hj10 => ?_) ?_
    ·by_cases h0 : n = 0
     ·rw [if_pos h0] at hfi
      subst h0
      refine ifB_t (by simp; omega) (hj10 _ _ ⟨rfl, ?_⟩)
      rw [enx]
      show ((0 : Nat) : Int) = if _ then ((0 : Nat) : Int) else 0
      split <;> rfl
     ·rw [if_neg h0] at hfi
      rw [← hfi] at r3 r4 enx
      refine ifB_f (by simp; omega) ?_
      obtain ⟨fn, hfn⟩ : ∃ fn : Nat, first = fn := ⟨first.toNat, by omega⟩
      have hfnl : fn < l.length := by omega
      have hy : l[fn]? = some l[fn] := List.getElem?_eq_getElem hfnl
      have hym := lv _ (List.getElem_mem hfnl)
      generalize l[fn] = o at hy hym
      have eo : sgI l first = o := sgI_at hfn hy
      refine idx_ldF (T := TSt) hTSt hl1 hfn hy rfl (plah_c h1 hxm hym (hj10 _ _ ⟨rfl, ?_⟩))
      rw [enx, eo]
    ·rintro ⟨⟨r, _⟩, _⟩ H' ⟨rfl, hr⟩
     dsimp only at hr ⊢
     refine JOIN_inv (fun (y : (Int × Unit) × Unit) H2 => H2 = H' ∧ y.1.1 = (nx B ts fs ol l (n + 1)).2) (fun j16 hj16 => ifB_of (fun e => hj16 _ _ ⟨rfl, by rw [← hr, if_pos e]⟩) (fun e => hj16 _ _ ⟨rfl, by rw [← hr, if_neg (by have e : r = false := e; rw [e]; decide)]⟩)) ?_
     rintro ⟨⟨first2, _⟩, _⟩ H2 ⟨rfl, hf2⟩
     dsimp only at hf2 ⊢
     refine JOIN_inv (fun _ H' => Frs [] H H' ∧ hangsB B ts fs ol l n l.length = false) (fun j18 hj18 => ?_) ?_
     ·refine loop_of (fun (y : (Int × Unit) × Unit) H' => ∃ k : Nat, y.1.1 = k ∧ k ≤ l.length ∧ Frs [] H H' ∧ ∀ j : Nat, j < k -> (j != n && dependsB B ts fs ol (sgI l (n : Int)) (sgI l (j : Int))) = false) (fun y => l.length - y.1.1.toNat) ?_ ⟨0, rfl, Nat.zero_le _, f1, fun j h => by omega⟩
      rintro G2 ⟨⟨i2, _⟩, _⟩ H4 ⟨k, hk, hkl, f4, hff⟩ hG2
      simp only at hk; subst hk
      dsimp only at hG2 ⊢
      refine ifD (fun hlt2 => ?_) (fun hge2 => hj18 _ _ ⟨f4, ?_⟩)
      ·have hkl2 : k < l.length := by omega
       have hz : l[k]? = some l[k] := List.getElem?_eq_getElem hkl2
       have hzm := lv _ (List.getElem_mem hkl2)
       generalize l[k] = u at hz hzm
       have eu : sgI l (k : Int) = u := sgI_at rfl hz
       refine idx_ldF (T := TSt) hTSt (hl.frs f4 (by simp)) rfl hz rfl ?_
       refine JOIN_inv (fun (y : (Bool × Unit) × Unit) H' => Frs [] H H' ∧ y.1.1 = (k != n && dependsB B ts fs ol s u)) (fun j5 hj5 => ifN (fun e => ?_) (fun e => hj5 _ _ ⟨f4, ?_⟩)) ?_
       ·refine pdep_c (pl.new f4) (hf.frs f4 (by simp)) hfe hxm hzm fun H5 f5 => hj5 _ _ ⟨f4.trans f5, ?_⟩
        have : (k != n) = true := by simp; omega
        rw [this, Bool.true_and]
       ·have : (k != n) = false := by simp; omega
        rw [this, Bool.false_and]
       ·rintro ⟨⟨r, _⟩, _⟩ H5 ⟨f5, hr⟩
        simp only at hr
        dsimp only
        refine ifB_of (fun e => hj5 _ _ ⟨f5, ?_, hf2⟩) (fun e => ?_)
        ·have hh : hangsB B ts fs ol l n l.length = true := hangs_true hkl2 (by rw [es, eu, ← hr]; exact e)
         rw [enx, hh]; rfl
        ·rw [i64w (by omega) (by omega)]
         refine hG2 _ _ ⟨k + 1, by simp, hkl2, f5, fun j w => ?_⟩ (by simp; omega)
         by_cases ej : j = k
         ·subst ej; rw [es, eu, ← hr]; exact e
         ·exact hff j (by omega)
      ·refine Bool.eq_false_iff.2 fun w => ?_
       obtain ⟨j, hj, hd⟩ := List.any_eq_true.1 w
       have := hff j (by have := List.mem_range.1 hj; omega)
       rw [this] at hd; cases hd
     ·rintro _ H4 ⟨f4, hh⟩
      have hl4 := hl.frs f4 (by simp)
      have e1 : (nx B ts fs ol l (n + 1)).1 = if (decide (free < 0) || aheadB ts s (sgI l free)) = true then (n : Int) else free := by
       rw [enx, hh]; rfl
      refine JOIN_inv (fun (y : (Bool × Unit) × Unit) H' => H' = H4 ∧ y.1.1 = (decide (free < 0) || aheadB ts s (sgI l free))) (fun j5 hj5 => ifD (fun e2 => hj5 _ _ ⟨rfl, by rw [decide_eq_true e2]; rfl⟩) (fun e2 => ?_)) ?_
      ·rw [decide_eq_false e2, Bool.false_or] at hj5
       obtain ⟨gn, hgn⟩ : ∃ gn : Nat, free = gn := ⟨free.toNat, by omega⟩
       have hgl : gn < l.length := by omega
       have hz : l[gn]? = some l[gn] := List.getElem?_eq_getElem hgl
       have hzm := lv _ (List.getElem_mem hgl)
       generalize l[gn] = u at hz hzm
       rw [sgI_at hgn hz] at hj5
       exact idx_ldF (T := TSt) hTSt hl4 hgn hz rfl (plah_c (pl.new f4) hxm hzm (hj5 _ _ ⟨rfl, rfl⟩))
      ·rintro ⟨⟨r, _⟩, _⟩ H5 ⟨rfl, hr⟩
       simp only at hr
       dsimp only
       rw [← hr] at e1
       refine JOIN_inv (fun (y : (Int × Unit) × Unit) H2 => H2 = H5 ∧ y.1.1 = (nx B ts fs ol l (n + 1)).1) (fun j16 hj16 => ifB_of (fun e => hj16 _ _ ⟨rfl, by rw [e1, if_pos e]⟩) (fun e => hj16 _ _ ⟨rfl, by rw [e1, if_neg (by have e : r = false := e; rw [e]; decide)]⟩)) ?_
       rintro ⟨⟨fr2, _⟩, _⟩ H6 ⟨rfl, hr2⟩
       exact hj5 _ _ ⟨f4, hr2, hf2⟩
   ·rintro ⟨⟨fr2, fi2, _⟩, _⟩ H4 ⟨f4, e1, e2⟩
    dsimp only at e1 e2 ⊢
    rw [i64w (by omega) (by omega)]
    exact hG _ _ ⟨n + 1, by simp, hlt, f4, e1, by rw [if_neg (by omega)]; exact e2⟩ (by simp; omega)
  ·have : n = l.length := by omega
   subst this
   exact ⟨f1, hfr, hfi⟩
 ·rintro ⟨⟨free, first, _⟩, _⟩ H1 ⟨f1, hfr, hfi⟩
  dsimp only at hfr hfi ⊢
  have fin := hq H1 f1
  by_cases h0 : l.length = 0
  ·rw [if_pos h0] at fin hfi
   rw [h0] at hfr
   have : free = -1 := hfr
   refine ifB_f (by simp; omega) ?_
   rw [hfi]; exact fin
  ·rw [if_neg h0] at fin hfi
   unfold nextF at fin
   rw [← hfr, ← hfi] at fin
   refine ifD (fun e => ?_) (fun e => ?_)
   ·rw [if_neg (by omega)] at fin; exact fin
   ·rw [if_pos (by omega)] at fin; exact fin
variable {s o : Sg}
theorem laAbout_c (h : BP m H b se B ms) (okB : OkB B) (gv : Gv H a1 a2 ts fs) {Q : Sl × Int × Unit -> Heap -> Prop} (q1 : ∀ H', setE se B ts fs ≠ 0 -> Frs [] H H' -> Q (⟨none, 0, 0⟩, setE se B ts fs, ()) H') (q2 : ∀ H', setE se B ts fs = 0 -> ¬ mayS B ts s -> Frs [] H H' -> Q (⟨none, 0, 0⟩, 2, ()) H')
  (q0 : ∀ r ol H' sp, setE se B ts fs = 0 -> OrdT B ts ol -> mayS B ts s -> NewO TN' H r H' (abouts B ts fs ol s) sp -> Q (r, 0, ()) H') : CALL P [T_sl, TN'] n_layer_About [.pointer (some ⟨b, 0, none⟩), a1.v, a2.v, TSt.enc s] H Q := by
 apply c_layer_About
 unfold S_layer_About
 refine setup2_c h okB gv.s gv.f gv.fl gv.okt gv.okf gv.len (fun p H' e f => ifB_t (by simpa using e) (q1 H' e f)) fun cs so ol H' e tog pl f => ifB_f rfl ?_
 obtain ⟨_, hfe, _, _⟩ := setE_ok (e := e)
 refine pmay_c pl fun r hr => ifB_of (fun w => q2 _ e (fun q => ?_) f) (fun w => ?_)
 ·have w : (!r) = true := w
  rw [hr.2 q] at w; cases w
 ·have w : (!r) = false := w
  have hm := hr.1 (by simpa using w)
  exact pabt_c pl (gv.f.frs f (by simp)) hfe (hm.mem pl.ot) fun x H2 sp no => q0 x ol H2 sp e pl.ot hm (no.older f)
theorem laApply_c (h : BP m H b se B ms) (okB : OkB B) (gv : Gv H a1 a2 ts fs) {Q : Sl × Int × Unit -> Heap -> Prop} (q1 : ∀ H', setE se B ts fs ≠ 0 -> Frs [] H H' -> Q (⟨none, 0, 0⟩, setE se B ts fs, ()) H') (q2 : ∀ H', setE se B ts fs = 0 -> ¬ mayS B ts s -> Frs [] H H' -> Q (⟨none, 0, 0⟩, 2, ()) H')
  (q0 : ∀ r ol H' sp, setE se B ts fs = 0 -> OrdT B ts ol -> mayS B ts s -> NewO TF H r H' (applyF B ts fs ol s) sp -> Q (r, 0, ()) H') : CALL P [T_sl, TN'] n_layer_Apply [.pointer (some ⟨b, 0, none⟩), a1.v, a2.v, TSt.enc s] H Q := by
 apply c_layer_Apply
 unfold S_layer_Apply
 refine setup2_c h okB gv.s gv.f gv.fl gv.okt gv.okf gv.len (fun p H' e f => ifB_t (by simpa using e) (q1 H' e f)) fun cs so ol H' e tog pl f => ifB_f rfl ?_
 obtain ⟨_, hfe, _, _⟩ := setE_ok (e := e)
 refine pmay_c pl fun r hr => ifB_of (fun w => q2 _ e (fun q => ?_) f) (fun w => ?_)
 ·have w : (!r) = true := w
  rw [hr.2 q] at w; cases w
 ·have w : (!r) = false := w
  have hm := hr.1 (by simpa using w)
  exact papply_c pl (gv.f.frs f (by simp)) hfe (hm.mem pl.ot) fun x H2 sp no => q0 x ol H2 sp e pl.ot hm (no.older f)
theorem laDepends_c (h : BP m H b se B ms) (okB : OkB B) (gv : Gv H a1 a2 ts fs) {Q : Bool × Int × Unit -> Heap -> Prop} (q1 : ∀ H', setE se B ts fs ≠ 0 -> Frs [] H H' -> Q (false, setE se B ts fs, ()) H') (q2 : ∀ H', setE se B ts fs = 0 -> ¬ listS B ts [s, o] -> Frs [] H H' -> Q (false, 2, ()) H')
  (q0 : ∀ ol H', setE se B ts fs = 0 -> OrdT B ts ol -> listS B ts [s, o] -> Frs [] H H' -> Q (dependsB B ts fs ol s o, 0, ()) H') : CALL P [T_bool, TN'] n_layer_Depends [.pointer (some ⟨b, 0, none⟩), a1.v, a2.v, TSt.enc s, TSt.enc o] H Q := by
 apply c_layer_Depends
 unfold S_layer_Depends
 refine setup2_c h okB gv.s gv.f gv.fl gv.okt gv.okf gv.len (fun p H' e f => ifB_t (by simpa using e) (q1 H' e f)) fun cs so ol H1 e tog pl f => ifB_f rfl ?_
 obtain ⟨_, hfe, _, _⟩ := setE_ok (e := e)
 unfold NEW
 obtain ⟨r2, f2, l2⟩ := row1 H1 (fl TSt [s, o]) 10
 have ec : fl TSt [s, o] = TSt.cells s ++ TSt.cells o := by simp [fl]
 change CALL P [T_bool] _ _ (mk H1 (fl TSt [s, o]) 10 false) _
 generalize mk H1 (fl TSt [s, o]) 10 false = H2 at r2 f2 l2
 have o2 : Ow TSt H2 ⟨some ⟨H1.length, 0, none⟩, 2, 2⟩ [s, o] [] := ⟨rfl, rfl, by simp, .inr ⟨_, rfl, by simpa using r2⟩⟩
 have pl2 := pl.new f2
 have f02 := f.trans f2
 refine plisted_c pl2 o2.j (by simp) fun r hr => ifB_of (fun w => q2 _ e (fun q => ?_) f02) (fun w => ?_)
 ·have w : (!r) = true := w
  rw [hr.2 q] at w; cases w
 ·have w : (!r) = false := w
  have hm := hr.1 (by simpa using w)
  exact pdep_c pl2 (gv.f.frs f02 (by simp)) hfe (hm.mem pl.ot s (by simp)) (hm.mem pl.ot o (by simp)) fun H3 f3 => q0 ol H3 e pl.ot hm (f02.trans f3)
theorem laNext_c (h : BP m H b se B ms) (okB : OkB B) (gv : Gv H a1 a2 ts fs) (hl : OwJ TSt H a3 l) (hll : l.length ≤ 1048600) {Q : Int × Int × Unit -> Heap -> Prop} (q1 : ∀ H', setE se B ts fs ≠ 0 -> Frs [] H H' -> Q (0, setE se B ts fs, ()) H') (q2 : ∀ H', setE se B ts fs = 0 -> ¬ listS B ts l -> Frs [] H H' -> Q (0, 2, ()) H')
  (q0 : ∀ ol H', setE se B ts fs = 0 -> OrdT B ts ol -> listS B ts l -> Frs [] H H' -> Q (if l.length = 0 then -1 else nextF B ts fs ol l, 0, ()) H') : CALL P [TN', TN'] n_layer_Next [.pointer (some ⟨b, 0, none⟩), a1.v, a2.v, a3.v] H Q := by
 apply c_layer_Next
 unfold S_layer_Next
 refine setup2_c h okB gv.s gv.f gv.fl gv.okt gv.okf gv.len (fun p H' e f => ifB_t (by simpa using e) (q1 H' e f)) fun cs so ol H1 e tog pl f => ifB_f rfl ?_
 obtain ⟨_, hfe, _, _⟩ := setE_ok (e := e)
 have hl1 := hl.frs f (by simp)
 refine plisted_c pl hl1 hll fun r hr => ifB_of (fun w => q2 _ e (fun q => ?_) f) (fun w => ?_)
 ·have w : (!r) = true := w
  rw [hr.2 q] at w; cases w
 ·have w : (!r) = false := w
  have hm := hr.1 (by simpa using w)
  exact pnext_c pl (gv.f.frs f (by simp)) hfe hl1.slf hll (hm.mem pl.ot) fun H3 f3 => q0 ol H3 e pl.ot hm (f.trans f3)
end
end Go.Proofs.YtolekmhhkopooaaGreatDoor.Zq
end
