/- Part 6 of the proof of TargetAll: what its row stands on (lemmas about the model, the evaluator, contracts of functions), put together and cut to what is used. -/
import Derived.Test.YtolekmhhkopooaaGreatDoorKTargetAll5
section
namespace Go.Proofs.YtolekmhhkopooaaGreatDoor.Zq
open Zv
section
variable {H : Heap} {b m : Nat} {se : Bool} {B : List Cd} {ms : List G_api_MarkInfo}
structure OrdT (B : List Cd) (ts : List Tg) (ol : List Int) : Prop where
 few : ol.length ≤ 16
 nd : ol.Nodup
 srt : ∀ (i j : Nat) a b, i < j -> ol[i]? = some a -> ol[j]? = some b -> stampAt ts a.toNat < stampAt ts b.toNat
 at' : ∀ i ∈ ol, ∃ (k : Nat) (t : Tg) (c : Cd), i = k ∧ ts[k]? = some t ∧ t.Place = 4 ∧ 1 ≤ t.Card ∧ B[(t.Card - 1).toNat]? = some c ∧ 1 ≤ t.Stamp ∧ c.g.Kind ≠ 2 ∧ c.ps.length ≤ 4
 all : ∀ (k : Nat) t, ts[k]? = some t -> t.Place = 4 -> (k : Int) ∈ ol
 len : ts.length ≤ 2048
theorem OkB.p4 (h : OkB B) {c : Cd} (hc : c ∈ B) : c.ps.length ≤ 4 := by
 have := h.ok c hc
 unfold chkC at this
 by_cases hf : chkF c = 0
 ·exact chkF_len hf
 ·rw [if_neg hf] at this; exact absurd this hf
theorem IsOrd.ordT {ts : List Tg} {fs : List Ft} {ol : List Int} (h : IsOrd ts ol) (tog : Tog B ts fs) (hfe : fs.length = ts.length) (okB : OkB B) (hlen : ts.length ≤ 2048) : OrdT B ts ol := by
 obtain ⟨hp, hs⟩ := h
 have nd : ol.Nodup := hp.symm.nodup (tabI_nodup _)
 have at' : ∀ i ∈ ol, ∃ (k : Nat) (t : Tg) (c : Cd), i = k ∧ ts[k]? = some t ∧ t.Place = 4 ∧ 1 ≤ t.Card ∧ B[(t.Card - 1).toNat]? = some c ∧ 1 ≤ t.Stamp ∧ c.g.Kind ≠ 2 ∧ c.ps.length ≤ 4 := fun i hi => by
  obtain ⟨k, t, h1, rfl, h3, h4⟩ := mem_tabI.1 (hp.mem_iff.1 hi)
  have hk : k < fs.length := by omega
  obtain ⟨c, w1, w2, _, _, _, w⟩ := tog.all k t _ h3 (List.getElem?_eq_getElem hk)
  exact ⟨k, t, c, rfl, h3, h4, w1, w2, (w h4).2.1, (w h4).1, okB.p4 (List.mem_of_getElem? w2)⟩
 refine ⟨by rw [hp.length_eq]; exact tog.few, nd, fun i j a b' hij ha hb => ?_, at', fun k t h1 h2 => hp.mem_iff.2 (mem_tabI.2 ⟨k, t, (List.getElem?_eq_some_iff.1 h1).1, rfl, h1, h2⟩), hlen⟩
 have h1 := hs i j a b' hij ha hb
 obtain ⟨k, t, _, e1, e2, e3, _⟩ := at' a (List.mem_of_getElem? ha)
 obtain ⟨k', t', _, e1', e2', e3', _⟩ := at' b' (List.mem_of_getElem? hb)
 have ea : stampAt ts a.toNat = t.Stamp := by subst e1; simp [stampAt, e2]
 have eb : stampAt ts b'.toNat = t'.Stamp := by subst e1'; simp [stampAt, e2']
 rw [ea, eb] at h1 ⊢
 have hab : k ≠ k' := fun q => by
  have hi := (List.getElem?_eq_some_iff.1 ha)
  have hj := (List.getElem?_eq_some_iff.1 hb)
  have := List.pairwise_iff_getElem.1 nd i j hi.1 hj.1 hij
  exact this (by rw [hi.2, hj.2, e1, e1', q])
 have := tog.dst k k' t t' hab e2 e2' e3 e3'
 omega
structure Plc (m : Nat) (H : Heap) (a1 cs so : Sl) (B : List Cd) (ts : List Tg) (ol : List Int) : Prop where
 hs : SlF TT' H a1 ts
 c : ∃ cl, SlF TC H cs cl ∧ ∀ (i : Nat) t c, ts[i]? = some t -> t.Place = 4 -> 1 ≤ t.Card -> B[(t.Card - 1).toNat]? = some c -> ∃ g, cl[i]? = some g ∧ CR m H g c
 o : SlF TN' H so ol
 ot : OrdT B ts ol
theorem Plc.new {H' : Heap} {a1 cs so : Sl} {ts : List Tg} {ol : List Int} (h : Plc m H a1 cs so B ts ol) (f : Frs [] H H') : Plc m H' a1 cs so B ts ol := by
 obtain ⟨h1, ⟨cl, h2, h3⟩, h4, h5⟩ := h
 exact ⟨h1.frs f (by simp), ⟨cl, h2.frs f (by simp), fun i t c w1 w2 w3 w4 => by obtain ⟨g, q1, q2⟩ := h3 i t c w1 w2 w3 w4; exact ⟨g, q1, q2.frs f (by simp)⟩⟩, h4.frs f (by simp), h5⟩
theorem Plc.card {a1 cs so : Sl} {ts : List Tg} {ol : List Int} (h : Plc m H a1 cs so B ts ol) : ∃ cl, SlF TC H cs cl ∧ ∀ i ∈ ol, ∃ (k : Nat) (t : Tg) (c : Cd) (g : G_api_Card), i = k ∧ ts[k]? = some t ∧ cl[k]? = some g ∧ CR m H g c ∧ cpI B ts i = c.ps ∧ ckI B ts i = c.g.Kind ∧ g.Kind = c.g.Kind ∧ c.ps.length ≤ 4 := by
 obtain ⟨h1, ⟨cl, h2, h3⟩, h4, h5⟩ := h
 refine ⟨cl, h2, fun i hi => ?_⟩
 obtain ⟨k, t, c, e1, e2, e3, e4, e5, e6, e7, e8⟩ := h5.at' i hi
 obtain ⟨g, q1, q2⟩ := h3 k t c e2 e3 e4 e5
 subst e1
 have hk : g.Kind = c.g.Kind := by rw [← q2.e]; rfl
 have hcd : cdI B ts (k : Int) = some c := by unfold cdI; rw [Int.toNat_natCast, e2]; exact e5
 exact ⟨k, t, c, g, rfl, e2, q1, q2, by unfold cpI; rw [hcd]; rfl, by unfold ckI; rw [hcd]; rfl, hk, e8⟩
theorem setup2_c (h : BP m H b se B ms) (okB : OkB B) {a1 a2 : Sl} {ts : List Tg} {fs : List G_api_Feature} (hs : SlF TT' H a1 ts) (hf : SlF TF H a2 fs) (fla : Flat H a1) (okt : ∀ t ∈ ts, t.Stamp ≤ 9223372036854775807) (okf : ∀ f ∈ fs, 0 ≤ f.Traits) (bts : ts.length ≤ 1048600) {Q : G_layer_place × Int × Unit -> Heap -> Prop}
  (q1 : ∀ p H', setE se B ts fs ≠ 0 -> Frs [] H H' -> Q (p, setE se B ts fs, ()) H') (q0 : ∀ cs so ol H', setE se B ts fs = 0 -> Tog B ts fs -> Plc H.length H' a1 cs so B ts ol -> Frs [] H H' -> Q (⟨some ⟨b, 0, none⟩, a1, cs, so⟩, 0, ()) H') :
  CALL P [T_G_layer_place, TN'] n_layer_setup [.pointer (some ⟨b, 0, none⟩), a1.v, a2.v] H Q := by
 refine setup_c h okB hs hf fla okt okf bts q1 fun cs so cl ol H' e tog pl => ?_
 have hfe : fs.length = ts.length := by
  refine Classical.byContradiction fun q => ?_
  unfold setE at e
  split at e
  ·cases e
  ·rw [if_pos (.inr q)] at e; cases e
 have hlen : ts.length ≤ 2048 := by
  refine Classical.byContradiction fun q => ?_
  unfold setE at e
  rw [if_pos (by omega)] at e; cases e
 exact q0 cs so ol H' e tog ⟨hs.frs pl.f (by simp), ⟨cl, pl.c, pl.card⟩, pl.o, pl.ord.ordT tog hfe okB hlen⟩ pl.f
theorem idx_part {s : Sl} {l : List Pt} (h : SlF TP H s l) {i : Int} {n : Nat} {x : Pt} (hi : i = n) (hx : l[n]? = some x) {K : Pt -> Prop} (hK : K x) : IDX s.p s.len i 8 fun b o => LD TP H b o K := idx_ldF (T := TP) hTP h hi hx rfl hK
theorem idx_cparts {s : Sl} {gs : List G_api_Card} (h : SlF TC H s gs) {i : Int} {n : Nat} {g : G_api_Card} (hi : i = n) (hx : gs[n]? = some g) {K : Sl -> Prop} (hk : K g.Parts) : IDX s.p s.len i 9 fun b o => LD T_sl H b (o + 8) K := by
 subst hi; exact idx_parts h hx hk
theorem peff_c {a1 a2 cs so : Sl} {bp : Option Addr} {ts : List Tg} {fs : List Ft} {ol : List Int} (pl : Plc m H a1 cs so B ts ol) (hf : SlF TF H a2 fs) (hfe : fs.length = ts.length) {k : Int} {Q : Sl × Unit -> Heap -> Prop}
  (hq : ∀ s H' sp, NewO TSt H s H' (effs B ts fs ol k) sp -> Q (s, ()) H') : CALL P [T_sl] n_layer_place_effects [T_G_layer_place.enc ⟨bp, a1, cs, so⟩, a2.v, .int .i64 k] H Q := by
 apply c_layer_place_effects
 unfold S_layer_place_effects
 have hol := pl.o.1
 obtain ⟨cl, hcl, cd⟩ := pl.card
 refine JOIN_inv (fun y H' => ∃ sp, NewO TSt H y.1.1 H' (effs B ts fs ol k) sp) (fun j hj => ?_) (fun y H' h => by obtain ⟨sp, h⟩ := h; exact hq _ _ _ h)
 refine loop_of (fun (y : (Sl × Int × Unit) × Unit) H' => ∃ (n : Nat) (sp : List Sg), y.1.2.1 = n ∧ n ≤ ol.length ∧ NewO TSt H y.1.1 H' ((ol.take n).flatMap (effO1 B ts fs k)) sp) (fun y => ol.length - y.1.2.1.toNat) ?_ ⟨0, [], rfl, Nat.zero_le _, by simpa using NewO.nil' TSt H⟩
 rintro G ⟨⟨out, i, _⟩, _⟩ H1 ⟨n, sp, hi, hn, no⟩ hG
 simp only at hi no; subst hi
 dsimp only at hG ⊢
 have f1 := no.2.2
 refine ifD (fun hlt => ?_) (fun hge => hj _ _ ⟨sp, ?_⟩)
 ·have hlt : n < ol.length := by omega
  have hx : ol[n]? = some ol[n] := List.getElem?_eq_getElem hlt
  have hm : ol[n] ∈ ol := List.getElem_mem hlt
  generalize ol[n] = x at hx hm
  obtain ⟨kx, t, c, g, ek, et, eg, cr, ecp, eck, egk, e4⟩ := cd x hm
  have hkl : kx < fs.length := by rw [hfe]; exact (List.getElem?_eq_some_iff.1 et).1
  have hfx : fs[kx]? = some fs[kx] := List.getElem?_eq_getElem hkl
  generalize fs[kx] = f at hfx
  have eft : ftI fs x = f := ftI_at ek hfx
  have tk := fm_take (effO1 B ts fs k) hx
  have hpre : ((ol.take n).flatMap (effO1 B ts fs k)).length ≤ 64 := by
   have := fm_len (f := effO1 B ts fs k) (c := 4) (l := ol.take n) fun y hy => by
    obtain ⟨_, _, c', _, _, _, _, _, ecp', _, _, e4'⟩ := cd y (List.mem_of_mem_take hy)
    unfold effO1
    split
    ·simp
    ·have := effN_len (y + 1) k (cpI B ts y)
     rw [ecp'] at this ⊢; omega
   have h16 := pl.ot.few
   rw [List.length_take] at this
   omega
  refine JOIN_inv (fun y H' => ∃ sp, NewO TSt H y.1.1 H' ((ol.take (n + 1)).flatMap (effO1 B ts fs k)) sp) (fun j2 hj2 => ?_) ?_
  ·refine idx_ldF (T := TN') hTN' (pl.o.frs f1 (by simp)) rfl hx rfl (idx_traits (hf.frs f1 (by simp)) ek hfx (phas_c (ifB_of (fun hM => ?_) (fun hM => ?_))))
   ·refine hj2 _ _ ⟨sp, ?_⟩
    have : effO1 B ts fs k x = [] := by unfold effO1; rw [eft, if_pos hM]
    rw [tk, this, List.append_nil]; exact no
   ·have e1 : effO1 B ts fs k x = effN (x + 1) k c.ps := by
     unfold effO1; rw [eft, if_neg (by have hM : hasT f.Traits 6 = false := hM; rw [hM]; decide), ecp]
    rw [e1] at tk
    refine idx_cparts (hcl.frs f1 (by simp)) ek eg ?_
    have hps := cr.p
    have hpl := hps.1
    refine JOIN_inv (fun y H' => ∃ sp, NewO TSt H y.1.1 H' ((ol.take (n + 1)).flatMap (effO1 B ts fs k)) sp) (fun j3 hj3 => ?_) (fun y H' h => hj2 _ _ h)
    refine loop_of (fun (y : (Sl × Int × Unit) × Unit) H' => ∃ (i : Nat) (sp : List Sg), y.1.2.1 = i ∧ i ≤ c.ps.length ∧ NewO TSt H y.1.1 H' ((ol.take n).flatMap (effO1 B ts fs k) ++ (c.ps.zipIdx.take i).flatMap (effN1 (x + 1) k)) sp) (fun y => c.ps.length - y.1.2.1.toNat) ?_ ⟨0, sp, rfl, Nat.zero_le _, by simpa using no⟩
    rintro G2 ⟨⟨out2, i2, _⟩, _⟩ H2 ⟨i, sp2, hi, hin, no2⟩ hG2
    simp only at hi no2; subst hi
    dsimp only at hG2 ⊢
    have f2 := no2.2.2
    refine ifD (fun hlt2 => ?_) (fun hge2 => hj3 _ _ ⟨sp2, ?_⟩)
    ·have hlt2 : i < c.ps.length := by omega
     have hy : c.ps[i]? = some c.ps[i] := List.getElem?_eq_getElem hlt2
     have hz : c.ps.zipIdx[i]? = some (c.ps[i], i) := by rw [List.getElem?_zipIdx, hy]; simp
     generalize c.ps[i] = p at hy hz
     have tk2 := fm_take (effN1 (x + 1) k) hz
     have hpre2 : ((c.ps.zipIdx.take i).flatMap (effN1 (x + 1) k)).length ≤ 4 := by
      have := fm_len (f := effN1 (x + 1) k) (c := 1) (l := c.ps.zipIdx.take i) fun y _ => effN1_len _ _ y
      rw [List.length_take, List.length_zipIdx] at this
      omega
     refine idx_part (hps.frs f2 (by simp)) rfl hy (JD (p.When = 5 ∧ layV p.Verb = k) (fun j4 hj4 => ifE (fun e5 => play_c (hj4 _ (by simp [e5]))) (fun e5 => hj4 _ (by simp [e5]))) ?_)
     refine JOIN_inv (fun y H' => ∃ sp, NewO TSt H y.1.1 H' ((ol.take n).flatMap (effO1 B ts fs k) ++ (c.ps.zipIdx.take (i + 1)).flatMap (effN1 (x + 1) k)) sp) (fun j5 hj5 => ifD (fun hc => ?_) (fun hc => hj5 _ _ ⟨sp2, ?_⟩)) ?_
     ·have e2 : effN1 (x + 1) k (p, i) = [⟨x + 1, i, p⟩] := by unfold effN1; rw [if_pos hc]
      have hkx : x + 1 ≤ 9223372036854775807 ∧ 0 ≤ x := by
       have h1 := pl.ot.len
       omega
      rw [i64w (by omega) (by omega)]
      refine app_c tySt rfl (fun _ => by simp) (m := 1) [(⟨x + 1, i, p⟩ : Sg)] rfl rfl (by rw [List.length_append]; show 2 * (_ + 1) * 4096 ≤ _; omega) no2.1 fun s4 H5 sp5 k1 k2 k3 => ?_
      refine hj5 _ _ ⟨sp5, ?_⟩
      rw [tk2, e2, ← List.append_assoc]
      exact no2.app k1 k2 k3
     ·have e2 : effN1 (x + 1) k (p, i) = [] := by unfold effN1; rw [if_neg hc]
      rw [tk2, e2, List.append_nil]; exact no2
     ·rintro ⟨⟨out3, _⟩, _⟩ H3 ⟨sp3, no3⟩
      rw [i64w (by omega) (by omega)]
      exact hG2 _ _ ⟨i + 1, sp3, by simp, hlt2, no3⟩ (by simp; omega)
    ·have : i = c.ps.length := by omega
     subst this
     have e3 : c.ps.zipIdx.take c.ps.length = c.ps.zipIdx := by rw [← List.length_zipIdx (l := c.ps) (i := 0), List.take_length]
     rw [e3] at no2
     rw [tk]; exact no2
  ·rintro ⟨⟨out3, _⟩, _⟩ H3 ⟨sp3, no3⟩
   have := pl.ot.few
   rw [i64w (by omega) (by omega)]
   exact hG _ _ ⟨n + 1, sp3, by simp, hlt, no3⟩ (by simp; omega)
 ·have : n = ol.length := by omega
  subst this
  rw [List.take_length] at no; exact no
theorem effects_c (h : BP m H b se B ms) (okB : OkB B) {a1 a2 : Sl} {ts : List Tg} {fs : List G_api_Feature} (hs : SlF TT' H a1 ts) (hf : SlF TF H a2 fs) (fla : Flat H a1) (okt : ∀ t ∈ ts, t.Stamp ≤ 9223372036854775807) (okf : ∀ f ∈ fs, 0 ≤ f.Traits) (bts : ts.length ≤ 1048600) {k : Int} {Q : Sl × Int × Unit -> Heap -> Prop}
  (q1 : ∀ H', setE se B ts fs ≠ 0 -> Frs [] H H' -> Q (⟨none, 0, 0⟩, setE se B ts fs, ()) H') (q2 : ∀ H', setE se B ts fs = 0 -> (k < 1 ∨ 5 < k) -> Frs [] H H' -> Q (⟨none, 0, 0⟩, 2, ()) H')
  (q0 : ∀ s ol H' sp, setE se B ts fs = 0 -> Tog B ts fs -> 1 ≤ k -> k ≤ 5 -> OrdT B ts ol -> NewO TSt H s H' (effs B ts fs ol k) sp -> Q (s, 0, ()) H') :
  CALL P [T_sl, TN'] n_layer_Effects [.pointer (some ⟨b, 0, none⟩), a1.v, a2.v, .int .i64 k] H Q := by
 apply c_layer_Effects
 unfold S_layer_Effects
 refine setup2_c h okB hs hf fla okt okf bts (fun p H' e f => ifB_t (by simpa using e) (q1 H' e f)) fun cs so ol H' e tog pl f => ifB_f rfl ?_
 have hfe : fs.length = ts.length := by
  refine Classical.byContradiction fun q => ?_
  unfold setE at e
  split at e
  ·cases e
  ·rw [if_pos (.inr q)] at e; cases e
 refine hJ (k < 1 ∨ 5 < k) (fun j hj => ifD (fun h => hj _ (by simp; omega)) (fun h => hj _ (by simp; omega))) (fun hk => q2 _ e hk f) (fun hk => ?_)
 exact peff_c pl (hf.frs f (by simp)) hfe fun s H2 sp no => q0 s ol H2 sp e tog (by omega) (by omega) pl.ot (no.older f)
end
end Go.Proofs.YtolekmhhkopooaaGreatDoor.Zq
end
section
namespace Go.Proofs.YtolekmhhkopooaaGreatDoor.Zq
open Zv
section
variable {H : Heap} {b m : Nat} {se : Bool} {B : List Cd} {ms : List G_api_MarkInfo}
structure Gv (H : Heap) (a1 a2 : Sl) (ts : List Tg) (fs : List Ft) : Prop where
 s : SlF TT' H a1 ts
 f : SlF TF H a2 fs
 fl : Flat H a1
 okt : ∀ t ∈ ts, t.Stamp ≤ 9223372036854775807
 okf : ∀ f ∈ fs, 0 ≤ f.Traits
 len : ts.length ≤ 1048600
variable {a1 a2 : Sl} {ts : List Tg} {fs : List Ft}
theorem Gv.new {H' : Heap} (h : Gv H a1 a2 ts fs) (f : Frs [] H H') : Gv H' a1 a2 ts fs := ⟨h.s.frs f (by simp), h.f.frs f (by simp), h.fl.frs f, h.okt, h.okf, h.len⟩
def unP (B : List Cd) (t : Tg) : Prop := t.Place = 4 ∧ 1 ≤ t.Card ∧ ∃ c, B[(t.Card - 1).toNat]? = some c ∧ c.g.Kind = 1
theorem punit_c (h : BP m H b true B ms) (okB : OkB B) {t : Tg} {Q : Bool × Unit -> Heap -> Prop} (hq : ∀ r H', (r = true ↔ unP B t) -> Frs [] H H' -> Q (r, ()) H') : CALL P [T_bool] n_thing_Unit [.pointer (some ⟨b, 0, none⟩), TT'.enc t] H Q := by
 apply c_thing_Unit
 unfold S_thing_Unit
 refine ifN (fun hp => hq _ _ (by simp [unP, hp]) (.refl _ _)) (fun hp => tcard_c h okB (fun q => ?_) (fun c g H' _ h1 hc cr f => ?_))
 ·refine JOIN_of (ifB_f rfl (hq _ _ ⟨fun e => (by cases e), fun ⟨_, k1, c, k2, _⟩ => ?_⟩ (.refl _ _)))
  have := (List.getElem?_eq_some_iff.1 k2).1
  rcases q with q | q | q
  ·cases q
  ·omega
  ·omega
 ·refine JOIN_of (ifB_t rfl (hq _ _ ?_ f))
  have hk : g.Kind = c.g.Kind := by rw [← cr.e]; rfl
  rw [hk]
  constructor
  ·intro e; exact ⟨hp, h1, c, hc, by simpa using e⟩
  ·rintro ⟨_, _, c', k1, k2⟩
   rw [hc] at k1; cases k1
   simpa using k2
def askP (se : Bool) (B : List Cd) (ts : List Tg) (fs : List Ft) (who : Int) : Prop := setE se B ts fs = 0 ∧ (who = 0 ∨ who = 1)
theorem setE_ok {e : setE se B ts fs = 0} : se = true ∧ fs.length = ts.length ∧ ts.length ≤ 2048 ∧ Tog B ts fs := by
 unfold setE at e
 split at e
 ·cases e
 ·rename_i h1
  split at e
  ·cases e
  ·rename_i h2
   split at e
   ·rename_i h3
    refine ⟨?_, Classical.byContradiction fun q => h2 (.inr q), by omega, h3⟩
    cases hs : se with
    | true => rfl
    | false => exact absurd (.inl hs) h2
   ·cases e
theorem asked_c (h : BP m H b se B ms) (okB : OkB B) (gv : Gv H a1 a2 ts fs) {who : Int} {Q : Bool × Unit -> Heap -> Prop} (hq : ∀ r H', (r = true ↔ askP se B ts fs who) -> Frs [] H H' -> Q (r, ()) H') :
  CALL P [T_bool] n_target_asked [.pointer (some ⟨b, 0, none⟩), a1.v, a2.v, .int .i64 who] H Q := by
 apply c_target_asked
 unfold S_target_asked
 refine effects_c h okB gv.s gv.f gv.fl gv.okt gv.okf gv.len (fun H' e f => ?_) (fun H' e hk f => by omega) (fun s ol H' sp e _ _ _ _ no => ?_)
 ·refine JOIN_of (ifB_f (by simpa using e) (hq _ _ ⟨fun q => (by cases q), fun q => absurd q.1 e⟩ f))
 ·refine JOIN_of (ifB_t rfl (ifE (fun e1 => hq _ _ ⟨fun _ => ⟨e, .inl e1⟩, fun _ => rfl⟩ no.2.2) (fun e1 => hq _ _ ⟨fun q => ⟨e, .inr (by simpa using q)⟩, fun q => by have := q.2; simp; omega⟩ no.2.2)))
def mayN (B : List Cd) (ts : List Tg) (fs : List Ft) (who n : Int) : Prop :=
 n = -1 ∨ n = -2 ∨ (1 ≤ n ∧ ∃ t f, ts[(n - 1).toNat]? = some t ∧ fs[(n - 1).toNat]? = some f ∧ unP B t ∧ (f.Holder = who ∨ hasT f.Traits 4 = false))
theorem may_c (h : BP m H b se B ms) (okB : OkB B) (gv : Gv H a1 a2 ts fs) {who n : Int} {Q : Bool × Unit -> Heap -> Prop} (hq : ∀ r H', (r = true ↔ askP se B ts fs who ∧ mayN B ts fs who n) -> Frs [] H H' -> Q (r, ()) H') :
  CALL P [T_bool] n_target_May [.pointer (some ⟨b, 0, none⟩), a1.v, a2.v, .int .i64 who, .int .i64 n] H Q := by
 apply c_target_May
 unfold S_target_May
 refine asked_c h okB gv fun r H1 hr f1 => ?_
 refine ifB_of (fun e => hq _ _ ⟨fun q => (by cases q), fun q => ?_⟩ f1) (fun e => ?_)
 ·have e : (!r) = true := e
  rw [hr.2 q.1] at e; cases e
 have hr1 : r = true := by
  have e : (!r) = false := e
  simpa using e
 have ask := hr.1 hr1
 obtain ⟨e1, e2, e3, e4⟩ := setE_ok (e := ask.1)
 subst e1
 have hln := gv.s.1
 have h1 := h.new f1
 have gv1 := gv.new f1
 refine hJ (n = -1 ∨ n = -2) (fun j hj => ifE (fun q => hj _ (by simp [q])) (fun q => hj _ (by simp [q]))) (fun q => hq _ _ ⟨fun _ => ⟨ask, by unfold mayN; omega⟩, fun _ => rfl⟩ f1) (fun hn => ?_)
 by_cases hn1 : n < 1
 ·refine JOIN_of (ifB_t (by simpa using hn1) (ifB_t rfl (hq _ _ ⟨fun q => (by cases q), fun q => ?_⟩ f1)))
  have := q.2; unfold mayN at this; omega
 by_cases hn2 : ts.length < n
 ·refine JOIN_of (ifB_f (by simpa using hn1) (ifB_t (by simp; omega) (ifB_t rfl (hq _ _ ⟨fun q => (by cases q), fun q => ?_⟩ f1))))
  have := q.2; unfold mayN at this
  rcases this with w | w | ⟨_, t, f, w, _⟩
  ·omega
  ·omega
  ·have := (List.getElem?_eq_some_iff.1 w).1; omega
 have hw : IntKind.wrap .i64 (n - 1) = ((n - 1).toNat : Int) := by rw [i64w (by omega) (by omega)]; omega
 rw [hw]
 have ht : ts[(n - 1).toNat]? = some (ts[(n - 1).toNat]'(by omega)) := List.getElem?_eq_getElem (by omega)
 have hf : fs[(n - 1).toNat]? = some (fs[(n - 1).toNat]'(by omega)) := List.getElem?_eq_getElem (by omega)
 generalize (ts[(n - 1).toNat]'(by omega)) = t at ht
 generalize (fs[(n - 1).toNat]'(by omega)) = f at hf
 have key : mayN B ts fs who n ↔ unP B t ∧ (f.Holder = who ∨ hasT f.Traits 4 = false) := by
  unfold mayN
  constructor
  ·rintro (w | w | ⟨_, t', f', w1, w2, w3⟩)
   ·omega
   ·omega
   ·rw [ht] at w1; rw [hf] at w2; cases w1; cases w2; exact w3
  ·exact fun w => .inr (.inr ⟨by omega, t, f, ht, hf, w⟩)
 refine JOIN_of (ifB_f (by simpa using hn1) (ifB_f (by simp; omega) (idx_ldF (T := TT') hTT' gv1.s rfl ht rfl (punit_c h1 okB fun r2 H2 hr2 f2 => ?_))))
 have f02 := f1.trans f2
 refine ifB_of (fun e => hq _ _ ⟨fun q => (by cases q), fun q => ?_⟩ f02) (fun e => ?_)
 ·have e : (!r2) = true := e
  rw [hr2.2 (key.1 q.2).1] at e; cases e
 have hr3 : r2 = true := by
  have e : (!r2) = false := e
  simpa using e
 have hu := hr2.1 hr3
 refine idx_ldF (T := TF) hTF (gv1.f.frs f2 (by simp)) rfl hf rfl (JOIN_of (ifE (fun e => hq _ _ ⟨fun _ => ⟨ask, key.2 ⟨hu, .inl e⟩⟩, fun _ => rfl⟩ f02) (fun e => phas_c (hq _ _ ⟨fun q => ⟨ask, key.2 ⟨hu, .inr ?_⟩⟩, fun q => ?_⟩ f02))))
 ·simpa using q
 ·have := (key.1 q.2).2
  rcases this with w | w
  ·exact absurd w e
  ·simpa using w
open Classical in
noncomputable def selL (p : Int -> Prop) : Nat -> List Int
 | 0 => []
 | n + 1 => selL p n ++ if p ((n : Int) + 1) then [(n : Int) + 1] else []
theorem selL_pos {p : Int -> Prop} {n : Nat} (h : p ((n : Int) + 1)) : selL p (n + 1) = selL p n ++ [(n : Int) + 1] := by simp [selL, h]
theorem selL_neg {p : Int -> Prop} {n : Nat} (h : ¬ p ((n : Int) + 1)) : selL p (n + 1) = selL p n := by simp [selL, h]
theorem selL_len {p : Int -> Prop} : ∀ n, (selL p n).length ≤ n
 | 0 => Nat.le_refl _
 | n + 1 => by
  have := selL_len (p := p) n
  by_cases h : p ((n : Int) + 1)
  ·rw [selL_pos h]; simp; omega
  ·rw [selL_neg h]; omega
theorem tyI' : TyS E TN' 35 (0 : Int) := tyI
theorem gone_c {Y : Value} {p : Int -> Prop} {n : Nat} (hn : n ≤ 2048) (hy : ∀ (x : Int) H' (K : Bool × Unit -> Heap -> Prop), Frs [] H H' -> (∀ r H'', (r = true ↔ p x) -> Frs [] H' H'' -> K (r, ()) H'') -> CALLV P [T_bool] Y [.int .i64 x] H' K) {Q : Sl × Unit -> Heap -> Prop}
  (hq : ∀ s H' sp, NewO TN' H s H' (selL p n) sp -> Q (s, ()) H') : CALL P [T_sl] n_target_gone [.int .i64 1, .int .i64 (n : Int), Y] H Q := by
 apply c_target_gone
 unfold S_target_gone
 refine JOIN_inv (fun y H' => ∃ sp, NewO TN' H y.1.1 H' (selL p n) sp) (fun j hj => ?_) (fun y H' h => by obtain ⟨sp, h⟩ := h; exact hq _ _ _ h)
 refine loop_of (fun (y : (Sl × Int × Unit) × Unit) H' => ∃ (k : Nat) (sp : List Int), y.1.2.1 = (k : Int) + 1 ∧ k ≤ n ∧ NewO TN' H y.1.1 H' (selL p k) sp) (fun y => n + 1 - y.1.2.1.toNat) ?_ ⟨0, [], rfl, Nat.zero_le _, NewO.nil' TN' H⟩
 rintro G ⟨⟨out, i, _⟩, _⟩ H1 ⟨k, sp, hi, hk, no⟩ hG
 simp only at hi no; subst hi
 dsimp only at hG ⊢
 refine ifD (fun hlt => hy _ _ _ no.2.2 fun r H2 hr f2 => ?_) (fun hge => hj _ _ ⟨sp, ?_⟩)
 ·have no2 := no.new f2
  have hl := selL_len (p := p) k
  refine JOIN_inv (fun y H' => ∃ sp, NewO TN' H y.1.1 H' (selL p (k + 1)) sp) (fun j2 hj2 => ifB_of (fun e => ?_) (fun e => ?_)) ?_
  ·refine app_c tyI' rfl (fun _ => by simp) (m := 1) [(k : Int) + 1] rfl rfl (by show 2 * (_ + 1) * 4096 ≤ _; omega) no2.1 fun s4 H5 sp5 k1 k2 k3 => ?_
   exact hj2 _ _ ⟨sp5, by rw [selL_pos (hr.1 e)]; exact no2.app k1 k2 k3⟩
  ·exact hj2 _ _ ⟨sp, by rw [selL_neg (fun q => by have e : r = false := e; rw [hr.2 q] at e; cases e)]; exact no2⟩
  ·rintro ⟨⟨out3, _⟩, _⟩ H3 ⟨sp3, no3⟩
   rw [i64w (by omega) (by omega)]
   exact hG _ _ ⟨k + 1, sp3, by simp, by omega, no3⟩ (by simp; omega)
 ·have : k = n := by omega
  subst this; exact no
theorem row1 (H : Heap) (c : List Value) (z : Nat) : (mk H c z false)[H.length]? = some (.row c z false false true) ∧ Frs [] H (mk H c z false) ∧ (mk H c z false).length = H.length + 1 := ⟨by simp [mk], Frs.app _ _ _, by simp [mk]⟩
open Classical in
noncomputable def allL (se : Bool) (B : List Cd) (ts : List Tg) (fs : List Ft) (who : Int) : List Int :=
 if askP se B ts fs who then [-1, -2] ++ selL (mayN B ts fs who) ts.length else []
theorem all_c (h : BP m H b se B ms) (okB : OkB B) (gv : Gv H a1 a2 ts fs) {who : Int} {Q : Sl × Unit -> Heap -> Prop} (hq : ∀ s H' sp, NewO TN' H s H' (allL se B ts fs who) sp -> Q (s, ()) H') :
  CALL P [T_sl] n_target_All [.pointer (some ⟨b, 0, none⟩), a1.v, a2.v, .int .i64 who] H Q := by
 apply c_target_All
 unfold S_target_All
 unfold NEW
 obtain ⟨r1, f1, l1⟩ := row1 H [(.pointer (some ⟨b, 0, none⟩))] 1
 generalize mk H [(.pointer (some ⟨b, 0, none⟩))] 1 false = H1 at r1 f1 l1
 obtain ⟨r2, f2, l2⟩ := row1 H1 [(.slice a1.p a1.len a1.cap)] 1
 generalize mk H1 [(.slice a1.p a1.len a1.cap)] 1 false = H2 at r2 f2 l2
 obtain ⟨r3, f3, l3⟩ := row1 H2 [(.slice a2.p a2.len a2.cap)] 1
 generalize mk H2 [(.slice a2.p a2.len a2.cap)] 1 false = H3 at r3 f3 l3
 obtain ⟨r4, f4, l4⟩ := row1 H3 [(.int .i64 who)] 1
 generalize mk H3 [(.int .i64 who)] 1 false = H4 at r4 f4 l4
 have f04 : Frs [] H H4 := f1.trans (f2.trans (f3.trans f4))
 have ld1 : ∀ {H' : Heap} {k : Option Addr -> Prop}, Frs [] H4 H' -> k (some ⟨b, 0, none⟩) -> LD T_ptr H' H.length 0 k := fun f hk => LD_of (T := T_ptr) _ [] [] ((f2.trans (f3.trans (f4.trans f))).get (by simp) r1) rfl rfl rfl hk
 have ld2 : ∀ {H' : Heap} {k : Sl -> Prop}, Frs [] H4 H' -> k a1 -> LD T_sl H' H1.length 0 k := fun f hk => LD_of (T := T_sl) _ [] [] ((f3.trans (f4.trans f)).get (by simp) r2) rfl rfl rfl hk
 have ld3 : ∀ {H' : Heap} {k : Sl -> Prop}, Frs [] H4 H' -> k a2 -> LD T_sl H' H2.length 0 k := fun f hk => LD_of (T := T_sl) _ [] [] ((f4.trans f).get (by simp) r3) rfl rfl rfl hk
 have ld4 : ∀ {H' : Heap} {k : Int -> Prop}, Frs [] H4 H' -> k who -> LD TN' H' H3.length 0 k := fun f hk => LD_of (T := TN') _ [] [] (f.get (by simp) r4) rfl rfl rfl hk
 have rf := Frs.refl [] H4
 have hln := gv.s.1
 refine ld1 rf (ld2 rf (ld3 rf (ld4 rf (asked_c (h.new f04) okB (gv.new f04) fun r H5 hr f5 => ?_))))
 refine ifB_of (fun e => ?_) (fun e => ?_)
 ·have e : (!r) = true := e
  have : ¬ askP se B ts fs who := fun q => by rw [hr.2 q] at e; cases e
  have e2 : allL se B ts fs who = [] := by unfold allL; rw [if_neg this]
  refine hq _ _ [] ?_
  rw [e2]; exact (NewO.nil' TN' H5).older (f04.trans f5)
 have hr1 : r = true := by
  have e : (!r) = false := e
  simpa using e
 have ask := hr.1 hr1
 obtain ⟨e1, e2, e3, e4⟩ := setE_ok (e := ask.1)
 have eal : allL se B ts fs who = [-1, -2] ++ selL (mayN B ts fs who) ts.length := by unfold allL; rw [if_pos ask]
 obtain ⟨r6, f6, l6⟩ := row1 H5 [(.int .i64 (-1)), (.int .i64 (-2))] 1
 generalize mk H5 [(.int .i64 (-1)), (.int .i64 (-2))] 1 false = H6 at r6 f6 l6
 have f46 : Frs [] H4 H6 := f5.trans f6
 refine ld2 f46 ?_
 rw [hln]
 refine gone_c (p := mayN B ts fs who) e3 (fun x H' K f hK => .inl ⟨_, #[], _, rfl, ?_⟩) fun s H7 sp no => ?_
 ·refine c_target_All_1 (c0 := (H.length, 0)) (c1 := (H1.length, 0)) (c2 := (H2.length, 0)) (c3 := (H3.length, 0)) ?_
  unfold S_target_All_1
  have f4' := f46.trans f
  have f0' := f04.trans f4'
  refine ld1 f4' (ld2 f4' (ld3 f4' (ld4 f4' (may_c (h.new f0') okB (gv.new f0') fun r2 H2' hr2 f2' => hK _ _ ?_ f2'))))
  exact ⟨fun q => (hr2.1 q).2, fun q => hr2.2 ⟨ask, q⟩⟩
 ·have hl := selL_len (p := mayN B ts fs who) ts.length
  have o7 : Ow TN' H7 ⟨some ⟨H5.length, 0, none⟩, 2, 2⟩ [-1, -2] [] := ⟨rfl, rfl, by simp, .inr ⟨_, rfl, no.2.2.get (by simp) r6⟩⟩
  have f07 : Frs [] H H7 := f04.trans (f46.trans no.2.2)
  have f05 : Frs [] H H5 := f04.trans f5
  have n7 : NewO TN' H ⟨some ⟨H5.length, 0, none⟩, 2, 2⟩ H7 [-1, -2] [] := ⟨o7, fun d hd => by simp at hd; subst hd; exact f05.1, f07⟩
  refine apps_c tyI' rfl (fun _ => by simp) no.1.slf (by simp only [List.length_cons, List.length_nil]; omega) o7 fun s8 H8 sp8 k1 k2 k3 => ?_
  exact hq _ _ sp8 (by rw [eal]; exact n7.app k1 k2 k3)
end
end Go.Proofs.YtolekmhhkopooaaGreatDoor.Zq
end
section
namespace Go.Proofs.YtolekmhhkopooaaGreatDoor.Zq
open Zv
section
variable {H : Heap} {b m : Nat} {se : Bool} {B : List Cd} {ms : List G_api_MarkInfo} {a1 a2 : Sl} {ts : List Tg} {fs : List Ft}
theorem idx_fld {T T1 : Tag} (hT : ∀ x, (T.cells x).length = T.n) {s : Sl} {l : List T.α} (h : SlF T H s l) {i : Int} {n : Nat} {x : T.α} (hi : i = n) (hx : l[n]? = some x) {sz : Nat} (hz : sz = T.n) (pre post : List Value) {v : T1.α} {of : Nat}
  (hcut : T.cells x = pre ++ (T1.cells v ++ post)) (hpre : pre.length = of) (hn : (T1.cells v).length = T1.n) {K : T1.α -> Prop} (hK : K v) : IDX s.p s.len i sz fun b o => LD T1 H b (o + of) K := by
 have hl := (List.getElem?_eq_some_iff.1 hx).1
 obtain ⟨h1, ⟨_, h2, _⟩ | ⟨_, _, _, h2, _⟩ | ⟨b, A, B, z, o, ro, h3, h4⟩⟩ := h
 ·subst h2; simp at hl
 ·subst h2; simp at hl
 ·subst hi; subst hz
  unfold IDX NIL
  rw [h3]
  refine ⟨⟨by omega, by omega⟩, ?_⟩
  refine LD_of (T := T1) v (A ++ (fl T (l.take n) ++ pre)) (post ++ (fl T (l.drop (n + 1)) ++ B)) h4 ?_ ?_ hn hK
  ·rw [fl_cut (T := T) l n x hx, hcut]; simp [List.append_assoc]
  ·rw [List.length_append, List.length_append, fl_len hT, List.length_take, Nat.min_eq_left (by omega), Int.toNat_natCast, hpre]
   omega
theorem idx_place {s : Sl} {l : List Tg} (h : SlF TT' H s l) {i : Int} {n : Nat} {x : Tg} (hi : i = n) (hx : l[n]? = some x) {K : Int -> Prop} (hK : K x.Place) : IDX s.p s.len i 11 fun b o => LD (T_int .u8) H b (o + 2) K :=
 idx_fld (T := TT') (T1 := T_int .u8) hTT' h hi hx rfl ((TT'.cells x).take 2) ((TT'.cells x).drop 3) rfl rfl rfl hK
theorem idx_tcard {s : Sl} {l : List Tg} (h : SlF TT' H s l) {i : Int} {n : Nat} {x : Tg} (hi : i = n) (hx : l[n]? = some x) {K : Int -> Prop} (hK : K x.Card) : IDX s.p s.len i 11 fun b o => LD TN' H b (o + 0) K :=
 idx_fld (T := TT') (T1 := TN') hTT' h hi hx rfl [] ((TT'.cells x).drop 1) rfl rfl rfl hK
theorem idx_hold {s : Sl} {l : List Ft} (h : SlF TF H s l) {i : Int} {n : Nat} {x : Ft} (hi : i = n) (hx : l[n]? = some x) {K : Int -> Prop} (hK : K x.Holder) : IDX s.p s.len i 5 fun b o => LD TN' H b (o + 0) K :=
 idx_fld (T := TF) (T1 := TN') hTF h hi hx rfl [] ((TF.cells x).drop 1) rfl rfl rfl hK
theorem idx_when' {s : Sl} {l : List Pt} (h : SlF TP H s l) {i : Int} {n : Nat} {x : Pt} (hi : i = n) (hx : l[n]? = some x) {K : Int -> Prop} (hK : K x.When) : IDX s.p s.len i 8 fun b o => LD (T_int .u8) H b (o + 0) K :=
 idx_fld (T := TP) (T1 := T_int .u8) hTP h hi hx rfl [] ((TP.cells x).drop 1) rfl rfl rfl hK
theorem idx_verb {s : Sl} {l : List Pt} (h : SlF TP H s l) {i : Int} {n : Nat} {x : Pt} (hi : i = n) (hx : l[n]? = some x) {K : Int -> Prop} (hK : K x.Verb) : IDX s.p s.len i 8 fun b o => LD (T_int .u8) H b (o + 1) K :=
 idx_fld (T := TP) (T1 := T_int .u8) hTP h hi hx rfl ((TP.cells x).take 1) ((TP.cells x).drop 2) rfl rfl rfl hK
theorem rat_c (h : BD m H b se B ms) (okB : OkB B) {n : Int} {Q : G_api_Card × Int × Unit -> Heap -> Prop} (q6 : (se = false ∨ n < 1 ∨ (B.length : Int) < n) -> Q (zC, 6, ()) H)
  (q0 : ∀ c g H', se = true -> 1 ≤ n -> B[(n - 1).toNat]? = some c -> CR H.length H' g c -> Frs [] H H' -> Q (g, 0, ()) H') : CALL P [TC, TN'] n_ref07_Book_At [.pointer (some ⟨b, 0, none⟩), .int .i64 n] H Q := by
 apply c_ref07_Book_At
 unfold S_ref07_Book_At
 refine rnone_b h (ifB_f rfl ?_)
 have few := h.few
 obtain ⟨⟨s, gs, ns, w, hs, lo, hl, hc⟩, _, lt, ml⟩ := id h
 have hsl := hs.1
 refine hJ (se = false ∨ n < 1 ∨ (B.length : Int) < n) (fun j hj => w.ld_se rfl (ifB_of (fun e => hj _ ?_) (fun e => ifD (fun h1 => hj _ ?_) (fun h1 => w.ld_l rfl (hj _ ?_))))) q6 (fun hN => ?_)
 ·simp only [true_iff]; exact .inl (by simpa using e)
 ·simp only [true_iff]; exact .inr (.inl h1)
 ·have : ¬ se = false := by simpa using e
  simp only [decide_eq_true_eq]; constructor
  ·exact fun q => .inr (.inr (by omega))
  ·rintro (q | q | q)
   ·exact absurd q this
   ·exact absurd q h1
   ·omega
 ·have hse : se = true := by cases hs : se with | true => rfl | false => exact absurd (.inl hs) hN
  have h1 : ¬ n < 1 := fun q => hN (.inr (.inl q))
  have h2 : ¬ (B.length : Int) < n := fun q => hN (.inr (.inr q))
  have hx : B[(n - 1).toNat]? = some (B[(n - 1).toNat]'(by omega)) := List.getElem?_eq_getElem (by omega)
  generalize (B[(n - 1).toNat]'(by omega)) = c at hx
  obtain ⟨g, hg, cr⟩ := hc _ c hx
  have hp4 := okB.p4 (List.mem_of_getElem? hx)
  rw [i64w (x := n - 1) (by omega) (by omega)]
  exact w.ld_l rfl (idx_ldF (T := TC) hTC hs (n := (n - 1).toNat) (by omega) hg rfl (rcopy_b cr.p (by omega) fun s H' hs lo f => q0 c _ H' hse (by omega) hx ⟨by rw [← cr.e]; rfl, hs, lo⟩ f))
theorem rcard18_c (h : BD m H b se B ms) (okB : OkB B) {t : Tg} {Q : G_api_Card × Int × Unit -> Heap -> Prop} (q6 : (se = false ∨ t.Card < 1 ∨ (B.length : Int) < t.Card) -> Q (zC, 6, ()) H)
  (q0 : ∀ c g H', se = true -> 1 ≤ t.Card -> B[(t.Card - 1).toNat]? = some c -> CR H.length H' g c -> Frs [] H H' -> Q (g, 0, ()) H') : CALL P [TC, TN'] n_ref18_Card [.pointer (some ⟨b, 0, none⟩), TT'.enc t] H Q := by
 apply c_ref18_Card
 unfold S_ref18_Card
 exact rnone_b h (ifB_f rfl (rat_c h okB q6 q0))
theorem tabI_last {n : Nat} {t : Tg} (hx : ts[n]? = some t) : (tabI ts (n + 1)).length = (tabI ts n).length + if t.Place = 4 then 1 else 0 := by
 simp only [tabI, hx, Option.map_some, Option.some.injEq, List.length_append]
 split <;> rfl
theorem rtog_c (h : BD m H b se B ms) (okB : OkB B) (hs : SlF TT' H a1 ts) (hf : SlF TF H a2 fs) {Q : Bool × Unit -> Heap -> Prop} (hq : ∀ r H', (r = true ↔ setE se B ts fs = 0) -> Frs [] H H' -> Q (r, ()) H') :
  CALL P [T_bool] n_ref19_Together [.pointer (some ⟨b, 0, none⟩), a1.v, a2.v] H Q := by
 apply c_ref19_Together
 unfold S_ref19_Together
 have hsl := hs.1
 have hfl := hf.1
 refine hJ (se = false ∨ 2048 < ts.length ∨ fs.length ≠ ts.length) (fun j hj => rsealed_c h (ifB_of (fun e => hj _ ?_) (fun e => ifD (fun e1 => hj _ ?_) (fun e1 => hj _ ?_)))) (fun hb => hq _ _ ⟨fun e => (by cases e), fun e => ?_⟩ (.refl _ _)) (fun hg => ?_)
 ·simp only [true_iff]; exact .inl (by simpa using e)
 ·simp only [true_iff]; exact .inr (.inl (by omega))
 ·have : ¬ se = false := by simpa using e
  simp only [bne_iff_ne, ne_eq]
  constructor
  ·intro q; exact .inr (.inr (by omega))
  ·rintro (q | q | q)
   ·exact absurd q this
   ·omega
   ·omega
 ·obtain ⟨e1, e2, e3, _⟩ := setE_ok (e := e)
  rcases hb with q | q | q
  ·rw [e1] at q; cases q
  ·omega
  ·exact absurd e2 q
 have hse : se = true := by cases hs : se with | true => rfl | false => exact absurd (.inl hs) hg
 have hlen : ¬ 2048 < ts.length := fun q => hg (.inr (.inl q))
 have hfe : fs.length = ts.length := Classical.byContradiction fun q => hg (.inr (.inr q))
 have bad : ∀ H', ¬ Tog B ts fs -> Frs [] H H' -> Q (false, ()) H' := fun H' hn f => hq _ _ ⟨fun q => (by cases q), fun e => absurd (setE_ok (e := e)).2.2.2 hn⟩ f
 refine JOIN_inv (fun _ H' => Frs [] H H' ∧ Tog B ts fs) (fun j hj => ?_) (fun _ H' hh => hq _ _ ⟨fun _ => (setE_0 hlen (by intro q; rcases q with q | q; exact absurd q (by rw [hse]; decide); exact q hfe)).1 hh.2, fun _ => rfl⟩ hh.1)
 refine loop_of (fun (y : (Int × Int × Unit) × Unit) H' => ∃ n : Nat, y.1.2.1 = n ∧ n ≤ ts.length ∧ y.1.1 = ((tabI ts n).length : Int) ∧ Frs [] H H' ∧ (∀ (i : Nat) t f, i < n -> ts[i]? = some t -> fs[i]? = some f -> okTh B t f) ∧ (tabI ts n).length ≤ 16 ∧ (∀ (i j : Nat) t u, i < j -> j < n -> ts[i]? = some t -> ts[j]? = some u -> t.Place = 4 -> u.Place = 4 -> t.Stamp ≠ u.Stamp)) (fun y => ts.length - y.1.2.1.toNat) ?_
  ⟨0, rfl, Nat.zero_le _, rfl, .refl _ _, fun i t f hi => by omega, by simp [tabI], fun i j t u _ hj => by omega⟩
 rintro G ⟨⟨many, i, _⟩, _⟩ H1 ⟨n, hi, hn, hm, f1, ok, few, dst⟩ hG
 simp only at hi hm; subst hi; subst hm
 dsimp only at hG ⊢
 refine ifD (fun hlt => ?_) (fun hge => hj _ _ ?_)
 ·have hlt : n < ts.length := by omega
  have hx : ts[n]? = some ts[n] := List.getElem?_eq_getElem hlt
  have hy : fs[n]? = some (fs[n]'(by omega)) := List.getElem?_eq_getElem (by omega)
  have _hmf : fs[n]'(by omega) ∈ fs := List.getElem_mem (by omega)
  generalize ts[n] = t at hx
  generalize (fs[n]'(by omega)) = f at hy _hmf
  have tl := tabI_last hx
  have notog : ¬ okTh B t f -> ¬ Tog B ts fs := fun q k => q (k.all n t f hx hy)
  have h1 := h.new f1
  have hs1 := hs.frs f1 (by simp)
  have hf1 := hf.frs f1 (by simp)
  refine JOIN_inv (fun (y : (Int × Unit) × Unit) H' => Frs [] H H' ∧ y.1.1 = ((tabI ts (n + 1)).length : Int) ∧ okTh B t f ∧ (tabI ts (n + 1)).length ≤ 16 ∧ ∀ (i : Nat) u, i < n -> ts[i]? = some u -> u.Place = 4 -> t.Place = 4 -> u.Stamp ≠ t.Stamp) (fun j2 hj2 => ?_) ?_
  ·refine idx_ldF (T := TT') hTT' hs1 rfl hx rfl (rat_c h1 okB (fun q => ?_) (fun c g H9 _ hc1 hcx cr f9 => ?_))
   ·refine JOIN_of (ifB_t rfl (ifB_t rfl (bad _ (notog ?_) f1)))
    rintro ⟨c, k1, k2, _⟩
    have := (List.getElem?_eq_some_iff.1 k2).1
    rcases q with q | q | q
    ·rw [hse] at q; cases q
    ·omega
    ·omega
   have okiff : okTh B t f ↔ (t.Owner = 0 ∨ t.Owner = 1) ∧ 1 ≤ t.Place ∧ t.Place ≤ 5 ∧ (t.Place = 4 -> c.g.Kind ≠ 2 ∧ 1 ≤ t.Stamp ∧ (f.Holder = 0 ∨ f.Holder = 1) ∧ f.Traits < 256) := by
    constructor
    ·rintro ⟨c', k1, k2, k3⟩
     rw [hcx] at k2; cases k2; exact k3
    ·exact fun q => ⟨c, hc1, hcx, q⟩
   have f09 : Frs [] H H9 := f1.trans f9
   have hs9 := hs1.frs f9 (by simp)
   have hf9 := hf1.frs f9 (by simp)
   refine hJ (¬ (t.Owner = 0 ∨ t.Owner = 1) ∨ t.Place < 1 ∨ 5 < t.Place) (fun j3 hj3 => ifB_f rfl (ifD (fun e1 => hj3 _ (by simp; omega)) (fun e1 => ifD (fun e2 => hj3 _ (by simp; omega)) (fun e2 => ifD (fun e3 => hj3 _ (by simp; omega)) (fun e3 => hj3 _ (by simp; omega)))))) (fun q => bad _ (notog fun k => ?_) f09) (fun hA => ?_)
   ·have := okiff.1 k; omega
   refine ifN (fun hp4 => ?_) (fun hp4 => ?_)
   ·rw [if_neg hp4] at tl
    exact hj2 _ _ ⟨f09, by rw [tl]; rfl, okiff.2 ⟨by omega, by omega, by omega, fun q => absurd q hp4⟩, by omega, fun i u _ _ _ q => absurd q hp4⟩
   ·rw [if_pos hp4] at tl
    have hkd : g.Kind = c.g.Kind := by rw [← cr.e]; rfl
    rw [i64w (by omega) (by omega)]
    refine hJ (16 < (tabI ts (n + 1)).length ∨ c.g.Kind = 2 ∨ t.Stamp < 1 ∨ ¬ (f.Holder = 0 ∨ f.Holder = 1) ∨ ¬ f.Traits < 256) (fun j3 hj3 => ?_) (fun q => bad _ (fun k => ?_) f09) (fun hB => ?_)
    ·rw [hkd]
     refine ifD (fun e => hj3 _ (by simp; omega)) (fun e => ifE (fun e1 => hj3 _ (by simp; omega)) (fun e1 => ifD (fun e2 => hj3 _ (by simp; omega)) (fun e2 => idx_hold hf9 rfl hy (ifD (fun e3 => hj3 _ (by simp; omega)) (fun e3 => idx_hold hf9 rfl hy (ifD (fun e4 => hj3 _ (by simp; omega)) (fun e4 => idx_traits hf9 rfl hy (rtraits_c (hj3 _ (by simp; omega))))))))))
    ·rcases q with q | q
     ·have := k.few
      have := tabI_mono (ts := ts) (n := n + 1) (k := ts.length - (n + 1))
      rw [show n + 1 + (ts.length - (n + 1)) = ts.length by omega] at this
      omega
     ·have := (okiff.1 (k.all n t f hx hy)).2.2.2 hp4; omega
    have okn : okTh B t f := okiff.2 ⟨by omega, by omega, by omega, fun _ => ⟨by omega, by omega, by omega, by omega⟩⟩
    refine JOIN_inv (fun _ H' => H' = H9 ∧ ∀ (i : Nat) u, i < n -> ts[i]? = some u -> u.Place = 4 -> u.Stamp ≠ t.Stamp) (fun j4 hj4 => ?_) ?_
    ·refine loop_of (fun (y : (Int × Unit) × Unit) H' => H' = H9 ∧ ∃ k : Nat, y.1.1 = k ∧ k ≤ n ∧ ∀ (i : Nat) u, i < k -> ts[i]? = some u -> u.Place = 4 -> u.Stamp ≠ t.Stamp) (fun y => n - y.1.1.toNat) ?_ ⟨rfl, 0, rfl, Nat.zero_le _, fun i u hi => by omega⟩
     rintro G2 ⟨⟨i2, _⟩, _⟩ H' ⟨rfl, k, hk, hkn, no⟩ hG2
     simp only at hk; subst hk
     dsimp only at hG2 ⊢
     refine ifD (fun hlt2 => ?_) (fun hge2 => hj4 _ _ ⟨rfl, fun i u w1 w2 w3 => no i u (by omega) w2 w3⟩)
     have hz : ts[k]? = some (ts[k]'(by omega)) := List.getElem?_eq_getElem (by omega)
     generalize (ts[k]'(by omega)) = u at hz
     refine hJ (u.Place = 4 ∧ u.Stamp = t.Stamp) (fun j5 hj5 => idx_place hs9 rfl hz (ifE (fun e => idx_stamp' hs9 rfl hz (hj5 _ (by simp [e]))) (fun e => hj5 _ (by simp [e])))) (fun q => bad _ (fun w => ?_) f09) (fun q => ?_)
     ·exact w.dst k n u t (by omega) hz hx q.1 hp4 q.2
     ·rw [i64w (by omega) (by omega)]
      refine hG2 _ _ ⟨rfl, k + 1, by simp, by omega, fun i v w1 w2 w3 => ?_⟩ (by simp; omega)
      by_cases e : i = k
      ·subst e; rw [hz] at w2; cases w2; exact fun w => q ⟨w3, w⟩
      ·exact no i v (by omega) w2 w3
    ·rintro _ H' ⟨rfl, no⟩
     exact hj2 _ _ ⟨f09, by rw [tl]; rfl, okn, by omega, fun i u w1 w2 w3 _ => no i u w1 w2 w3⟩
  ·rintro ⟨⟨mm, _⟩, _⟩ H2 ⟨f2, hmm, okn, few2, no⟩
   simp only at hmm; subst hmm
   dsimp only
   rw [i64w (by omega) (by omega)]
   refine hG _ _ ⟨n + 1, by simp, hlt, rfl, f2, fun i t' f' w1 w2 w3 => ?_, few2, fun i j t' u' w1 w2 w3 w4 w5 w6 => ?_⟩ (by simp; omega)
   ·by_cases e : i = n
    ·subst e; rw [hx] at w2; cases w2; rw [hy] at w3; cases w3; exact okn
    ·exact ok i t' f' (by omega) w2 w3
   ·by_cases e : j = n
    ·subst e; rw [hx] at w4; cases w4; exact no i t' w1 w3 w5 w6
    ·exact dst i j t' u' w1 (by omega) w3 w4 w5 w6
 ·have : n = ts.length := by omega
  subst this
  refine ⟨f1, fun i t f w1 w2 => ok i t f (List.getElem?_eq_some_iff.1 w1).1 w1 w2, few, fun i j t u hij w1 w2 w3 w4 => ?_⟩
  rcases Nat.lt_or_gt_of_ne hij with q | q
  ·exact dst i j t u q (List.getElem?_eq_some_iff.1 w2).1 w1 w2 w3 w4
  ·exact fun e => dst j i u t q (List.getElem?_eq_some_iff.1 w1).1 w2 w1 w4 w3 e.symm
theorem rwrong_c (h : BD m H b se B ms) (okB : OkB B) (hs : SlF TT' H a1 ts) (hf : SlF TF H a2 fs) {Q : Int × Unit -> Heap -> Prop} (hq : ∀ H', Frs [] H H' -> Q (setE se B ts fs, ()) H') :
  CALL P [TN'] n_ref19_wrong [.pointer (some ⟨b, 0, none⟩), a1.v, a2.v] H Q := by
 apply c_ref19_wrong
 unfold S_ref19_wrong
 have hsl := hs.1
 refine rnone_b h (ifB_f rfl (ifD (fun e => ?_) (fun e => rtog_c h okB hs hf fun r H' hr f => ifB_of (fun e1 => ?_) (fun e1 => ?_))))
 ·have e1 : setE se B ts fs = 3 := by unfold setE; rw [if_pos (by omega)]
  have := hq H (.refl _ _); rwa [e1] at this
 ·have e1 : (!r) = true := e1
  have e2 : setE se B ts fs = 2 := by
   have h0 : ¬ setE se B ts fs = 0 := fun q => by rw [hr.2 q] at e1; cases e1
   unfold setE at h0 ⊢
   rw [if_neg (by omega)] at h0 ⊢
   split
   ·rfl
   ·rename_i w; rw [if_neg w] at h0
    split
    ·rename_i w2; rw [if_pos w2] at h0; exact absurd rfl h0
    ·rfl
  have := hq H' f; rwa [e2] at this
 ·have e2 : setE se B ts fs = 0 := hr.1 (by have e1 : (!r) = false := e1; simpa using e1)
  have := hq H' f; rwa [e2] at this
end
end Go.Proofs.YtolekmhhkopooaaGreatDoor.Zq
end
section
namespace Go.Proofs.YtolekmhhkopooaaGreatDoor.Zq
open Zv
section
variable {H : Heap} {b m : Nat} {B : List Cd} {ms : List G_api_MarkInfo} {a1 a2 : Sl} {ts : List Tg} {fs : List Ft} {ol : List Int}
structure Rt (m : Nat) (H : Heap) (b : Nat) (B : List Cd) (ms : List G_api_MarkInfo) (a1 : Sl) (ts : List Tg) (ol : List Int) : Prop where
 bk : BD m H b true B ms
 ok : OkB B
 s : SlF TT' H a1 ts
 ot : OrdT B ts ol
theorem Rt.new {H' : Heap} (h : Rt m H b B ms a1 ts ol) (f : Frs [] H H') : Rt m H' b B ms a1 ts ol := ⟨h.bk.new f, h.ok, h.s.frs f (by simp), h.ot⟩
theorem stampAt_at {x : Int} {k : Nat} {t : Tg} (e : x = k) (h : ts[k]? = some t) : stampAt ts x.toNat = t.Stamp := by subst e; simp [stampAt, h]
theorem rorder_c (hs : SlF TT' H a1 ts) (ot : OrdT B ts ol) {Q : Sl × Unit -> Heap -> Prop} (hq : ∀ s H' sp, NewO TN' H s H' (ol.map (· + 1)) sp -> Q (s, ()) H') : CALL P [T_sl] n_ref19_order [a1.v] H Q := by
 apply c_ref19_order
 unfold S_ref19_order
 have hsl := hs.1
 have hlen := ot.len
 have few := ot.few
 refine JOIN_inv (fun _ _ => False) (fun j hj => ?_) (fun _ _ h => h.elim)
 refine loop_of (fun (y : (Sl × Int × Unit) × Unit) H' => ∃ (k : Nat) (sp : List Int), k ≤ ol.length ∧ NewO TN' H y.1.1 H' ((ol.take k).map (· + 1)) sp ∧ (k = 0 -> y.1.2.1 = 0) ∧ (∀ x, 1 ≤ k -> ol[k - 1]? = some x -> y.1.2.1 = stampAt ts x.toNat)) (fun y => ol.length - y.1.1.len) ?_ ⟨0, [], Nat.zero_le _, by simpa using NewO.nil' TN' H, fun _ => rfl, fun x h => by omega⟩
 rintro G ⟨⟨out, last, _⟩, _⟩ H1 ⟨k, sp, hk, no, l0, l1⟩ hG
 simp only at no l0 l1
 dsimp only at hG ⊢
 have hol : out.len = k := by have := no.1.1; simp at this; omega
 have hs1 := hs.frs no.2.2 (by simp)
 have gt : ∀ (p : Nat) x, k ≤ p -> ol[p]? = some x -> last < stampAt ts x.toNat := fun p x hp hx => by
  obtain ⟨kx, t, c, e1, e2, e3, e4, e5, e6, _⟩ := ot.at' x (List.mem_of_getElem? hx)
  rw [stampAt_at e1 e2]
  by_cases h0 : k = 0
  ·rw [l0 h0]; omega
  ·have hz : ol[k - 1]? = some (ol[k - 1]'(by omega)) := List.getElem?_eq_getElem (by omega)
   have := ot.srt (k - 1) p _ x (by omega) hz hx
   rw [l1 _ (by omega) hz, ← stampAt_at e1 e2]; exact this
 have le : ∀ (p : Nat) x, p < k -> ol[p]? = some x -> stampAt ts x.toNat ≤ last := fun p x hp hx => by
  have hz : ol[k - 1]? = some (ol[k - 1]'(by omega)) := List.getElem?_eq_getElem (by omega)
  rw [l1 _ (by omega) hz]
  by_cases e : p = k - 1
  ·subst e; rw [hx] at hz; cases hz; exact Int.le_refl _
  ·have := ot.srt p (k - 1) x _ (by omega) hx hz; omega
 refine JOIN_inv (fun (y : (Sl × Int × Unit) × Unit) H' => ∃ sp, k < ol.length ∧ NewO TN' H y.1.1 H' ((ol.take (k + 1)).map (· + 1)) sp ∧ ∀ x, ol[k]? = some x -> y.1.2.1 = stampAt ts x.toNat) (fun j2 hj2 => ?_) ?_
 ·refine JOIN_inv (fun (y : (Int × Unit) × Unit) H' => H' = H1 ∧ ((y.1.1 = -1 ∧ ∀ (j : Nat) t, ts[j]? = some t -> t.Place = 4 -> t.Stamp ≤ last) ∨ ∃ (bn : Nat) (t : Tg), y.1.1 = bn ∧ ts[bn]? = some t ∧ t.Place = 4 ∧ last < t.Stamp ∧ ∀ (j : Nat) u, ts[j]? = some u -> u.Place = 4 -> last < u.Stamp -> t.Stamp ≤ u.Stamp)) (fun j3 hj3 => ?_) ?_
  ·refine loop_of (fun (y : (Int × Int × Unit) × Unit) H' => H' = H1 ∧ ∃ n : Nat, y.1.2.1 = n ∧ n ≤ ts.length ∧ ((y.1.1 = -1 ∧ ∀ (j : Nat) t, j < n -> ts[j]? = some t -> t.Place = 4 -> t.Stamp ≤ last) ∨ ∃ (bn : Nat) (t : Tg), y.1.1 = bn ∧ ts[bn]? = some t ∧ t.Place = 4 ∧ last < t.Stamp ∧ ∀ (j : Nat) u, j < n -> ts[j]? = some u -> u.Place = 4 -> last < u.Stamp -> t.Stamp ≤ u.Stamp)) (fun y => ts.length - y.1.2.1.toNat) ?_
    ⟨rfl, 0, rfl, Nat.zero_le _, .inl ⟨rfl, fun j t h => by omega⟩⟩
   rintro G2 ⟨⟨best, i, _⟩, _⟩ H' ⟨rfl, n, hi, hn, inv⟩ hG2
   simp only at hi inv; subst hi
   dsimp only at hG2 ⊢
   refine ifD (fun hlt => ?_) (fun hge => hj3 _ _ ⟨rfl, ?_⟩)
   ·have hlt : n < ts.length := by omega
    have hx : ts[n]? = some ts[n] := List.getElem?_eq_getElem hlt
    generalize ts[n] = t at hx
    have step : ∀ r : Bool, (r = true ↔ (t.Place = 4 ∧ last < t.Stamp ∧ (best = -1 ∨ ∃ (bn : Nat) (v : Tg), best = bn ∧ ts[bn]? = some v ∧ t.Stamp < v.Stamp))) -> JOIN (fun (j25 : (Int × Unit) × (Unit) -> Heap -> Prop) => ifB r (j25 (((n : Int), ()), (())) H') (j25 ((best, ()), (())) H')) fun (y26 : (Int × Unit) × (Unit)) H7 => G2 ((y26.1.1, IntKind.wrap .i64 ((n : Int) + 1), ()), (())) H7 := fun r hr => by
     refine ifB_of (fun e => ?_) (fun e => ?_)
     ·obtain ⟨w1, w2, w3⟩ := hr.1 e
      dsimp only
      rw [i64w (by omega) (by omega)]
      refine hG2 _ _ ⟨rfl, n + 1, by simp, hlt, .inr ⟨n, t, rfl, hx, w1, w2, fun j u h1 h2 h3 h4 => ?_⟩⟩ (by simp; omega)
      by_cases ej : j = n
      ·subst ej; rw [hx] at h2; cases h2; exact Int.le_refl _
      ·rcases inv with ⟨i1, i2⟩ | ⟨bn, v, i1, i2, i3, i4, i5⟩
       ·have := i2 j u (by omega) h2 h3; omega
       ·rcases w3 with w | ⟨bn', v', q1, q2, q3⟩
        ·omega
        ·have : bn' = bn := by omega
         subst this; rw [i2] at q2; cases q2
         have := i5 j u (by omega) h2 h3 h4; omega
     ·have hnr : ¬ (t.Place = 4 ∧ last < t.Stamp ∧ (best = -1 ∨ ∃ (bn : Nat) (v : Tg), best = bn ∧ ts[bn]? = some v ∧ t.Stamp < v.Stamp)) := fun q => by
       have e : r = false := e
       rw [hr.2 q] at e; cases e
      dsimp only
      rw [i64w (by omega) (by omega)]
      refine hG2 _ _ ⟨rfl, n + 1, by simp, hlt, ?_⟩ (by simp; omega)
      rcases inv with ⟨i1, i2⟩ | ⟨bn, v, i1, i2, i3, i4, i5⟩
      ·refine .inl ⟨i1, fun j u h1 h2 h3 => ?_⟩
       by_cases ej : j = n
       ·subst ej; rw [hx] at h2; cases h2
        exact Classical.byContradiction fun q => hnr ⟨h3, by omega, .inl i1⟩
       ·exact i2 j u (by omega) h2 h3
      ·refine .inr ⟨bn, v, i1, i2, i3, i4, fun j u h1 h2 h3 h4 => ?_⟩
       by_cases ej : j = n
       ·subst ej; rw [hx] at h2; cases h2
        exact Classical.byContradiction fun q => hnr ⟨h3, h4, .inr ⟨bn, v, i1, i2, by omega⟩⟩
       ·exact i5 j u (by omega) h2 h3 h4
    refine JOIN_inv (fun (y : (Bool × Unit) × Unit) H2 => H2 = H' ∧ (y.1.1 = true ↔ (t.Place = 4 ∧ last < t.Stamp ∧ (best = -1 ∨ ∃ (bn : Nat) (v : Tg), best = bn ∧ ts[bn]? = some v ∧ t.Stamp < v.Stamp)))) (fun j4 hj4 => ?_) ?_
    ·refine idx_place hs1 rfl hx (ifE (fun e1 => idx_stamp' hs1 rfl hx (ifD (fun e2 => ?_) (fun e2 => hj4 _ _ ⟨rfl, by simp; omega⟩))) (fun e1 => hj4 _ _ ⟨rfl, by simp [e1]⟩))
     rcases inv with ⟨i1, i2⟩ | ⟨bn, v, i1, i2, i3, i4, i5⟩
     ·exact ifB_t (by simp; omega) (hj4 _ _ ⟨rfl, by simp [i1, e1]; omega⟩)
     ·refine ifB_f (by simp; omega) (idx_stamp' hs1 rfl hx (idx_stamp' hs1 i1 i2 (hj4 _ _ ⟨rfl, ?_⟩)))
      simp only [decide_eq_true_eq]
      constructor
      ·intro q; exact ⟨e1, by omega, .inr ⟨bn, v, i1, i2, q⟩⟩
      ·rintro ⟨_, _, q | ⟨bn', v', q1, q2, q3⟩⟩
       ·omega
       ·have : bn' = bn := by omega
        subst this; rw [i2] at q2; cases q2; exact q3
    ·rintro ⟨⟨r, _⟩, _⟩ H2 ⟨rfl, hr⟩
     exact step r hr
   ·have : n = ts.length := by omega
    subst this
    rcases inv with ⟨i1, i2⟩ | ⟨bn, v, i1, i2, i3, i4, i5⟩
    ·exact .inl ⟨i1, fun j t h => i2 j t (List.getElem?_eq_some_iff.1 h).1 h⟩
    ·exact .inr ⟨bn, v, i1, i2, i3, i4, fun j u h => i5 j u (List.getElem?_eq_some_iff.1 h).1 h⟩
  ·rintro ⟨⟨best, _⟩, _⟩ H' ⟨rfl, inv⟩
   dsimp only at inv ⊢
   rcases inv with ⟨i1, i2⟩ | ⟨bn, v, i1, i2, i3, i4, i5⟩
   ·refine ifB_t (by simp; omega) ?_
    have hkl : k = ol.length := by
     refine Classical.byContradiction fun q => ?_
     have hz : ol[k]? = some (ol[k]'(by omega)) := List.getElem?_eq_getElem (by omega)
     have h1 := gt k _ (Nat.le_refl _) hz
     obtain ⟨kx, t, c, e1, e2, e3, _⟩ := ot.at' _ (List.mem_of_getElem? hz)
     rw [stampAt_at e1 e2] at h1
     have := i2 kx t e2 e3; omega
    subst hkl
    rw [List.take_length] at no
    exact hq _ _ _ no
   ·have hm := ot.all bn v i2 i3
    obtain ⟨p, hp⟩ := List.mem_iff_getElem?.1 hm
    have sv : stampAt ts ((bn : Int)).toNat = v.Stamp := stampAt_at rfl i2
    have hpk : p = k := by
     rcases Nat.lt_trichotomy p k with w | w | w
     ·have := le p _ w hp; omega
     ·exact w
     ·have hpl := (List.getElem?_eq_some_iff.1 hp).1
      have hz : ol[k]? = some (ol[k]'(by omega)) := List.getElem?_eq_getElem (by omega)
      have h1 := gt k _ (Nat.le_refl _) hz
      have h2 := ot.srt k p _ _ w hz hp
      obtain ⟨kx, t, c, e1, e2, e3, _⟩ := ot.at' _ (List.mem_of_getElem? hz)
      rw [stampAt_at e1 e2] at h1 h2
      have := i5 kx t e2 e3 h1; omega
    subst hpk
    have hpl := (List.getElem?_eq_some_iff.1 hp).1
    have hbl := (List.getElem?_eq_some_iff.1 i2).1
    subst i1
    refine ifB_f (by simp) ?_
    rw [i64w (by omega) (by omega)]
    refine app_c tyI' rfl (fun _ => by simp) (m := 1) [(bn : Int) + 1] rfl rfl (by simp only [List.length_map, List.length_take, List.length_cons, List.length_nil]; omega) no.1 fun s4 H5 sp5 k1 k2 k3 => ?_
    have no5 := no.app k1 k2 k3
    refine idx_stamp' (hs.frs no5.2.2 (by simp)) rfl i2 (hj2 _ _ ⟨sp5, hpl, ?_, fun x hx => ?_⟩)
    ·rw [List.take_add_one, hp]; simpa using no5
    ·rw [hp] at hx; cases hx; exact sv.symm
 ·rintro ⟨⟨out2, last2, _⟩, _⟩ H2 ⟨sp2, hkl, no2, hl2⟩
  have hol2 : out2.len = k + 1 := by have := no2.1.1; simp at this; omega
  exact hG _ _ ⟨k + 1, sp2, hkl, no2, fun h => by omega, fun x _ hx => hl2 x hx⟩ (by simp only; omega)
theorem Rt.card (h : Rt m H b B ms a1 ts ol) {x : Int} (hx : x ∈ ol) : ∃ (k : Nat) (t : Tg) (c : Cd), x = k ∧ ts[k]? = some t ∧ t.Place = 4 ∧ 1 ≤ t.Card ∧ B[(t.Card - 1).toNat]? = some c ∧ cpI B ts x = c.ps ∧ ckI B ts x = c.g.Kind ∧ c.ps.length ≤ 4 ∧ k < 2048 := by
 obtain ⟨k, t, c, e1, e2, e3, e4, e5, e6, e7, e8⟩ := h.ot.at' x hx
 have := h.ot.len
 have hk := (List.getElem?_eq_some_iff.1 e2).1
 have hcd : cdI B ts x = some c := by subst e1; unfold cdI; rw [Int.toNat_natCast, e2]; exact e5
 exact ⟨k, t, c, e1, e2, e3, e4, e5, by unfold cpI; rw [hcd]; rfl, by unfold ckI; rw [hcd]; rfl, e8, by omega⟩
theorem rat_in (h : Rt m H b B ms a1 ts ol) {t : Tg} {c : Cd} (h1 : 1 ≤ t.Card) (hc : B[(t.Card - 1).toNat]? = some c) {Q : G_api_Card × Int × Unit -> Heap -> Prop} (hq : ∀ g H', CR H.length H' g c -> Frs [] H H' -> Q (g, 0, ()) H') : CALL P [TC, TN'] n_ref07_Book_At [.pointer (some ⟨b, 0, none⟩), .int .i64 t.Card] H Q := by
 refine rat_c h.bk h.ok (fun q => ?_) fun c' g H' _ _ hc' cr f => ?_
 ·have := (List.getElem?_eq_some_iff.1 hc).1
  rcases q with q | q | q
  ·cases q
  ·omega
  ·omega
 ·rw [hc] at hc'; cases hc'; exact hq g H' cr f
theorem runit_c (h : Rt m H b B ms a1 ts ol) {x : Int} (hx : x ∈ ol) {k : Nat} {t : Tg} (hk : x = k) (ht : ts[k]? = some t) {Q : Bool × Unit -> Heap -> Prop} (hq : ∀ H', Frs [] H H' -> Q (ckI B ts x == 1, ()) H') : CALL P [T_bool] n_ref19_unit [.pointer (some ⟨b, 0, none⟩), TT'.enc t] H Q := by
 apply c_ref19_unit
 unfold S_ref19_unit
 obtain ⟨k', t', c, e1, e2, e3, e4, e5, e6, e7, e8, e9⟩ := h.card hx
 have : k' = k := by omega
 subst this; rw [ht] at e2; cases e2
 refine rat_in h e4 e5 fun g H' cr f => JOIN_of (ifB_t (by simpa using e3) ?_)
 have hg : g.Kind = c.g.Kind := by rw [← cr.e]; rfl
 have := hq H' f
 rw [e7, ← hg] at this; exact this
theorem rmeant_c (h : Rt m H b B ms a1 ts ol) (hf : SlF TF H a2 fs) (hfe : fs.length = ts.length) {s : Sg} (hs : s.Thing - 1 ∈ ol) {x : Int} (hx : x ∈ ol) {Q : Bool × Unit -> Heap -> Prop} (hq : ∀ H', Frs [] H H' -> Q (meansB B ts fs s x, ()) H') :
  CALL P [T_bool] n_ref19_meant [.pointer (some ⟨b, 0, none⟩), a1.v, a2.v, TSt.enc s, .int .i64 (x + 1)] H Q := by
 apply c_ref19_meant
 unfold S_ref19_meant
 obtain ⟨k, t, c, e1, e2, e3, e4, e5, e6, e7, e8, e9⟩ := h.card hx
 obtain ⟨k', t', c', e1', e2', e3', e4', e5', e6', e7', e8', e9'⟩ := h.card hs
 have hk : fs[k]? = some (fs[k]'(by have := (List.getElem?_eq_some_iff.1 e2).1; omega)) := List.getElem?_eq_getElem _
 have hk' : fs[k']? = some (fs[k']'(by have := (List.getElem?_eq_some_iff.1 e2').1; omega)) := List.getElem?_eq_getElem _
 generalize (fs[k]'_) = f at hk
 generalize (fs[k']'_) = f' at hk'
 have ef : ftI fs x = f := ftI_at e1 hk
 have ef' : ftI fs (s.Thing - 1) = f' := ftI_at e1' hk'
 have w1 : IntKind.wrap .i64 (x + 1 - 1) = (k : Int) := by rw [i64w (by omega) (by omega)]; omega
 have w2 : IntKind.wrap .i64 (s.Thing - 1) = (k' : Int) := by rw [i64w (by omega) (by omega)]; omega
 unfold meansB at hq
 refine ifE (fun q => ?_) (fun q4 => ?_)
 ·rw [if_pos q] at hq
  have := hq H (.refl _ _)
  have e : (x == s.Thing - 1) = (x + 1 == s.Thing) := by rw [Bool.eq_iff_iff]; simp; omega
  rwa [e] at this
 rw [if_neg q4, ef, ef'] at hq
 rw [w1, w2]
 refine idx_ldF (T := TT') hTT' h.s rfl e2 rfl (runit_c h hx e1 e2 fun H1 f1 => ifB_of (fun q => ?_) (fun q => ?_))
 ·have : ckI B ts x ≠ 1 := by simpa using q
  rw [if_pos this] at hq; exact hq _ f1
 have : ¬ ckI B ts x ≠ 1 := by simpa using q
 rw [if_neg this] at hq
 have hf1 := hf.frs f1 (by simp)
 refine idx_ldF (T := TF) hTF hf1 rfl hk rfl (idx_hold hf1 rfl hk' (ifE (fun q => ?_) (fun q5 => ?_)))
 ·rw [if_pos q] at hq; exact hq _ f1
 rw [if_neg q5] at hq
 refine ifE (fun q => ?_) (fun q8 => ?_)
 ·rw [if_neg (by omega), if_neg (by omega), if_pos q] at hq
  have e : (x != s.Thing - 1) = (x + 1 != s.Thing) := by rw [Bool.eq_iff_iff]; simp; omega
  rw [e] at hq
  refine JOIN_of (ifE (fun q1 => ?_) (fun q1 => ?_))
  ·have : (f.Holder == f'.Holder) = true := by simpa using q1
   rw [this, Bool.true_and] at hq; exact hq _ f1
  ·have : (f.Holder == f'.Holder) = false := by simpa using q1
   rw [this, Bool.false_and] at hq; exact hq _ f1
 refine ifE (fun q => ?_) (fun q6 => ?_)
 ·rw [if_pos q] at hq; exact hq _ f1
 rw [if_neg q6] at hq
 refine ifE (fun q => ?_) (fun q7 => ?_)
 ·rw [if_pos q] at hq; exact hq _ f1
 rw [if_neg q7, if_neg q8] at hq
 refine ifE (fun q => ?_) (fun q9 => ?_)
 ·rw [if_pos q] at hq; exact hq _ f1
 rw [if_neg q9] at hq
 refine ifE (fun q => ?_) (fun q10 => ?_)
 ·rw [if_pos q] at hq; exact rhas_c (hq _ f1)
 rw [if_neg q10] at hq; exact hq _ f1
theorem rabt_c (h : Rt m H b B ms a1 ts ol) (hf : SlF TF H a2 fs) (hfe : fs.length = ts.length) {s : Sg} (hs : s.Thing - 1 ∈ ol) {Q : Sl × Unit -> Heap -> Prop} (hq : ∀ r H' sp, NewO TN' H r H' (abouts B ts fs ol s) sp -> Q (r, ()) H') :
  CALL P [T_sl] n_ref19_about [.pointer (some ⟨b, 0, none⟩), a1.v, a2.v, TSt.enc s] H Q := by
 apply c_ref19_about
 unfold S_ref19_about
 refine rorder_c h.s h.ot fun x1 H1 sp1 n1 => ?_
 have h1 := h.new n1.2.2
 have hf1 := hf.frs n1.2.2 (by simp)
 have ho := n1.1.slf
 have hol : x1.len = ol.length := by have := ho.1; simpa using this
 have few := h.ot.few
 refine JOIN_inv (fun y H' => ∃ sp, NewO TN' H1 y.1.1 H' (abouts B ts fs ol s) sp) (fun j hj => ?_) (fun y H' hh => by obtain ⟨sp, hh⟩ := hh; exact hq _ _ _ (hh.older n1.2.2))
 refine loop_of (fun (y : (Sl × Int × Unit) × Unit) H' => ∃ (n : Nat) (sp : List Int), y.1.2.1 = n ∧ n ≤ ol.length ∧ NewO TN' H1 y.1.1 H' ((ol.take n).flatMap (abouts1 B ts fs s)) sp) (fun y => ol.length - y.1.2.1.toNat) ?_ ⟨0, [], rfl, Nat.zero_le _, by simpa using NewO.nil' TN' H1⟩
 rintro G ⟨⟨out, i, _⟩, _⟩ H2 ⟨n, sp, hi, hn, no⟩ hG
 simp only at hi no; subst hi
 dsimp only at hG ⊢
 have f2 := no.2.2
 refine ifD (fun hlt => ?_) (fun hge => hj _ _ ⟨sp, ?_⟩)
 ·have hlt : n < ol.length := by omega
  have hx : ol[n]? = some ol[n] := List.getElem?_eq_getElem hlt
  have hm : ol[n] ∈ ol := List.getElem_mem hlt
  generalize ol[n] = x at hx hm
  have hx1 : (ol.map (· + 1))[n]? = some (x + 1) := by rw [List.getElem?_map, hx]; rfl
  have tk := fm_take (abouts1 B ts fs s) hx
  have ho2 := ho.frs f2 (by simp)
  refine idx_ldF (T := TN') hTN' ho2 rfl hx1 rfl (rmeant_c (h1.new f2) (hf1.frs f2 (by simp)) hfe hs hm fun H3 f3 => ?_)
  have no3 := no.new f3
  have hpre : ((ol.take n).flatMap (abouts1 B ts fs s)).length ≤ 16 := by
   have := fm_len (f := abouts1 B ts fs s) (c := 1) (l := ol.take n) fun y _ => abouts1_len B ts fs s y
   rw [List.length_take] at this; omega
  refine JOIN_inv (fun y H' => ∃ sp, NewO TN' H1 y.1.1 H' ((ol.take (n + 1)).flatMap (abouts1 B ts fs s)) sp) (fun j2 hj2 => ifB_of (fun e => ?_) (fun e => ?_)) ?_
  ·have e2 : abouts1 B ts fs s x = [x + 1] := by unfold abouts1; exact if_pos e
   refine idx_ldF (T := TN') hTN' (ho2.frs f3 (by simp)) rfl hx1 rfl (app_c tyI' rfl (fun _ => by simp) (m := 1) [x + 1] rfl rfl (by show 2 * (_ + 1) * 4096 ≤ _; omega) no3.1 fun s4 H5 sp5 k1 k2 k3 => ?_)
   exact hj2 _ _ ⟨sp5, by rw [tk, e2]; exact no3.app k1 k2 k3⟩
  ·have e2 : abouts1 B ts fs s x = [] := by
    unfold abouts1
    have e : meansB B ts fs s x = false := e
    rw [e]; rfl
   exact hj2 _ _ ⟨sp, by rw [tk, e2, List.append_nil]; exact no3⟩
  ·rintro ⟨⟨out3, _⟩, _⟩ H4 ⟨sp3, no4⟩
   dsimp only
   rw [i64w (by omega) (by omega)]
   exact hG _ _ ⟨n + 1, sp3, by simp, hlt, no4⟩ (by simp; omega)
 ·have : n = ol.length := by omega
  subst this
  rw [List.take_length] at no; exact no
theorem rdone_c {f : Ft} {p : Pt} {hd : Int} {Q : Ft × Unit -> Heap -> Prop} (hq : Q (doneF f p hd, ()) H) : CALL P [TF] n_ref19_done [TF.enc f, TP.enc p, .int .i64 hd] H Q := by
 apply c_ref19_done
 unfold S_ref19_done
 unfold doneF at hq
 refine JOIN_of (ifE (fun q => by rw [if_pos q] at hq; exact hq) (fun q1 => ?_))
 rw [if_neg q1] at hq
 refine JOIN_of (ifE (fun q => by rw [if_pos q] at hq; exact hq) (fun q2 => ?_))
 rw [if_neg q2] at hq
 refine JOIN_of (ifE (fun q => by rw [if_pos q] at hq; exact rwith_c hq) (fun q3 => ?_))
 rw [if_neg q3] at hq
 refine JOIN_of (ifE (fun q => by rw [if_pos q] at hq; exact rwout_c hq) (fun q4 => ?_))
 rw [if_neg q4] at hq
 refine JOIN_of (ifE (fun q => by rw [if_pos q] at hq; exact hq) (fun q5 => ?_))
 rw [if_neg q5] at hq
 refine JOIN_of (ifE (fun q => by rw [if_pos q] at hq; exact hq) (fun q6 => ?_))
 rw [if_neg q6] at hq; exact hq
end
end Go.Proofs.YtolekmhhkopooaaGreatDoor.Zq
end
section
namespace Go.Proofs.YtolekmhhkopooaaGreatDoor.Zq
open Zv
section
variable {H : Heap} {b m : Nat} {B : List Cd} {ms : List G_api_MarkInfo} {a1 a2 : Sl} {ts : List Tg} {fs : List Ft} {ol : List Int}
theorem NewO.ptr {T : Tag} {H0 H : Heap} {s : Sl} {l sp : List T.α} (h : NewO T H0 s H l sp) : ∀ c, s.p = some ⟨c, 0, none⟩ -> H0.length ≤ c ∧ c < H.length := fun c hc => ⟨h.2.1 c hc, h.1.lt hc⟩
theorem rapply_c (h : Rt m H b B ms a1 ts ol) (hf : SlF TF H a2 fs) (hfe : fs.length = ts.length) {s : Sg} (hs : s.Thing - 1 ∈ ol) {Q : Sl × Unit -> Heap -> Prop} (hq : ∀ r H' sp, NewO TF H r H' (applyF B ts fs ol s) sp -> Q (r, ()) H') :
  CALL P [T_sl] n_ref19_apply [.pointer (some ⟨b, 0, none⟩), a1.v, a2.v, TSt.enc s] H Q := by
 apply c_ref19_apply
 unfold S_ref19_apply
 have hlen := h.ot.len
 refine copy_g tyF rfl (fun _ => by simp) hf (by omega) fun x1 H1 sp1 n1 => ?_
 have h1 := h.new n1.2.2
 refine rabt_c h1 (hf.frs n1.2.2 (by simp)) hfe hs fun x2 H2 sp2 n2 => ?_
 obtain ⟨k', t', c', e1', e2', e3', e4', e5', e6', e7', e8', e9'⟩ := h.card hs
 have hk' : fs[k']? = some (fs[k']'(by have := (List.getElem?_eq_some_iff.1 e2').1; omega)) := List.getElem?_eq_getElem _
 generalize (fs[k']'_) = f' at hk'
 have ef' : ftI fs (s.Thing - 1) = f' := ftI_at e1' hk'
 have w2 : IntKind.wrap .i64 (s.Thing - 1) = (k' : Int) := by rw [i64w (by omega) (by omega)]; omega
 rw [w2]
 have f02 := n1.2.2.trans n2.2.2
 refine idx_hold (hf.frs f02 (by simp)) rfl hk' ?_
 have hl2 : x2.len = (abouts B ts fs ol s).length := n2.1.1
 have hmem : ∀ x ∈ abouts B ts fs ol s, ∃ k : Nat, x = (k : Int) + 1 ∧ k < fs.length := fun x hx => by
  obtain ⟨k, t, c, e1, e2, _⟩ := h.card (mem_abouts.1 hx).1
  have := (List.getElem?_eq_some_iff.1 e2).1
  exact ⟨k, by omega, by omega⟩
 have hal := abouts_len B ts fs ol s
 have few := h.ot.few
 generalize hL : abouts B ts fs ol s = L at hl2 hmem n2 hal
 have eap : applyF B ts fs ol s = L.foldl (put1 s f'.Holder) fs := by unfold applyF; rw [hL, ef']
 refine JOIN_inv (fun _ H' => NewO TF H x1 H' (L.foldl (put1 s f'.Holder) fs) sp1) (fun j hj => ?_) (fun _ H' hh => hq _ _ sp1 (by rw [eap]; exact hh))
 refine loop_of (fun (y : (Int × Unit) × Unit) H' => ∃ n : Nat, y.1.1 = n ∧ n ≤ L.length ∧ NewO TF H x1 H' ((L.take n).foldl (put1 s f'.Holder) fs) sp1 ∧ Ow TN' H' x2 L sp2) (fun y => L.length - y.1.1.toNat) ?_ ⟨0, rfl, Nat.zero_le _, by simpa using n1.new n2.2.2, n2.1⟩
 rintro G ⟨⟨i, _⟩, _⟩ H4 ⟨n, hi, hn, no, o2⟩ hG
 simp only at hi; subst hi
 dsimp only at hG ⊢
 refine ifD (fun hlt => ?_) (fun hge => hj _ _ ?_)
 ·have hlt : n < L.length := by omega
  have hx : L[n]? = some L[n] := List.getElem?_eq_getElem hlt
  obtain ⟨k, ek, hk⟩ := hmem L[n] (List.getElem_mem hlt)
  generalize L[n] = x at hx ek
  have tk := fold_take (put1 s f'.Holder) fs hx
  have hcl := fold_put_len s f'.Holder (L.take n) fs
  generalize hcur : (L.take n).foldl (put1 s f'.Holder) fs = cur at no tk hcl
  have hky : cur[k]? = some (cur[k]'(by omega)) := List.getElem?_eq_getElem (by omega)
  generalize (cur[k]'(by omega)) = g at hky
  have eg : ftI cur (x - 1) = g := ftI_at (by omega) hky
  have w3 : IntKind.wrap .i64 (x - 1) = (k : Int) := by rw [i64w (by omega) (by omega)]; omega
  refine idx_all (T := TN') hTN' o2.slf rfl hx rfl fun b10 o11 rd => rd _ o2.slf _ (idx_ldF (T := TN') hTN' o2.slf rfl hx rfl ?_)
  rw [w3]
  refine idx_ldF (T := TF) hTF no.1.slf rfl hky rfl (rdone_c (rd _ o2.slf _ ⟨rfl, ?_⟩))
  refine no.1.put (n := k) hTF (fun x => rfl) rfl (by omega) (doneF g s.What f'.Holder) rfl fun c0 H6 hc0 o6 f6 l6 => ?_
  obtain ⟨p1, p2⟩ := no.ptr _ hc0
  obtain ⟨p3, p4⟩ := n1.ptr _ hc0
  have ep : put1 s f'.Holder cur x = cur.set k (doneF g s.What f'.Holder) := by
   unfold put1
   rw [eg, show (x - 1).toNat = k by omega]
  rw [i64w (by omega) (by omega)]
  refine hG _ _ ⟨n + 1, by simp, hlt, by rw [tk, ep]; exact ⟨o6, no.2.1, no.2.2.then f6 fun d hd => by simp at hd; subst hd; exact .inr p1⟩, o2.frs f6 fun d hd e => ?_⟩ (by simp; omega)
  simp at hd; subst hd
  have := n2.2.1 _ e; omega
 ·have : n = L.length := by omega
  subst this
  rw [List.take_length] at no; exact no
end
end Go.Proofs.YtolekmhhkopooaaGreatDoor.Zq
end
section
namespace Go.Proofs.YtolekmhhkopooaaGreatDoor.Zq
open Zv
section
variable {H : Heap} {b m : Nat} {se : Bool} {B : List Cd} {ms : List G_api_MarkInfo} {a1 a2 a3 : Sl} {ts : List Tg} {fs : List Ft} {ol : List Int} {l : List Sg}
theorem eq_of_at {α : Type} {x y : List α} (hl : x.length = y.length) (h : ∀ (i : Nat) a c, i < x.length -> x[i]? = some a -> y[i]? = some c -> a = c) : x = y := by
 apply List.ext_getElem hl
 intro i h1 h2
 exact h i _ _ h1 (List.getElem?_eq_getElem h1) (List.getElem?_eq_getElem h2)
theorem rsame_c {s r : Sl} {x y : List Int} (hx : SlF TN' H s x) (hy : SlF TN' H r y) (hl : x.length ≤ 1048600) {Q : Bool × Unit -> Heap -> Prop} (hq : Q (decide (x = y), ()) H) : CALL P [T_bool] n_ref19_same [s.v, r.v] H Q := by
 apply c_ref19_same
 unfold S_ref19_same
 have h1 := hx.1
 have h2 := hy.1
 have no : ¬ x = y -> Q (false, ()) H := fun q => by have := hq; rwa [decide_eq_false q] at this
 refine ifN (fun e => no fun q => by subst q; omega) (fun e => ?_)
 have hll : x.length = y.length := by omega
 refine JOIN_inv (fun _ H' => H' = H ∧ x = y) (fun j hj => ?_) (fun _ H' hh => by obtain ⟨rfl, e⟩ := hh; rwa [decide_eq_true e] at hq)
 refine loop_of (fun (t : (Int × Unit) × Unit) H' => H' = H ∧ ∃ n : Nat, t.1.1 = n ∧ n ≤ x.length ∧ ∀ (i : Nat) a c, i < n -> x[i]? = some a -> y[i]? = some c -> a = c) (fun t => x.length - t.1.1.toNat) ?_ ⟨rfl, 0, rfl, Nat.zero_le _, fun i a c h => by omega⟩
 rintro G ⟨⟨i, _⟩, _⟩ H' ⟨rfl, n, hi, hn, inv⟩ hG
 simp only at hi; subst hi
 dsimp only at hG ⊢
 refine ifD (fun hlt => ?_) (fun hge => hj _ _ ⟨rfl, eq_of_at hll fun i a c w => inv i a c (by omega)⟩)
 have hlt : n < x.length := by omega
 have ha : x[n]? = some x[n] := List.getElem?_eq_getElem hlt
 have hc : y[n]? = some (y[n]'(by omega)) := List.getElem?_eq_getElem (by omega)
 generalize x[n] = a at ha
 generalize (y[n]'(by omega)) = c at hc
 refine idx_ldF (T := TN') hTN' hx rfl ha rfl (idx_ldF (T := TN') hTN' hy rfl hc rfl (ifN (fun q => no fun w => ?_) (fun q => ?_)))
 ·subst w; rw [ha] at hc; cases hc; exact q rfl
 ·rw [i64w (by omega) (by omega)]
  refine hG _ _ ⟨rfl, n + 1, by simp, hlt, fun i a' c' w1 w2 w3 => ?_⟩ (by simp; omega)
  by_cases e : i = n
  ·subst e; rw [ha] at w2; rw [hc] at w3; cases w2; cases w3; exact q
  ·exact inv i a' c' (by omega) w2 w3
theorem rdep_c (h : Rt m H b B ms a1 ts ol) (hf : SlF TF H a2 fs) (hfe : fs.length = ts.length) {s o : Sg} (hs : s.Thing - 1 ∈ ol) (ho : o.Thing - 1 ∈ ol) {Q : Bool × Unit -> Heap -> Prop} (hq : ∀ H', Frs [] H H' -> Q (dependsB B ts fs ol s o, ()) H') :
  CALL P [T_bool] n_ref19_depends [.pointer (some ⟨b, 0, none⟩), a1.v, a2.v, TSt.enc s, TSt.enc o] H Q := by
 apply c_ref19_depends
 unfold S_ref19_depends
 have few := h.ot.few
 have hal := abouts_len B ts fs ol s
 refine rabt_c h hf hfe hs fun x1 H1 sp1 n1 => ⟨rfl, rfl, ?_⟩
 refine rapply_c (h.new n1.2.2) (hf.frs n1.2.2 (by simp)) hfe ho fun x2 H2 sp2 n2 => ⟨rfl, ?_⟩
 have f02 := n1.2.2.trans n2.2.2
 refine rabt_c (h.new f02) n2.1.slf (by rw [applyF_len]; exact hfe) hs fun x3 H3 sp3 n3 => ?_
 refine rsame_c ((n1.new n2.2.2).new n3.2.2).1.slf n3.1.slf (by omega) ?_
 have := hq H3 (f02.trans n3.2.2)
 unfold dependsB at this
 simpa using this
theorem rahead_c' (h : Rt m H b B ms a1 ts ol) {s o : Sg} (hs : s.Thing - 1 ∈ ol) (ho : o.Thing - 1 ∈ ol) {Q : Bool × Unit -> Heap -> Prop} (hq : Q (aheadB ts s o, ()) H) : CALL P [T_bool] n_ref19_ahead [a1.v, TSt.enc s, TSt.enc o] H Q := by
 apply c_ref19_ahead
 unfold S_ref19_ahead
 obtain ⟨k, t, c, e1, e2, _, _, _, _, _, _, k1⟩ := h.card hs
 obtain ⟨k', t', c', e1', e2', _, _, _, _, _, _, k1'⟩ := h.card ho
 have w1 : IntKind.wrap .i64 (s.Thing - 1) = (k : Int) := by rw [i64w (by omega) (by omega)]; omega
 have w2 : IntKind.wrap .i64 (o.Thing - 1) = (k' : Int) := by rw [i64w (by omega) (by omega)]; omega
 rw [w1, w2]
 unfold aheadB at hq
 rw [stampAt_at e1 e2, stampAt_at e1' e2'] at hq
 refine idx_stamp' h.s rfl e2 (idx_stamp' h.s rfl e2' (JOIN_of (ifD (fun q => ?_) (fun q => ifE (fun q2 => ?_) (fun q2 => ?_)))))
 ·rw [decide_eq_true q, Bool.true_or] at hq; exact hq
 ·rw [decide_eq_false q, decide_eq_true q2, Bool.false_or, Bool.true_and] at hq; exact hq
 ·rw [decide_eq_false q, decide_eq_false q2] at hq; exact hq
theorem hangs_true {i k j : Nat} (hj : j < k) (h : (j != i && dependsB B ts fs ol (sgI l (i : Int)) (sgI l (j : Int))) = true) : hangsB B ts fs ol l i k = true := List.any_eq_true.2 ⟨j, List.mem_range.2 hj, h⟩
theorem rnext_c (h : Rt m H b B ms a1 ts ol) (hf : SlF TF H a2 fs) (hfe : fs.length = ts.length) (hl : SlF TSt H a3 l) (hll : l.length ≤ 1048600) (lv : ∀ s ∈ l, s.Thing - 1 ∈ ol) {Q : Int × Unit -> Heap -> Prop} (hq : ∀ H', Frs [] H H' -> Q (nextF B ts fs ol l, ()) H') :
  CALL P [TN'] n_ref19_next [.pointer (some ⟨b, 0, none⟩), a1.v, a2.v, a3.v] H Q := by
 apply c_ref19_next
 unfold S_ref19_next
 have h3 := hl.1
 refine JOIN_inv (fun (y : (Int × Int × Unit) × Unit) H' => Frs [] H H' ∧ y.1.1 = (nx B ts fs ol l l.length).1 ∧ y.1.2.1 = (nx B ts fs ol l l.length).2) (fun j hj => ?_) ?_
 ·refine loop_of (fun (y : (Int × Int × Int × Unit) × Unit) H' => ∃ n : Nat, y.1.2.2.1 = n ∧ n ≤ l.length ∧ Frs [] H H' ∧ y.1.1 = (nx B ts fs ol l n).1 ∧ y.1.2.1 = (nx B ts fs ol l n).2) (fun y => l.length - y.1.2.2.1.toNat) ?_ ⟨0, rfl, Nat.zero_le _, .refl _ _, rfl, rfl⟩
  rintro G ⟨⟨free, first, i, _⟩, _⟩ H1 ⟨n, hi, hn, f1, hfr, hfi⟩ hG
  simp only at hi hfr hfi; subst hi
  dsimp only at hG ⊢
  refine ifD (fun hlt => ?_) (fun hge => hj _ _ ?_)
  ·have hlt : n < l.length := by omega
   obtain ⟨r1, r2, r3, r4⟩ := nx_rng B ts fs ol l n
   rw [← hfr] at r1 r2
   rw [← hfi] at r3 r4
   have enx : nx B ts fs ol l (n + 1) = (if (!hangsB B ts fs ol l n l.length && (decide (free < 0) || aheadB ts (sgI l n) (sgI l free))) = true then (n : Int) else free, if aheadB ts (sgI l n) (sgI l first) = true then (n : Int) else first) := by
    rw [hfr, hfi]; rfl
   have hx : l[n]? = some l[n] := List.getElem?_eq_getElem hlt
   have hxm := lv _ (List.getElem_mem hlt)
   generalize l[n] = s at hx hxm
   have es : sgI l (n : Int) = s := sgI_at rfl hx
   obtain ⟨fn, hfn⟩ : ∃ fn : Nat, first = fn := ⟨first.toNat, by omega⟩
   have hfnl : fn < l.length := by omega
   have hy : l[fn]? = some l[fn] := List.getElem?_eq_getElem hfnl
   have hym := lv _ (List.getElem_mem hfnl)
   generalize l[fn] = o at hy hym
   have eo : sgI l first = o := sgI_at hfn hy
   have h1 := h.new f1
   have hf1 := hf.frs f1 (by simp)
   have hl1 := hl.frs f1 (by simp)
   rw [es, eo] at enx
   refine idx_ldF (T := TSt) hTSt hl1 rfl hx rfl (idx_ldF (T := TSt) hTSt hl1 hfn hy rfl (rahead_c' h1 hxm hym ?_))
   refine JOIN_inv (fun (y : (Int × Unit) × Unit) H' => H' = H1 ∧ y.1.1 = (if aheadB ts s o = true then (n : Int) else first)) (fun j2 hj2 => ifB_of (fun e => hj2 _ _ ⟨rfl, (if_pos e).symm⟩) (fun e => hj2 _ _ ⟨rfl, (if_neg (by have e : aheadB ts s o = false := e; rw [e]; decide)).symm⟩)) ?_
   rintro ⟨⟨first2, _⟩, _⟩ H' ⟨rfl, hf2⟩
   simp only at hf2
   dsimp only
   refine JOIN_inv (fun (y : (Bool × Unit) × Unit) H' => Frs [] H H' ∧ y.1.1 = hangsB B ts fs ol l n l.length) (fun j3 hj3 => ?_) ?_
   ·refine loop_of (fun (y : (Bool × Int × Unit) × Unit) H' => ∃ k : Nat, y.1.2.1 = k ∧ k ≤ l.length ∧ Frs [] H H' ∧ (y.1.1 = true -> hangsB B ts fs ol l n l.length = true) ∧ (y.1.1 = false -> ∀ j : Nat, j < k -> (j != n && dependsB B ts fs ol (sgI l (n : Int)) (sgI l (j : Int))) = false)) (fun y => l.length - y.1.2.1.toNat) ?_ ⟨0, rfl, Nat.zero_le _, f1, fun e => (by cases e), fun _ j h => by omega⟩
    rintro G2 ⟨⟨hg, i2, _⟩, _⟩ H4 ⟨k, hk, hkl, f4, ht, hff⟩ hG2
    simp only at hk ht hff; subst hk
    dsimp only at hG2 ⊢
    refine hJ ((k : Int) < a3.len ∧ hg = false) (fun j4 hj4 => ifD (fun e => hj4 _ (by simp; omega)) (fun e => hj4 _ (by simp; omega))) (fun q => ?_) (fun q => hj3 _ _ ⟨f4, ?_⟩)
    ·obtain ⟨q1, q2⟩ := q
     have hkl2 : k < l.length := by omega
     have hz : l[k]? = some l[k] := List.getElem?_eq_getElem hkl2
     have hzm := lv _ (List.getElem_mem hkl2)
     generalize l[k] = u at hz hzm
     have eu : sgI l (k : Int) = u := sgI_at rfl hz
     have hl4 := hl.frs f4 (by simp)
     refine JOIN_inv (fun (y : (Bool × Unit) × Unit) H' => Frs [] H H' ∧ y.1.1 = (k != n && dependsB B ts fs ol s u)) (fun j5 hj5 => ifN (fun e => ?_) (fun e => hj5 _ _ ⟨f4, ?_⟩)) ?_
     ·refine idx_ldF (T := TSt) hTSt hl4 rfl hx rfl (idx_ldF (T := TSt) hTSt hl4 rfl hz rfl (rdep_c (h.new f4) (hf.frs f4 (by simp)) hfe hxm hzm fun H5 f5 => hj5 _ _ ⟨f4.trans f5, ?_⟩))
      have : (k != n) = true := by simp; omega
      rw [this, Bool.true_and]
     ·have : (k != n) = false := by simp; omega
      rw [this, Bool.false_and]
     ·rintro ⟨⟨r, _⟩, _⟩ H5 ⟨f5, hr⟩
      simp only at hr
      dsimp only
      rw [i64w (by omega) (by omega)]
      refine hG2 _ _ ⟨k + 1, by simp, hkl2, f5, fun e => ?_, fun e j w => ?_⟩ (by simp; omega)
      ·exact hangs_true hkl2 (by rw [es, eu, ← hr]; exact e)
      ·by_cases ej : j = k
       ·subst ej; rw [es, eu, ← hr]; exact e
       ·exact hff q2 j (by omega)
    ·cases hh : hg with
     | true => exact (ht hh).symm
     | false =>
      have hkk : k = l.length := by
       have : ¬ (k : Int) < a3.len := fun w => q ⟨w, hh⟩
       omega
      symm
      refine Bool.eq_false_iff.2 fun w => ?_
      obtain ⟨j, hj, hd⟩ := List.any_eq_true.1 w
      have := hff hh j (by have := List.mem_range.1 hj; omega)
      rw [this] at hd; cases hd
   ·rintro ⟨⟨hg, _⟩, _⟩ H4 ⟨f4, hhg⟩
    simp only at hhg
    dsimp only
    have hl4 := hl.frs f4 (by simp)
    refine JOIN_inv (fun (y : (Bool × Unit) × Unit) H' => H' = H4 ∧ y.1.1 = (!hg && (decide (free < 0) || aheadB ts s (sgI l free)))) (fun j5 hj5 => ifB_of (fun e => ?_) (fun e => ?_)) ?_
    ·have e : (!hg) = true := e
     rw [e, Bool.true_and] at hj5
     refine ifD (fun e2 => hj5 _ _ ⟨rfl, by rw [decide_eq_true e2]; rfl⟩) (fun e2 => ?_)
     rw [decide_eq_false e2, Bool.false_or] at hj5
     obtain ⟨gn, hgn⟩ : ∃ gn : Nat, free = gn := ⟨free.toNat, by omega⟩
     have hgl : gn < l.length := by omega
     have hz : l[gn]? = some l[gn] := List.getElem?_eq_getElem hgl
     have hzm := lv _ (List.getElem_mem hgl)
     generalize l[gn] = u at hz hzm
     rw [sgI_at hgn hz] at hj5
     exact idx_ldF (T := TSt) hTSt hl4 rfl hx rfl (idx_ldF (T := TSt) hTSt hl4 hgn hz rfl (rahead_c' (h.new f4) hxm hzm (hj5 _ _ ⟨rfl, rfl⟩)))
    ·have e : (!hg) = false := e
     rw [e, Bool.false_and] at hj5
     exact hj5 _ _ ⟨rfl, rfl⟩
    ·rintro ⟨⟨r, _⟩, _⟩ H5 ⟨rfl, hr⟩
     simp only at hr
     dsimp only
     rw [hhg] at hr
     rw [← hr, ← hf2] at enx
     refine JOIN_inv (fun (y : (Int × Unit) × Unit) H' => H' = H5 ∧ y.1.1 = (if r = true then (n : Int) else free)) (fun j6 hj6 => ifB_of (fun e => hj6 _ _ ⟨rfl, (if_pos e).symm⟩) (fun e => hj6 _ _ ⟨rfl, (if_neg (by have e : r = false := e; rw [e]; decide)).symm⟩)) ?_
     rintro ⟨⟨fr2, _⟩, _⟩ H6 ⟨rfl, hfr2⟩
     simp only at hfr2
     dsimp only
     rw [i64w (by omega) (by omega)]
     exact hG _ _ ⟨n + 1, by simp, hlt, f4, by rw [enx, hfr2], by rw [enx]⟩ (by simp; omega)
  ·have : n = l.length := by omega
   subst this; exact ⟨f1, hfr, hfi⟩
 ·rintro ⟨⟨free, first, _⟩, _⟩ H1 ⟨f1, e1, e2⟩
  simp only at e1 e2
  dsimp only
  have := hq H1 f1
  unfold nextF at this
  rw [← e1, ← e2] at this
  exact ifD (fun q => by rwa [if_pos q] at this) (fun q => by rwa [if_neg q] at this)
end
end Go.Proofs.YtolekmhhkopooaaGreatDoor.Zq
end
section
namespace Go.Proofs.YtolekmhhkopooaaGreatDoor.Zq
open Zv
section
variable {H : Heap} {b m : Nat} {se : Bool} {B : List Cd} {ms : List G_api_MarkInfo} {a1 a2 a3 : Sl} {ts : List Tg} {fs : List Ft} {ol : List Int} {l : List Sg}
theorem exists_ord (ts : List Tg) : ∃ ol, IsOrd ts ol := by
 refine ⟨(tabI ts ts.length).mergeSort fun a c => decide (stampAt ts a.toNat ≤ stampAt ts c.toNat), List.mergeSort_perm _ _, fun i j a c hij ha hc => ?_⟩
 have hp := List.pairwise_mergeSort (le := fun a c : Int => decide (stampAt ts a.toNat ≤ stampAt ts c.toNat)) (fun a b c h1 h2 => by simp at h1 h2 ⊢; omega) (fun a c => by simp; omega) (tabI ts ts.length)
 have hi := List.getElem?_eq_some_iff.1 ha
 have hj := List.getElem?_eq_some_iff.1 hc
 have := List.pairwise_iff_getElem.1 hp i j hi.1 hj.1 hij
 rw [hi.2, hj.2] at this
 simpa using this
theorem srt_uniq {f : Int -> Int} : ∀ {l1 l2 : List Int}, l1.Pairwise (fun a c => f a < f c) -> l2.Pairwise (fun a c => f a < f c) -> (∀ x, x ∈ l1 ↔ x ∈ l2) -> l1 = l2
 | [], [], _, _, _ => rfl
 | [], c :: r, _, _, h => by have := (h c).2 (by simp); cases this
 | a :: r, [], _, _, h => by have := (h a).1 (by simp); cases this
 | a :: r, c :: q, h1, h2, h => by
  rw [List.pairwise_cons] at h1 h2
  have e : a = c := by
   refine Classical.byContradiction fun n => ?_
   rcases List.mem_cons.1 ((h a).1 (by simp)) with w | w
   ·exact n w
   ·rcases List.mem_cons.1 ((h c).2 (by simp)) with w2 | w2
    ·exact n w2.symm
    ·have := h1.1 c w2; have := h2.1 a w; omega
  subst e
  congr 1
  refine srt_uniq h1.2 h2.2 fun x => ⟨fun hx => ?_, fun hx => ?_⟩
  ·rcases List.mem_cons.1 ((h x).1 (by simp [hx])) with w | w
   ·subst w; have := h1.1 x hx; omega
   ·exact w
  ·rcases List.mem_cons.1 ((h x).2 (by simp [hx])) with w | w
   ·subst w; have := h2.1 x hx; omega
   ·exact w
theorem OrdT.uniq {l1 l2 : List Int} (h1 : OrdT B ts l1) (h2 : OrdT B ts l2) : l1 = l2 := by
 have pw : ∀ {l : List Int}, OrdT B ts l -> l.Pairwise (fun a c => stampAt ts a.toNat < stampAt ts c.toNat) := fun h => List.pairwise_iff_getElem.2 fun i j hi hj hij => h.srt i j _ _ hij (List.getElem?_eq_getElem hi) (List.getElem?_eq_getElem hj)
 refine srt_uniq (f := fun a => stampAt ts a.toNat) (pw h1) (pw h2) fun x => ⟨fun hx => ?_, fun hx => ?_⟩
 ·obtain ⟨k, t, c, e1, e2, e3, _⟩ := h1.at' x hx; subst e1; exact h2.all k t e2 e3
 ·obtain ⟨k, t, c, e1, e2, e3, _⟩ := h2.at' x hx; subst e1; exact h1.all k t e2 e3
theorem ord_of {B : List Cd} (okB : OkB B) (e : setE se B ts fs = 0) : ∃ ol, OrdT B ts ol := by
 obtain ⟨e1, e2, e3, e4⟩ := setE_ok (e := e)
 obtain ⟨ol, ho⟩ := exists_ord ts
 exact ⟨ol, ho.ordT e4 e2 okB e3⟩
theorem SlF.after {T : Tag} {H1 H2 : Heap} {out s : Sl} {l : List T.α} (h : SlF T H1 s l) (a : After out H1 H2) (ap : ∀ d off, s.p = some ⟨d, off, none⟩ -> out.p ≠ some ⟨d, 0, none⟩) : SlF T H2 s l := by
 by_cases hq : ∃ d, out.p = some ⟨d, 0, none⟩
 ·obtain ⟨d0, hd0⟩ := hq
  exact h.frs (a.frs (B := [d0]) fun d hd => by rw [hd0] at hd; cases hd; simp) fun x hx off e => by simp at hx; subst hx; exact ap _ _ e hd0
 ·exact h.frs (a.frs (B := []) fun d hd => absurd ⟨d, hd⟩ hq) (by simp)
theorem reff_c (h : Rt m H b B ms a1 ts ol) (hf : SlF TF H a2 fs) (hfe : fs.length = ts.length) {k : Int} {Q : Sl × Unit -> Heap -> Prop} (hq : ∀ s H' sp, NewO TSt H s H' (effs B ts fs ol k) sp -> Q (s, ()) H') :
  CALL P [T_sl] n_ref19_effects [.pointer (some ⟨b, 0, none⟩), a1.v, a2.v, .int .i64 k] H Q := by
 apply c_ref19_effects
 unfold S_ref19_effects
 refine rorder_c h.s h.ot fun x1 H1 sp1 n1 => ?_
 have h1 := h.new n1.2.2
 have hf1 := hf.frs n1.2.2 (by simp)
 have ho := n1.1.slf
 have hol : x1.len = ol.length := by have := ho.1; simpa using this
 have few := h.ot.few
 refine JOIN_inv (fun y H' => ∃ sp, NewO TSt H1 y.1.1 H' (effs B ts fs ol k) sp) (fun j hj => ?_) (fun y H' hh => by obtain ⟨sp, hh⟩ := hh; exact hq _ _ _ (hh.older n1.2.2))
 refine loop_of (fun (y : (Sl × Int × Unit) × Unit) H' => ∃ (n : Nat) (sp : List Sg), y.1.2.1 = n ∧ n ≤ ol.length ∧ NewO TSt H1 y.1.1 H' ((ol.take n).flatMap (effO1 B ts fs k)) sp) (fun y => ol.length - y.1.2.1.toNat) ?_ ⟨0, [], rfl, Nat.zero_le _, by simpa using NewO.nil' TSt H1⟩
 rintro G ⟨⟨out, i, _⟩, _⟩ H2 ⟨n, sp, hi, hn, no⟩ hG
 simp only at hi no; subst hi
 dsimp only at hG ⊢
 have f2 := no.2.2
 refine ifD (fun hlt => ?_) (fun hge => hj _ _ ⟨sp, ?_⟩)
 ·have hlt : n < ol.length := by omega
  have hx : ol[n]? = some ol[n] := List.getElem?_eq_getElem hlt
  have hm : ol[n] ∈ ol := List.getElem_mem hlt
  generalize ol[n] = x at hx hm
  have hx1 : (ol.map (· + 1))[n]? = some (x + 1) := by rw [List.getElem?_map, hx]; rfl
  obtain ⟨kx, t, c, ek, et, e3, e4, e5, ecp, eck, e8, k1⟩ := h.card hm
  have hfx : fs[kx]? = some (fs[kx]'(by have := (List.getElem?_eq_some_iff.1 et).1; omega)) := List.getElem?_eq_getElem _
  generalize (fs[kx]'_) = f at hfx
  have eft : ftI fs x = f := ftI_at ek hfx
  have tk := fm_take (effO1 B ts fs k) hx
  have hpre : ((ol.take n).flatMap (effO1 B ts fs k)).length ≤ 64 := by
   have := fm_len (f := effO1 B ts fs k) (c := 4) (l := ol.take n) fun y hy => by
    obtain ⟨_, _, c', _, _, _, _, _, ecp', _, e4', _⟩ := h.card (List.mem_of_mem_take hy)
    unfold effO1
    split
    ·simp
    ·have := effN_len (y + 1) k (cpI B ts y)
     rw [ecp'] at this ⊢; omega
   rw [List.length_take] at this
   omega
  have w1 : IntKind.wrap .i64 (x + 1 - 1) = (kx : Int) := by rw [i64w (by omega) (by omega)]; omega
  have ho2 := ho.frs f2 (by simp)
  refine JOIN_inv (fun y H' => ∃ sp, NewO TSt H1 y.1.1 H' ((ol.take (n + 1)).flatMap (effO1 B ts fs k)) sp) (fun j2 hj2 => ?_) ?_
  ·refine idx_ldF (T := TN') hTN' ho2 rfl hx1 rfl ?_
   rw [w1]
   refine idx_traits (hf1.frs f2 (by simp)) rfl hfx (rhas_c (ifB_of (fun hM => ?_) (fun hM => ?_)))
   ·refine hj2 _ _ ⟨sp, ?_⟩
    have : effO1 B ts fs k x = [] := by unfold effO1; rw [eft, if_pos hM]
    rw [tk, this, List.append_nil]; exact no
   ·have e1 : effO1 B ts fs k x = effN (x + 1) k c.ps := by
     unfold effO1; rw [eft, if_neg (by have hM : hasT f.Traits 6 = false := hM; rw [hM]; decide), ecp]
    rw [e1] at tk
    refine idx_ldF (T := TN') hTN' ho2 rfl hx1 rfl ?_
    rw [w1]
    refine idx_tcard ((h1.new f2).s) rfl et (rat_in (h1.new f2) e4 e5 fun g H6 cr f6 => ?_)
    have no6 := no.new f6
    have hpl := cr.p.1
    have hap : ∀ d off, g.Parts.p = some ⟨d, off, none⟩ -> out.p ≠ some ⟨d, 0, none⟩ := fun d off e e2 => by
     have := cr.lo d (by rw [e]; simp [bl])
     have := no.1.lt e2; omega
    refine JOIN_inv (fun y H' => ∃ sp, NewO TSt H1 y.1.1 H' ((ol.take (n + 1)).flatMap (effO1 B ts fs k)) sp) (fun j3 hj3 => ?_) (fun y H' h => hj2 _ _ h)
    refine loop_of (fun (y : (Sl × Int × Unit) × Unit) H' => ∃ (i : Nat) (sp : List Sg), y.1.2.1 = i ∧ i ≤ c.ps.length ∧ NewO TSt H1 y.1.1 H' ((ol.take n).flatMap (effO1 B ts fs k) ++ (c.ps.zipIdx.take i).flatMap (effN1 (x + 1) k)) sp ∧ SlF TP H' g.Parts c.ps ∧ ∀ d off, g.Parts.p = some ⟨d, off, none⟩ -> y.1.1.p ≠ some ⟨d, 0, none⟩) (fun y => c.ps.length - y.1.2.1.toNat) ?_ ⟨0, sp, rfl, Nat.zero_le _, by simpa using no6, cr.p, hap⟩
    rintro G2 ⟨⟨out2, i2, _⟩, _⟩ H7 ⟨i, sp2, hi, hin, no2, hps, hap2⟩ hG2
    simp only at hi no2 hap2; subst hi
    dsimp only at hG2 ⊢
    refine ifD (fun hlt2 => ?_) (fun hge2 => hj3 _ _ ⟨sp2, ?_⟩)
    ·have hlt2 : i < c.ps.length := by omega
     have hy : c.ps[i]? = some c.ps[i] := List.getElem?_eq_getElem hlt2
     have hz : c.ps.zipIdx[i]? = some (c.ps[i], i) := by rw [List.getElem?_zipIdx, hy]; simp
     generalize c.ps[i] = p at hy hz
     have tk2 := fm_take (effN1 (x + 1) k) hz
     have hpre2 : ((c.ps.zipIdx.take i).flatMap (effN1 (x + 1) k)).length ≤ 4 := by
      have := fm_len (f := effN1 (x + 1) k) (c := 1) (l := c.ps.zipIdx.take i) fun y _ => effN1_len _ _ y
      rw [List.length_take, List.length_zipIdx] at this
      omega
     refine JD (p.When = 5 ∧ layV p.Verb = k) (fun j4 hj4 => idx_when' hps rfl hy (ifE (fun e5 => idx_verb hps rfl hy (rlay_c (hj4 _ (by simp [e5])))) (fun e5 => hj4 _ (by simp [e5])))) ?_
     refine JOIN_inv (fun y H' => ∃ sp, NewO TSt H1 y.1.1 H' ((ol.take n).flatMap (effO1 B ts fs k) ++ (c.ps.zipIdx.take (i + 1)).flatMap (effN1 (x + 1) k)) sp ∧ SlF TP H' g.Parts c.ps ∧ ∀ d off, g.Parts.p = some ⟨d, off, none⟩ -> y.1.1.p ≠ some ⟨d, 0, none⟩) (fun j5 hj5 => ifD (fun hc => ?_) (fun hc => hj5 _ _ ⟨sp2, ?_, hps, hap2⟩)) ?_
     ·have e2 : effN1 (x + 1) k (p, i) = [⟨x + 1, i, p⟩] := by unfold effN1; rw [if_pos hc]
      refine idx_ldF (T := TN') hTN' (ho.frs no2.2.2 (by simp)) rfl hx1 rfl (idx_ldF (T := TP) hTP hps rfl hy rfl ?_)
      refine app_c tySt rfl (fun _ => by simp) (m := 1) [(⟨x + 1, i, p⟩ : Sg)] rfl rfl (by rw [List.length_append]; show 2 * (_ + 1) * 4096 ≤ _; omega) no2.1 fun s4 H8 sp5 k1 k2 k3 => ?_
      refine hj5 _ _ ⟨sp5, ?_, hps.after k3 hap2, fun d off e => ?_⟩
      ·rw [tk2, e2, ← List.append_assoc]; exact no2.app k1 k2 k3
      ·rcases k2 with q | ⟨q, _⟩
       ·dsimp only; rw [q]; exact hap2 d off e
       ·dsimp only; rw [q]; intro w
        have := slF_lt hps e
        cases w; omega
     ·have e2 : effN1 (x + 1) k (p, i) = [] := by unfold effN1; rw [if_neg hc]
      rw [tk2, e2, List.append_nil]; exact no2
     ·rintro ⟨⟨out3, _⟩, _⟩ H8 ⟨sp3, no3, hps3, hap3⟩
      dsimp only
      rw [i64w (by omega) (by omega)]
      exact hG2 _ _ ⟨i + 1, sp3, by simp, hlt2, no3, hps3, hap3⟩ (by simp; omega)
    ·have : i = c.ps.length := by omega
     subst this
     have e3 : c.ps.zipIdx.take c.ps.length = c.ps.zipIdx := by rw [← List.length_zipIdx (l := c.ps) (i := 0), List.take_length]
     rw [e3] at no2
     rw [tk]; exact no2
  ·rintro ⟨⟨out3, _⟩, _⟩ H3 ⟨sp3, no3⟩
   dsimp only
   rw [i64w (by omega) (by omega)]
   exact hG _ _ ⟨n + 1, sp3, by simp, hlt, no3⟩ (by simp; omega)
 ·have : n = ol.length := by omega
  subst this
  rw [List.take_length] at no; exact no
theorem reffects_c (h : BD m H b se B ms) (okB : OkB B) (hs : SlF TT' H a1 ts) (hf : SlF TF H a2 fs) {k : Int} {Q : Sl × Int × Unit -> Heap -> Prop}
  (q1 : ∀ H', setE se B ts fs ≠ 0 -> Frs [] H H' -> Q (⟨none, 0, 0⟩, setE se B ts fs, ()) H') (q2 : ∀ H', setE se B ts fs = 0 -> (k < 1 ∨ 5 < k) -> Frs [] H H' -> Q (⟨none, 0, 0⟩, 2, ()) H')
  (q0 : ∀ s ol H' sp, setE se B ts fs = 0 -> 1 ≤ k -> k ≤ 5 -> OrdT B ts ol -> NewO TSt H s H' (effs B ts fs ol k) sp -> Q (s, 0, ()) H') :
  CALL P [T_sl, TN'] n_ref19_Effects [.pointer (some ⟨b, 0, none⟩), a1.v, a2.v, .int .i64 k] H Q := by
 apply c_ref19_Effects
 unfold S_ref19_Effects
 refine rwrong_c h okB hs hf fun H1 f1 => ifN (fun e => q1 H1 e f1) (fun e => ?_)
 obtain ⟨e1, e2, e3, e4⟩ := setE_ok (e := e)
 obtain ⟨ol, ot⟩ := ord_of okB e
 subst e1
 refine hJ (k < 1 ∨ 5 < k) (fun j hj => ifD (fun h => hj _ (by simp; omega)) (fun h => hj _ (by simp; omega))) (fun hk => q2 _ e hk f1) (fun hk => ?_)
 exact reff_c ⟨h.new f1, okB, hs.frs f1 (by simp), ot⟩ (hf.frs f1 (by simp)) e2 fun s H2 sp no => q0 s ol H2 sp e (by omega) (by omega) ot (no.older f1)
end
end Go.Proofs.YtolekmhhkopooaaGreatDoor.Zq
end
section
namespace Go.Proofs.YtolekmhhkopooaaGreatDoor.Zq
open Zv
section
variable {H : Heap} {b m : Nat} {se : Bool} {B : List Cd} {ms : List G_api_MarkInfo} {a1 a2 a3 : Sl} {ts : List Tg} {fs : List Ft} {ol : List Int} {l : List Sg}
theorem OwJ.take {E : Env} {T : Tag} {ts : TypeId} {z : T.α} (ty : TyS E T ts z) {H : Heap} {s : Sl} {l : List T.α} (h : OwJ T H s l) {i : Int} {n : Nat} (hi : i = n) (hn : n ≤ l.length) (hp : s.p ≠ none) {k : Sl -> Prop} (hk : OwJ T H ⟨s.p, n, s.cap⟩ (l.take n) -> k ⟨s.p, n, s.cap⟩) : GENV T_sl (aSlice E ts s.v none (some (.int .i64 i)) none H) k := by
 obtain ⟨⟨ti, e, te, e1, e2, e3, e4, e5, e6, e7⟩, hn0, hT, hone⟩ := ty
 subst hi
 obtain ⟨p, m, c⟩ := s
 obtain ⟨g1, g2, g0, ⟨g3, g4, g5⟩ | ⟨d, r, g3, g4, g5, g6⟩⟩ := h
 ·exact absurd g3 hp
 ·simp only at g1 g2 g3 g5 g6 g0; subst g3
  refine ⟨⟨some ⟨d, 0, none⟩, n, c⟩, ?_, hk ⟨by simp; omega, by simp only; omega, by simp only; omega, .inr ⟨d, r, rfl, g4, by simp only; omega, by simp only; rw [← g6, List.take_take, Nat.min_eq_left (by omega)]⟩⟩⟩
  unfold aSlice
  have hex : Zq.exact H d 0 c = true := by unfold Zq.exact; rw [g4]; rfl
  simp only [e1, e2, e3, Option.bind_some, Sl.v, natOf, Option.isSome_none, Bool.false_and, Bool.false_eq_true, if_false, hex, or_true, if_true]
  rw [if_pos (by omega)]
  simp only [Option.bind_some, Int.toNat_natCast]
  rw [if_pos (by omega)]
  simp [Tag.enc, encC]
theorem Ow.pne {T : Tag} {H : Heap} {s : Sl} {l sp : List T.α} (h : Ow T H s l sp) (hl : 0 < l.length) : ∃ d, s.p = some ⟨d, 0, none⟩ := by
 obtain ⟨_, _, _, ⟨_, h4, _⟩ | ⟨c, h4, _⟩⟩ := h
 ·subst h4; simp at hl
 ·exact ⟨c, h4⟩
theorem effs_len {B : List Cd} {ts : List Tg} {ol : List Int} (ot : OrdT B ts ol) (fs : List Ft) (k : Int) : (effs B ts fs ol k).length ≤ 64 := by
 have := fm_len (f := effO1 B ts fs k) (c := 4) (l := ol) fun y hy => by
  obtain ⟨k', t, c, e1, e2, e3, e4, e5, e6, e7, e8⟩ := ot.at' y hy
  unfold effO1
  split
  ·simp
  ·have := effN_len (y + 1) k (cpI B ts y)
   have hc : cpI B ts y = c.ps := by subst e1; unfold cpI cdI; rw [Int.toNat_natCast, e2]; show ((B[(t.Card - 1).toNat]?).map (·.ps)).getD [] = _; rw [e5]; rfl
   rw [hc] at this ⊢; omega
 have := ot.few
 unfold effs; omega
theorem rall_c (h : BD m H b se B ms) (okB : OkB B) (hs : SlF TT' H a1 ts) (hf : SlF TF H a2 fs) {k : Int} {Q : Sl × Sl × Int × Unit -> Heap -> Prop}
  (q1 : ∀ H', setE se B ts fs ≠ 0 -> Frs [] H H' -> Q (⟨none, 0, 0⟩, ⟨none, 0, 0⟩, setE se B ts fs, ()) H') (q2 : ∀ H', setE se B ts fs = 0 -> (k < 1 ∨ 5 < k) -> Frs [] H H' -> Q (⟨none, 0, 0⟩, ⟨none, 0, 0⟩, 2, ()) H')
  (q0 : ∀ s r ol H' sp sr, setE se B ts fs = 0 -> 1 ≤ k -> k ≤ 5 -> OrdT B ts ol -> NewO TF H s H' (allS B ts ol fs (effs B ts fs ol k) (effs B ts fs ol k).length).1 sp -> NewO TSt H r H' (allS B ts ol fs (effs B ts fs ol k) (effs B ts fs ol k).length).2.2 sr -> (∀ d, s.p = some ⟨d, 0, none⟩ -> r.p ≠ some ⟨d, 0, none⟩) -> Q (s, r, 0, ()) H') :
  CALL P [T_sl, T_sl, TN'] n_ref19_All [.pointer (some ⟨b, 0, none⟩), a1.v, a2.v, .int .i64 k] H Q := by
 apply c_ref19_All
 unfold S_ref19_All
 refine reffects_c h okB hs hf (fun H' e f => ifB_t (by simpa using e) (q1 H' e f)) (fun H' e hk f => ifB_t rfl (q2 H' e hk f)) fun x1 ol H1 sp1 e hk1 hk5 ot n1 => ifB_f rfl ?_
 obtain ⟨e1, e2, e3, e4⟩ := setE_ok (e := e)
 subst e1
 have hel := effs_len ot fs k
 have hlv : ∀ s ∈ effs B ts fs ol k, s.Thing - 1 ∈ ol := fun s hs => (mem_effs hs).1
 have fin := q0
 generalize hL : effs B ts fs ol k = L at n1 hel hlv
 refine copy_g tyF rfl (fun _ => by simp) (hf.frs n1.2.2 (by simp)) (by omega) fun x2 H2 sp2 n2 => ?_
 have n12 := n1.new n2.2.2
 refine JOIN_inv (fun (y : (Sl × Sl × Unit) × Unit) H' => ∃ sp sr, NewO TF H y.1.1 H' (allS B ts ol fs L L.length).1 sp ∧ NewO TSt H y.1.2.1 H' (allS B ts ol fs L L.length).2.2 sr ∧ ∀ d, y.1.1.p = some ⟨d, 0, none⟩ -> y.1.2.1.p ≠ some ⟨d, 0, none⟩) (fun j hj => ?_) (fun y H' hh => by obtain ⟨sp, sr, h1, h2, h3⟩ := hh; exact fin _ _ ol _ sp sr e hk1 hk5 ot (by rw [hL]; exact h1) (by rw [hL]; exact h2) h3)
 refine loop_of (fun (y : (Sl × Sl × Sl × Unit) × Unit) H' => ∃ (n : Nat) (sl so : List Sg) (sf : List Ft), n ≤ L.length ∧ NewO TSt H y.1.1 H' (allS B ts ol fs L n).2.1 sl ∧ NewO TF H y.1.2.1 H' (allS B ts ol fs L n).1 sf ∧ NewO TSt H y.1.2.2.1 H' (allS B ts ol fs L n).2.2 so ∧ (∀ d, y.1.1.p = some ⟨d, 0, none⟩ -> y.1.2.2.1.p ≠ some ⟨d, 0, none⟩) ∧ (∀ d, y.1.2.1.p = some ⟨d, 0, none⟩ -> y.1.2.2.1.p ≠ some ⟨d, 0, none⟩)) (fun y => y.1.1.len) ?_
  ⟨0, sp1, [], sp2, Nat.zero_le _, n12, n2.older n1.2.2, (NewO.nil' TSt H2).older n12.2.2, by simp, by simp⟩
 rintro G ⟨⟨left, out, steps, _⟩, _⟩ H4 ⟨n, sl, so, sf, hn, nl, nf, ns, dl, df⟩ hG
 simp only at nl nf ns dl df
 dsimp only at hG ⊢
 obtain ⟨i1, i2, i3, i4⟩ := allS_inv B ts ol fs L n hn
 have elen : left.len = (allS B ts ol fs L n).2.1.length := nl.1.1
 have step : allS B ts ol fs L (n + 1) = (applyF B ts (allS B ts ol fs L n).1 ol (sgI (allS B ts ol fs L n).2.1 (nextF B ts (allS B ts ol fs L n).1 ol (allS B ts ol fs L n).2.1)), (allS B ts ol fs L n).2.1.eraseIdx (nextF B ts (allS B ts ol fs L n).1 ol (allS B ts ol fs L n).2.1).toNat, (allS B ts ol fs L n).2.2 ++ [sgI (allS B ts ol fs L n).2.1 (nextF B ts (allS B ts ol fs L n).1 ol (allS B ts ol fs L n).2.1)]) := rfl
 refine ifD (fun hpos => ?_) (fun hz => hj _ _ ?_)
 ·have f4 := nl.2.2
  have hnl : n < L.length := by omega
  obtain ⟨g1, g2⟩ := nextF_rng B ts (allS B ts ol fs L n).1 ol (l := (allS B ts ol fs L n).2.1) (by omega)
  generalize hcf : (allS B ts ol fs L n).1 = cf at nf i1 step g1 g2
  generalize hcl : (allS B ts ol fs L n).2.1 = cl at nl i2 i3 step elen g1 g2
  generalize hcs : (allS B ts ol fs L n).2.2 = cs at ns i4 step
  have lv : ∀ s ∈ cl, s.Thing - 1 ∈ ol := fun s hs => hlv s (i3 s hs)
  have rt4 : Rt m H4 b B ms a1 ts ol := ⟨h.new f4, okB, hs.frs f4 (by simp), ot⟩
  refine rnext_c rt4 nf.1.slf (by omega) nl.1.slf (by omega) lv fun H5 f5 => ?_
  generalize nextF B ts cf ol cl = i at step g1 g2
  obtain ⟨ni, hni⟩ : ∃ ni : Nat, i = ni := ⟨i.toNat, by omega⟩
  subst hni
  have hil : ni < cl.length := by omega
  have hx : cl[ni]? = some cl[ni] := List.getElem?_eq_getElem hil
  have hxm := lv _ (List.getElem_mem hil)
  generalize cl[ni] = s at hx hxm
  rw [sgI_at rfl hx, Int.toNat_natCast] at step
  have nl5 := nl.new f5
  have nf5 := nf.new f5
  refine idx_ldF (T := TSt) hTSt nl5.1.slf rfl hx rfl (rapply_c (rt4.new f5) nf5.1.slf (by omega) hxm fun x11 H6 sp11 n11 => ?_)
  have nl6 := nl5.new n11.2.2
  refine idx_ldF (T := TSt) hTSt nl6.1.slf rfl hx rfl ?_
  have ns6 := (ns.new f5).new n11.2.2
  refine app_c tySt rfl (fun _ => by simp) (m := 1) [s] rfl rfl (by show 2 * (_ + 1) * 4096 ≤ _; omega) ns6.1 fun x15 H7 sp15 k1 k2 k3 => ?_
  have ns7 : NewO TSt H x15 H7 (cs ++ [s]) sp15 := ns6.app k1 k2 k3
  have f47 : Frs [] H H7 := ns7.2.2
  have l7 : Ow TSt H7 left cl sl := nl6.1.after k3 dl
  have o7 : Ow TF H7 x11 (applyF B ts cf ol s) sp11 := n11.1.after k3 fun d hd e => by
   have h1 := n11.2.1 d hd
   have h2 := (ns.new f5).1.lt e; omega
  obtain ⟨dL, hdL⟩ := l7.pne (by omega)
  have hpn : left.p ≠ none := by rw [hdL]; simp
  refine l7.j.take tySt rfl (by omega) hpn fun o16 => ?_
  refine copy_g tySt rfl (fun _ => by simp) o16.slf (by rw [List.length_take]; omega) fun x17 H8 sp17 n17 => ?_
  have l8 : Ow TSt H8 left cl sl := l7.frs n17.2.2 (by simp [Sl.off])
  rw [i64w (by omega) (by omega)]
  refine l8.j.drop tySt (n := ni + 1) rfl (by omega) hpn fun x18 h18 => ?_
  refine apps_c tySt rfl (fun _ => by simp) h18 (by rw [List.length_take, List.length_drop]; omega) n17.1 fun x19 H9 sp19 k1' k2' k3' => ?_
  have n19 : NewO TSt H7 x19 H9 (cl.take ni ++ cl.drop (ni + 1)) sp19 := n17.app k1' k2' k3'
  have f79 := n19.2.2
  refine hG _ _ ⟨n + 1, sp19, sp15, sp11, hnl, ?_, ?_, ?_, fun d hd e => ?_, fun d hd e => ?_⟩ ?_
  ·rw [step]; dsimp only; rw [List.eraseIdx_eq_take_drop_succ]
   exact n19.older f47
  ·rw [step]; dsimp only
   exact ⟨o7.frs f79 (by simp [Sl.off]), fun d hd => by have := n11.2.1 d hd; have := nl5.2.2.1; omega, f47.trans f79⟩
  ·rw [step]; dsimp only
   exact ns7.new f79
  ·have := n19.2.1 d hd
   have := ns7.1.lt e; omega
  ·dsimp only at hd e
   have h1 := n11.2.1 d hd
   have h3 := n11.1.lt hd
   rcases k2 with q | ⟨q, _⟩
   ·have h2 := (ns.new f5).1.lt (q ▸ e); omega
   ·rw [q] at e; cases e; omega
  ·dsimp only
   have := n19.1.1
   rw [List.length_append, List.length_take, List.length_drop] at this
   omega
 ·have : n = L.length := by omega
  subst this
  exact ⟨sf, so, nf, ns, df⟩
end
end Go.Proofs.YtolekmhhkopooaaGreatDoor.Zq
end
section
namespace Go.Proofs.YtolekmhhkopooaaGreatDoor.Zq
open Zv
section
variable {se : Bool} {B : List Cd} {ts : List Tg} {fs : List Ft} {ol : List Int}
theorem bitI_rng (t : Int) : 0 ≤ bitI t ∧ bitI t ≤ 128 := by
 unfold bitI
 split
 ·rename_i h
  have : t = 1 ∨ t = 2 ∨ t = 3 ∨ t = 4 ∨ t = 5 ∨ t = 6 ∨ t = 7 ∨ t = 8 := by omega
  rcases this with rfl | rfl | rfl | rfl | rfl | rfl | rfl | rfl <;> decide
 ·omega
theorem bv_nat {s : Int} (h0 : 0 ≤ s) (h1 : s < 256) : (BitVec.ofInt (IntKind.bits .u16) s).toNat = s.toNat := by
 show (BitVec.ofInt 16 s).toNat = _
 rw [BitVec.toNat_ofInt]
 omega
theorem withT_rng {s : Int} (t : Int) (h0 : 0 ≤ s) (h1 : s < 256) : 0 ≤ withT s t ∧ withT s t < 256 := by
 obtain ⟨b0, b1⟩ := bitI_rng t
 unfold withT
 refine ⟨u16nn _, ?_⟩
 have e : (BitVec.ofInt (IntKind.bits .u16) s ||| BitVec.ofInt (IntKind.bits .u16) (bitI t)).toNat < 2 ^ 8 := by
  rw [BitVec.toNat_or, bv_nat h0 h1, bv_nat b0 (by omega)]
  exact Nat.or_lt_two_pow (by omega) (by omega)
 generalize (BitVec.ofInt (IntKind.bits .u16) s ||| BitVec.ofInt (IntKind.bits .u16) (bitI t)).toNat = x at e
 show (x : Int) % 65536 < 256
 omega
theorem woutT_rng {s : Int} (t : Int) (h0 : 0 ≤ s) (h1 : s < 256) : 0 ≤ woutT s t ∧ woutT s t < 256 := by
 unfold woutT
 refine ⟨u16nn _, ?_⟩
 have e : (BitVec.ofInt (IntKind.bits .u16) s &&& ~~~BitVec.ofInt (IntKind.bits .u16) (bitI t)).toNat < 256 := by
  rw [BitVec.toNat_and, bv_nat h0 h1]
  exact Nat.lt_of_le_of_lt Nat.and_le_left (by omega)
 generalize (BitVec.ofInt (IntKind.bits .u16) s &&& ~~~BitVec.ofInt (IntKind.bits .u16) (bitI t)).toNat = x at e
 show (x : Int) % 65536 < 256
 omega
theorem doneF_nn {f : Ft} (p : Pt) (h : Int) (h0 : 0 ≤ f.Traits) : 0 ≤ (doneF f p h).Traits := by
 unfold doneF
 split
 ·exact h0
 split
 ·exact h0
 split
 ·exact u16nn _
 split
 ·exact u16nn _
 split
 ·exact h0
 split
 ·exact h0
 ·exact h0
theorem doneF_ok {f : Ft} (p : Pt) {h : Int} (hh : h = 0 ∨ h = 1) (h0 : 0 ≤ f.Traits) (h1 : f.Traits < 256) (hd : f.Holder = 0 ∨ f.Holder = 1) : ((doneF f p h).Holder = 0 ∨ (doneF f p h).Holder = 1) ∧ (doneF f p h).Traits < 256 := by
 unfold doneF
 split
 ·exact ⟨hh, h1⟩
 split
 ·exact ⟨hd, h1⟩
 split
 ·exact ⟨hd, (withT_rng _ h0 h1).2⟩
 split
 ·exact ⟨hd, (woutT_rng _ h0 h1).2⟩
 split
 ·exact ⟨hd, h1⟩
 split
 ·exact ⟨hd, h1⟩
 ·exact ⟨hd, h1⟩
structure FtJ (ts : List Tg) (out : List Ft) : Prop where
 len : out.length = ts.length
 nn : ∀ f ∈ out, 0 ≤ f.Traits
 ok : ∀ (i : Nat) t f, ts[i]? = some t -> out[i]? = some f -> t.Place = 4 -> (f.Holder = 0 ∨ f.Holder = 1) ∧ f.Traits < 256
theorem Tog.j (tog : Tog B ts fs) (hfe : fs.length = ts.length) (nn : ∀ f ∈ fs, 0 ≤ f.Traits) : FtJ ts fs :=
 ⟨hfe, nn, fun i t f h1 h2 h3 => by obtain ⟨c, _, _, _, _, _, w⟩ := tog.all i t f h1 h2; exact ⟨(w h3).2.2.1, (w h3).2.2.2⟩⟩
theorem FtJ.tog {out : List Ft} (j : FtJ ts out) (tog : Tog B ts fs) (hfe : fs.length = ts.length) : Tog B ts out := by
 refine ⟨fun i t f h1 h2 => ?_, tog.few, tog.dst⟩
 have hi := (List.getElem?_eq_some_iff.1 h1).1
 obtain ⟨c, w1, w2, w3, w4, w5, w⟩ := tog.all i t _ h1 (List.getElem?_eq_getElem (by omega))
 exact ⟨c, w1, w2, w3, w4, w5, fun h4 => ⟨(w h4).1, (w h4).2.1, (j.ok i t f h1 h2 h4).1, (j.ok i t f h1 h2 h4).2⟩⟩
theorem FtJ.put {out : List Ft} (j : FtJ ts out) (s : Sg) {h : Int} (hh : h = 0 ∨ h = 1) {n : Int} {k : Nat} {t : Tg} (hk : n = (k : Int) + 1) (ht : ts[k]? = some t) (hp : t.Place = 4) : FtJ ts (put1 s h out n) := by
 have hkl := (List.getElem?_eq_some_iff.1 ht).1
 have hl := j.len
 have hx : out[k]? = some (out[k]'(by omega)) := List.getElem?_eq_getElem (by omega)
 have hm : out[k]'(by omega) ∈ out := List.getElem_mem (by omega)
 generalize (out[k]'(by omega)) = f at hx hm
 have ef : ftI out (n - 1) = f := ftI_at (by omega) hx
 have e : put1 s h out n = out.set k (doneF f s.What h) := by unfold put1; rw [ef, show (n - 1).toNat = k by omega]
 rw [e]
 obtain ⟨o1, o2⟩ := j.ok k t f ht hx hp
 refine ⟨by simpa using hl, fun g hg => ?_, fun i u g h1 h2 h3 => ?_⟩
 ·rcases List.mem_or_eq_of_mem_set hg with w | rfl
  ·exact j.nn g w
  ·exact doneF_nn _ _ (j.nn f hm)
 ·by_cases ei : i = k
  ·subst ei
   rw [List.getElem?_set_self (by omega)] at h2
   cases h2
   exact doneF_ok _ hh (j.nn f hm) o2 o1
  ·rw [List.getElem?_set_ne (fun q => ei q.symm)] at h2
   exact j.ok i u g h1 h2 h3
theorem FtJ.apply (ot : OrdT B ts ol) (j : FtJ ts fs) {s : Sg} (hs : s.Thing - 1 ∈ ol) : FtJ ts (applyF B ts fs ol s) := by
 obtain ⟨k, t, c, e1, e2, e3, _⟩ := ot.at' _ hs
 have hkl := (List.getElem?_eq_some_iff.1 e2).1
 have hl := j.len
 have hx : fs[k]? = some (fs[k]'(by omega)) := List.getElem?_eq_getElem (by omega)
 have hh := (j.ok k t _ e2 hx e3).1
 rw [← ftI_at e1 hx] at hh
 unfold applyF
 generalize (ftI fs (s.Thing - 1)).Holder = h at hh
 have : ∀ (L : List Int) (out : List Ft), (∀ x ∈ L, x - 1 ∈ ol) -> FtJ ts out -> FtJ ts (L.foldl (put1 s h) out) := by
  intro L
  induction L with
  | nil => intro out _ j; exact j
  | cons x r ih =>
   intro out hL j
   obtain ⟨k, t, c, e1, e2, e3, _⟩ := ot.at' _ (hL x (by simp))
   exact ih _ (fun y hy => hL y (by simp [hy])) (j.put s hh (k := k) (by omega) e2 e3)
 exact this _ fs (fun x hx => (mem_abouts.1 hx).1) j
theorem FtJ.all (ot : OrdT B ts ol) (j : FtJ ts fs) {l : List Sg} (lv : ∀ s ∈ l, s.Thing - 1 ∈ ol) : ∀ n, n ≤ l.length -> FtJ ts (allS B ts ol fs l n).1
 | 0, _ => j
 | n + 1, hn => by
  obtain ⟨i1, i2, i3, i4⟩ := allS_inv B ts ol fs l n (by omega)
  have hr := nextF_rng B ts (allS B ts ol fs l n).1 ol (l := (allS B ts ol fs l n).2.1) (by omega)
  have ih := FtJ.all ot j lv n (by omega)
  unfold allS
  refine ih.apply ot (lv _ (i3 _ ?_))
  unfold sgI
  rw [List.getElem?_eq_getElem (by omega)]
  exact List.getElem_mem _
theorem FtJ.setE {out : List Ft} (j : FtJ ts out) (e : setE se B ts fs = 0) : setE se B ts out = 0 := by
 obtain ⟨e1, e2, e3, e4⟩ := setE_ok (e := e)
 refine (setE_0 (by omega) (fun q => ?_)).1 (j.tog e4 e2)
 rcases q with q | q
 ·rw [e1] at q; cases q
 ·exact q j.len
end
end Go.Proofs.YtolekmhhkopooaaGreatDoor.Zq
end
section
namespace Go.Proofs.YtolekmhhkopooaaGreatDoor.Zq
open Zv
section
variable {H : Heap} {b m : Nat} {se : Bool} {B : List Cd} {ms : List G_api_MarkInfo} {a1 a2 a3 : Sl} {ts : List Tg} {fs : List Ft} {ol : List Int} {l : List Sg}
abbrev zF : Ft := ⟨0, 0, 0, 0, 0⟩
def cdT (B : List Cd) (t : Tg) : Option Cd := if 1 ≤ t.Card then B[(t.Card - 1).toNat]? else none
def prT (B : List Cd) (t : Tg) : Ft := match cdT B t with | some c => ⟨t.Owner, c.g.Suit, c.g.Traits, c.g.Power, c.g.Health⟩ | none => zF
def prF (B : List Cd) (t : Tg) : Ft := if t.Place = 4 then prT B t else zF
def prOk (B : List Cd) (t : Tg) : Prop := (∃ c, cdT B t = some c) ∧ (t.Owner = 0 ∨ t.Owner = 1)
theorem cdT_some {t : Tg} {c : Cd} (h1 : 1 ≤ t.Card) (h2 : B[(t.Card - 1).toNat]? = some c) : cdT B t = some c := by unfold cdT; rw [if_pos h1]; exact h2
theorem cdT_none {t : Tg} (h : t.Card < 1 ∨ (B.length : Int) < t.Card) : cdT B t = none := by
 unfold cdT
 split
 ·rw [List.getElem?_eq_none_iff]; omega
 ·rfl
theorem r18pr_c (h : BD m H b true B ms) (okB : OkB B) {t : Tg} {Q : Ft × Int × Unit -> Heap -> Prop} (q1 : ∀ f e H', e ≠ 0 -> ¬ prOk B t -> Frs [] H H' -> Q (f, e, ()) H') (q0 : ∀ H', prOk B t -> Frs [] H H' -> Q (prT B t, 0, ()) H') : CALL P [TF, TN'] n_ref18_Printed [.pointer (some ⟨b, 0, none⟩), TT'.enc t] H Q := by
 apply c_ref18_Printed
 unfold S_ref18_Printed
 refine rcard18_c h okB (fun q => ifB_t rfl (q1 _ _ _ (by decide) (fun k => ?_) (.refl _ _))) (fun c g H' _ h1 hc cr f => ifB_f rfl ?_)
 ·obtain ⟨⟨c, k⟩, _⟩ := k
  rw [cdT_none (by rcases q with q | q; exact (by cases q); exact q)] at k; cases k
 ·have hcd := cdT_some h1 hc
  refine hJ (t.Owner ≠ 0 ∧ t.Owner ≠ 1) (fun j hj => ifN (fun e => hj _ (by simp; omega)) (fun e => hj _ (by simp; omega))) (fun q => q1 _ _ _ (by decide) (fun k => by have := k.2; omega) f) (fun q => ?_)
  have := q0 H' ⟨⟨c, hcd⟩, by omega⟩ f
  unfold prT at this
  rw [hcd] at this
  have e : c.g = bare g := cr.e.symm
  simp only [e] at this
  exact this
theorem r20pr_c (h : BD m H b true B ms) (okB : OkB B) (hs : SlF TT' H a1 ts) (hlen : ts.length ≤ 2048) {Q : Sl × Bool × Unit -> Heap -> Prop} (q1 : ∀ s H', ¬ (∀ t ∈ ts, prOk B t) -> Frs [] H H' -> Q (s, false, ()) H') (q0 : ∀ s H' sp, (∀ t ∈ ts, prOk B t) -> NewO TF H s H' (ts.map (prF B)) sp -> Q (s, true, ()) H') : CALL P [T_sl, T_bool] n_ref20_Printed [.pointer (some ⟨b, 0, none⟩), a1.v] H Q := by
 apply c_ref20_Printed
 unfold S_ref20_Printed
 have hsl := hs.1
 refine make_c tyF (n := ts.length) (m := ts.length) (by rw [hsl]) (by rw [hsl]) (Nat.le_refl _) (by omega) fun s1 e1 n1 => ?_
 have p1 : s1.p = some ⟨H.length, 0, none⟩ := by rw [e1]
 have n1' : NewO TF H s1 (mk H (fl TF (List.replicate ts.length zF)) TF.n false) (List.replicate ts.length zF) [] := by simpa using n1
 generalize mk H (fl TF (List.replicate ts.length zF)) TF.n false = H1 at n1'
 refine JOIN_inv (fun _ H' => (∀ t ∈ ts, prOk B t) ∧ NewO TF H s1 H' (ts.map (prF B)) []) (fun j hj => ?_) (fun _ H' hh => q0 _ _ _ hh.1 hh.2)
 refine loop_of (fun (y : (Int × Unit) × Unit) H' => ∃ (n : Nat) (cur : List Ft), y.1.1 = n ∧ n ≤ ts.length ∧ NewO TF H s1 H' cur [] ∧ cur.length = ts.length ∧ (∀ (i : Nat) t, i < n -> ts[i]? = some t -> cur[i]? = some (prF B t) ∧ prOk B t) ∧ (∀ i : Nat, n ≤ i -> i < ts.length -> cur[i]? = some zF)) (fun y => ts.length - y.1.1.toNat) ?_
  ⟨0, _, rfl, Nat.zero_le _, n1', by simp, fun i t h => by omega, fun i _ hi => by rw [List.getElem?_replicate, if_pos hi]⟩
 rintro G ⟨⟨i, _⟩, _⟩ H2 ⟨n, cur, hi, hn, no, hcl, h1, h2⟩ hG
 simp only at hi; subst hi
 dsimp only at hG ⊢
 have f2 := no.2.2
 refine ifD (fun hlt => ?_) (fun hge => hj _ _ ?_)
 ·have hlt : n < ts.length := by omega
  have hx : ts[n]? = some ts[n] := List.getElem?_eq_getElem hlt
  have hm : ts[n] ∈ ts := List.getElem_mem hlt
  generalize ts[n] = t at hx hm
  have hs2 := hs.frs f2 (by simp)
  refine idx_ldF (T := TT') hTT' hs2 rfl hx rfl ?_
  refine r18pr_c (h.new f2) okB (fun f e H3 he nk f3 => ?_) fun H3 hok f3 => ifB_f rfl ?_
  ·exact ifB_t (by simpa using he) (q1 _ _ (fun k => nk (k t hm)) (f2.trans f3))
  have no3 := no.new f3
  refine idx_place (hs2.frs f3 (by simp)) rfl hx ?_
  refine JOIN_inv (fun _ H' => ∃ cur', NewO TF H s1 H' cur' [] ∧ cur'.length = ts.length ∧ (∀ (i : Nat) u, i < n + 1 -> ts[i]? = some u -> cur'[i]? = some (prF B u) ∧ prOk B u) ∧ (∀ i : Nat, n + 1 ≤ i -> i < ts.length -> cur'[i]? = some zF)) (fun j2 hj2 => ifE (fun e4 => ?_) (fun e4 => hj2 _ _ ⟨cur, no3, hcl, fun i u w1 w2 => ?_, fun i w1 w2 => h2 i (by omega) w2⟩)) ?_
  ·refine no3.1.put (n := n) hTF (fun x => rfl) rfl (by omega) (prT B t) rfl fun c0 H6 hc0 o6 f6 l6 => ?_
   rw [p1] at hc0; cases hc0
   have ep : prF B t = prT B t := by unfold prF; rw [if_pos e4]
   refine hj2 _ _ ⟨cur.set n (prT B t), ⟨o6, no3.2.1, no3.2.2.then f6 fun d hd => by simp at hd; subst hd; exact .inr (Nat.le_refl _)⟩, by simpa using hcl, fun i u w1 w2 => ?_, fun i w1 w2 => ?_⟩
   ·by_cases ei : i = n
    ·subst ei; rw [hx] at w2; cases w2
     rw [List.getElem?_set_self (by omega), ep]; exact ⟨rfl, hok⟩
    ·rw [List.getElem?_set_ne (fun q => ei q.symm)]; exact h1 i u (by omega) w2
   ·rw [List.getElem?_set_ne (by omega)]; exact h2 i (by omega) w2
  ·by_cases ei : i = n
   ·subst ei; rw [hx] at w2; cases w2
    have ep : prF B t = zF := by unfold prF; rw [if_neg e4]
    rw [ep]; exact ⟨h2 i (Nat.le_refl _) hlt, hok⟩
   ·exact h1 i u (by omega) w2
  ·rintro _ H4 ⟨cur', no4, c1, c2, c3⟩
   rw [i64w (by omega) (by omega)]
   exact hG _ _ ⟨n + 1, cur', by simp, hlt, no4, c1, c2, c3⟩ (by simp; omega)
 ·have : n = ts.length := by omega
  subst this
  have ec : cur = ts.map (prF B) := by
   refine eq_of_at (by simpa using hcl) fun i a c w1 w2 w3 => ?_
   have hit : ts[i]? = some (ts[i]'(by omega)) := List.getElem?_eq_getElem (by omega)
   have := (h1 i _ (by omega) hit).1
   rw [List.getElem?_map, hit] at w3
   rw [this] at w2
   simp at w3
   cases w2; exact w3
  subst ec
  refine ⟨fun t ht => ?_, no⟩
  obtain ⟨i, hi⟩ := List.mem_iff_getElem?.1 ht
  exact (h1 i t (List.getElem?_eq_some_iff.1 hi).1 hi).2
def mkI (k : Int × Int × Int × Int) : Nat -> Int
 | 0 => k.1
 | 1 => k.2.1
 | 2 => k.2.2.1
 | _ => k.2.2.2
def mksOk (k : Int × Int × Int × Int) : Prop := ∀ n : Nat, n < 4 -> 0 ≤ mkI k n ∧ mkI k n ≤ 99
def mStep (ms : List G_api_MarkInfo) (k : Int × Int × Int × Int) (f : Ft) (n : Nat) : Ft :=
 match ms[n + 1]? with
 | some x => if x.Mark = 0 then f else { f with Power := IntKind.wrap .i64 (f.Power + IntKind.wrap .i64 (mkI k n * x.Power)), Health := IntKind.wrap .i64 (f.Health + IntKind.wrap .i64 (mkI k n * x.Health)) }
 | none => f
def markS (ms : List G_api_MarkInfo) (k : Int × Int × Int × Int) (f : Ft) : Nat -> Ft
 | 0 => f
 | n + 1 => mStep ms k (markS ms k f n) n
def markF (ms : List G_api_MarkInfo) (k : Int × Int × Int × Int) (f : Ft) : Ft := if (markS ms k f 4).Power < 0 then { markS ms k f 4 with Power := 0 } else markS ms k f 4
theorem markS_tr (ms : List G_api_MarkInfo) (k : Int × Int × Int × Int) (f : Ft) : ∀ n, (markS ms k f n).Traits = f.Traits
 | 0 => rfl
 | n + 1 => by
  have := markS_tr ms k f n
  show (mStep ms k (markS ms k f n) n).Traits = _
  unfold mStep
  split
  ·split
   ·exact this
   ·exact this
  ·exact this
theorem markF_tr (ms : List G_api_MarkInfo) (k : Int × Int × Int × Int) (f : Ft) : (markF ms k f).Traits = f.Traits := by
 unfold markF
 split
 ·exact markS_tr ms k f 4
 ·exact markS_tr ms k f 4
theorem RW.ld_mi {s : Sl} {ns : List ByteArray} (h : RW H b se s ns ms) {i : Nat} {x : G_api_MarkInfo} (hx : ms[i]? = some x) {o : Nat} (ho : o = 12 + i * 4) {K : G_api_MarkInfo -> Prop} (hk : K x) : LD TM H b o K := by
 obtain ⟨sz, r⟩ := h.row
 obtain ⟨e1, e2⟩ := h.mcut hx
 exact LD_of (T := TM) x _ _ r e1 (by rw [e2, ho]) rfl hk
theorem rmarkof_c (h : BD m H b se B ms) {n : Nat} (hn : n < 4) {Q : G_api_MarkInfo × Bool × Unit -> Heap -> Prop} (hq : ∀ x y, ms[n + 1]? = some x -> (x.Mark ≠ 0 -> y = x) -> Q (y, decide (x.Mark ≠ 0), ()) H) : CALL P [TM, T_bool] n_ref07_Book_MarkOf [.pointer (some ⟨b, 0, none⟩), .int .u8 ((n : Int) + 1)] H Q := by
 apply c_ref07_Book_MarkOf
 unfold S_ref07_Book_MarkOf
 obtain ⟨⟨s, gs, ns, w, hsl, slo, hc⟩, few, lt, ml⟩ := id h
 have hm5 := w.m
 have hx : ms[n + 1]? = some (ms[n + 1]'(by omega)) := List.getElem?_eq_getElem (by omega)
 generalize (ms[n + 1]'(by omega)) = x at hx
 have hin : ∀ {K : Prop}, K -> IDXA 5 ((n : Int) + 1) K := fun k => ⟨⟨by omega, by omega⟩, k⟩
 refine hJ (x.Mark = 0) (fun j hj => rnone_b h (ifB_f rfl (ifB_f (by simp; omega) (ifB_f (by simp; omega) (hin (w.ld_mark hx (by omega) (hj _ (by simp)))))))) (fun e => ?_) (fun e => hin (w.ld_mi hx (by omega) ?_))
 ·have := hq x ⟨0, ByteArray.mk #[], 0, 0⟩ hx (fun q => absurd e q)
  rwa [decide_eq_false (by simpa using e)] at this
 ·have := hq x x hx (fun _ => rfl)
  rwa [decide_eq_true e] at this
theorem r18mk_c (h : BD m H b se B ms) {f : Ft} {k : Int × Int × Int × Int} {Q : Ft × Int × Unit -> Heap -> Prop} (q1 : ∀ H', ¬ mksOk k -> Frs [] H H' -> Q (zF, 2, ()) H') (q0 : ∀ H', mksOk k -> Frs [] H H' -> Q (markF ms k f, 0, ()) H') : CALL P [TF, TN'] n_ref18_Marked [.pointer (some ⟨b, 0, none⟩), TF.enc f, T_arr4_T_int_i64.enc k] H Q := by
 apply c_ref18_Marked
 unfold S_ref18_Marked
 unfold NEW
 obtain ⟨r1, f1, l1⟩ := row1 H [(.int .i64 k.1), (.int .i64 k.2.1), (.int .i64 k.2.2.1), (.int .i64 k.2.2.2)] 4
 generalize mk H [(.int .i64 k.1), (.int .i64 k.2.1), (.int .i64 k.2.2.1), (.int .i64 k.2.2.2)] 4 false = H1 at r1 f1 l1
 have ld : ∀ (n : Nat) {K : Int -> Prop}, n < 4 -> K (mkI k n) -> LD TN' H1 H.length (0 + (n : Int).toNat * 1) K := fun n K hn hk => by
  have : n = 0 ∨ n = 1 ∨ n = 2 ∨ n = 3 := by omega
  rcases this with rfl | rfl | rfl | rfl
  ·exact LD_of (T := TN') k.1 [] [(.int .i64 k.2.1), (.int .i64 k.2.2.1), (.int .i64 k.2.2.2)] r1 rfl rfl rfl hk
  ·exact LD_of (T := TN') k.2.1 [(.int .i64 k.1)] [(.int .i64 k.2.2.1), (.int .i64 k.2.2.2)] r1 rfl rfl rfl hk
  ·exact LD_of (T := TN') k.2.2.1 [(.int .i64 k.1), (.int .i64 k.2.1)] [(.int .i64 k.2.2.2)] r1 rfl rfl rfl hk
  ·exact LD_of (T := TN') k.2.2.2 [(.int .i64 k.1), (.int .i64 k.2.1), (.int .i64 k.2.2.1)] [] r1 rfl rfl rfl hk
 have hin : ∀ {n : Nat} {K : Prop}, n < 4 -> K -> IDXA 4 (n : Int) K := fun hn k => ⟨⟨by omega, by omega⟩, k⟩
 have h1 := h.new f1
 refine rnone_b h1 (ifB_f rfl ?_)
 refine JOIN_inv (fun _ H' => H' = H1 ∧ mksOk k) (fun j hj => ?_) ?_
 ·refine loop_of (fun (y : (Int × Unit) × (Ft × Unit)) H' => H' = H1 ∧ ∃ n : Nat, y.1.1 = n ∧ n ≤ 4 ∧ ∀ i : Nat, i < n -> 0 ≤ mkI k i ∧ mkI k i ≤ 99) (fun y => 4 - y.1.1.toNat) ?_ ⟨rfl, 0, rfl, by omega, fun i h => by omega⟩
  rintro G ⟨⟨i, _⟩, g, _⟩ H' ⟨rfl, n, hi, hn, inv⟩ hG
  simp only at hi; subst hi
  dsimp only at hG ⊢
  refine ifD (fun hlt => ?_) (fun hge => hj _ _ ⟨rfl, fun i w => inv i (by omega)⟩)
  have hlt : n < 4 := by omega
  refine hJ (¬ (0 ≤ mkI k n ∧ mkI k n ≤ 99)) (fun j2 hj2 => hin hlt (ld n hlt (ifD (fun e => hj2 _ (by simp; omega)) (fun e => hin hlt (ld n hlt (hj2 _ (by simp; omega))))))) (fun q => q1 _ (fun w => q (w n hlt)) f1) (fun q => ?_)
  rw [i64w (by omega) (by omega)]
  refine hG _ _ ⟨rfl, n + 1, by simp, hlt, fun i w => ?_⟩ (by simp; omega)
  by_cases e : i = n
  ·subst e; exact Classical.byContradiction q
  ·exact inv i (by omega)
 rintro _ H' ⟨rfl, hok⟩
 refine JOIN_inv (fun (y : Unit × (Ft × Unit)) H'' => H'' = H' ∧ y.2.1 = markS ms k f 4) (fun j hj => ?_) ?_
 ·refine loop_of (fun (y : (Int × Unit) × (Ft × Unit)) H'' => H'' = H' ∧ ∃ n : Nat, y.1.1 = n ∧ n ≤ 4 ∧ y.2.1 = markS ms k f n) (fun y => 4 - y.1.1.toNat) ?_ ⟨rfl, 0, rfl, by omega, rfl⟩
  rintro G ⟨⟨i, _⟩, g, _⟩ H'' ⟨rfl, n, hi, hn, inv⟩ hG
  simp only at hi inv; subst hi
  dsimp only at hG ⊢
  refine ifD (fun hlt => ?_) (fun hge => hj _ _ ⟨rfl, by have : n = 4 := (by omega); subst this; exact inv⟩)
  have hlt : n < 4 := by omega
  have ew : IntKind.wrap .u8 (IntKind.wrap .i64 ((n : Int) + 1)) = (n : Int) + 1 := by
   rw [i64w (by omega) (by omega)]
   show ((n : Int) + 1) % 256 = _; omega
  rw [ew]
  refine rmarkof_c h1 hlt fun x y hx hy => ?_
  have est : markS ms k f (n + 1) = if x.Mark = 0 then g else { g with Power := IntKind.wrap .i64 (g.Power + IntKind.wrap .i64 (mkI k n * x.Power)), Health := IntKind.wrap .i64 (g.Health + IntKind.wrap .i64 (mkI k n * x.Health)) } := by
   show mStep ms k (markS ms k f n) n = _
   unfold mStep
   rw [hx, ← inv]
  refine JOIN_inv (fun (y : Unit × (Ft × Unit)) H2 => H2 = H'' ∧ y.2.1 = markS ms k f (n + 1)) (fun j2 hj2 => ifD (fun e => ?_) (fun e => hj2 _ _ ⟨rfl, by rw [est, if_pos (by simpa using e)]⟩)) ?_
  ·have := hy e; subst this
   exact hin hlt (ld n hlt (hin hlt (ld n hlt (hj2 _ _ ⟨rfl, by rw [est, if_neg e]⟩))))
  ·rintro ⟨_, g2, _⟩ H2 ⟨rfl, hg2⟩
   dsimp only
   rw [i64w (by omega) (by omega)]
   exact hG _ _ ⟨rfl, n + 1, by simp, hlt, hg2⟩ (by simp; omega)
 rintro ⟨_, g, _⟩ H'' ⟨rfl, hg⟩
 simp only at hg; subst hg
 dsimp only
 have := q0 _ hok f1
 unfold markF at this
 exact JOIN_of (ifD (fun e => by rwa [if_pos e] at this) (fun e => by rwa [if_neg e] at this))
end
end Go.Proofs.YtolekmhhkopooaaGreatDoor.Zq
end
section
namespace Go.Proofs.YtolekmhhkopooaaGreatDoor.Zq
open Zv
section
variable {H : Heap} {b m : Nat} {se : Bool} {B : List Cd} {ms : List G_api_MarkInfo} {a1 a2 a3 : Sl} {ts : List Tg} {fs : List Ft} {ol : List Int} {l : List Sg}
def mksAll (ts : List Tg) : Prop := ∀ t ∈ ts, t.Place = 4 -> mksOk t.Marks
def prL (B : List Cd) (ts : List Tg) : List Ft := ts.map (prF B)
open Classical in
noncomputable def startE (se : Bool) (B : List Cd) (ts : List Tg) : Int :=
 if 2048 < ts.length then 3 else if se = false then 2 else if ¬ ∀ t ∈ ts, prOk B t then 2 else if setE se B ts (prL B ts) ≠ 0 then setE se B ts (prL B ts) else if ¬ mksAll ts then 2 else 0
open Classical in
noncomputable def mkT (ms : List G_api_MarkInfo) (t : Tg) (f : Ft) : Ft := if t.Place = 4 ∧ mksOk t.Marks then markF ms t.Marks f else zF
noncomputable def mkdL (ms : List G_api_MarkInfo) (ts : List Tg) (fs : List Ft) : List Ft := List.zipWith (mkT ms) ts fs
def behL (B : List Cd) (ts : List Tg) (ol : List Int) : Nat -> List Ft
 | 0 => prL B ts
 | n + 1 => (allS B ts ol (behL B ts ol n) (effs B ts (behL B ts ol n) ol ((n : Int) + 1)) (effs B ts (behL B ts ol n) ol ((n : Int) + 1)).length).1
theorem prF_nn (og : OkR B) (t : Tg) : 0 ≤ (prF B t).Traits := by
 unfold prF
 split
 ·unfold prT
  split
  ·rename_i c hc
   unfold cdT at hc
   split at hc
   ·exact (og c (List.mem_of_getElem? hc)).1.t.1
   ·cases hc
  ·exact Int.le_refl _
 ·exact Int.le_refl _
theorem behL_j (og : OkR B) (e : setE se B ts (prL B ts) = 0) (ot : OrdT B ts ol) : ∀ n, FtJ ts (behL B ts ol n)
 | 0 => by
  obtain ⟨e1, e2, e3, e4⟩ := setE_ok (e := e)
  exact e4.j e2 fun f hf => by
   obtain ⟨t, _, rfl⟩ := List.mem_map.1 hf
   exact prF_nn og t
 | n + 1 => FtJ.all ot (behL_j og e ot n) (fun s hs => (mem_effs hs).1) _ (Nat.le_refl _)
theorem idx_mark {s : Sl} {l : List Tg} (h : SlF TT' H s l) {i : Int} {n : Nat} {x : Tg} (hi : i = n) (hx : l[n]? = some x) {k : Nat} (hk : k < 4) {K : Int -> Prop} (hK : K (mkI x.Marks k)) : IDX s.p s.len i 11 fun b o => IDXA 4 (k : Int) (LD TN' H b (o + 5 + (k : Int).toNat * 1) K) := by
 have : k = 0 ∨ k = 1 ∨ k = 2 ∨ k = 3 := by omega
 have key : IDX s.p s.len i 11 fun b o => LD TN' H b (o + (5 + k)) K := by
  rcases this with rfl | rfl | rfl | rfl
  ·exact idx_fld (T := TT') (T1 := TN') hTT' h hi hx rfl ((TT'.cells x).take 5) ((TT'.cells x).drop 6) rfl rfl rfl hK
  ·exact idx_fld (T := TT') (T1 := TN') hTT' h hi hx rfl ((TT'.cells x).take 6) ((TT'.cells x).drop 7) rfl rfl rfl hK
  ·exact idx_fld (T := TT') (T1 := TN') hTT' h hi hx rfl ((TT'.cells x).take 7) ((TT'.cells x).drop 8) rfl rfl rfl hK
  ·exact idx_fld (T := TT') (T1 := TN') hTT' h hi hx rfl ((TT'.cells x).take 8) ((TT'.cells x).drop 9) rfl rfl rfl hK
 unfold IDX NIL at key ⊢
 revert key
 cases s.p with
 | none => exact id
 | some a =>
  obtain ⟨b, off, o⟩ := a
  cases o with
  | some _ => exact id
  | none =>
   intro key
   refine ⟨key.1, ⟨by omega, by omega⟩, ?_⟩
   have := key.2
   simp only [Int.toNat_natCast, Nat.mul_one]
   rwa [show off + i.toNat * 11 + 5 + k = off + i.toNat * 11 + (5 + k) by omega]
theorem idx_marks {s : Sl} {l : List Tg} (h : SlF TT' H s l) {i : Int} {n : Nat} {x : Tg} (hi : i = n) (hx : l[n]? = some x) {K : Int × Int × Int × Int -> Prop} (hK : K x.Marks) : IDX s.p s.len i 11 fun b o => LD T_arr4_T_int_i64 H b (o + 5) K :=
 idx_fld (T := TT') (T1 := T_arr4_T_int_i64) hTT' h hi hx rfl ((TT'.cells x).take 5) ((TT'.cells x).drop 9) rfl rfl rfl hK
theorem r20mk_c (h : BD m H b se B ms) (hs : SlF TT' H a1 ts) (hf : SlF TF H a2 fs) (hfe : fs.length = ts.length) (hlen : ts.length ≤ 2048) {Q : Sl × Unit -> Heap -> Prop} (hq : ∀ s H' sp, NewO TF H s H' (mkdL ms ts fs) sp -> Q (s, ()) H') : CALL P [T_sl] n_ref20_marked [.pointer (some ⟨b, 0, none⟩), a1.v, a2.v] H Q := by
 apply c_ref20_marked
 unfold S_ref20_marked
 have hsl := hs.1
 have hfl := hf.1
 refine make_c tyF (n := ts.length) (m := ts.length) (by rw [hfl, hfe]) (by rw [hfl, hfe]) (Nat.le_refl _) (by omega) fun s1 e1 n1 => ?_
 have p1 : s1.p = some ⟨H.length, 0, none⟩ := by rw [e1]
 have n1' : NewO TF H s1 (mk H (fl TF (List.replicate ts.length zF)) TF.n false) (List.replicate ts.length zF) [] := by simpa using n1
 generalize mk H (fl TF (List.replicate ts.length zF)) TF.n false = H1 at n1'
 refine JOIN_inv (fun _ H' => NewO TF H s1 H' (mkdL ms ts fs) []) (fun j hj => ?_) (fun _ H' hh => hq _ _ _ hh)
 refine loop_of (fun (y : (Int × Unit) × Unit) H' => ∃ (n : Nat) (cur : List Ft), y.1.1 = n ∧ n ≤ ts.length ∧ NewO TF H s1 H' cur [] ∧ cur.length = ts.length ∧ (∀ (i : Nat) t f, i < n -> ts[i]? = some t -> fs[i]? = some f -> cur[i]? = some (mkT ms t f)) ∧ (∀ i : Nat, n ≤ i -> i < ts.length -> cur[i]? = some zF)) (fun y => ts.length - y.1.1.toNat) ?_
  ⟨0, _, rfl, Nat.zero_le _, n1', by simp, fun i t f h => by omega, fun i _ hi => by rw [List.getElem?_replicate, if_pos hi]⟩
 rintro G ⟨⟨i, _⟩, _⟩ H2 ⟨n, cur, hi, hn, no, hcl, h1, h2⟩ hG
 simp only at hi; subst hi
 dsimp only at hG ⊢
 have f2 := no.2.2
 refine ifD (fun hlt => ?_) (fun hge => hj _ _ ?_)
 ·have hlt : n < ts.length := by omega
  have hx : ts[n]? = some ts[n] := List.getElem?_eq_getElem hlt
  have hy : fs[n]? = some (fs[n]'(by omega)) := List.getElem?_eq_getElem (by omega)
  generalize ts[n] = t at hx
  generalize (fs[n]'(by omega)) = f at hy
  have hs2 := hs.frs f2 (by simp)
  have hf2 := hf.frs f2 (by simp)
  refine idx_place hs2 rfl hx ?_
  refine JOIN_inv (fun _ H' => ∃ cur', NewO TF H s1 H' cur' [] ∧ cur'.length = ts.length ∧ (∀ (i : Nat) t f, i < n + 1 -> ts[i]? = some t -> fs[i]? = some f -> cur'[i]? = some (mkT ms t f)) ∧ (∀ i : Nat, n + 1 ≤ i -> i < ts.length -> cur'[i]? = some zF)) (fun j2 hj2 => ifE (fun e4 => ?_) (fun e4 => hj2 _ _ ⟨cur, no, hcl, fun i u g w1 w2 w3 => ?_, fun i w1 w2 => h2 i (by omega) w2⟩)) ?_
  ·have put : ∀ (g : Ft) H3, Frs [] H2 H3 -> g = mkT ms t f -> IDX s1.p s1.len (n : Int) 5 fun b18 o19 => ST H3 b18 o19 (TF.cells g) fun H6 => j2 ((), ()) H6 := fun g H3 f3 eg => by
    have no3 := no.new f3
    refine no3.1.put (n := n) hTF (fun x => rfl) rfl (by omega) g rfl fun c0 H6 hc0 o6 f6 l6 => ?_
    rw [p1] at hc0; cases hc0
    refine hj2 _ _ ⟨cur.set n g, ⟨o6, no3.2.1, no3.2.2.then f6 fun d hd => by simp at hd; subst hd; exact .inr (Nat.le_refl _)⟩, by simpa using hcl, fun i u g' w1 w2 w3 => ?_, fun i w1 w2 => ?_⟩
    ·by_cases ei : i = n
     ·subst ei; rw [hx] at w2; cases w2; rw [hy] at w3; cases w3
      rw [List.getElem?_set_self (by omega), eg]
     ·rw [List.getElem?_set_ne (fun q => ei q.symm)]; exact h1 i u g' (by omega) w2 w3
    ·rw [List.getElem?_set_ne (by omega)]; exact h2 i (by omega) w2
   refine idx_ldF (T := TF) hTF hf2 rfl hy rfl (idx_marks hs2 rfl hx (r18mk_c (h.new f2) (fun H3 nk f3 => put _ H3 f3 ?_) (fun H3 ok f3 => put _ H3 f3 ?_)))
   ·unfold mkT; rw [if_neg (fun q => nk q.2)]
   ·unfold mkT; rw [if_pos ⟨e4, ok⟩]
  ·by_cases ei : i = n
   ·subst ei; rw [hx] at w2; cases w2
    have ep : mkT ms t g = zF := by unfold mkT; rw [if_neg (fun q => e4 q.1)]
    rw [ep]; exact h2 i (Nat.le_refl _) hlt
   ·exact h1 i u g (by omega) w2 w3
  ·rintro _ H4 ⟨cur', no4, c1, c2, c3⟩
   rw [i64w (by omega) (by omega)]
   exact hG _ _ ⟨n + 1, cur', by simp, hlt, no4, c1, c2, c3⟩ (by simp; omega)
 ·have : n = ts.length := by omega
  subst this
  have ec : cur = mkdL ms ts fs := by
   refine eq_of_at (by unfold mkdL; rw [List.length_zipWith]; omega) fun i a c w1 w2 w3 => ?_
   have hit : ts[i]? = some (ts[i]'(by omega)) := List.getElem?_eq_getElem (by omega)
   have hif : fs[i]? = some (fs[i]'(by omega)) := List.getElem?_eq_getElem (by omega)
   have := h1 i _ _ (by omega) hit hif
   unfold mkdL at w3
   rw [List.getElem?_zipWith, hit, hif] at w3
   rw [this] at w2
   simp at w3
   cases w2; exact w3
  subst ec; exact no
theorem r20start_c (h : BD m H b se B ms) (okB : OkB B) (hs : SlF TT' H a1 ts) {Q : Sl × Int × Unit -> Heap -> Prop} (q1 : ∀ s H', startE se B ts ≠ 0 -> Frs [] H H' -> Q (s, startE se B ts, ()) H')
  (q0 : ∀ s H' sp, startE se B ts = 0 -> se = true -> ts.length ≤ 2048 -> setE se B ts (prL B ts) = 0 -> mksAll ts -> NewO TF H s H' (prL B ts) sp -> Q (s, 0, ()) H') : CALL P [T_sl, TN'] n_ref20_start [.pointer (some ⟨b, 0, none⟩), a1.v] H Q := by
 apply c_ref20_start
 unfold S_ref20_start
 have hsl := hs.1
 have bad : ∀ (r : Int) s H', r ≠ 0 -> startE se B ts = r -> Frs [] H H' -> Q (s, r, ()) H' := fun r s H' hr he f => by have := q1 s H' (by rw [he]; exact hr) f; rwa [he] at this
 refine rnone_b h (ifB_f rfl (ifD (fun q => bad 3 _ _ (by decide) (by unfold startE; rw [if_pos (by omega)]) (.refl _ _)) (fun hlen => rsealed_c h (ifB_of (fun q => bad 2 _ _ (by decide) ?_ (.refl _ _)) (fun q => ?_)))))
 ·unfold startE; rw [if_neg (by omega), if_pos (by simpa using q)]
 have hse : se = true := by simpa using q
 subst hse
 refine r20pr_c h okB hs (by omega) (fun s H' nk f => ifB_t rfl (bad 2 _ _ (by decide) ?_ f)) fun s3 H3 sp3 hok n3 => ifB_f rfl ?_
 ·unfold startE; rw [if_neg (by omega), if_neg (by decide), if_pos nk]
 have e0 : startE true B ts = if setE true B ts (prL B ts) ≠ 0 then setE true B ts (prL B ts) else startE true B ts := by
  unfold startE
  rw [if_neg (by omega), if_neg (by decide), if_neg (fun k => k hok)]
  split
  ·rfl
  ·rfl
 refine reffects_c (h.new n3.2.2) okB (hs.frs n3.2.2 (by simp)) n3.1.slf (fun H4 e f => ifB_t (by simpa using e) (bad _ _ _ e ?_ (n3.2.2.trans f))) (fun H4 e hk f => by omega) fun s4 ol H4 sp4 e _ _ ot n4 => ifB_f rfl ?_
 ·rw [e0]; exact if_pos e
 have n34 := n3.new n4.2.2
 have e1 : ¬ mksAll ts -> startE true B ts = 2 := fun nk => by
  unfold startE
  rw [if_neg (by omega), if_neg (by decide), if_neg (fun k => k hok), if_neg (fun k => k e), if_pos nk]
 have e2 : mksAll ts -> startE true B ts = 0 := fun k => by
  unfold startE
  rw [if_neg (by omega), if_neg (by decide), if_neg (fun k => k hok), if_neg (fun k => k e), if_neg (fun q => q k)]
 refine JOIN_inv (fun _ H' => H' = H4 ∧ mksAll ts) (fun j hj => ?_) (fun _ H' hh => by obtain ⟨rfl, hk⟩ := hh; exact q0 _ _ sp3 (e2 hk) rfl (by omega) e hk n34)
 have hs4 := hs.frs n34.2.2 (by simp)
 refine loop_of (fun (y : (Int × Unit) × Unit) H' => H' = H4 ∧ ∃ n : Nat, y.1.1 = n ∧ n ≤ ts.length ∧ ∀ (i : Nat) t, i < n -> ts[i]? = some t -> t.Place = 4 -> mksOk t.Marks) (fun y => ts.length - y.1.1.toNat) ?_ ⟨rfl, 0, rfl, Nat.zero_le _, fun i t h => by omega⟩
 rintro G ⟨⟨i, _⟩, _⟩ H' ⟨rfl, n, hi, hn, inv⟩ hG
 simp only at hi; subst hi
 dsimp only at hG ⊢
 refine ifD (fun hlt => ?_) (fun hge => hj _ _ ⟨rfl, fun t ht => ?_⟩)
 ·have hlt : n < ts.length := by omega
  have hx : ts[n]? = some ts[n] := List.getElem?_eq_getElem hlt
  have hmt : ts[n] ∈ ts := List.getElem_mem hlt
  generalize ts[n] = t at hx hmt
  refine JOIN_inv (fun _ H2 => H2 = H' ∧ (t.Place = 4 -> mksOk t.Marks)) (fun j2 hj2 => JOIN_inv (fun _ H2 => H2 = H' ∧ (t.Place = 4 -> mksOk t.Marks)) (fun j3 hj3 => ?_) (fun _ H2 hh => hj2 _ _ hh)) ?_
  ·refine loop_of (fun (y : (Int × Unit) × Unit) H2 => H2 = H' ∧ ∃ k : Nat, y.1.1 = k ∧ k ≤ 4 ∧ ∀ i : Nat, i < k -> t.Place = 4 -> 0 ≤ mkI t.Marks i ∧ mkI t.Marks i ≤ 99) (fun y => 4 - y.1.1.toNat) ?_ ⟨rfl, 0, rfl, by omega, fun i h => by omega⟩
   rintro G2 ⟨⟨i2, _⟩, _⟩ H2 ⟨rfl, k, hk, hk4, inv2⟩ hG2
   simp only at hk; subst hk
   dsimp only at hG2 ⊢
   refine ifD (fun hlt2 => ?_) (fun hge2 => hj3 _ _ ⟨rfl, fun h4 i w => inv2 i (by omega) h4⟩)
   have hlt2 : k < 4 := by omega
   refine hJ (t.Place = 4 ∧ ¬ (0 ≤ mkI t.Marks k ∧ mkI t.Marks k ≤ 99)) (fun j4 hj4 => idx_place hs4 rfl hx (ifE (fun e4 => idx_mark hs4 rfl hx hlt2 (ifD (fun w => hj4 _ (by simp; omega)) (fun w => idx_mark hs4 rfl hx hlt2 (hj4 _ (by simp; omega))))) (fun e4 => hj4 _ (by simp [e4])))) (fun w => bad 2 _ _ (by decide) (e1 fun q => w.2 (q t hmt w.1 k hlt2)) n34.2.2) (fun w => ?_)
   rw [i64w (by omega) (by omega)]
   refine hG2 _ _ ⟨rfl, k + 1, by simp, hlt2, fun i wi h4 => ?_⟩ (by simp; omega)
   by_cases ei : i = k
   ·subst ei; exact Classical.byContradiction fun q => w ⟨h4, q⟩
   ·exact inv2 i (by omega) h4
  ·rintro _ H2 ⟨rfl, hk⟩
   rw [i64w (by omega) (by omega)]
   refine hG _ _ ⟨rfl, n + 1, by simp, hlt, fun i u w1 w2 w3 => ?_⟩ (by simp; omega)
   by_cases ei : i = n
   ·subst ei; rw [hx] at w2; cases w2; exact hk w3
   ·exact inv i u (by omega) w2 w3
 ·obtain ⟨i, hit⟩ := List.mem_iff_getElem?.1 ht
  exact inv i t (by have := (List.getElem?_eq_some_iff.1 hit).1; omega) hit
open Classical in
noncomputable def behE (se : Bool) (B : List Cd) (ts : List Tg) (k : Int) : Int := if startE se B ts ≠ 0 then startE se B ts else if k < 0 ∨ 6 < k then 2 else 0
noncomputable def behF (B : List Cd) (ms : List G_api_MarkInfo) (ts : List Tg) (ol : List Int) (k : Int) : List Ft := if k = 6 then mkdL ms ts (behL B ts ol 5) else behL B ts ol k.toNat
theorem r20beh_c (h : BD m H b se B ms) (okB : OkB B) (og : OkR B) (hs : SlF TT' H a1 ts) {k : Int} {Q : Sl × Int × Unit -> Heap -> Prop} (q1 : ∀ H', behE se B ts k ≠ 0 -> Frs [] H H' -> Q (⟨none, 0, 0⟩, behE se B ts k, ()) H')
  (q0 : ∀ s ol H' sp, behE se B ts k = 0 -> setE se B ts (prL B ts) = 0 -> mksAll ts -> OrdT B ts ol -> NewO TF H s H' (behF B ms ts ol k) sp -> Q (s, 0, ()) H') : CALL P [T_sl, TN'] n_ref20_Behind [.pointer (some ⟨b, 0, none⟩), a1.v, .int .i64 k] H Q := by
 apply c_ref20_Behind
 unfold S_ref20_Behind
 have hsl := hs.1
 refine r20start_c h okB hs (fun s H' e f => ifB_t (by simpa using e) ?_) fun s1 H1 sp1 es e1 elen e0 hmk n1 => ifB_f rfl ?_
 ·have eb : behE se B ts k = startE se B ts := by unfold behE; rw [if_pos e]
  have := q1 H' (by rw [eb]; exact e) f
  rwa [eb] at this
 obtain ⟨ol, ot⟩ := ord_of okB e0
 subst e1
 refine hJ (k < 0 ∨ 6 < k) (fun j hj => ifD (fun q => hj _ (by simp; omega)) (fun q => hj _ (by simp; omega))) (fun q => ?_) (fun hk => ?_)
 ·have eb : behE true B ts k = 2 := by unfold behE; rw [if_neg (fun w => w es), if_pos q]
  have := q1 H1 (by rw [eb]; decide) n1.2.2
  rwa [eb] at this
 have eb : behE true B ts k = 0 := by unfold behE; rw [if_neg (fun w => w es), if_neg hk]
 refine JOIN_inv (fun (y : (Sl × Unit) × Unit) H' => ∃ sp, NewO TF H y.1.1 H' (behL B ts ol (min k.toNat 5)) sp) (fun j hj => ?_) ?_
 ·refine loop_of (fun (y : (Sl × Int × Unit) × Unit) H' => ∃ (n : Nat) (sp : List Ft), y.1.2.1 = (n : Int) + 1 ∧ n ≤ min k.toNat 5 ∧ NewO TF H y.1.1 H' (behL B ts ol n) sp) (fun y => 7 - y.1.2.1.toNat) ?_ ⟨0, sp1, rfl, Nat.zero_le _, n1⟩
  rintro G ⟨⟨s, i, _⟩, _⟩ H2 ⟨n, sp, hi, hn, no⟩ hG
  simp only at hi no; subst hi
  dsimp only at hG ⊢
  refine hJ ((n : Int) + 1 ≤ k ∧ (n : Int) + 1 ≤ 5) (fun j2 hj2 => ifD (fun q => hj2 _ (by simp; omega)) (fun q => hj2 _ (by simp; omega))) (fun q => ?_) (fun q => hj _ _ ⟨sp, ?_⟩)
  ·have f2 := no.2.2
   have ej : setE true B ts (behL B ts ol n) = 0 := (behL_j og e0 ot n).setE e0
   refine rall_c (h.new f2) okB (hs.frs f2 (by simp)) no.1.slf (fun H' e f => absurd ej e) (fun H' e hk f => by omega) fun s2 r2 ol2 H3 sp2 sr2 _ _ _ ot2 n2 n3 _ => ?_
   have := ot2.uniq ot
   subst this
   rw [i64w (by omega) (by omega)]
   exact hG _ _ ⟨n + 1, sp2, by simp, by omega, n2.older f2⟩ (by simp; omega)
  ·have : n = min k.toNat 5 := by omega
   subst this; exact no
 ·rintro ⟨⟨s, _⟩, _⟩ H3 ⟨sp, no⟩
  dsimp only at no ⊢
  refine JOIN_inv (fun (y : (Sl × Unit) × Unit) H' => ∃ sp, NewO TF H y.1.1 H' (behF B ms ts ol k) sp) (fun j hj => ifE (fun e6 => ?_) (fun e6 => hj _ _ ⟨sp, ?_⟩)) (fun y H' hh => by obtain ⟨sp, hh⟩ := hh; exact q0 _ ol _ sp eb e0 hmk ot hh)
  ·subst e6
   have f3 := no.2.2
   refine r20mk_c (h.new f3) (hs.frs f3 (by simp)) no.1.slf (behL_j og e0 ot _).len elen fun s4 H4 sp4 n4 => hj _ _ ⟨sp4, ?_⟩
   exact n4.older f3
  ·unfold behF
   rw [if_neg e6]
   have : min k.toNat 5 = k.toNat := by omega
   rwa [this] at no
theorem mkT_nn (t : Tg) {f : Ft} (h : 0 ≤ f.Traits) : 0 ≤ (mkT ms t f).Traits := by
 unfold mkT
 split
 ·rw [markF_tr]; exact h
 ·exact Int.le_refl _
theorem behF_nn (og : OkR B) (e : setE se B ts (prL B ts) = 0) (ot : OrdT B ts ol) (k : Int) : (∀ f ∈ behF B ms ts ol k, 0 ≤ f.Traits) ∧ (behF B ms ts ol k).length = ts.length := by
 unfold behF
 have hj := fun n => behL_j og e ot n
 split
 ·refine ⟨fun f hf => ?_, by unfold mkdL; rw [List.length_zipWith, (hj 5).len]; omega⟩
  unfold mkdL at hf
  obtain ⟨i, hi⟩ := List.mem_iff_getElem?.1 hf
  rw [List.getElem?_zipWith] at hi
  have hl := (hj 5).len
  cases ht : ts[i]? with
  | none => rw [ht] at hi; cases hi
  | some t =>
   cases hg : (behL B ts ol 5)[i]? with
   | none => rw [ht, hg] at hi; cases hi
   | some g =>
    rw [ht, hg] at hi
    have hi : some (mkT ms t g) = some f := hi
    cases hi
    exact mkT_nn t ((hj 5).nn g (List.mem_of_getElem? hg))
 ·exact ⟨(hj _).nn, (hj _).len⟩
theorem r20of_c (h : BD m H b se B ms) (okB : OkB B) (og : OkR B) (hs : SlF TT' H a1 ts) {Q : Sl × Int × Unit -> Heap -> Prop} (q1 : ∀ H', behE se B ts 6 ≠ 0 -> Frs [] H H' -> Q (⟨none, 0, 0⟩, behE se B ts 6, ()) H')
  (q0 : ∀ s ol H' sp, behE se B ts 6 = 0 -> setE se B ts (prL B ts) = 0 -> mksAll ts -> OrdT B ts ol -> NewO TF H s H' (behF B ms ts ol 6) sp -> Q (s, 0, ()) H') : CALL P [T_sl, TN'] n_ref20_Of [.pointer (some ⟨b, 0, none⟩), a1.v] H Q := by
 apply c_ref20_Of
 unfold S_ref20_Of
 exact r20beh_c h okB og hs q1 q0
end
end Go.Proofs.YtolekmhhkopooaaGreatDoor.Zq
end
section
namespace Go.Proofs.YtolekmhhkopooaaGreatDoor.Zq
open Zv
section
def OkX (T : Tag) (x : T.α) : Prop := ∀ v ∈ T.cells x, okCell v
def RowOf (T : Tag) (H : Heap) (s : Sl) : Prop := ∀ d off, s.p = some ⟨d, off, none⟩ -> ∃ (l : List T.α) (sz : Nat) (o r v : Bool), H[d]? = some (.row (fl T l) sz o r v)
def SlX (T : Tag) (R : T.α -> Prop) (H : Heap) (s : Sl) : Prop := ∃ l : List T.α, SlF T H s l ∧ l.length ≤ 1048576 ∧ RowOf T H s ∧ ∀ x ∈ l, R x
theorem WTcB.sliceX {P : Program} {H : Heap} {T : Tag} {R : T.α -> Prop} {d : Nat} {t e : TypeId} {cs : List Value} (ht : P.underlying t = some (.slice e)) (he : ∀ a, WTcB 1048576 P H d e a -> ∃ x : T.α, a = T.cells x ∧ R x) (h : WTcB 1048576 P H (d + 1) t cs) :
  ∃ s : Sl, cs = [s.v] ∧ SlX T R H s := by
 simp only [WTcB, ht] at h
 rcases h.2 with rfl | ⟨b, off, rfl⟩ | ⟨b, len, cap, acss, rfl, h1, h2, hB, h3, h4, h5, h6⟩
 ·exact ⟨⟨none, 0, 0⟩, rfl, [], ⟨rfl, .inl ⟨rfl, rfl, rfl⟩⟩, by simp, (fun d off e => nomatch e), by simp⟩
 ·exact ⟨⟨some ⟨b, off, some 0⟩, 0, 0⟩, rfl, [], ⟨rfl, .inr (.inl ⟨b, off, rfl, rfl, rfl⟩)⟩, by simp, (fun d off e => nomatch e), by simp⟩
 ·have : ∃ l : List T.α, l.length = acss.length ∧ acss.flatten = fl T l ∧ ∀ x ∈ l, R x := by
   clear h5 h3
   induction acss with
   | nil => exact ⟨[], rfl, rfl, by simp⟩
   | cons a r ih =>
    obtain ⟨x, hx, hr⟩ := he a (h6 a (by simp))
    obtain ⟨l, q1, q2, q3⟩ := ih fun y hy => h6 y (by simp [hy])
    exact ⟨x :: l, by simp [q1], by simp [fl, hx, q2], fun y hy => by rcases List.mem_cons.1 hy with rfl | hy; exact hr; exact q3 y hy⟩
  obtain ⟨l, q1, q2, q3⟩ := this
  refine ⟨⟨some ⟨b, 0, none⟩, len, cap⟩, rfl, l.take len, ⟨by simp; omega, .inr (.inr ⟨b, [], fl T (l.drop len), P.cellsOf e, false, true, rfl, ?_⟩)⟩, by simp; omega, fun d off hd => ?_, fun x hx => q3 x (List.mem_of_mem_take hx)⟩
  ·rw [h5, q2, List.nil_append, ← fl_app, List.take_append_drop]
  ·simp at hd
   obtain ⟨rfl, _⟩ := hd
   exact ⟨l, _, _, _, _, by rw [h5, q2]⟩
theorem RowOf.flat {T : Tag} {H : Heap} {s : Sl} (h : RowOf T H s) (hT : ∀ x, ∀ v ∈ T.cells x, flatV v) : Flat H s := fun d off e => by
 obtain ⟨l, sz, o, r, v, hl⟩ := h d off e
 refine ⟨_, sz, o, r, v, hl, fun w hw => ?_⟩
 obtain ⟨x, _, hx⟩ := List.mem_flatMap.1 hw
 exact hT x w hx
end
end Go.Proofs.YtolekmhhkopooaaGreatDoor.Zq
end
section
namespace Go.Proofs.YtolekmhhkopooaaGreatDoor.Zq
open Zv
section
variable {H : Heap}
theorem ok_in {k : IntKind} {n : Int} (h : okCell (.int k n)) : k.min ≤ n ∧ n ≤ k.max := by
 have : (decide (k.min ≤ n) && decide (n ≤ k.max)) = true := h
 simpa using this
theorem ok_u8 {n : Int} (h : okCell (.int .u8 n)) : 0 ≤ n ∧ n ≤ 255 := ok_in h
theorem ok_u16 {n : Int} (h : okCell (.int .u16 n)) : 0 ≤ n ∧ n ≤ 65535 := ok_in h
theorem ok_i64 {n : Int} (h : okCell (.int .i64 n)) : -9223372036854775808 ≤ n ∧ n ≤ 9223372036854775807 := ok_in h
theorem ok_str {s : ByteArray} (h : okCell (.string s)) : s.size ≤ 9223372036854775807 := h
theorem ok_P {p : Pt} (h : OkX TP p) : OkP p :=
 ⟨ok_str (h _ (by simp)), ok_u8 (h (.int .u8 p.Suit) (by simp)), ok_u8 (h (.int .u8 p.Trait) (by simp)), ok_u8 (h (.int .u8 p.Mark) (by simp))⟩
theorem ok_C {g : G_api_Card} (h : OkX TC g ∧ SlX TP (fun x => OkX TP x) H g.Parts) : InC H g := by
 obtain ⟨h1, l, h2, h3, _, h4⟩ := h
 exact ⟨⟨ok_str (h1 _ (by simp)), ok_u8 (h1 (.int .u8 g.Suit) (by simp)), ok_u8 (h1 (.int .u8 g.Kind) (by simp)), ok_u16 (h1 (.int .u16 g.Traits) (by simp))⟩, l, h2, h3, fun p hp => ok_P (h4 p hp)⟩
theorem flatTT : ∀ x : Tg, ∀ v ∈ TT'.cells x, flatV v := fun x v hv => by
 simp at hv
 rcases hv with rfl | rfl | rfl | rfl | rfl | rfl | rfl | rfl | rfl | rfl | rfl <;> trivial
theorem gv_of {a1 a2 : Sl} {ts : List Tg} {fs : List Ft} (h1 : SlF TT' H a1 ts) (h2 : ts.length ≤ 1048576) (h3 : RowOf TT' H a1) (h4 : ∀ x ∈ ts, OkX TT' x) (h5 : SlF TF H a2 fs) (h6 : ∀ x ∈ fs, OkX TF x) : Gv H a1 a2 ts fs :=
 ⟨h1, h5, h3.flat flatTT, fun t ht => (ok_i64 (h4 t ht (.int .i64 t.Stamp) (by simp))).2, fun f hf => (ok_u16 (h6 f hf (.int .u16 f.Traits) (by simp))).1, by omega⟩
end
end Go.Proofs.YtolekmhhkopooaaGreatDoor.Zq
end
section
namespace Go.Proofs.YtolekmhhkopooaaGreatDoor.Zq
open Zv
section
variable {H : Heap} {b m : Nat} {se : Bool} {B : List Cd} {ms : List G_api_MarkInfo} {a1 a2 a3 : Sl} {ts : List Tg} {fs : List Ft}
structure InT (H : Heap) (t : G_law24_Table) (gs : List G_api_Card) (mks : List G_api_MarkInfo) (ts : List Tg) (fs : List Ft) : Prop where
 c : SlF TC H t.Fill.Cards gs
 cl : gs.length ≤ 1048576
 cg : ∀ g ∈ gs, InC H g
 m : SlF TM H t.Fill.Marks mks
 ml : mks.length ≤ 1048576
 gv : Gv H t.Things t.Fs ts fs
 fl : fs.length ≤ 1048576
 tl : ts.length ≤ 1048576
theorem feat_c (h : BD m H b se B ms) (okB : OkB B) (og : OkR B) {t : G_law24_Table} (gv : Gv H t.Things t.Fs ts fs) (hfl : fs.length ≤ 1048576) {Q : Sl × Unit -> Heap -> Prop} (hq : ∀ s fs' H', Gv H' t.Things s ts fs' -> fs'.length ≤ 1048576 -> Frs [] H H' -> Q (s, ()) H') :
  CALL P [T_sl] n_law24_Table_features [T_G_law24_Table.enc t, .pointer (some ⟨b, 0, none⟩)] H Q := by
 apply c_law24_Table_features
 unfold S_law24_Table_features
 refine JOIN_inv (fun _ H' => Frs [] H H') (fun j hj => ifB_of (fun _ => ?_) (fun _ => hj _ _ (.refl _ _))) (fun _ H' f => hq _ fs _ (gv.new f) hfl f)
 refine r20of_c h okB og gv.s (fun H' e f => ifB_f (by simpa using e) (hj _ _ f)) fun s ol H' sp eb e0 hmk ot no => ifB_t rfl ?_
 obtain ⟨w1, w2⟩ := behF_nn (ms := ms) og e0 ot 6
 obtain ⟨_, _, w3, _⟩ := setE_ok (e := e0)
 exact hq s _ H' ⟨gv.s.frs no.2.2 (by simp), no.1.slf, gv.fl.frs no.2.2, gv.okt, w1, gv.len⟩ (by omega) no.2.2
theorem lone_r {t : G_law24_Table} (h : OkX T_G_law24_Table t ∧ SlX TC (fun x => OkX TC x ∧ SlX TP (fun x => OkX TP x) H x.Parts) H t.Fill.Cards ∧ SlX TM (fun x => OkX TM x) H t.Fill.Marks ∧ SlX TT' (fun x => OkX TT' x) H t.Things ∧ SlX TF (fun x => OkX TF x) H t.Fs) :
  ∃ gs mks ts fs, InT H t gs mks ts fs := by
 obtain ⟨_, ⟨gs, c1, c2, _, c3⟩, ⟨mks, m1, m2, _, _⟩, ⟨ts, t1, t2, t3, t4⟩, ⟨fs, f1, f2, _, f3⟩⟩ := h
 exact ⟨gs, mks, ts, fs, c1, c2, fun g hg => ok_C (c3 g hg), m1, m2, gv_of t1 t2 t3 t4 f1 f3, f2, t2⟩
end
end Go.Proofs.YtolekmhhkopooaaGreatDoor.Zq
end
section
namespace Go.Proofs.YtolekmhhkopooaaGreatDoor.Zq
open Go Zv
namespace KInts
abbrev T : Tag := T_int .i64
abbrev X := T.α
theorem hT (x : X) : (T.cells x).length = T.n := rfl
theorem same_iff (x y : Int) : (x != y) = false ↔ x = y := by
 simp
theorem same_c {H : Heap} {a b : Sl} {l m : List X} (ha : SlF T H a l) (hb : SlF T H b m) (hl : l.length ≤ 4611686018427387904) {Q : Bool × Unit -> Heap -> Prop} (hq : ∀ r : Bool, (r = true ↔ l = m) -> Q (r, ()) H) : CALL P [T_bool] n_kit_SameInts [a.v, b.v] H Q := by
 apply c_kit_SameInts
 unfold S_kit_SameInts
 exact same_g (T := T) hT same_iff rfl ha hb hl hq
def z : X := (0 : Int)
theorem tyS : TyS E T 35 z := ⟨⟨_, _, _, rfl, rfl, rfl, rfl, by decide, by decide, rfl⟩, by decide, hT, fun _ => rfl⟩
theorem tyL : TyS E T_sl 60 ⟨none, 0, 0⟩ := ⟨⟨_, _, _, rfl, rfl, rfl, rfl, by decide, by decide, rfl⟩, by decide, fun _ => rfl, fun _ => rfl⟩
def mkf (i k : Int) : X := (IntKind.wrap .i64 ((IntKind.wrap .i64 ((IntKind.wrap .i64 ((-1000003) * i)) - k)) - 5) : Int)
theorem mark_c (i k : Int) (H : Heap) (Q : X × Unit -> Heap -> Prop) (hq : Q (mkf i k, ()) H) : CALL P [T] n_kit_markInts [.int .i64 i, .int .i64 k] H Q := by
 apply c_kit_markInts
 unfold S_kit_markInts
 exact hq
theorem apart_c {H : Heap} {a : Sl} {ls : List Sl} (h : Apt T H a ls) {Q : Bool × Unit -> Heap -> Prop} (hq : ∀ H', H.length ≤ H'.length -> (∀ d, d < H.length -> (∀ s ∈ ls, s.p ≠ some ⟨d, 0, none⟩) -> H'[d]? = H[d]?) -> Q (true, ()) H') : CALL P [T_bool] n_kit_ApartInts [a.v] H Q := by
 apply c_kit_ApartInts
 unfold S_kit_ApartInts
 refine apart1 tyS tyL rfl (fun _ => by simp) h.lst h.own h.few fun s' H1 sp n1 => ?_
 obtain ⟨f, hf⟩ := h.rws n1.2.2
 refine apart2 (T := T) (mk := mkf) (C := fun i k H Q => CALL P [T] n_kit_markInts [.int .i64 i, .int .i64 k] H Q) hT (fun _ => rfl) mark_c n1.1 (by simpa using h.few) hf (dst_full h.dst) (fun v hv c hp hs => ?_) rfl fun H2 how hl hfr hrw => ?_
 ·obtain ⟨s, hs', rfl⟩ := List.mem_map.1 hv
  obtain ⟨l, lsp, hown⟩ := h.own s hs'
  obtain ⟨_, _, _, ⟨q, _⟩ | ⟨d, q, q2⟩⟩ := hown
  ·rw [show (full s).p = s.p from rfl, q] at hp; cases hp
  ·rw [show (full s).p = s.p from rfl, q] at hp; cases hp
   have := n1.2.1 d hs
   have := get_lt q2
   omega
 ·refine apart3 (T := T) (mk := mkf) (C := fun i k H Q => CALL P [T] n_kit_markInts [.int .i64 i, .int .i64 k] H Q) hT mark_c same_iff how.slf (by simpa using h.few) hrw (fun v hv => by obtain ⟨s, _, rfl⟩ := List.mem_map.1 hv; rfl) rfl ?_
  refine hq H2 (by rw [hl]; exact n1.2.2.1) fun d hd hs => ?_
  rw [hfr d (Nat.lt_of_lt_of_le hd n1.2.2.1) (fun v hv => by obtain ⟨s, hs', rfl⟩ := List.mem_map.1 hv; exact hs s hs'), n1.2.2.2 d hd (by simp)]
end KInts
end Go.Proofs.YtolekmhhkopooaaGreatDoor.Zq
end
section
namespace Go.Proofs.YtolekmhhkopooaaGreatDoor.Zq
open Go Zv
namespace KThings
abbrev T : Tag := T_G_api_Thing
abbrev X := T.α
theorem hT (x : X) : (T.cells x).length = T.n := rfl
theorem same_iff (x y : G_api_Thing) : (!((x.Card == y.Card) && ((x.Owner == y.Owner) && ((x.Place == y.Place) && ((x.Stamp == y.Stamp) && ((x.Hurt == y.Hurt) && (((x.Marks.1 == y.Marks.1) && ((x.Marks.2.1 == y.Marks.2.1) && ((x.Marks.2.2.1 == y.Marks.2.2.1) && ((x.Marks.2.2.2 == y.Marks.2.2.2) && true)))) && ((x.Done == y.Done) && ((x.Fresh == y.Fresh) && true))))))))) = false ↔ x = y := by
 cases x; cases y; simp [Prod.ext_iff]
theorem same_c {H : Heap} {a b : Sl} {l m : List X} (ha : SlF T H a l) (hb : SlF T H b m) (hl : l.length ≤ 4611686018427387904) {Q : Bool × Unit -> Heap -> Prop} (hq : ∀ r : Bool, (r = true ↔ l = m) -> Q (r, ()) H) : CALL P [T_bool] n_kit_SameThings [a.v, b.v] H Q := by
 apply c_kit_SameThings
 unfold S_kit_SameThings
 exact same_g (T := T) hT same_iff rfl ha hb hl hq
def w : X := (G_api_Thing.mk (-77) 0 0 0 0 (0, 0, 0, 0) 0 false : G_api_Thing)
def z : X := (G_api_Thing.mk 0 0 0 0 0 (0, 0, 0, 0) 0 false : G_api_Thing)
theorem tyS : TyS E T 26 z := ⟨⟨_, _, _, rfl, rfl, rfl, rfl, by decide, by decide, rfl⟩, by decide, hT, fun _ => rfl⟩
theorem copy_c {H : Heap} {a : Sl} {l : List X} (ha : SlF T H a l) (hl : l.length ≤ 1048600) {Q : Sl × Unit -> Heap -> Prop} (hq : ∀ s' H' sp, NewO T H s' H' l sp -> Q (s', ()) H') : CALL P [T_sl] n_kit_CopyThings [a.v] H Q := by
 apply c_kit_CopyThings
 unfold S_kit_CopyThings
 exact copy_g tyS rfl (fun _ => by simp) ha hl hq
theorem lent_c {H : Heap} {a : Sl} {l : List X} (ha : SlF T H a l) (hl : l.length ≤ 1048600) {Q : Sl × Unit -> Heap -> Prop} (hq : ∀ s' H' sp, NewO T H s' H' (l ++ [w, w]) sp -> (∃ d, s'.p = some ⟨d, 0, none⟩) -> Q (s', ()) H') : CALL P [T_sl] n_kit_LentThings [a.v] H Q := by
 apply c_kit_LentThings
 unfold S_kit_LentThings
 exact lent_g tyS rfl (fun _ => by simp) ha hl [w, w] rfl rfl hq
theorem kept_c {H : Heap} {a b : Sl} {l m : List X} (ha : SlF T H a l) (hb : SlF T H b m) (hl : l.length ≤ 1048600) (hm : m.length ≤ 1048600) {Q : Bool × Unit -> Heap -> Prop} (hq : ∀ (r : Bool) H', (r = true ↔ l = m ++ [w, w]) -> Frs [] H H' -> Q (r, ()) H') : CALL P [T_bool] n_kit_KeptThings [a.v, b.v] H Q := by
 apply c_kit_KeptThings
 unfold S_kit_KeptThings
 refine copy_c hb hm fun s1 H1 sp1 n1 => ?_
 refine app_c tyS rfl (fun _ => by simp) (m := 2) [w, w] rfl rfl (by show 2 * (m.length + 2) * 4096 ≤ _; omega) n1.1 fun s2 H2 sp2 k1 k2 k3 => ?_
 have n2 := n1.app k1 k2 k3
 exact same_c (ha.frs n2.2.2 (by simp)) k1.slf (by omega) fun r hr => hq r H2 hr n2.2.2
end KThings
end Go.Proofs.YtolekmhhkopooaaGreatDoor.Zq
end
section
namespace Go.Proofs.YtolekmhhkopooaaGreatDoor.Zq
open Go Zv
namespace KFeatures
abbrev T : Tag := T_G_api_Feature
abbrev X := T.α
theorem hT (x : X) : (T.cells x).length = T.n := rfl
theorem same_iff (x y : G_api_Feature) : (!((x.Holder == y.Holder) && ((x.Suit == y.Suit) && ((x.Traits == y.Traits) && ((x.Power == y.Power) && ((x.Health == y.Health) && true)))))) = false ↔ x = y := by
 cases x; cases y; simp
theorem same_c {H : Heap} {a b : Sl} {l m : List X} (ha : SlF T H a l) (hb : SlF T H b m) (hl : l.length ≤ 4611686018427387904) {Q : Bool × Unit -> Heap -> Prop} (hq : ∀ r : Bool, (r = true ↔ l = m) -> Q (r, ()) H) : CALL P [T_bool] n_kit_SameFeatures [a.v, b.v] H Q := by
 apply c_kit_SameFeatures
 unfold S_kit_SameFeatures
 exact same_g (T := T) hT same_iff rfl ha hb hl hq
def w : X := (G_api_Feature.mk (-77) 0 0 0 0 : G_api_Feature)
def z : X := (G_api_Feature.mk 0 0 0 0 0 : G_api_Feature)
theorem tyS : TyS E T 27 z := ⟨⟨_, _, _, rfl, rfl, rfl, rfl, by decide, by decide, rfl⟩, by decide, hT, fun _ => rfl⟩
theorem copy_c {H : Heap} {a : Sl} {l : List X} (ha : SlF T H a l) (hl : l.length ≤ 1048600) {Q : Sl × Unit -> Heap -> Prop} (hq : ∀ s' H' sp, NewO T H s' H' l sp -> Q (s', ()) H') : CALL P [T_sl] n_kit_CopyFeatures [a.v] H Q := by
 apply c_kit_CopyFeatures
 unfold S_kit_CopyFeatures
 exact copy_g tyS rfl (fun _ => by simp) ha hl hq
theorem lent_c {H : Heap} {a : Sl} {l : List X} (ha : SlF T H a l) (hl : l.length ≤ 1048600) {Q : Sl × Unit -> Heap -> Prop} (hq : ∀ s' H' sp, NewO T H s' H' (l ++ [w, w]) sp -> (∃ d, s'.p = some ⟨d, 0, none⟩) -> Q (s', ()) H') : CALL P [T_sl] n_kit_LentFeatures [a.v] H Q := by
 apply c_kit_LentFeatures
 unfold S_kit_LentFeatures
 exact lent_g tyS rfl (fun _ => by simp) ha hl [w, w] rfl rfl hq
theorem kept_c {H : Heap} {a b : Sl} {l m : List X} (ha : SlF T H a l) (hb : SlF T H b m) (hl : l.length ≤ 1048600) (hm : m.length ≤ 1048600) {Q : Bool × Unit -> Heap -> Prop} (hq : ∀ (r : Bool) H', (r = true ↔ l = m ++ [w, w]) -> Frs [] H H' -> Q (r, ()) H') : CALL P [T_bool] n_kit_KeptFeatures [a.v, b.v] H Q := by
 apply c_kit_KeptFeatures
 unfold S_kit_KeptFeatures
 refine copy_c hb hm fun s1 H1 sp1 n1 => ?_
 refine app_c tyS rfl (fun _ => by simp) (m := 2) [w, w] rfl rfl (by show 2 * (m.length + 2) * 4096 ≤ _; omega) n1.1 fun s2 H2 sp2 k1 k2 k3 => ?_
 have n2 := n1.app k1 k2 k3
 exact same_c (ha.frs n2.2.2 (by simp)) k1.slf (by omega) fun r hr => hq r H2 hr n2.2.2
theorem tyL : TyS E T_sl 100 ⟨none, 0, 0⟩ := ⟨⟨_, _, _, rfl, rfl, rfl, rfl, by decide, by decide, rfl⟩, by decide, fun _ => rfl, fun _ => rfl⟩
def mkf (i k : Int) : X := ((G_api_Feature.mk (IntKind.wrap .i64 ((IntKind.wrap .i64 (0 - i)) - 1)) 0 0 k 0) : G_api_Feature)
theorem mark_c (i k : Int) (H : Heap) (Q : X × Unit -> Heap -> Prop) (hq : Q (mkf i k, ()) H) : CALL P [T] n_kit_markFeatures [.int .i64 i, .int .i64 k] H Q := by
 apply c_kit_markFeatures
 unfold S_kit_markFeatures
 exact hq
theorem apart_c {H : Heap} {a : Sl} {ls : List Sl} (h : Apt T H a ls) {Q : Bool × Unit -> Heap -> Prop} (hq : ∀ H', H.length ≤ H'.length -> (∀ d, d < H.length -> (∀ s ∈ ls, s.p ≠ some ⟨d, 0, none⟩) -> H'[d]? = H[d]?) -> Q (true, ()) H') : CALL P [T_bool] n_kit_ApartFeatures [a.v] H Q := by
 apply c_kit_ApartFeatures
 unfold S_kit_ApartFeatures
 refine apart1 tyS tyL rfl (fun _ => by simp) h.lst h.own h.few fun s' H1 sp n1 => ?_
 obtain ⟨f, hf⟩ := h.rws n1.2.2
 refine apart2 (T := T) (mk := mkf) (C := fun i k H Q => CALL P [T] n_kit_markFeatures [.int .i64 i, .int .i64 k] H Q) hT (fun _ => rfl) mark_c n1.1 (by simpa using h.few) hf (dst_full h.dst) (fun v hv c hp hs => ?_) rfl fun H2 how hl hfr hrw => ?_
 ·obtain ⟨s, hs', rfl⟩ := List.mem_map.1 hv
  obtain ⟨l, lsp, hown⟩ := h.own s hs'
  obtain ⟨_, _, _, ⟨q, _⟩ | ⟨d, q, q2⟩⟩ := hown
  ·rw [show (full s).p = s.p from rfl, q] at hp; cases hp
  ·rw [show (full s).p = s.p from rfl, q] at hp; cases hp
   have := n1.2.1 d hs
   have := get_lt q2
   omega
 ·refine apart3 (T := T) (mk := mkf) (C := fun i k H Q => CALL P [T] n_kit_markFeatures [.int .i64 i, .int .i64 k] H Q) hT mark_c same_iff how.slf (by simpa using h.few) hrw (fun v hv => by obtain ⟨s, _, rfl⟩ := List.mem_map.1 hv; rfl) rfl ?_
  refine hq H2 (by rw [hl]; exact n1.2.2.1) fun d hd hs => ?_
  rw [hfr d (Nat.lt_of_lt_of_le hd n1.2.2.1) (fun v hv => by obtain ⟨s, hs', rfl⟩ := List.mem_map.1 hv; exact hs s hs'), n1.2.2.2 d hd (by simp)]
end KFeatures
end Go.Proofs.YtolekmhhkopooaaGreatDoor.Zq
end
section
namespace Go.Proofs.YtolekmhhkopooaaGreatDoor.Zq
open Zv
section
variable {H : Heap} {b m : Nat} {se : Bool} {B : List Cd} {ms : List G_api_MarkInfo} {a1 a2 a3 : Sl} {ts : List Tg} {fs : List Ft}
def mnP (ps : List Pt) : Prop := ∃ p ∈ ps, p.When = 1 ∧ p.Whom = 3
theorem mnP_no {ps : List Pt} (h : ∀ (i : Nat) p, i < ps.length -> ps[i]? = some p -> ¬ (p.When = 1 ∧ p.Whom = 3)) : ¬ mnP ps := by
 rintro ⟨p, hp, w⟩
 obtain ⟨i, hi⟩ := List.mem_iff_getElem?.1 hp
 exact h i p (List.getElem?_eq_some_iff.1 hi).1 hi w
theorem pmn_c {g : G_api_Card} {c : Cd} (cr : CR m H g c) (h4 : c.ps.length ≤ 4) {Q : Bool × Unit -> Heap -> Prop} (hq : ∀ r, (r = true ↔ mnP c.ps) -> Q (r, ()) H) : CALL P [T_bool] n_card_Means [TC.enc g] H Q := by
 apply c_card_Means
 unfold S_card_Means
 apply c_slices_ContainsFunc_api_Part_api_Part
 unfold S_slices_ContainsFunc_api_Part_api_Part
 apply c_slices_IndexFunc_api_Part_api_Part
 unfold S_slices_IndexFunc_api_Part_api_Part
 have hps := cr.p
 have hpl := hps.1
 refine JOIN_inv (fun _ H' => H' = H ∧ ¬ mnP c.ps) (fun j hj => ?_) (fun _ H' hh => by obtain ⟨rfl, n⟩ := hh; exact hq _ (by simpa using n))
 refine loop_of (fun (y : (Int × Unit) × Unit) H' => H' = H ∧ ∃ n : Nat, y.1.1 = n ∧ n ≤ c.ps.length ∧ ∀ (i : Nat) p, i < n -> c.ps[i]? = some p -> ¬ (p.When = 1 ∧ p.Whom = 3)) (fun y => c.ps.length - y.1.1.toNat) ?_ ⟨rfl, 0, rfl, Nat.zero_le _, fun i p h => by omega⟩
 rintro G ⟨⟨i, _⟩, _⟩ H' ⟨rfl, n, hi, hn, inv⟩ hG
 simp only at hi; subst hi
 dsimp only at hG ⊢
 refine ifD (fun hlt => ?_) (fun hge => hj _ _ ⟨rfl, mnP_no fun i p h => inv i p (by omega)⟩)
 have hlt : n < c.ps.length := by omega
 have hx : c.ps[n]? = some c.ps[n] := List.getElem?_eq_getElem hlt
 have hm : c.ps[n] ∈ c.ps := List.getElem_mem hlt
 generalize c.ps[n] = p at hx hm
 refine idx_part hps rfl hx (.inl ⟨_, #[], #[], rfl, ?_⟩)
 refine c_card_Means_1 ?_
 unfold S_card_Means_1
 refine JOIN_inv (fun (y : (Bool × Unit) × Unit) H2 => H2 = H' ∧ (y.1.1 = true ↔ (p.When = 1 ∧ p.Whom = 3))) (fun j1 hj1 => ifE (fun e => hj1 _ _ ⟨rfl, by simp [e]⟩) (fun e => hj1 _ _ ⟨rfl, by simp [e]⟩)) ?_
 rintro ⟨⟨r, _⟩, _⟩ H2 ⟨rfl, hr⟩
 dsimp only at hr ⊢
 refine ifB_of (fun e => hq _ ?_) (fun e => ?_)
 ·have : mnP c.ps := ⟨p, hm, hr.1 e⟩
  simp [this]
 ·rw [i64w (by omega) (by omega)]
  refine hG _ _ ⟨rfl, n + 1, by simp, hlt, fun i u w h => ?_⟩ (by simp; omega)
  by_cases ei : i = n
  ·subst ei; rw [hx] at h; cases h
   intro q; have e : r = false := e
   rw [hr.2 q] at e; cases e
  ·exact inv i u (by omega) h
theorem rmn_c {g : G_api_Card} {c : Cd} (cr : CR m H g c) (h4 : c.ps.length ≤ 4) {Q : Bool × Unit -> Heap -> Prop} (hq : ∀ r, (r = true ↔ mnP c.ps) -> Q (r, ()) H) : CALL P [T_bool] n_ref06_Means [TC.enc g] H Q := by
 apply c_ref06_Means
 unfold S_ref06_Means
 have hps := cr.p
 have hpl := hps.1
 refine JOIN_inv (fun _ H' => H' = H ∧ ¬ mnP c.ps) (fun j hj => ?_) (fun _ H' hh => by obtain ⟨rfl, n⟩ := hh; exact hq _ (by simpa using n))
 refine loop_of (fun (y : (Int × Unit) × Unit) H' => H' = H ∧ ∃ n : Nat, y.1.1 = n ∧ n ≤ c.ps.length ∧ ∀ (i : Nat) p, i < n -> c.ps[i]? = some p -> ¬ (p.When = 1 ∧ p.Whom = 3)) (fun y => c.ps.length - y.1.1.toNat) ?_ ⟨rfl, 0, rfl, Nat.zero_le _, fun i p h => by omega⟩
 rintro G ⟨⟨i, _⟩, _⟩ H' ⟨rfl, n, hi, hn, inv⟩ hG
 simp only at hi; subst hi
 dsimp only at hG ⊢
 refine ifD (fun hlt => ?_) (fun hge => hj _ _ ⟨rfl, mnP_no fun i p h => inv i p (by omega)⟩)
 have hlt : n < c.ps.length := by omega
 have hx : c.ps[n]? = some c.ps[n] := List.getElem?_eq_getElem hlt
 have hm : c.ps[n] ∈ c.ps := List.getElem_mem hlt
 generalize c.ps[n] = p at hx hm
 refine hJ (p.When = 1 ∧ p.Whom = 3) (fun j5 hj5 => idx_when' hps rfl hx (ifE (fun e => idx_fld (T := TP) (T1 := T_int .u8) (of := 2) hTP hps rfl hx rfl ((TP.cells p).take 2) ((TP.cells p).drop 3) rfl rfl rfl (hj5 _ (by simp [e]))) (fun e => hj5 _ (by simp [e])))) (fun w => ?_) (fun w => ?_)
 ·have : mnP c.ps := ⟨p, hm, w⟩
  exact hq _ (by simp [this])
 ·rw [i64w (by omega) (by omega)]
  refine hG _ _ ⟨rfl, n + 1, by simp, hlt, fun i u q h => ?_⟩ (by simp; omega)
  by_cases ei : i = n
  ·subst ei; rw [hx] at h; cases h; exact w
  ·exact inv i u (by omega) h
def needP (se : Bool) (B : List Cd) (t : Tg) : Prop := se = true ∧ 1 ≤ t.Card ∧ ∃ c, B[(t.Card - 1).toNat]? = some c ∧ mnP c.ps
theorem need_no {t : Tg} (q : se = false ∨ t.Card < 1 ∨ (B.length : Int) < t.Card) : ¬ needP se B t := by
 rintro ⟨h1, h2, c, h3, _⟩
 have := (List.getElem?_eq_some_iff.1 h3).1
 rcases q with q | q | q
 ·rw [h1] at q; cases q
 ·omega
 ·omega
theorem need_iff {t : Tg} {c : Cd} (h1 : se = true) (h2 : 1 ≤ t.Card) (h3 : B[(t.Card - 1).toNat]? = some c) : needP se B t ↔ mnP c.ps :=
 ⟨fun ⟨_, _, c', w, q⟩ => by rw [h3] at w; cases w; exact q, fun q => ⟨h1, h2, c, h3, q⟩⟩
theorem pneeds_c (h : BP m H b se B ms) (okB : OkB B) {t : Tg} {Q : Bool × Unit -> Heap -> Prop} (hq : ∀ r H', (r = true ↔ needP se B t) -> Frs [] H H' -> Q (r, ()) H') : CALL P [T_bool] n_target_Needs [.pointer (some ⟨b, 0, none⟩), TT'.enc t] H Q := by
 apply c_target_Needs
 unfold S_target_Needs
 refine tcard_c h okB (fun q => JOIN_of (ifB_f rfl (hq _ _ ⟨fun e => (by cases e), fun w => absurd w (need_no q)⟩ (.refl _ _)))) (fun c g H' h1 h2 hc cr f => JOIN_of (ifB_t rfl (pmn_c cr (okB.p4 (List.mem_of_getElem? hc)) fun r hr => hq _ _ ?_ f)))
 rw [hr, need_iff h1 h2 hc]
theorem rneeds_c (h : BD m H b se B ms) (okB : OkB B) {t : Tg} {Q : Bool × Unit -> Heap -> Prop} (hq : ∀ r H', (r = true ↔ needP se B t) -> Frs [] H H' -> Q (r, ()) H') : CALL P [T_bool] n_ref24_Needs [.pointer (some ⟨b, 0, none⟩), TT'.enc t] H Q := by
 apply c_ref24_Needs
 unfold S_ref24_Needs
 refine rcard18_c h okB (fun q => JOIN_of (ifB_f rfl (hq _ _ ⟨fun e => (by cases e), fun w => absurd w (need_no q)⟩ (.refl _ _)))) (fun c g H' h1 h2 hc cr f => JOIN_of (ifB_t rfl (rmn_c cr (okB.p4 (List.mem_of_getElem? hc)) fun r hr => hq _ _ ?_ f)))
 rw [hr, need_iff h1 h2 hc]
theorem r18unit_c (h : BD m H b true B ms) (okB : OkB B) {t : Tg} {Q : Bool × Unit -> Heap -> Prop} (hq : ∀ r H', (r = true ↔ unP B t) -> Frs [] H H' -> Q (r, ()) H') : CALL P [T_bool] n_ref18_Unit [.pointer (some ⟨b, 0, none⟩), TT'.enc t] H Q := by
 apply c_ref18_Unit
 unfold S_ref18_Unit
 refine rcard18_c h okB (fun q => JOIN_of (ifB_f rfl (hq _ _ ⟨fun e => (by cases e), fun ⟨_, k1, c, k2, _⟩ => ?_⟩ (.refl _ _)))) (fun c g H' _ h1 hc cr f => JOIN_of (ifB_t rfl (ifE (fun hp => hq _ _ ?_ f) (fun hp => hq _ _ ⟨fun e => (by cases e), fun w => absurd w.1 hp⟩ f))))
 ·have := (List.getElem?_eq_some_iff.1 k2).1
  rcases q with q | q | q
  ·cases q
  ·omega
  ·omega
 ·have hk : g.Kind = c.g.Kind := by rw [← cr.e]; rfl
  rw [hk]
  constructor
  ·intro e; exact ⟨hp, h1, c, hc, by simpa using e⟩
  ·rintro ⟨_, _, c', k1, k2⟩
   rw [hc] at k1; cases k1
   simpa using k2
theorem rfits_c (h : BD m H b se B ms) (okB : OkB B) (hs : SlF TT' H a1 ts) (hf : SlF TF H a2 fs) {who : Int} {Q : Bool × Unit -> Heap -> Prop} (hq : ∀ r H', (r = true ↔ askP se B ts fs who) -> Frs [] H H' -> Q (r, ()) H') :
  CALL P [T_bool] n_ref24_fits [.pointer (some ⟨b, 0, none⟩), a1.v, a2.v, .int .i64 who] H Q := by
 apply c_ref24_fits
 unfold S_ref24_fits
 have go : ∀ (w : who = 0 ∨ who = 1) (j : (Bool × Unit) × Unit -> Heap -> Prop), (∀ r H', (r = true ↔ askP se B ts fs who) -> Frs [] H H' -> j ((r, ()), ()) H') -> CALL P [T_bool] n_ref07_Book_Sealed [.pointer (some ⟨b, 0, none⟩)] H fun (x3 : Bool × Unit) H2 => ifB x3.1 (CALL P [T_bool] n_ref19_Together [.pointer (some ⟨b, 0, none⟩), a1.v, a2.v] H2 fun (x4 : Bool × Unit) H3 => j ((x4.1, ()), ()) H3) (j ((false, ()), ()) H2) := fun w j hj => by
  refine rsealed_c h (ifB_of (fun e => rtog_c h okB hs hf fun r H3 hr f3 => hj r H3 ?_ f3) (fun e => hj _ _ ⟨fun q => (by cases q), fun q => ?_⟩ (.refl _ _)))
  ·rw [hr]; exact ⟨fun q => ⟨q, w⟩, fun q => q.1⟩
  ·have := (setE_ok (e := q.1)).1
   have e : se = false := e
   rw [this] at e; cases e
 refine JOIN_inv (fun (y : (Bool × Unit) × Unit) H' => (y.1.1 = true ↔ askP se B ts fs who) ∧ Frs [] H H') (fun j hj => ifE (fun e => go (.inl e) j fun r H' hr f => hj _ _ ⟨hr, f⟩) (fun e0 => ifE (fun e => go (.inr e) j fun r H' hr f => hj _ _ ⟨hr, f⟩) (fun e1 => hj _ _ ⟨⟨fun q => (by cases q), fun q => ?_⟩, .refl _ _⟩))) (fun y H' hh => hq _ _ hh.1 hh.2)
 have := q.2; omega
theorem rmay24_c (h : BD m H b true B ms) (okB : OkB B) (hs : SlF TT' H a1 ts) (hf : SlF TF H a2 fs) (hfe : fs.length = ts.length) (hl : ts.length ≤ 2048) {who n : Int} {Q : Bool × Unit -> Heap -> Prop} (hq : ∀ r H', (r = true ↔ mayN B ts fs who n) -> Frs [] H H' -> Q (r, ()) H') :
  CALL P [T_bool] n_ref24_may [.pointer (some ⟨b, 0, none⟩), a1.v, a2.v, .int .i64 who, .int .i64 n] H Q := by
 apply c_ref24_may
 unfold S_ref24_may
 have hsl := hs.1
 refine hJ (n = -1 ∨ n = -2) (fun j hj => ifE (fun q => hj _ (by simp [q])) (fun q => hj _ (by simp [q]))) (fun q => hq _ _ ⟨fun _ => by unfold mayN; omega, fun _ => rfl⟩ (.refl _ _)) (fun hn => ?_)
 by_cases hn1 : n < 1
 ·refine JOIN_of (ifB_t (by simpa using hn1) (ifB_t rfl (hq _ _ ⟨fun q => (by cases q), fun q => ?_⟩ (.refl _ _))))
  unfold mayN at q; omega
 by_cases hn2 : ts.length < n
 ·refine JOIN_of (ifB_f (by simpa using hn1) (ifB_t (by simp; omega) (ifB_t rfl (hq _ _ ⟨fun q => (by cases q), fun q => ?_⟩ (.refl _ _)))))
  unfold mayN at q
  rcases q with w | w | ⟨_, t, f, w, _⟩
  ·omega
  ·omega
  ·have := (List.getElem?_eq_some_iff.1 w).1; omega
 have hw : IntKind.wrap .i64 (n - 1) = ((n - 1).toNat : Int) := by rw [i64w (by omega) (by omega)]; omega
 rw [hw]
 have ht : ts[(n - 1).toNat]? = some (ts[(n - 1).toNat]'(by omega)) := List.getElem?_eq_getElem (by omega)
 have hff : fs[(n - 1).toNat]? = some (fs[(n - 1).toNat]'(by omega)) := List.getElem?_eq_getElem (by omega)
 generalize (ts[(n - 1).toNat]'(by omega)) = t at ht
 generalize (fs[(n - 1).toNat]'(by omega)) = f at hff
 have key : mayN B ts fs who n ↔ unP B t ∧ (f.Holder = who ∨ hasT f.Traits 4 = false) := by
  unfold mayN
  constructor
  ·rintro (w | w | ⟨_, t', f', w1, w2, w3⟩)
   ·omega
   ·omega
   ·rw [ht] at w1; rw [hff] at w2; cases w1; cases w2; exact w3
  ·exact fun w => .inr (.inr ⟨by omega, t, f, ht, hff, w⟩)
 refine JOIN_inv (fun (y : (Bool × Unit) × Unit) H' => (y.1.1 = true ↔ ¬ unP B t) ∧ Frs [] H H') (fun j3 hj3 => ifB_f (by simpa using hn1) (ifB_f (by simp; omega) (idx_ldF (T := TT') hTT' hs rfl ht rfl (r18unit_c h okB fun r2 H2 hr2 f2 => hj3 _ _ ⟨?_, f2⟩)))) ?_
 ·rw [← hr2]; cases r2 <;> simp
 ·rintro ⟨⟨r, _⟩, _⟩ H2 ⟨hr, f2⟩
  dsimp only at hr ⊢
  refine ifB_of (fun e => hq _ _ ⟨fun q => (by cases q), fun q => absurd (key.1 q).1 (hr.1 e)⟩ f2) (fun e => ?_)
  have hu : unP B t := Classical.byContradiction fun q => by
   have e : r = false := e
   rw [hr.2 q] at e; cases e
  have hf2 := hf.frs f2 (by simp)
  refine JOIN_inv (fun (y : (Bool × Unit) × Unit) H' => H' = H2 ∧ (y.1.1 = true ↔ (f.Holder = who ∨ hasT f.Traits 4 = false))) (fun j9 hj9 => idx_traits hf2 rfl hff (rhas_c (ifB_of (fun e => hj9 _ _ ⟨rfl, ?_⟩) (fun e => idx_hold hf2 rfl hff (hj9 _ _ ⟨rfl, ?_⟩))))) ?_
  ·have e : (!hasT f.Traits 4) = true := e
   have : hasT f.Traits 4 = false := by simpa using e
   simp [this]
  ·have e : (!hasT f.Traits 4) = false := e
   have : hasT f.Traits 4 = true := by simpa using e
   simp [this]
  ·rintro ⟨⟨r3, _⟩, _⟩ H' ⟨rfl, hr3⟩
   refine hq _ _ ?_ f2
   rw [key]
   exact ⟨fun q => ⟨hu, hr3.1 q⟩, fun q => hr3.2 q.2⟩
theorem r24may_c (h : BD m H b se B ms) (okB : OkB B) (hs : SlF TT' H a1 ts) (hf : SlF TF H a2 fs) {who n : Int} {Q : Bool × Unit -> Heap -> Prop} (hq : ∀ r H', (r = true ↔ askP se B ts fs who ∧ mayN B ts fs who n) -> Frs [] H H' -> Q (r, ()) H') :
  CALL P [T_bool] n_ref24_May [.pointer (some ⟨b, 0, none⟩), a1.v, a2.v, .int .i64 who, .int .i64 n] H Q := by
 apply c_ref24_May
 unfold S_ref24_May
 refine JOIN_inv (fun (y : (Bool × Unit) × Unit) H' => (y.1.1 = true ↔ askP se B ts fs who ∧ mayN B ts fs who n) ∧ Frs [] H H') (fun j hj => rfits_c h okB hs hf fun r H1 hr f1 => ifB_of (fun e => ?_) (fun e => hj _ _ ⟨⟨fun q => (by cases q), fun q => ?_⟩, f1⟩)) (fun y H' hh => hq _ _ hh.1 hh.2)
 ·have ask := hr.1 e
  obtain ⟨e1, e2, e3, e4⟩ := setE_ok (e := ask.1)
  subst e1
  exact rmay24_c (h.new f1) okB (hs.frs f1 (by simp)) (hf.frs f1 (by simp)) e2 e3 fun r2 H2 hr2 f2 => hj _ _ ⟨⟨fun q => ⟨ask, hr2.1 q⟩, fun q => hr2.2 q.2⟩, f1.trans f2⟩
 ·have e : r = false := e
  rw [hr.2 q.1] at e; cases e
theorem r24all_c (h : BD m H b se B ms) (okB : OkB B) (hs : SlF TT' H a1 ts) (hf : SlF TF H a2 fs) {who : Int} {Q : Sl × Unit -> Heap -> Prop} (hq : ∀ s H' sp, NewO TN' H s H' (allL se B ts fs who) sp -> Q (s, ()) H') :
  CALL P [T_sl] n_ref24_All [.pointer (some ⟨b, 0, none⟩), a1.v, a2.v, .int .i64 who] H Q := by
 apply c_ref24_All
 unfold S_ref24_All
 have hsl := hs.1
 refine rfits_c h okB hs hf fun r H1 hr f1 => ifB_of (fun e => ?_) (fun e => ?_)
 ·have e : (!r) = true := e
  have : ¬ askP se B ts fs who := fun q => by rw [hr.2 q] at e; cases e
  have e2 : allL se B ts fs who = [] := by unfold allL; rw [if_neg this]
  refine hq _ _ [] ?_
  rw [e2]; exact (NewO.nil' TN' H1).older f1
 have hr1 : r = true := by
  have e : (!r) = false := e
  simpa using e
 have ask := hr.1 hr1
 obtain ⟨e1, e2, e3, e4⟩ := setE_ok (e := ask.1)
 have eal : allL se B ts fs who = [-1, -2] ++ selL (mayN B ts fs who) ts.length := by unfold allL; rw [if_pos ask]
 subst e1
 unfold NEW
 obtain ⟨r6, f6, l6⟩ := row1 H1 [(.int .i64 (-1)), (.int .i64 (-2))] 1
 generalize mk H1 [(.int .i64 (-1)), (.int .i64 (-2))] 1 false = H2 at r6 f6 l6
 have f02 := f1.trans f6
 have o2 : Ow TN' H2 ⟨some ⟨H1.length, 0, none⟩, 2, 2⟩ [-1, -2] [] := ⟨rfl, rfl, by simp, .inr ⟨_, rfl, r6⟩⟩
 have n2 : NewO TN' H ⟨some ⟨H1.length, 0, none⟩, 2, 2⟩ H2 [-1, -2] [] := ⟨o2, fun d hd => by simp at hd; subst hd; exact f1.1, f02⟩
 refine JOIN_inv (fun y H' => ∃ sp, NewO TN' H y.1.1 H' ([-1, -2] ++ selL (mayN B ts fs who) ts.length) sp) (fun j hj => ?_) (fun y H' h => by obtain ⟨sp, h⟩ := h; exact hq _ _ _ (by rw [eal]; exact h))
 refine loop_of (fun (y : (Sl × Int × Unit) × Unit) H' => ∃ (k : Nat) (sp : List Int), y.1.2.1 = (k : Int) + 1 ∧ k ≤ ts.length ∧ NewO TN' H y.1.1 H' ([-1, -2] ++ selL (mayN B ts fs who) k) sp) (fun y => ts.length + 1 - y.1.2.1.toNat) ?_ ⟨0, [], rfl, Nat.zero_le _, by simpa [selL] using n2⟩
 rintro G ⟨⟨out, i, _⟩, _⟩ H3 ⟨k, sp, hi, hk, no⟩ hG
 simp only at hi no; subst hi
 dsimp only at hG ⊢
 refine ifD (fun hlt => ?_) (fun hge => hj _ _ ⟨sp, ?_⟩)
 ·have f3 := no.2.2
  refine rmay24_c (h.new f3) okB (hs.frs f3 (by simp)) (hf.frs f3 (by simp)) e2 e3 fun r H4 hr f4 => ?_
  have no2 := no.new f4
  have hl := selL_len (p := mayN B ts fs who) k
  refine JOIN_inv (fun y H' => ∃ sp, NewO TN' H y.1.1 H' ([-1, -2] ++ selL (mayN B ts fs who) (k + 1)) sp) (fun j2 hj2 => ifB_of (fun e => ?_) (fun e => ?_)) ?_
  ·refine app_c tyI' rfl (fun _ => by simp) (m := 1) [(k : Int) + 1] rfl rfl (by rw [List.length_append]; show 2 * (_ + 1) * 4096 ≤ _; simp only [List.length_cons, List.length_nil]; omega) no2.1 fun s4 H5 sp5 k1 k2 k3 => ?_
   exact hj2 _ _ ⟨sp5, by rw [selL_pos (hr.1 e), ← List.append_assoc]; exact no2.app k1 k2 k3⟩
  ·exact hj2 _ _ ⟨sp, by rw [selL_neg (fun q => by have e : r = false := e; rw [hr.2 q] at e; cases e)]; exact no2⟩
  ·rintro ⟨⟨out3, _⟩, _⟩ H5 ⟨sp3, no3⟩
   rw [i64w (by omega) (by omega)]
   exact hG _ _ ⟨k + 1, sp3, by simp, by omega, no3⟩ (by simp; omega)
 ·have : k = ts.length := by omega
  subst this; exact no
theorem allL_le (h : ts.length ≤ 1048600) (who : Int) : (allL se B ts fs who).length ≤ 1048602 := by
 unfold allL
 split
 ·have := selL_len (p := mayN B ts fs who) ts.length
  rw [List.length_append]; simp only [List.length_cons, List.length_nil]; omega
 ·simp
theorem beq_iff' {x y : Bool} {p : Prop} (h1 : x = true ↔ p) (h2 : y = true ↔ p) : (x == y) = true := by
 have : x = y := by rw [Bool.eq_iff_iff, h1, h2]
 rw [this]; exact beq_self_eq_true y
theorem tall_c {t : G_law24_Table} {gs : List G_api_Card} {mks : List G_api_MarkInfo} (hin : InT H t gs mks ts fs) {who meant : Int} {card : Tg} {Q : Bool × Unit -> Heap -> Prop} (hq : ∀ H', Q (true, ()) H') :
  CALL P [T_bool] n_law24_TargetAll [T_G_law24_Table.enc t, .int .i64 who, .int .i64 meant, TT'.enc card] H Q := by
 apply c_law24_TargetAll
 unfold S_law24_TargetAll
 refine books_c hin.c hin.cl hin.cg hin.m hin.ml fun H1 a b m se B ms bk => ?_
 refine feat_c bk.r bk.ok bk.og (hin.gv.new bk.f) hin.fl fun x2 fs' H2 gv2 hl2 f2 => ?_
 have p2 := bk.p.new f2
 have r2 := bk.r.new f2
 have hln := gv2.len
 have htl := hin.tl
 have hxt := gv2.s.1
 have hxf := gv2.f.1
 refine KThings.lent_c gv2.s (by omega) fun x3 H3 sp3 n3 ⟨d3, e3⟩ => ?_
 refine KFeatures.lent_c (gv2.f.frs n3.2.2 (by simp)) (by omega) fun x4 H4 sp4 n4 ⟨d4, e4⟩ => ?_
 have f24 := n3.2.2.trans n4.2.2
 have n3' := n3.new n4.2.2
 have gv4 := gv2.new f24
 have p4 := p2.new f24
 have r4 := r2.new f24
 refine n3'.1.j.take KThings.tyS (n := ts.length) (by rw [hxt]) (by simp) (by rw [e3]; simp) fun o5 => ?_
 refine n4.1.j.take KFeatures.tyS (n := fs'.length) (by rw [hxf]) (by simp) (by rw [e4]; simp) fun o6 => ?_
 rw [List.take_left] at o5 o6
 have fl5 : Flat H4 ⟨x3.p, ts.length, x3.cap⟩ := fun d off e => by
  obtain ⟨_, _, _, ⟨w, _⟩ | ⟨c, w, hc⟩⟩ := n3'.1
  ·rw [show x3.p = _ from e] at w; cases w
  ·rw [show x3.p = _ from e] at w; cases w
   refine ⟨_, _, _, _, _, hc, fun v hv => ?_⟩
   obtain ⟨y, _, hy⟩ := List.mem_flatMap.1 hv
   exact flatTT y v hy
 have gl : Gv H4 ⟨x3.p, ts.length, x3.cap⟩ ⟨x4.p, fs'.length, x4.cap⟩ ts fs' := ⟨o5.slf, o6.slf, fl5, gv2.okt, gv2.okf, gv2.len⟩
 refine all_c p4 bk.ok gl fun x7 H5 sp7 n7 => ?_
 refine all_c (p4.new n7.2.2) bk.ok (gl.new n7.2.2) fun x8 H6 sp8 n8 => ?_
 have f46 := n7.2.2.trans n8.2.2
 have n7' := n7.new n8.2.2
 have hal := allL_le (se := se) (B := B) (fs := fs') hln who
 refine JOIN_inv (fun (y : (Bool × Unit) × Unit) H' => y.1.1 = false ∧ Frs [] H6 H') (fun j9 hj9 => ifB_f rfl ?_) ?_
 ·refine r24all_c (r4.new f46) bk.ok (gv4.new f46).s (gv4.new f46).f fun x11 H8 sp11 n11 => ?_
  refine KInts.same_c (n7'.new n11.2.2).1.slf n11.1.slf (by omega) fun r hr => ?_
  have : r = true := hr.2 rfl
  subst this
  refine ifB_f rfl ?_
  refine KInts.same_c (n8.new n11.2.2).1.slf (n7'.new n11.2.2).1.slf (by omega) fun r hr => ?_
  have : r = true := hr.2 rfl
  subst this
  refine ifB_f rfl ?_
  have f48 := f46.trans n11.2.2
  refine pneeds_c (p4.new f48) bk.ok fun r1 H11 hr1 f11 => ⟨rfl, ?_⟩
  refine rneeds_c ((r4.new f48).new f11) bk.ok fun r2' H12 hr2 f12 => hj9 _ _ ⟨?_, (n11.2.2.trans f11).trans f12⟩
  dsimp only
  rw [beq_iff' hr1 hr2]; rfl
 ·rintro ⟨⟨r, _⟩, _⟩ H7 ⟨hr, f67⟩
  simp only at hr; subst hr
  refine ifB_f rfl ?_
  have f47 := f46.trans f67
  refine may_c (p4.new f47) bk.ok (gl.new f47) fun r16 H13 hr16 f13 => ⟨rfl, ?_⟩
  have f413 := f47.trans f13
  refine r24may_c (r4.new f413) bk.ok (gv4.new f413).s (gv4.new f413).f fun r17 H14 hr17 f14 => ?_
  refine ifB_f (by dsimp only; rw [beq_iff' hr16 hr17]; rfl) ?_
  have f414 := f413.trans f14
  have f614 := (f67.trans f13).trans f14
  refine JOIN_inv (fun (y : (Bool × Unit) × Unit) _ => y.1.1 = true) (fun j18 hj18 => ?_) (fun y H' hy => by rw [hy]; exact hq _)
  refine KThings.kept_c (n3'.new f414).1.slf (gv4.new f414).s (by simp; omega) (by omega) fun r H16 hr f16 => ?_
  have : r = true := hr.2 rfl
  subst this
  refine ifB_t rfl ?_
  have f416 := f414.trans f16
  refine KFeatures.kept_c (n4.new f416).1.slf (gv4.new f416).f (by simp; omega) (by omega) fun r H17 hr f17 => ?_
  have : r = true := hr.2 rfl
  subst this
  refine ifB_t rfl ?_
  unfold NEW
  have fa := (f614.trans f16).trans f17
  obtain ⟨r18, f18, l18⟩ := row1 H17 (fl T_sl [x7, x8]) 1
  change CALL P [T_bool] _ _ (mk H17 (fl T_sl [x7, x8]) 1 false) _
  generalize mk H17 (fl T_sl [x7, x8]) 1 false = H18 at r18 f18 l18
  have fb := fa.trans f18
  have o18 : Ow T_sl H18 ⟨some ⟨H17.length, 0, none⟩, 2, 2⟩ [x7, x8] [] := ⟨rfl, rfl, by simp, .inr ⟨_, rfl, by simpa using r18⟩⟩
  have dist : ∀ c, x7.p = some c -> x8.p ≠ some c := fun c h1 h2 => by
   obtain ⟨_, _, _, ⟨w, _⟩ | ⟨d, w, hd⟩⟩ := n8.1
   ·rw [h2] at w; cases w
   ·have h3 := n8.2.1 d w
    rw [h2] at w; cases w
    have h4 := n7.1.lt h1
    omega
  refine KInts.apart_c ⟨o18.slf, by simp, fun s hs => ?_, fun i j u v c hij hi hj hu hv => ?_⟩ fun H' _ _ => hj18 _ _ rfl
  ·rcases List.mem_cons.1 hs with rfl | hs
   ·exact ⟨_, _, (n7'.new fb).1⟩
   ·rcases List.mem_cons.1 hs with rfl | hs
    ·exact ⟨_, _, (n8.new fb).1⟩
    ·cases hs
  ·match i, j, hi, hj with
   | 0, 0, _, _ => exact hij rfl
   | 0, 1, hi, hj => cases hi; cases hj; exact dist c hu hv
   | 1, 0, hi, hj => cases hi; cases hj; exact dist c hv hu
   | 1, 1, _, _ => exact hij rfl
   | 0, j + 2, _, hj => simp at hj
   | 1, j + 2, _, hj => simp at hj
   | i + 2, _, hi, _ => simp at hi
end
end Go.Proofs.YtolekmhhkopooaaGreatDoor.Zq
end
section
namespace Go.Proofs.YtolekmhhkopooaaGreatDoor.Zq
open Zv
section
variable {H : Heap}
theorem tall_law {t : G_law24_Table} (h : OkX T_G_law24_Table t ∧ SlX TC (fun x => OkX TC x ∧ SlX TP (fun x => OkX TP x) H x.Parts) H t.Fill.Cards ∧ SlX TM (fun x => OkX TM x) H t.Fill.Marks ∧ SlX TT' (fun x => OkX TT' x) H t.Things ∧ SlX TF (fun x => OkX TF x) H t.Fs) {who meant : Int} {card : Tg} :
  CALL P [T_bool] n_law24_TargetAll [T_G_law24_Table.enc t, .int .i64 who, .int .i64 meant, TT'.enc card] H fun x _ => x.1 = true := by
 obtain ⟨gs, mks, ts, fs, hin⟩ := lone_r h
 exact tall_c hin fun _ => rfl
end
end Go.Proofs.YtolekmhhkopooaaGreatDoor.Zq
end
