/- Part 7 of the proof of LayerAll: what its row stands on (lemmas about the model, the evaluator, contracts of functions), put together and cut to what is used. -/
import Derived.Test.YtolekmhhkopooaaGreatDoorKLayerAll6
import Derived.KernelRfl
section
namespace Go.Proofs.YtolekmhhkopooaaGreatDoor.Zq
open Zv
section
variable {H : Heap} {b m : Nat} {se : Bool} {B : List Cd} {ms : List G_api_MarkInfo}
structure OrdT (B : List Cd) (ts : List Tg) (ol : List Int) : Prop where
 few : ol.length ≤ 16
 nd : ol.Nodup
 srt : ∀ (i j : Nat) a b, i < j -> ol[i]? = some a -> ol[j]? = some b -> stampAt ts a.toNat < stampAt ts b.toNat
 at' : ∀ i ∈ ol, ∃ (k : Nat) (t : Tg) (c : Cd), i = k ∧ ts[k]? = some t ∧ t.Place = 4 ∧ 1 ≤ t.Card ∧ B[(t.Card - 1).toNat]? = some c ∧ 1 ≤ t.Stamp ∧ c.g.Kind ≠ 2 ∧ c.ps.length ≤ 4
 all : ∀ (k : Nat) t, ts[k]? = some t -> t.Place = 4 -> (k : Int) ∈ ol
 len : ts.length ≤ 2048
theorem OkB.p4 (h : OkB B) {c : Cd} (hc : c ∈ B) : c.ps.length ≤ 4 := by
 have := h.ok c hc
 unfold chkC at this
 by_cases hf : chkF c = 0
 ·exact chkF_len hf
 ·rw [if_neg hf] at this; exact absurd this hf
theorem IsOrd.ordT {ts : List Tg} {fs : List Ft} {ol : List Int} (h : IsOrd ts ol) (tog : Tog B ts fs) (hfe : fs.length = ts.length) (okB : OkB B) (hlen : ts.length ≤ 2048) : OrdT B ts ol := by
 obtain ⟨hp, hs⟩ := h
 have nd : ol.Nodup := hp.symm.nodup (tabI_nodup _)
 have at' : ∀ i ∈ ol, ∃ (k : Nat) (t : Tg) (c : Cd), i = k ∧ ts[k]? = some t ∧ t.Place = 4 ∧ 1 ≤ t.Card ∧ B[(t.Card - 1).toNat]? = some c ∧ 1 ≤ t.Stamp ∧ c.g.Kind ≠ 2 ∧ c.ps.length ≤ 4 := fun i hi => by
  obtain ⟨k, t, h1, rfl, h3, h4⟩ := mem_tabI.1 (hp.mem_iff.1 hi)
  have hk : k < fs.length := by omega
  obtain ⟨c, w1, w2, _, _, _, w⟩ := tog.all k t _ h3 (List.getElem?_eq_getElem hk)
  exact ⟨k, t, c, rfl, h3, h4, w1, w2, (w h4).2.1, (w h4).1, okB.p4 (List.mem_of_getElem? w2)⟩
 refine ⟨by rw [hp.length_eq]; exact tog.few, nd, fun i j a b' hij ha hb => ?_, at', fun k t h1 h2 => hp.mem_iff.2 (mem_tabI.2 ⟨k, t, (List.getElem?_eq_some_iff.1 h1).1, rfl, h1, h2⟩), hlen⟩
 have h1 := hs i j a b' hij ha hb
 obtain ⟨k, t, _, e1, e2, e3, _⟩ := at' a (List.mem_of_getElem? ha)
 obtain ⟨k', t', _, e1', e2', e3', _⟩ := at' b' (List.mem_of_getElem? hb)
 have ea : stampAt ts a.toNat = t.Stamp := by subst e1; simp [stampAt, e2]
 have eb : stampAt ts b'.toNat = t'.Stamp := by subst e1'; simp [stampAt, e2']
 rw [ea, eb] at h1 ⊢
 have hab : k ≠ k' := fun q => by
  have hi := (List.getElem?_eq_some_iff.1 ha)
  have hj := (List.getElem?_eq_some_iff.1 hb)
  have := List.pairwise_iff_getElem.1 nd i j hi.1 hj.1 hij
  exact this (by rw [hi.2, hj.2, e1, e1', q])
 have := tog.dst k k' t t' hab e2 e2' e3 e3'
 omega
structure Plc (m : Nat) (H : Heap) (a1 cs so : Sl) (B : List Cd) (ts : List Tg) (ol : List Int) : Prop where
 hs : SlF TT' H a1 ts
 c : ∃ cl, SlF TC H cs cl ∧ ∀ (i : Nat) t c, ts[i]? = some t -> t.Place = 4 -> 1 ≤ t.Card -> B[(t.Card - 1).toNat]? = some c -> ∃ g, cl[i]? = some g ∧ CR m H g c
 o : SlF TN' H so ol
 ot : OrdT B ts ol
theorem Plc.new {H' : Heap} {a1 cs so : Sl} {ts : List Tg} {ol : List Int} (h : Plc m H a1 cs so B ts ol) (f : Frs [] H H') : Plc m H' a1 cs so B ts ol := by
 obtain ⟨h1, ⟨cl, h2, h3⟩, h4, h5⟩ := h
 exact ⟨h1.frs f (by simp), ⟨cl, h2.frs f (by simp), fun i t c w1 w2 w3 w4 => by obtain ⟨g, q1, q2⟩ := h3 i t c w1 w2 w3 w4; exact ⟨g, q1, q2.frs f (by simp)⟩⟩, h4.frs f (by simp), h5⟩
theorem Plc.card {a1 cs so : Sl} {ts : List Tg} {ol : List Int} (h : Plc m H a1 cs so B ts ol) : ∃ cl, SlF TC H cs cl ∧ ∀ i ∈ ol, ∃ (k : Nat) (t : Tg) (c : Cd) (g : G_api_Card), i = k ∧ ts[k]? = some t ∧ cl[k]? = some g ∧ CR m H g c ∧ cpI B ts i = c.ps ∧ ckI B ts i = c.g.Kind ∧ g.Kind = c.g.Kind ∧ c.ps.length ≤ 4 := by
 obtain ⟨h1, ⟨cl, h2, h3⟩, h4, h5⟩ := h
 refine ⟨cl, h2, fun i hi => ?_⟩
 obtain ⟨k, t, c, e1, e2, e3, e4, e5, e6, e7, e8⟩ := h5.at' i hi
 obtain ⟨g, q1, q2⟩ := h3 k t c e2 e3 e4 e5
 subst e1
 have hk : g.Kind = c.g.Kind := by rw [← q2.e]; rfl
 have hcd : cdI B ts (k : Int) = some c := by unfold cdI; rw [Int.toNat_natCast, e2]; exact e5
 exact ⟨k, t, c, g, rfl, e2, q1, q2, by unfold cpI; rw [hcd]; rfl, by unfold ckI; rw [hcd]; rfl, hk, e8⟩
theorem setup2_c (h : BP m H b se B ms) (okB : OkB B) {a1 a2 : Sl} {ts : List Tg} {fs : List G_api_Feature} (hs : SlF TT' H a1 ts) (hf : SlF TF H a2 fs) (fla : Flat H a1) (okt : ∀ t ∈ ts, t.Stamp ≤ 9223372036854775807) (okf : ∀ f ∈ fs, 0 ≤ f.Traits) (bts : ts.length ≤ 1048600) {Q : G_layer_place × Int × Unit -> Heap -> Prop}
  (q1 : ∀ p H', setE se B ts fs ≠ 0 -> Frs [] H H' -> Q (p, setE se B ts fs, ()) H') (q0 : ∀ cs so ol H', setE se B ts fs = 0 -> Tog B ts fs -> Plc H.length H' a1 cs so B ts ol -> Frs [] H H' -> Q (⟨some ⟨b, 0, none⟩, a1, cs, so⟩, 0, ()) H') :
  CALL P [T_G_layer_place, TN'] n_layer_setup [.pointer (some ⟨b, 0, none⟩), a1.v, a2.v] H Q := by
 refine setup_c h okB hs hf fla okt okf bts q1 fun cs so cl ol H' e tog pl => ?_
 have hfe : fs.length = ts.length := by
  refine Classical.byContradiction fun q => ?_
  unfold setE at e
  split at e
  ·cases e
  ·rw [if_pos (.inr q)] at e; cases e
 have hlen : ts.length ≤ 2048 := by
  refine Classical.byContradiction fun q => ?_
  unfold setE at e
  rw [if_pos (by omega)] at e; cases e
 exact q0 cs so ol H' e tog ⟨hs.frs pl.f (by simp), ⟨cl, pl.c, pl.card⟩, pl.o, pl.ord.ordT tog hfe okB hlen⟩ pl.f
theorem idx_part {s : Sl} {l : List Pt} (h : SlF TP H s l) {i : Int} {n : Nat} {x : Pt} (hi : i = n) (hx : l[n]? = some x) {K : Pt -> Prop} (hK : K x) : IDX s.p s.len i 8 fun b o => LD TP H b o K := idx_ldF (T := TP) hTP h hi hx rfl hK
theorem idx_cparts {s : Sl} {gs : List G_api_Card} (h : SlF TC H s gs) {i : Int} {n : Nat} {g : G_api_Card} (hi : i = n) (hx : gs[n]? = some g) {K : Sl -> Prop} (hk : K g.Parts) : IDX s.p s.len i 9 fun b o => LD T_sl H b (o + 8) K := by
 subst hi; exact idx_parts h hx hk
theorem peff_c {a1 a2 cs so : Sl} {bp : Option Addr} {ts : List Tg} {fs : List Ft} {ol : List Int} (pl : Plc m H a1 cs so B ts ol) (hf : SlF TF H a2 fs) (hfe : fs.length = ts.length) {k : Int} {Q : Sl × Unit -> Heap -> Prop}
  (hq : ∀ s H' sp, NewO TSt H s H' (effs B ts fs ol k) sp -> Q (s, ()) H') : CALL P [T_sl] n_layer_place_effects [T_G_layer_place.enc ⟨bp, a1, cs, so⟩, a2.v, .int .i64 k] H Q := by
 apply c_layer_place_effects
 unfold S_layer_place_effects
 have hol := pl.o.1
 obtain ⟨cl, hcl, cd⟩ := pl.card
 refine JOIN_inv (fun y H' => ∃ sp, NewO TSt H y.1.1 H' (effs B ts fs ol k) sp) (fun j hj => ?_) (fun y H' h => by obtain ⟨sp, h⟩ := h; exact hq _ _ _ h)
 refine loop_of (fun (y : (Sl × Int × Unit) × Unit) H' => ∃ (n : Nat) (sp : List Sg), y.1.2.1 = n ∧ n ≤ ol.length ∧ NewO TSt H y.1.1 H' ((ol.take n).flatMap (effO1 B ts fs k)) sp) (fun y => ol.length - y.1.2.1.toNat) ?_ ⟨0, [], rfl, Nat.zero_le _, by simpa using NewO.nil' TSt H⟩
 rintro G ⟨⟨out, i, _⟩, _⟩ H1 ⟨n, sp, hi, hn, no⟩ hG
 simp only at hi no; subst hi
 dsimp only at hG ⊢
 have f1 := no.2.2
 refine ifD (fun hlt => ?_) (fun hge => hj _ _ ⟨sp, ?_⟩)
 ·have hlt : n < ol.length := by omega
  have hx : ol[n]? = some ol[n] := List.getElem?_eq_getElem hlt
  have hm : ol[n] ∈ ol := List.getElem_mem hlt
  generalize ol[n] = x at hx hm
  obtain ⟨kx, t, c, g, ek, et, eg, cr, ecp, eck, egk, e4⟩ := cd x hm
  have hkl : kx < fs.length := by rw [hfe]; exact (List.getElem?_eq_some_iff.1 et).1
  have hfx : fs[kx]? = some fs[kx] := List.getElem?_eq_getElem hkl
  generalize fs[kx] = f at hfx
  have eft : ftI fs x = f := ftI_at ek hfx
  have tk := fm_take (effO1 B ts fs k) hx
  have hpre : ((ol.take n).flatMap (effO1 B ts fs k)).length ≤ 64 := by
   have := fm_len (f := effO1 B ts fs k) (c := 4) (l := ol.take n) fun y hy => by
    obtain ⟨_, _, c', _, _, _, _, _, ecp', _, _, e4'⟩ := cd y (List.mem_of_mem_take hy)
    unfold effO1
    split
    ·simp
    ·have := effN_len (y + 1) k (cpI B ts y)
     rw [ecp'] at this ⊢; omega
   have h16 := pl.ot.few
   rw [List.length_take] at this
   omega
  refine JOIN_inv (fun y H' => ∃ sp, NewO TSt H y.1.1 H' ((ol.take (n + 1)).flatMap (effO1 B ts fs k)) sp) (fun j2 hj2 => ?_) ?_
  ·refine idx_ldF (T := TN') hTN' (pl.o.frs f1 (by simp)) rfl hx rfl (idx_traits (hf.frs f1 (by simp)) ek hfx (phas_c (ifB_of (fun hM => ?_) (fun hM => ?_))))
   ·refine hj2 _ _ ⟨sp, ?_⟩
    have : effO1 B ts fs k x = [] := by unfold effO1; rw [eft, if_pos hM]
    rw [tk, this, List.append_nil]; exact no
   ·have e1 : effO1 B ts fs k x = effN (x + 1) k c.ps := by
     unfold effO1; rw [eft, if_neg (by have hM : hasT f.Traits 6 = false := hM; rw [hM]; decide), ecp]
    rw [e1] at tk
    refine idx_cparts (hcl.frs f1 (by simp)) ek eg ?_
    have hps := cr.p
    have hpl := hps.1
    refine JOIN_inv (fun y H' => ∃ sp, NewO TSt H y.1.1 H' ((ol.take (n + 1)).flatMap (effO1 B ts fs k)) sp) (fun j3 hj3 => ?_) (fun y H' h => hj2 _ _ h)
    refine loop_of (fun (y : (Sl × Int × Unit) × Unit) H' => ∃ (i : Nat) (sp : List Sg), y.1.2.1 = i ∧ i ≤ c.ps.length ∧ NewO TSt H y.1.1 H' ((ol.take n).flatMap (effO1 B ts fs k) ++ (c.ps.zipIdx.take i).flatMap (effN1 (x + 1) k)) sp) (fun y => c.ps.length - y.1.2.1.toNat) ?_ ⟨0, sp, rfl, Nat.zero_le _, by simpa using no⟩
    rintro G2 ⟨⟨out2, i2, _⟩, _⟩ H2 ⟨i, sp2, hi, hin, no2⟩ hG2
    simp only at hi no2; subst hi
    dsimp only at hG2 ⊢
    have f2 := no2.2.2
    refine ifD (fun hlt2 => ?_) (fun hge2 => hj3 _ _ ⟨sp2, ?_⟩)
    ·have hlt2 : i < c.ps.length := by omega
     have hy : c.ps[i]? = some c.ps[i] := List.getElem?_eq_getElem hlt2
     have hz : c.ps.zipIdx[i]? = some (c.ps[i], i) := by rw [List.getElem?_zipIdx, hy]; simp
     generalize c.ps[i] = p at hy hz
     have tk2 := fm_take (effN1 (x + 1) k) hz
     have hpre2 : ((c.ps.zipIdx.take i).flatMap (effN1 (x + 1) k)).length ≤ 4 := by
      have := fm_len (f := effN1 (x + 1) k) (c := 1) (l := c.ps.zipIdx.take i) fun y _ => effN1_len _ _ y
      rw [List.length_take, List.length_zipIdx] at this
      omega
     refine idx_part (hps.frs f2 (by simp)) rfl hy (JD (p.When = 5 ∧ layV p.Verb = k) (fun j4 hj4 => ifE (fun e5 => play_c (hj4 _ (by simp [e5]))) (fun e5 => hj4 _ (by simp [e5]))) ?_)
     refine JOIN_inv (fun y H' => ∃ sp, NewO TSt H y.1.1 H' ((ol.take n).flatMap (effO1 B ts fs k) ++ (c.ps.zipIdx.take (i + 1)).flatMap (effN1 (x + 1) k)) sp) (fun j5 hj5 => ifD (fun hc => ?_) (fun hc => hj5 _ _ ⟨sp2, ?_⟩)) ?_
     ·have e2 : effN1 (x + 1) k (p, i) = [⟨x + 1, i, p⟩] := by unfold effN1; rw [if_pos hc]
      have hkx : x + 1 ≤ 9223372036854775807 ∧ 0 ≤ x := by
       have h1 := pl.ot.len
       omega
      rw [i64w (by omega) (by omega)]
      refine app_c tySt rfl (fun _ => by simp) (m := 1) [(⟨x + 1, i, p⟩ : Sg)] rfl rfl (by rw [List.length_append]; show 2 * (_ + 1) * 4096 ≤ _; omega) no2.1 fun s4 H5 sp5 k1 k2 k3 => ?_
      refine hj5 _ _ ⟨sp5, ?_⟩
      rw [tk2, e2, ← List.append_assoc]
      exact no2.app k1 k2 k3
     ·have e2 : effN1 (x + 1) k (p, i) = [] := by unfold effN1; rw [if_neg hc]
      rw [tk2, e2, List.append_nil]; exact no2
     ·rintro ⟨⟨out3, _⟩, _⟩ H3 ⟨sp3, no3⟩
      rw [i64w (by omega) (by omega)]
      exact hG2 _ _ ⟨i + 1, sp3, by simp, hlt2, no3⟩ (by simp; omega)
    ·have : i = c.ps.length := by omega
     subst this
     have e3 : c.ps.zipIdx.take c.ps.length = c.ps.zipIdx := by rw [← List.length_zipIdx (l := c.ps) (i := 0), List.take_length]
     rw [e3] at no2
     rw [tk]; exact no2
  ·rintro ⟨⟨out3, _⟩, _⟩ H3 ⟨sp3, no3⟩
   have := pl.ot.few
   rw [i64w (by omega) (by omega)]
   exact hG _ _ ⟨n + 1, sp3, by simp, hlt, no3⟩ (by simp; omega)
 ·have : n = ol.length := by omega
  subst this
  rw [List.take_length] at no; exact no
theorem effects_c (h : BP m H b se B ms) (okB : OkB B) {a1 a2 : Sl} {ts : List Tg} {fs : List G_api_Feature} (hs : SlF TT' H a1 ts) (hf : SlF TF H a2 fs) (fla : Flat H a1) (okt : ∀ t ∈ ts, t.Stamp ≤ 9223372036854775807) (okf : ∀ f ∈ fs, 0 ≤ f.Traits) (bts : ts.length ≤ 1048600) {k : Int} {Q : Sl × Int × Unit -> Heap -> Prop}
  (q1 : ∀ H', setE se B ts fs ≠ 0 -> Frs [] H H' -> Q (⟨none, 0, 0⟩, setE se B ts fs, ()) H') (q2 : ∀ H', setE se B ts fs = 0 -> (k < 1 ∨ 5 < k) -> Frs [] H H' -> Q (⟨none, 0, 0⟩, 2, ()) H')
  (q0 : ∀ s ol H' sp, setE se B ts fs = 0 -> Tog B ts fs -> 1 ≤ k -> k ≤ 5 -> OrdT B ts ol -> NewO TSt H s H' (effs B ts fs ol k) sp -> Q (s, 0, ()) H') :
  CALL P [T_sl, TN'] n_layer_Effects [.pointer (some ⟨b, 0, none⟩), a1.v, a2.v, .int .i64 k] H Q := by
 apply c_layer_Effects
 unfold S_layer_Effects
 refine setup2_c h okB hs hf fla okt okf bts (fun p H' e f => ifB_t (by simpa using e) (q1 H' e f)) fun cs so ol H' e tog pl f => ifB_f rfl ?_
 have hfe : fs.length = ts.length := by
  refine Classical.byContradiction fun q => ?_
  unfold setE at e
  split at e
  ·cases e
  ·rw [if_pos (.inr q)] at e; cases e
 refine hJ (k < 1 ∨ 5 < k) (fun j hj => ifD (fun h => hj _ (by simp; omega)) (fun h => hj _ (by simp; omega))) (fun hk => q2 _ e hk f) (fun hk => ?_)
 exact peff_c pl (hf.frs f (by simp)) hfe fun s H2 sp no => q0 s ol H2 sp e tog (by omega) (by omega) pl.ot (no.older f)
end
end Go.Proofs.YtolekmhhkopooaaGreatDoor.Zq
end
section
namespace Go.Proofs.YtolekmhhkopooaaGreatDoor.Zq
open Zv
section
variable {H : Heap} {b m : Nat} {se : Bool} {B : List Cd} {ms : List G_api_MarkInfo}
structure Gv (H : Heap) (a1 a2 : Sl) (ts : List Tg) (fs : List Ft) : Prop where
 s : SlF TT' H a1 ts
 f : SlF TF H a2 fs
 fl : Flat H a1
 okt : ∀ t ∈ ts, t.Stamp ≤ 9223372036854775807
 okf : ∀ f ∈ fs, 0 ≤ f.Traits
 len : ts.length ≤ 1048600
variable {a1 a2 : Sl} {ts : List Tg} {fs : List Ft}
theorem Gv.new {H' : Heap} (h : Gv H a1 a2 ts fs) (f : Frs [] H H') : Gv H' a1 a2 ts fs := ⟨h.s.frs f (by simp), h.f.frs f (by simp), h.fl.frs f, h.okt, h.okf, h.len⟩
theorem setE_ok {e : setE se B ts fs = 0} : se = true ∧ fs.length = ts.length ∧ ts.length ≤ 2048 ∧ Tog B ts fs := by
 unfold setE at e
 split at e
 ·cases e
 ·rename_i h1
  split at e
  ·cases e
  ·rename_i h2
   split at e
   ·rename_i h3
    refine ⟨?_, Classical.byContradiction fun q => h2 (.inr q), by omega, h3⟩
    cases hs : se with
    | true => rfl
    | false => exact absurd (.inl hs) h2
   ·cases e
theorem tyI' : TyS E TN' 35 (0 : Int) := tyI
theorem row1 (H : Heap) (c : List Value) (z : Nat) : (mk H c z false)[H.length]? = some (.row c z false false true) ∧ Frs [] H (mk H c z false) ∧ (mk H c z false).length = H.length + 1 := ⟨by simp [mk], Frs.app _ _ _, by simp [mk]⟩
end
end Go.Proofs.YtolekmhhkopooaaGreatDoor.Zq
end
section
namespace Go.Proofs.YtolekmhhkopooaaGreatDoor.Zq
open Zv
section
variable {H : Heap} {b m : Nat} {se : Bool} {B : List Cd} {ms : List G_api_MarkInfo} {a1 a2 : Sl} {ts : List Tg} {fs : List Ft}
theorem idx_fld {T T1 : Tag} (hT : ∀ x, (T.cells x).length = T.n) {s : Sl} {l : List T.α} (h : SlF T H s l) {i : Int} {n : Nat} {x : T.α} (hi : i = n) (hx : l[n]? = some x) {sz : Nat} (hz : sz = T.n) (pre post : List Value) {v : T1.α} {of : Nat}
  (hcut : T.cells x = pre ++ (T1.cells v ++ post)) (hpre : pre.length = of) (hn : (T1.cells v).length = T1.n) {K : T1.α -> Prop} (hK : K v) : IDX s.p s.len i sz fun b o => LD T1 H b (o + of) K := by
 have hl := (List.getElem?_eq_some_iff.1 hx).1
 obtain ⟨h1, ⟨_, h2, _⟩ | ⟨_, _, _, h2, _⟩ | ⟨b, A, B, z, o, ro, h3, h4⟩⟩ := h
 ·subst h2; simp at hl
 ·subst h2; simp at hl
 ·subst hi; subst hz
  unfold IDX NIL
  rw [h3]
  refine ⟨⟨by omega, by omega⟩, ?_⟩
  refine LD_of (T := T1) v (A ++ (fl T (l.take n) ++ pre)) (post ++ (fl T (l.drop (n + 1)) ++ B)) h4 ?_ ?_ hn hK
  ·rw [fl_cut (T := T) l n x hx, hcut]; simp [List.append_assoc]
  ·rw [List.length_append, List.length_append, fl_len hT, List.length_take, Nat.min_eq_left (by omega), Int.toNat_natCast, hpre]
   omega
theorem idx_place {s : Sl} {l : List Tg} (h : SlF TT' H s l) {i : Int} {n : Nat} {x : Tg} (hi : i = n) (hx : l[n]? = some x) {K : Int -> Prop} (hK : K x.Place) : IDX s.p s.len i 11 fun b o => LD (T_int .u8) H b (o + 2) K :=
 idx_fld (T := TT') (T1 := T_int .u8) hTT' h hi hx rfl ((TT'.cells x).take 2) ((TT'.cells x).drop 3) rfl rfl rfl hK
theorem idx_tcard {s : Sl} {l : List Tg} (h : SlF TT' H s l) {i : Int} {n : Nat} {x : Tg} (hi : i = n) (hx : l[n]? = some x) {K : Int -> Prop} (hK : K x.Card) : IDX s.p s.len i 11 fun b o => LD TN' H b (o + 0) K :=
 idx_fld (T := TT') (T1 := TN') hTT' h hi hx rfl [] ((TT'.cells x).drop 1) rfl rfl rfl hK
theorem idx_hold {s : Sl} {l : List Ft} (h : SlF TF H s l) {i : Int} {n : Nat} {x : Ft} (hi : i = n) (hx : l[n]? = some x) {K : Int -> Prop} (hK : K x.Holder) : IDX s.p s.len i 5 fun b o => LD TN' H b (o + 0) K :=
 idx_fld (T := TF) (T1 := TN') hTF h hi hx rfl [] ((TF.cells x).drop 1) rfl rfl rfl hK
theorem idx_when' {s : Sl} {l : List Pt} (h : SlF TP H s l) {i : Int} {n : Nat} {x : Pt} (hi : i = n) (hx : l[n]? = some x) {K : Int -> Prop} (hK : K x.When) : IDX s.p s.len i 8 fun b o => LD (T_int .u8) H b (o + 0) K :=
 idx_fld (T := TP) (T1 := T_int .u8) hTP h hi hx rfl [] ((TP.cells x).drop 1) rfl rfl rfl hK
theorem idx_verb {s : Sl} {l : List Pt} (h : SlF TP H s l) {i : Int} {n : Nat} {x : Pt} (hi : i = n) (hx : l[n]? = some x) {K : Int -> Prop} (hK : K x.Verb) : IDX s.p s.len i 8 fun b o => LD (T_int .u8) H b (o + 1) K :=
 idx_fld (T := TP) (T1 := T_int .u8) hTP h hi hx rfl ((TP.cells x).take 1) ((TP.cells x).drop 2) rfl rfl rfl hK
theorem rat_c (h : BD m H b se B ms) (okB : OkB B) {n : Int} {Q : G_api_Card × Int × Unit -> Heap -> Prop} (q6 : (se = false ∨ n < 1 ∨ (B.length : Int) < n) -> Q (zC, 6, ()) H)
  (q0 : ∀ c g H', se = true -> 1 ≤ n -> B[(n - 1).toNat]? = some c -> CR H.length H' g c -> Frs [] H H' -> Q (g, 0, ()) H') : CALL P [TC, TN'] n_ref07_Book_At [.pointer (some ⟨b, 0, none⟩), .int .i64 n] H Q := by
 apply c_ref07_Book_At
 unfold S_ref07_Book_At
 refine rnone_b h (ifB_f rfl ?_)
 have few := h.few
 obtain ⟨⟨s, gs, ns, w, hs, lo, hl, hc⟩, _, lt, ml⟩ := id h
 have hsl := hs.1
 refine hJ (se = false ∨ n < 1 ∨ (B.length : Int) < n) (fun j hj => w.ld_se rfl (ifB_of (fun e => hj _ ?_) (fun e => ifD (fun h1 => hj _ ?_) (fun h1 => w.ld_l rfl (hj _ ?_))))) q6 (fun hN => ?_)
 ·simp only [true_iff]; exact .inl (by simpa using e)
 ·simp only [true_iff]; exact .inr (.inl h1)
 ·have : ¬ se = false := by simpa using e
  simp only [decide_eq_true_eq]; constructor
  ·exact fun q => .inr (.inr (by omega))
  ·rintro (q | q | q)
   ·exact absurd q this
   ·exact absurd q h1
   ·omega
 ·have hse : se = true := by cases hs : se with | true => rfl | false => exact absurd (.inl hs) hN
  have h1 : ¬ n < 1 := fun q => hN (.inr (.inl q))
  have h2 : ¬ (B.length : Int) < n := fun q => hN (.inr (.inr q))
  have hx : B[(n - 1).toNat]? = some (B[(n - 1).toNat]'(by omega)) := List.getElem?_eq_getElem (by omega)
  generalize (B[(n - 1).toNat]'(by omega)) = c at hx
  obtain ⟨g, hg, cr⟩ := hc _ c hx
  have hp4 := okB.p4 (List.mem_of_getElem? hx)
  rw [i64w (x := n - 1) (by omega) (by omega)]
  exact w.ld_l rfl (idx_ldF (T := TC) hTC hs (n := (n - 1).toNat) (by omega) hg rfl (rcopy_b cr.p (by omega) fun s H' hs lo f => q0 c _ H' hse (by omega) hx ⟨by rw [← cr.e]; rfl, hs, lo⟩ f))
theorem tabI_last {n : Nat} {t : Tg} (hx : ts[n]? = some t) : (tabI ts (n + 1)).length = (tabI ts n).length + if t.Place = 4 then 1 else 0 := by
 simp only [tabI, hx, Option.map_some, Option.some.injEq, List.length_append]
 split <;> rfl
theorem rtog_c (h : BD m H b se B ms) (okB : OkB B) (hs : SlF TT' H a1 ts) (hf : SlF TF H a2 fs) {Q : Bool × Unit -> Heap -> Prop} (hq : ∀ r H', (r = true ↔ setE se B ts fs = 0) -> Frs [] H H' -> Q (r, ()) H') :
  CALL P [T_bool] n_ref19_Together [.pointer (some ⟨b, 0, none⟩), a1.v, a2.v] H Q := by
 apply c_ref19_Together
 unfold S_ref19_Together
 have hsl := hs.1
 have hfl := hf.1
 refine hJ (se = false ∨ 2048 < ts.length ∨ fs.length ≠ ts.length) (fun j hj => rsealed_c h (ifB_of (fun e => hj _ ?_) (fun e => ifD (fun e1 => hj _ ?_) (fun e1 => hj _ ?_)))) (fun hb => hq _ _ ⟨fun e => (by cases e), fun e => ?_⟩ (.refl _ _)) (fun hg => ?_)
 ·simp only [true_iff]; exact .inl (by simpa using e)
 ·simp only [true_iff]; exact .inr (.inl (by omega))
 ·have : ¬ se = false := by simpa using e
  simp only [bne_iff_ne, ne_eq]
  constructor
  ·intro q; exact .inr (.inr (by omega))
  ·rintro (q | q | q)
   ·exact absurd q this
   ·omega
   ·omega
 ·obtain ⟨e1, e2, e3, _⟩ := setE_ok (e := e)
  rcases hb with q | q | q
  ·rw [e1] at q; cases q
  ·omega
  ·exact absurd e2 q
 have hse : se = true := by cases hs : se with | true => rfl | false => exact absurd (.inl hs) hg
 have hlen : ¬ 2048 < ts.length := fun q => hg (.inr (.inl q))
 have hfe : fs.length = ts.length := Classical.byContradiction fun q => hg (.inr (.inr q))
 have bad : ∀ H', ¬ Tog B ts fs -> Frs [] H H' -> Q (false, ()) H' := fun H' hn f => hq _ _ ⟨fun q => (by cases q), fun e => absurd (setE_ok (e := e)).2.2.2 hn⟩ f
 refine JOIN_inv (fun _ H' => Frs [] H H' ∧ Tog B ts fs) (fun j hj => ?_) (fun _ H' hh => hq _ _ ⟨fun _ => (setE_0 hlen (by intro q; rcases q with q | q; exact absurd q (by rw [hse]; decide); exact q hfe)).1 hh.2, fun _ => rfl⟩ hh.1)
 refine loop_of (fun (y : (Int × Int × Unit) × Unit) H' => ∃ n : Nat, y.1.2.1 = n ∧ n ≤ ts.length ∧ y.1.1 = ((tabI ts n).length : Int) ∧ Frs [] H H' ∧ (∀ (i : Nat) t f, i < n -> ts[i]? = some t -> fs[i]? = some f -> okTh B t f) ∧ (tabI ts n).length ≤ 16 ∧ (∀ (i j : Nat) t u, i < j -> j < n -> ts[i]? = some t -> ts[j]? = some u -> t.Place = 4 -> u.Place = 4 -> t.Stamp ≠ u.Stamp)) (fun y => ts.length - y.1.2.1.toNat) ?_
  ⟨0, rfl, Nat.zero_le _, rfl, .refl _ _, fun i t f hi => by omega, by simp [tabI], fun i j t u _ hj => by omega⟩
 rintro G ⟨⟨many, i, _⟩, _⟩ H1 ⟨n, hi, hn, hm, f1, ok, few, dst⟩ hG
 simp only at hi hm; subst hi; subst hm
 dsimp only at hG ⊢
 refine ifD (fun hlt => ?_) (fun hge => hj _ _ ?_)
 ·have hlt : n < ts.length := by omega
  have hx : ts[n]? = some ts[n] := List.getElem?_eq_getElem hlt
  have hy : fs[n]? = some (fs[n]'(by omega)) := List.getElem?_eq_getElem (by omega)
  have _hmf : fs[n]'(by omega) ∈ fs := List.getElem_mem (by omega)
  generalize ts[n] = t at hx
  generalize (fs[n]'(by omega)) = f at hy _hmf
  have tl := tabI_last hx
  have notog : ¬ okTh B t f -> ¬ Tog B ts fs := fun q k => q (k.all n t f hx hy)
  have h1 := h.new f1
  have hs1 := hs.frs f1 (by simp)
  have hf1 := hf.frs f1 (by simp)
  refine JOIN_inv (fun (y : (Int × Unit) × Unit) H' => Frs [] H H' ∧ y.1.1 = ((tabI ts (n + 1)).length : Int) ∧ okTh B t f ∧ (tabI ts (n + 1)).length ≤ 16 ∧ ∀ (i : Nat) u, i < n -> ts[i]? = some u -> u.Place = 4 -> t.Place = 4 -> u.Stamp ≠ t.Stamp) (fun j2 hj2 => ?_) ?_
  ·refine idx_ldF (T := TT') hTT' hs1 rfl hx rfl (rat_c h1 okB (fun q => ?_) (fun c g H9 _ hc1 hcx cr f9 => ?_))
   ·refine JOIN_of (ifB_t rfl (ifB_t rfl (bad _ (notog ?_) f1)))
    rintro ⟨c, k1, k2, _⟩
    have := (List.getElem?_eq_some_iff.1 k2).1
    rcases q with q | q | q
    ·rw [hse] at q; cases q
    ·omega
    ·omega
   have okiff : okTh B t f ↔ (t.Owner = 0 ∨ t.Owner = 1) ∧ 1 ≤ t.Place ∧ t.Place ≤ 5 ∧ (t.Place = 4 -> c.g.Kind ≠ 2 ∧ 1 ≤ t.Stamp ∧ (f.Holder = 0 ∨ f.Holder = 1) ∧ f.Traits < 256) := by
    constructor
    ·rintro ⟨c', k1, k2, k3⟩
     rw [hcx] at k2; cases k2; exact k3
    ·exact fun q => ⟨c, hc1, hcx, q⟩
   have f09 : Frs [] H H9 := f1.trans f9
   have hs9 := hs1.frs f9 (by simp)
   have hf9 := hf1.frs f9 (by simp)
   refine hJ (¬ (t.Owner = 0 ∨ t.Owner = 1) ∨ t.Place < 1 ∨ 5 < t.Place) (fun j3 hj3 => ifB_f rfl (ifD (fun e1 => hj3 _ (by simp; omega)) (fun e1 => ifD (fun e2 => hj3 _ (by simp; omega)) (fun e2 => ifD (fun e3 => hj3 _ (by simp; omega)) (fun e3 => hj3 _ (by simp; omega)))))) (fun q => bad _ (notog fun k => ?_) f09) (fun hA => ?_)
   ·have := okiff.1 k; omega
   refine ifN (fun hp4 => ?_) (fun hp4 => ?_)
   ·rw [if_neg hp4] at tl
    exact hj2 _ _ ⟨f09, by rw [tl]; rfl, okiff.2 ⟨by omega, by omega, by omega, fun q => absurd q hp4⟩, by omega, fun i u _ _ _ q => absurd q hp4⟩
   ·rw [if_pos hp4] at tl
    have hkd : g.Kind = c.g.Kind := by rw [← cr.e]; rfl
    rw [i64w (by omega) (by omega)]
    refine hJ (16 < (tabI ts (n + 1)).length ∨ c.g.Kind = 2 ∨ t.Stamp < 1 ∨ ¬ (f.Holder = 0 ∨ f.Holder = 1) ∨ ¬ f.Traits < 256) (fun j3 hj3 => ?_) (fun q => bad _ (fun k => ?_) f09) (fun hB => ?_)
    ·rw [hkd]
     refine ifD (fun e => hj3 _ (by simp; omega)) (fun e => ifE (fun e1 => hj3 _ (by simp; omega)) (fun e1 => ifD (fun e2 => hj3 _ (by simp; omega)) (fun e2 => idx_hold hf9 rfl hy (ifD (fun e3 => hj3 _ (by simp; omega)) (fun e3 => idx_hold hf9 rfl hy (ifD (fun e4 => hj3 _ (by simp; omega)) (fun e4 => idx_traits hf9 rfl hy (rtraits_c (hj3 _ (by simp; omega))))))))))
    ·rcases q with q | q
     ·have := k.few
      have := tabI_mono (ts := ts) (n := n + 1) (k := ts.length - (n + 1))
      rw [show n + 1 + (ts.length - (n + 1)) = ts.length by omega] at this
      omega
     ·have := (okiff.1 (k.all n t f hx hy)).2.2.2 hp4; omega
    have okn : okTh B t f := okiff.2 ⟨by omega, by omega, by omega, fun _ => ⟨by omega, by omega, by omega, by omega⟩⟩
    refine JOIN_inv (fun _ H' => H' = H9 ∧ ∀ (i : Nat) u, i < n -> ts[i]? = some u -> u.Place = 4 -> u.Stamp ≠ t.Stamp) (fun j4 hj4 => ?_) ?_
    ·refine loop_of (fun (y : (Int × Unit) × Unit) H' => H' = H9 ∧ ∃ k : Nat, y.1.1 = k ∧ k ≤ n ∧ ∀ (i : Nat) u, i < k -> ts[i]? = some u -> u.Place = 4 -> u.Stamp ≠ t.Stamp) (fun y => n - y.1.1.toNat) ?_ ⟨rfl, 0, rfl, Nat.zero_le _, fun i u hi => by omega⟩
     rintro G2 ⟨⟨i2, _⟩, _⟩ H' ⟨rfl, k, hk, hkn, no⟩ hG2
     simp only at hk; subst hk
     dsimp only at hG2 ⊢
     refine ifD (fun hlt2 => ?_) (fun hge2 => hj4 _ _ ⟨rfl, fun i u w1 w2 w3 => no i u (by omega) w2 w3⟩)
     have hz : ts[k]? = some (ts[k]'(by omega)) := List.getElem?_eq_getElem (by omega)
     generalize (ts[k]'(by omega)) = u at hz
     refine hJ (u.Place = 4 ∧ u.Stamp = t.Stamp) (fun j5 hj5 => idx_place hs9 rfl hz (ifE (fun e => idx_stamp' hs9 rfl hz (hj5 _ (by simp [e]))) (fun e => hj5 _ (by simp [e])))) (fun q => bad _ (fun w => ?_) f09) (fun q => ?_)
     ·exact w.dst k n u t (by omega) hz hx q.1 hp4 q.2
     ·rw [i64w (by omega) (by omega)]
      refine hG2 _ _ ⟨rfl, k + 1, by simp, by omega, fun i v w1 w2 w3 => ?_⟩ (by simp; omega)
      by_cases e : i = k
      ·subst e; rw [hz] at w2; cases w2; exact fun w => q ⟨w3, w⟩
      ·exact no i v (by omega) w2 w3
    ·rintro _ H' ⟨rfl, no⟩
     exact hj2 _ _ ⟨f09, by rw [tl]; rfl, okn, by omega, fun i u w1 w2 w3 _ => no i u w1 w2 w3⟩
  ·rintro ⟨⟨mm, _⟩, _⟩ H2 ⟨f2, hmm, okn, few2, no⟩
   simp only at hmm; subst hmm
   dsimp only
   rw [i64w (by omega) (by omega)]
   refine hG _ _ ⟨n + 1, by simp, hlt, rfl, f2, fun i t' f' w1 w2 w3 => ?_, few2, fun i j t' u' w1 w2 w3 w4 w5 w6 => ?_⟩ (by simp; omega)
   ·by_cases e : i = n
    ·subst e; rw [hx] at w2; cases w2; rw [hy] at w3; cases w3; exact okn
    ·exact ok i t' f' (by omega) w2 w3
   ·by_cases e : j = n
    ·subst e; rw [hx] at w4; cases w4; exact no i t' w1 w3 w5 w6
    ·exact dst i j t' u' w1 (by omega) w3 w4 w5 w6
 ·have : n = ts.length := by omega
  subst this
  refine ⟨f1, fun i t f w1 w2 => ok i t f (List.getElem?_eq_some_iff.1 w1).1 w1 w2, few, fun i j t u hij w1 w2 w3 w4 => ?_⟩
  rcases Nat.lt_or_gt_of_ne hij with q | q
  ·exact dst i j t u q (List.getElem?_eq_some_iff.1 w2).1 w1 w2 w3 w4
  ·exact fun e => dst j i u t q (List.getElem?_eq_some_iff.1 w1).1 w2 w1 w4 w3 e.symm
theorem rwrong_c (h : BD m H b se B ms) (okB : OkB B) (hs : SlF TT' H a1 ts) (hf : SlF TF H a2 fs) {Q : Int × Unit -> Heap -> Prop} (hq : ∀ H', Frs [] H H' -> Q (setE se B ts fs, ()) H') :
  CALL P [TN'] n_ref19_wrong [.pointer (some ⟨b, 0, none⟩), a1.v, a2.v] H Q := by
 apply c_ref19_wrong
 unfold S_ref19_wrong
 have hsl := hs.1
 refine rnone_b h (ifB_f rfl (ifD (fun e => ?_) (fun e => rtog_c h okB hs hf fun r H' hr f => ifB_of (fun e1 => ?_) (fun e1 => ?_))))
 ·have e1 : setE se B ts fs = 3 := by unfold setE; rw [if_pos (by omega)]
  have := hq H (.refl _ _); rwa [e1] at this
 ·have e1 : (!r) = true := e1
  have e2 : setE se B ts fs = 2 := by
   have h0 : ¬ setE se B ts fs = 0 := fun q => by rw [hr.2 q] at e1; cases e1
   unfold setE at h0 ⊢
   rw [if_neg (by omega)] at h0 ⊢
   split
   ·rfl
   ·rename_i w; rw [if_neg w] at h0
    split
    ·rename_i w2; rw [if_pos w2] at h0; exact absurd rfl h0
    ·rfl
  have := hq H' f; rwa [e2] at this
 ·have e2 : setE se B ts fs = 0 := hr.1 (by have e1 : (!r) = false := e1; simpa using e1)
  have := hq H' f; rwa [e2] at this
end
end Go.Proofs.YtolekmhhkopooaaGreatDoor.Zq
end
section
namespace Go.Proofs.YtolekmhhkopooaaGreatDoor.Zq
open Zv
section
variable {H : Heap} {b m : Nat} {B : List Cd} {ms : List G_api_MarkInfo} {a1 a2 : Sl} {ts : List Tg} {fs : List Ft} {ol : List Int}
structure Rt (m : Nat) (H : Heap) (b : Nat) (B : List Cd) (ms : List G_api_MarkInfo) (a1 : Sl) (ts : List Tg) (ol : List Int) : Prop where
 bk : BD m H b true B ms
 ok : OkB B
 s : SlF TT' H a1 ts
 ot : OrdT B ts ol
theorem Rt.new {H' : Heap} (h : Rt m H b B ms a1 ts ol) (f : Frs [] H H') : Rt m H' b B ms a1 ts ol := ⟨h.bk.new f, h.ok, h.s.frs f (by simp), h.ot⟩
theorem stampAt_at {x : Int} {k : Nat} {t : Tg} (e : x = k) (h : ts[k]? = some t) : stampAt ts x.toNat = t.Stamp := by subst e; simp [stampAt, h]
theorem rorder_c (hs : SlF TT' H a1 ts) (ot : OrdT B ts ol) {Q : Sl × Unit -> Heap -> Prop} (hq : ∀ s H' sp, NewO TN' H s H' (ol.map (· + 1)) sp -> Q (s, ()) H') : CALL P [T_sl] n_ref19_order [a1.v] H Q := by
 apply c_ref19_order
 unfold S_ref19_order
 have hsl := hs.1
 have hlen := ot.len
 have few := ot.few
 refine JOIN_inv (fun _ _ => False) (fun j hj => ?_) (fun _ _ h => h.elim)
 refine loop_of (fun (y : (Sl × Int × Unit) × Unit) H' => ∃ (k : Nat) (sp : List Int), k ≤ ol.length ∧ NewO TN' H y.1.1 H' ((ol.take k).map (· + 1)) sp ∧ (k = 0 -> y.1.2.1 = 0) ∧ (∀ x, 1 ≤ k -> ol[k - 1]? = some x -> y.1.2.1 = stampAt ts x.toNat)) (fun y => ol.length - y.1.1.len) ?_ ⟨0, [], Nat.zero_le _, by simpa using NewO.nil' TN' H, fun _ => rfl, fun x h => by omega⟩
 rintro G ⟨⟨out, last, _⟩, _⟩ H1 ⟨k, sp, hk, no, l0, l1⟩ hG
 simp only at no l0 l1
 dsimp only at hG ⊢
 have hol : out.len = k := by have := no.1.1; simp at this; omega
 have hs1 := hs.frs no.2.2 (by simp)
 have gt : ∀ (p : Nat) x, k ≤ p -> ol[p]? = some x -> last < stampAt ts x.toNat := fun p x hp hx => by
  obtain ⟨kx, t, c, e1, e2, e3, e4, e5, e6, _⟩ := ot.at' x (List.mem_of_getElem? hx)
  rw [stampAt_at e1 e2]
  by_cases h0 : k = 0
  ·rw [l0 h0]; omega
  ·have hz : ol[k - 1]? = some (ol[k - 1]'(by omega)) := List.getElem?_eq_getElem (by omega)
   have := ot.srt (k - 1) p _ x (by omega) hz hx
   rw [l1 _ (by omega) hz, ← stampAt_at e1 e2]; exact this
 have le : ∀ (p : Nat) x, p < k -> ol[p]? = some x -> stampAt ts x.toNat ≤ last := fun p x hp hx => by
  have hz : ol[k - 1]? = some (ol[k - 1]'(by omega)) := List.getElem?_eq_getElem (by omega)
  rw [l1 _ (by omega) hz]
  by_cases e : p = k - 1
  ·subst e; rw [hx] at hz; cases hz; exact Int.le_refl _
  ·have := ot.srt p (k - 1) x _ (by omega) hx hz; omega
 refine JOIN_inv (fun (y : (Sl × Int × Unit) × Unit) H' => ∃ sp, k < ol.length ∧ NewO TN' H y.1.1 H' ((ol.take (k + 1)).map (· + 1)) sp ∧ ∀ x, ol[k]? = some x -> y.1.2.1 = stampAt ts x.toNat) (fun j2 hj2 => ?_) ?_
 ·refine JOIN_inv (fun (y : (Int × Unit) × Unit) H' => H' = H1 ∧ ((y.1.1 = -1 ∧ ∀ (j : Nat) t, ts[j]? = some t -> t.Place = 4 -> t.Stamp ≤ last) ∨ ∃ (bn : Nat) (t : Tg), y.1.1 = bn ∧ ts[bn]? = some t ∧ t.Place = 4 ∧ last < t.Stamp ∧ ∀ (j : Nat) u, ts[j]? = some u -> u.Place = 4 -> last < u.Stamp -> t.Stamp ≤ u.Stamp)) (fun j3 hj3 => ?_) ?_
  ·refine loop_of (fun (y : (Int × Int × Unit) × Unit) H' => H' = H1 ∧ ∃ n : Nat, y.1.2.1 = n ∧ n ≤ ts.length ∧ ((y.1.1 = -1 ∧ ∀ (j : Nat) t, j < n -> ts[j]? = some t -> t.Place = 4 -> t.Stamp ≤ last) ∨ ∃ (bn : Nat) (t : Tg), y.1.1 = bn ∧ ts[bn]? = some t ∧ t.Place = 4 ∧ last < t.Stamp ∧ ∀ (j : Nat) u, j < n -> ts[j]? = some u -> u.Place = 4 -> last < u.Stamp -> t.Stamp ≤ u.Stamp)) (fun y => ts.length - y.1.2.1.toNat) ?_
    ⟨rfl, 0, rfl, Nat.zero_le _, .inl ⟨rfl, fun j t h => by omega⟩⟩
   rintro G2 ⟨⟨best, i, _⟩, _⟩ H' ⟨rfl, n, hi, hn, inv⟩ hG2
   simp only at hi inv; subst hi
   dsimp only at hG2 ⊢
   refine ifD (fun hlt => ?_) (fun hge => hj3 _ _ ⟨rfl, ?_⟩)
   ·have hlt : n < ts.length := by omega
    have hx : ts[n]? = some ts[n] := List.getElem?_eq_getElem hlt
    generalize ts[n] = t at hx
    have step : ∀ r : Bool, (r = true ↔ (t.Place = 4 ∧ last < t.Stamp ∧ (best = -1 ∨ ∃ (bn : Nat) (v : Tg), best = bn ∧ ts[bn]? = some v ∧ t.Stamp < v.Stamp))) -> JOIN (fun (j25 : (Int × Unit) × (Unit) -> Heap -> Prop) => ifB r (j25 (((n : Int), ()), (())) H') (j25 ((best, ()), (())) H')) fun (y26 : (Int × Unit) × (Unit)) H7 => G2 ((y26.1.1, IntKind.wrap .i64 ((n : Int) + 1), ()), (())) H7 := fun r hr => by
     refine ifB_of (fun e => ?_) (fun e => ?_)
     ·obtain ⟨w1, w2, w3⟩ := hr.1 e
      dsimp only
      rw [i64w (by omega) (by omega)]
      refine hG2 _ _ ⟨rfl, n + 1, by simp, hlt, .inr ⟨n, t, rfl, hx, w1, w2, fun j u h1 h2 h3 h4 => ?_⟩⟩ (by simp; omega)
      by_cases ej : j = n
      ·subst ej; rw [hx] at h2; cases h2; exact Int.le_refl _
      ·rcases inv with ⟨i1, i2⟩ | ⟨bn, v, i1, i2, i3, i4, i5⟩
       ·have := i2 j u (by omega) h2 h3; omega
       ·rcases w3 with w | ⟨bn', v', q1, q2, q3⟩
        ·omega
        ·have : bn' = bn := by omega
         subst this; rw [i2] at q2; cases q2
         have := i5 j u (by omega) h2 h3 h4; omega
     ·have hnr : ¬ (t.Place = 4 ∧ last < t.Stamp ∧ (best = -1 ∨ ∃ (bn : Nat) (v : Tg), best = bn ∧ ts[bn]? = some v ∧ t.Stamp < v.Stamp)) := fun q => by
       have e : r = false := e
       rw [hr.2 q] at e; cases e
      dsimp only
      rw [i64w (by omega) (by omega)]
      refine hG2 _ _ ⟨rfl, n + 1, by simp, hlt, ?_⟩ (by simp; omega)
      rcases inv with ⟨i1, i2⟩ | ⟨bn, v, i1, i2, i3, i4, i5⟩
      ·refine .inl ⟨i1, fun j u h1 h2 h3 => ?_⟩
       by_cases ej : j = n
       ·subst ej; rw [hx] at h2; cases h2
        exact Classical.byContradiction fun q => hnr ⟨h3, by omega, .inl i1⟩
       ·exact i2 j u (by omega) h2 h3
      ·refine .inr ⟨bn, v, i1, i2, i3, i4, fun j u h1 h2 h3 h4 => ?_⟩
       by_cases ej : j = n
       ·subst ej; rw [hx] at h2; cases h2
        exact Classical.byContradiction fun q => hnr ⟨h3, h4, .inr ⟨bn, v, i1, i2, by omega⟩⟩
       ·exact i5 j u (by omega) h2 h3 h4
    refine JOIN_inv (fun (y : (Bool × Unit) × Unit) H2 => H2 = H' ∧ (y.1.1 = true ↔ (t.Place = 4 ∧ last < t.Stamp ∧ (best = -1 ∨ ∃ (bn : Nat) (v : Tg), best = bn ∧ ts[bn]? = some v ∧ t.Stamp < v.Stamp)))) (fun j4 hj4 => ?_) ?_
    ·refine idx_place hs1 rfl hx (ifE (fun e1 => idx_stamp' hs1 rfl hx (ifD (fun e2 => ?_) (fun e2 => hj4 _ _ ⟨rfl, by simp; omega⟩))) (fun e1 => hj4 _ _ ⟨rfl, by simp [e1]⟩))
     rcases inv with ⟨i1, i2⟩ | ⟨bn, v, i1, i2, i3, i4, i5⟩
     ·exact ifB_t (by simp; omega) (hj4 _ _ ⟨rfl, by simp [i1, e1]; omega⟩)
     ·refine ifB_f (by simp; omega) (idx_stamp' hs1 rfl hx (idx_stamp' hs1 i1 i2 (hj4 _ _ ⟨rfl, ?_⟩)))
      simp only [decide_eq_true_eq]
      constructor
      ·intro q; exact ⟨e1, by omega, .inr ⟨bn, v, i1, i2, q⟩⟩
      ·rintro ⟨_, _, q | ⟨bn', v', q1, q2, q3⟩⟩
       ·omega
       ·have : bn' = bn := by omega
        subst this; rw [i2] at q2; cases q2; exact q3
    ·rintro ⟨⟨r, _⟩, _⟩ H2 ⟨rfl, hr⟩
     exact step r hr
   ·have : n = ts.length := by omega
    subst this
    rcases inv with ⟨i1, i2⟩ | ⟨bn, v, i1, i2, i3, i4, i5⟩
    ·exact .inl ⟨i1, fun j t h => i2 j t (List.getElem?_eq_some_iff.1 h).1 h⟩
    ·exact .inr ⟨bn, v, i1, i2, i3, i4, fun j u h => i5 j u (List.getElem?_eq_some_iff.1 h).1 h⟩
  ·rintro ⟨⟨best, _⟩, _⟩ H' ⟨rfl, inv⟩
   dsimp only at inv ⊢
   rcases inv with ⟨i1, i2⟩ | ⟨bn, v, i1, i2, i3, i4, i5⟩
   ·refine ifB_t (by simp; omega) ?_
    have hkl : k = ol.length := by
     refine Classical.byContradiction fun q => ?_
     have hz : ol[k]? = some (ol[k]'(by omega)) := List.getElem?_eq_getElem (by omega)
     have h1 := gt k _ (Nat.le_refl _) hz
     obtain ⟨kx, t, c, e1, e2, e3, _⟩ := ot.at' _ (List.mem_of_getElem? hz)
     rw [stampAt_at e1 e2] at h1
     have := i2 kx t e2 e3; omega
    subst hkl
    rw [List.take_length] at no
    exact hq _ _ _ no
   ·have hm := ot.all bn v i2 i3
    obtain ⟨p, hp⟩ := List.mem_iff_getElem?.1 hm
    have sv : stampAt ts ((bn : Int)).toNat = v.Stamp := stampAt_at rfl i2
    have hpk : p = k := by
     rcases Nat.lt_trichotomy p k with w | w | w
     ·have := le p _ w hp; omega
     ·exact w
     ·have hpl := (List.getElem?_eq_some_iff.1 hp).1
      have hz : ol[k]? = some (ol[k]'(by omega)) := List.getElem?_eq_getElem (by omega)
      have h1 := gt k _ (Nat.le_refl _) hz
      have h2 := ot.srt k p _ _ w hz hp
      obtain ⟨kx, t, c, e1, e2, e3, _⟩ := ot.at' _ (List.mem_of_getElem? hz)
      rw [stampAt_at e1 e2] at h1 h2
      have := i5 kx t e2 e3 h1; omega
    subst hpk
    have hpl := (List.getElem?_eq_some_iff.1 hp).1
    have hbl := (List.getElem?_eq_some_iff.1 i2).1
    subst i1
    refine ifB_f (by simp) ?_
    rw [i64w (by omega) (by omega)]
    refine app_c tyI' rfl (fun _ => by simp) (m := 1) [(bn : Int) + 1] rfl rfl (by simp only [List.length_map, List.length_take, List.length_cons, List.length_nil]; omega) no.1 fun s4 H5 sp5 k1 k2 k3 => ?_
    have no5 := no.app k1 k2 k3
    refine idx_stamp' (hs.frs no5.2.2 (by simp)) rfl i2 (hj2 _ _ ⟨sp5, hpl, ?_, fun x hx => ?_⟩)
    ·rw [List.take_add_one, hp]; simpa using no5
    ·rw [hp] at hx; cases hx; exact sv.symm
 ·rintro ⟨⟨out2, last2, _⟩, _⟩ H2 ⟨sp2, hkl, no2, hl2⟩
  have hol2 : out2.len = k + 1 := by have := no2.1.1; simp at this; omega
  exact hG _ _ ⟨k + 1, sp2, hkl, no2, fun h => by omega, fun x _ hx => hl2 x hx⟩ (by simp only; omega)
theorem Rt.card (h : Rt m H b B ms a1 ts ol) {x : Int} (hx : x ∈ ol) : ∃ (k : Nat) (t : Tg) (c : Cd), x = k ∧ ts[k]? = some t ∧ t.Place = 4 ∧ 1 ≤ t.Card ∧ B[(t.Card - 1).toNat]? = some c ∧ cpI B ts x = c.ps ∧ ckI B ts x = c.g.Kind ∧ c.ps.length ≤ 4 ∧ k < 2048 := by
 obtain ⟨k, t, c, e1, e2, e3, e4, e5, e6, e7, e8⟩ := h.ot.at' x hx
 have := h.ot.len
 have hk := (List.getElem?_eq_some_iff.1 e2).1
 have hcd : cdI B ts x = some c := by subst e1; unfold cdI; rw [Int.toNat_natCast, e2]; exact e5
 exact ⟨k, t, c, e1, e2, e3, e4, e5, by unfold cpI; rw [hcd]; rfl, by unfold ckI; rw [hcd]; rfl, e8, by omega⟩
theorem rat_in (h : Rt m H b B ms a1 ts ol) {t : Tg} {c : Cd} (h1 : 1 ≤ t.Card) (hc : B[(t.Card - 1).toNat]? = some c) {Q : G_api_Card × Int × Unit -> Heap -> Prop} (hq : ∀ g H', CR H.length H' g c -> Frs [] H H' -> Q (g, 0, ()) H') : CALL P [TC, TN'] n_ref07_Book_At [.pointer (some ⟨b, 0, none⟩), .int .i64 t.Card] H Q := by
 refine rat_c h.bk h.ok (fun q => ?_) fun c' g H' _ _ hc' cr f => ?_
 ·have := (List.getElem?_eq_some_iff.1 hc).1
  rcases q with q | q | q
  ·cases q
  ·omega
  ·omega
 ·rw [hc] at hc'; cases hc'; exact hq g H' cr f
theorem runit_c (h : Rt m H b B ms a1 ts ol) {x : Int} (hx : x ∈ ol) {k : Nat} {t : Tg} (hk : x = k) (ht : ts[k]? = some t) {Q : Bool × Unit -> Heap -> Prop} (hq : ∀ H', Frs [] H H' -> Q (ckI B ts x == 1, ()) H') : CALL P [T_bool] n_ref19_unit [.pointer (some ⟨b, 0, none⟩), TT'.enc t] H Q := by
 apply c_ref19_unit
 unfold S_ref19_unit
 obtain ⟨k', t', c, e1, e2, e3, e4, e5, e6, e7, e8, e9⟩ := h.card hx
 have : k' = k := by omega
 subst this; rw [ht] at e2; cases e2
 refine rat_in h e4 e5 fun g H' cr f => JOIN_of (ifB_t (by simpa using e3) ?_)
 have hg : g.Kind = c.g.Kind := by rw [← cr.e]; rfl
 have := hq H' f
 rw [e7, ← hg] at this; exact this
theorem rmeant_c (h : Rt m H b B ms a1 ts ol) (hf : SlF TF H a2 fs) (hfe : fs.length = ts.length) {s : Sg} (hs : s.Thing - 1 ∈ ol) {x : Int} (hx : x ∈ ol) {Q : Bool × Unit -> Heap -> Prop} (hq : ∀ H', Frs [] H H' -> Q (meansB B ts fs s x, ()) H') :
  CALL P [T_bool] n_ref19_meant [.pointer (some ⟨b, 0, none⟩), a1.v, a2.v, TSt.enc s, .int .i64 (x + 1)] H Q := by
 apply c_ref19_meant
 unfold S_ref19_meant
 obtain ⟨k, t, c, e1, e2, e3, e4, e5, e6, e7, e8, e9⟩ := h.card hx
 obtain ⟨k', t', c', e1', e2', e3', e4', e5', e6', e7', e8', e9'⟩ := h.card hs
 have hk : fs[k]? = some (fs[k]'(by have := (List.getElem?_eq_some_iff.1 e2).1; omega)) := List.getElem?_eq_getElem _
 have hk' : fs[k']? = some (fs[k']'(by have := (List.getElem?_eq_some_iff.1 e2').1; omega)) := List.getElem?_eq_getElem _
 generalize (fs[k]'_) = f at hk
 generalize (fs[k']'_) = f' at hk'
 have ef : ftI fs x = f := ftI_at e1 hk
 have ef' : ftI fs (s.Thing - 1) = f' := ftI_at e1' hk'
 have w1 : IntKind.wrap .i64 (x + 1 - 1) = (k : Int) := by rw [i64w (by omega) (by omega)]; omega
 have w2 : IntKind.wrap .i64 (s.Thing - 1) = (k' : Int) := by rw [i64w (by omega) (by omega)]; omega
 unfold meansB at hq
 refine ifE (fun q => ?_) (fun q4 => ?_)
 ·rw [if_pos q] at hq
  have := hq H (.refl _ _)
  have e : (x == s.Thing - 1) = (x + 1 == s.Thing) := by rw [Bool.eq_iff_iff]; simp; omega
  rwa [e] at this
 rw [if_neg q4, ef, ef'] at hq
 rw [w1, w2]
 refine idx_ldF (T := TT') hTT' h.s rfl e2 rfl (runit_c h hx e1 e2 fun H1 f1 => ifB_of (fun q => ?_) (fun q => ?_))
 ·have : ckI B ts x ≠ 1 := by simpa using q
  rw [if_pos this] at hq; exact hq _ f1
 have : ¬ ckI B ts x ≠ 1 := by simpa using q
 rw [if_neg this] at hq
 have hf1 := hf.frs f1 (by simp)
 refine idx_ldF (T := TF) hTF hf1 rfl hk rfl (idx_hold hf1 rfl hk' (ifE (fun q => ?_) (fun q5 => ?_)))
 ·rw [if_pos q] at hq; exact hq _ f1
 rw [if_neg q5] at hq
 refine ifE (fun q => ?_) (fun q8 => ?_)
 ·rw [if_neg (by omega), if_neg (by omega), if_pos q] at hq
  have e : (x != s.Thing - 1) = (x + 1 != s.Thing) := by rw [Bool.eq_iff_iff]; simp; omega
  rw [e] at hq
  refine JOIN_of (ifE (fun q1 => ?_) (fun q1 => ?_))
  ·have : (f.Holder == f'.Holder) = true := by simpa using q1
   rw [this, Bool.true_and] at hq; exact hq _ f1
  ·have : (f.Holder == f'.Holder) = false := by simpa using q1
   rw [this, Bool.false_and] at hq; exact hq _ f1
 refine ifE (fun q => ?_) (fun q6 => ?_)
 ·rw [if_pos q] at hq; exact hq _ f1
 rw [if_neg q6] at hq
 refine ifE (fun q => ?_) (fun q7 => ?_)
 ·rw [if_pos q] at hq; exact hq _ f1
 rw [if_neg q7, if_neg q8] at hq
 refine ifE (fun q => ?_) (fun q9 => ?_)
 ·rw [if_pos q] at hq; exact hq _ f1
 rw [if_neg q9] at hq
 refine ifE (fun q => ?_) (fun q10 => ?_)
 ·rw [if_pos q] at hq; exact rhas_c (hq _ f1)
 rw [if_neg q10] at hq; exact hq _ f1
theorem rabt_c (h : Rt m H b B ms a1 ts ol) (hf : SlF TF H a2 fs) (hfe : fs.length = ts.length) {s : Sg} (hs : s.Thing - 1 ∈ ol) {Q : Sl × Unit -> Heap -> Prop} (hq : ∀ r H' sp, NewO TN' H r H' (abouts B ts fs ol s) sp -> Q (r, ()) H') :
  CALL P [T_sl] n_ref19_about [.pointer (some ⟨b, 0, none⟩), a1.v, a2.v, TSt.enc s] H Q := by
 apply c_ref19_about
 unfold S_ref19_about
 refine rorder_c h.s h.ot fun x1 H1 sp1 n1 => ?_
 have h1 := h.new n1.2.2
 have hf1 := hf.frs n1.2.2 (by simp)
 have ho := n1.1.slf
 have hol : x1.len = ol.length := by have := ho.1; simpa using this
 have few := h.ot.few
 refine JOIN_inv (fun y H' => ∃ sp, NewO TN' H1 y.1.1 H' (abouts B ts fs ol s) sp) (fun j hj => ?_) (fun y H' hh => by obtain ⟨sp, hh⟩ := hh; exact hq _ _ _ (hh.older n1.2.2))
 refine loop_of (fun (y : (Sl × Int × Unit) × Unit) H' => ∃ (n : Nat) (sp : List Int), y.1.2.1 = n ∧ n ≤ ol.length ∧ NewO TN' H1 y.1.1 H' ((ol.take n).flatMap (abouts1 B ts fs s)) sp) (fun y => ol.length - y.1.2.1.toNat) ?_ ⟨0, [], rfl, Nat.zero_le _, by simpa using NewO.nil' TN' H1⟩
 rintro G ⟨⟨out, i, _⟩, _⟩ H2 ⟨n, sp, hi, hn, no⟩ hG
 simp only at hi no; subst hi
 dsimp only at hG ⊢
 have f2 := no.2.2
 refine ifD (fun hlt => ?_) (fun hge => hj _ _ ⟨sp, ?_⟩)
 ·have hlt : n < ol.length := by omega
  have hx : ol[n]? = some ol[n] := List.getElem?_eq_getElem hlt
  have hm : ol[n] ∈ ol := List.getElem_mem hlt
  generalize ol[n] = x at hx hm
  have hx1 : (ol.map (· + 1))[n]? = some (x + 1) := by rw [List.getElem?_map, hx]; rfl
  have tk := fm_take (abouts1 B ts fs s) hx
  have ho2 := ho.frs f2 (by simp)
  refine idx_ldF (T := TN') hTN' ho2 rfl hx1 rfl (rmeant_c (h1.new f2) (hf1.frs f2 (by simp)) hfe hs hm fun H3 f3 => ?_)
  have no3 := no.new f3
  have hpre : ((ol.take n).flatMap (abouts1 B ts fs s)).length ≤ 16 := by
   have := fm_len (f := abouts1 B ts fs s) (c := 1) (l := ol.take n) fun y _ => abouts1_len B ts fs s y
   rw [List.length_take] at this; omega
  refine JOIN_inv (fun y H' => ∃ sp, NewO TN' H1 y.1.1 H' ((ol.take (n + 1)).flatMap (abouts1 B ts fs s)) sp) (fun j2 hj2 => ifB_of (fun e => ?_) (fun e => ?_)) ?_
  ·have e2 : abouts1 B ts fs s x = [x + 1] := by unfold abouts1; exact if_pos e
   refine idx_ldF (T := TN') hTN' (ho2.frs f3 (by simp)) rfl hx1 rfl (app_c tyI' rfl (fun _ => by simp) (m := 1) [x + 1] rfl rfl (by show 2 * (_ + 1) * 4096 ≤ _; omega) no3.1 fun s4 H5 sp5 k1 k2 k3 => ?_)
   exact hj2 _ _ ⟨sp5, by rw [tk, e2]; exact no3.app k1 k2 k3⟩
  ·have e2 : abouts1 B ts fs s x = [] := by
    unfold abouts1
    have e : meansB B ts fs s x = false := e
    rw [e]; rfl
   exact hj2 _ _ ⟨sp, by rw [tk, e2, List.append_nil]; exact no3⟩
  ·rintro ⟨⟨out3, _⟩, _⟩ H4 ⟨sp3, no4⟩
   dsimp only
   rw [i64w (by omega) (by omega)]
   exact hG _ _ ⟨n + 1, sp3, by simp, hlt, no4⟩ (by simp; omega)
 ·have : n = ol.length := by omega
  subst this
  rw [List.take_length] at no; exact no
theorem rdone_c {f : Ft} {p : Pt} {hd : Int} {Q : Ft × Unit -> Heap -> Prop} (hq : Q (doneF f p hd, ()) H) : CALL P [TF] n_ref19_done [TF.enc f, TP.enc p, .int .i64 hd] H Q := by
 apply c_ref19_done
 unfold S_ref19_done
 unfold doneF at hq
 refine JOIN_of (ifE (fun q => by rw [if_pos q] at hq; exact hq) (fun q1 => ?_))
 rw [if_neg q1] at hq
 refine JOIN_of (ifE (fun q => by rw [if_pos q] at hq; exact hq) (fun q2 => ?_))
 rw [if_neg q2] at hq
 refine JOIN_of (ifE (fun q => by rw [if_pos q] at hq; exact rwith_c hq) (fun q3 => ?_))
 rw [if_neg q3] at hq
 refine JOIN_of (ifE (fun q => by rw [if_pos q] at hq; exact rwout_c hq) (fun q4 => ?_))
 rw [if_neg q4] at hq
 refine JOIN_of (ifE (fun q => by rw [if_pos q] at hq; exact hq) (fun q5 => ?_))
 rw [if_neg q5] at hq
 refine JOIN_of (ifE (fun q => by rw [if_pos q] at hq; exact hq) (fun q6 => ?_))
 rw [if_neg q6] at hq; exact hq
end
end Go.Proofs.YtolekmhhkopooaaGreatDoor.Zq
end
section
namespace Go.Proofs.YtolekmhhkopooaaGreatDoor.Zq
open Zv
section
variable {H : Heap} {b m : Nat} {B : List Cd} {ms : List G_api_MarkInfo} {a1 a2 : Sl} {ts : List Tg} {fs : List Ft} {ol : List Int}
theorem NewO.ptr {T : Tag} {H0 H : Heap} {s : Sl} {l sp : List T.α} (h : NewO T H0 s H l sp) : ∀ c, s.p = some ⟨c, 0, none⟩ -> H0.length ≤ c ∧ c < H.length := fun c hc => ⟨h.2.1 c hc, h.1.lt hc⟩
theorem rapply_c (h : Rt m H b B ms a1 ts ol) (hf : SlF TF H a2 fs) (hfe : fs.length = ts.length) {s : Sg} (hs : s.Thing - 1 ∈ ol) {Q : Sl × Unit -> Heap -> Prop} (hq : ∀ r H' sp, NewO TF H r H' (applyF B ts fs ol s) sp -> Q (r, ()) H') :
  CALL P [T_sl] n_ref19_apply [.pointer (some ⟨b, 0, none⟩), a1.v, a2.v, TSt.enc s] H Q := by
 apply c_ref19_apply
 unfold S_ref19_apply
 have hlen := h.ot.len
 refine copy_g tyF rfl (fun _ => by simp) hf (by omega) fun x1 H1 sp1 n1 => ?_
 have h1 := h.new n1.2.2
 refine rabt_c h1 (hf.frs n1.2.2 (by simp)) hfe hs fun x2 H2 sp2 n2 => ?_
 obtain ⟨k', t', c', e1', e2', e3', e4', e5', e6', e7', e8', e9'⟩ := h.card hs
 have hk' : fs[k']? = some (fs[k']'(by have := (List.getElem?_eq_some_iff.1 e2').1; omega)) := List.getElem?_eq_getElem _
 generalize (fs[k']'_) = f' at hk'
 have ef' : ftI fs (s.Thing - 1) = f' := ftI_at e1' hk'
 have w2 : IntKind.wrap .i64 (s.Thing - 1) = (k' : Int) := by rw [i64w (by omega) (by omega)]; omega
 rw [w2]
 have f02 := n1.2.2.trans n2.2.2
 refine idx_hold (hf.frs f02 (by simp)) rfl hk' ?_
 have hl2 : x2.len = (abouts B ts fs ol s).length := n2.1.1
 have hmem : ∀ x ∈ abouts B ts fs ol s, ∃ k : Nat, x = (k : Int) + 1 ∧ k < fs.length := fun x hx => by
  obtain ⟨k, t, c, e1, e2, _⟩ := h.card (mem_abouts.1 hx).1
  have := (List.getElem?_eq_some_iff.1 e2).1
  exact ⟨k, by omega, by omega⟩
 have hal := abouts_len B ts fs ol s
 have few := h.ot.few
 generalize hL : abouts B ts fs ol s = L at hl2 hmem n2 hal
 have eap : applyF B ts fs ol s = L.foldl (put1 s f'.Holder) fs := by unfold applyF; rw [hL, ef']
 refine JOIN_inv (fun _ H' => NewO TF H x1 H' (L.foldl (put1 s f'.Holder) fs) sp1) (fun j hj => ?_) (fun _ H' hh => hq _ _ sp1 (by rw [eap]; exact hh))
 refine loop_of (fun (y : (Int × Unit) × Unit) H' => ∃ n : Nat, y.1.1 = n ∧ n ≤ L.length ∧ NewO TF H x1 H' ((L.take n).foldl (put1 s f'.Holder) fs) sp1 ∧ Ow TN' H' x2 L sp2) (fun y => L.length - y.1.1.toNat) ?_ ⟨0, rfl, Nat.zero_le _, by simpa using n1.new n2.2.2, n2.1⟩
 rintro G ⟨⟨i, _⟩, _⟩ H4 ⟨n, hi, hn, no, o2⟩ hG
 simp only at hi; subst hi
 dsimp only at hG ⊢
 refine ifD (fun hlt => ?_) (fun hge => hj _ _ ?_)
 ·have hlt : n < L.length := by omega
  have hx : L[n]? = some L[n] := List.getElem?_eq_getElem hlt
  obtain ⟨k, ek, hk⟩ := hmem L[n] (List.getElem_mem hlt)
  generalize L[n] = x at hx ek
  have tk := fold_take (put1 s f'.Holder) fs hx
  have hcl := fold_put_len s f'.Holder (L.take n) fs
  generalize hcur : (L.take n).foldl (put1 s f'.Holder) fs = cur at no tk hcl
  have hky : cur[k]? = some (cur[k]'(by omega)) := List.getElem?_eq_getElem (by omega)
  generalize (cur[k]'(by omega)) = g at hky
  have eg : ftI cur (x - 1) = g := ftI_at (by omega) hky
  have w3 : IntKind.wrap .i64 (x - 1) = (k : Int) := by rw [i64w (by omega) (by omega)]; omega
  refine idx_all (T := TN') hTN' o2.slf rfl hx rfl fun b10 o11 rd => rd _ o2.slf _ (idx_ldF (T := TN') hTN' o2.slf rfl hx rfl ?_)
  rw [w3]
  refine idx_ldF (T := TF) hTF no.1.slf rfl hky rfl (rdone_c (rd _ o2.slf _ ⟨rfl, ?_⟩))
  refine no.1.put (n := k) hTF (fun x => rfl) rfl (by omega) (doneF g s.What f'.Holder) rfl fun c0 H6 hc0 o6 f6 l6 => ?_
  obtain ⟨p1, p2⟩ := no.ptr _ hc0
  obtain ⟨p3, p4⟩ := n1.ptr _ hc0
  have ep : put1 s f'.Holder cur x = cur.set k (doneF g s.What f'.Holder) := by
   unfold put1
   rw [eg, show (x - 1).toNat = k by omega]
  rw [i64w (by omega) (by omega)]
  refine hG _ _ ⟨n + 1, by simp, hlt, by rw [tk, ep]; exact ⟨o6, no.2.1, no.2.2.then f6 fun d hd => by simp at hd; subst hd; exact .inr p1⟩, o2.frs f6 fun d hd e => ?_⟩ (by simp; omega)
  simp at hd; subst hd
  have := n2.2.1 _ e; omega
 ·have : n = L.length := by omega
  subst this
  rw [List.take_length] at no; exact no
end
end Go.Proofs.YtolekmhhkopooaaGreatDoor.Zq
end
section
namespace Go.Proofs.YtolekmhhkopooaaGreatDoor.Zq
open Zv
section
variable {H : Heap} {b m : Nat} {se : Bool} {B : List Cd} {ms : List G_api_MarkInfo} {a1 a2 a3 : Sl} {ts : List Tg} {fs : List Ft} {ol : List Int} {l : List Sg}
theorem eq_of_at {α : Type} {x y : List α} (hl : x.length = y.length) (h : ∀ (i : Nat) a c, i < x.length -> x[i]? = some a -> y[i]? = some c -> a = c) : x = y := by
 apply List.ext_getElem hl
 intro i h1 h2
 exact h i _ _ h1 (List.getElem?_eq_getElem h1) (List.getElem?_eq_getElem h2)
theorem rsame_c {s r : Sl} {x y : List Int} (hx : SlF TN' H s x) (hy : SlF TN' H r y) (hl : x.length ≤ 1048600) {Q : Bool × Unit -> Heap -> Prop} (hq : Q (decide (x = y), ()) H) : CALL P [T_bool] n_ref19_same [s.v, r.v] H Q := by
 apply c_ref19_same
 unfold S_ref19_same
 have h1 := hx.1
 have h2 := hy.1
 have no : ¬ x = y -> Q (false, ()) H := fun q => by have := hq; rwa [decide_eq_false q] at this
 refine ifN (fun e => no fun q => by subst q; omega) (fun e => ?_)
 have hll : x.length = y.length := by omega
 refine JOIN_inv (fun _ H' => H' = H ∧ x = y) (fun j hj => ?_) (fun _ H' hh => by obtain ⟨rfl, e⟩ := hh; rwa [decide_eq_true e] at hq)
 refine loop_of (fun (t : (Int × Unit) × Unit) H' => H' = H ∧ ∃ n : Nat, t.1.1 = n ∧ n ≤ x.length ∧ ∀ (i : Nat) a c, i < n -> x[i]? = some a -> y[i]? = some c -> a = c) (fun t => x.length - t.1.1.toNat) ?_ ⟨rfl, 0, rfl, Nat.zero_le _, fun i a c h => by omega⟩
 rintro G ⟨⟨i, _⟩, _⟩ H' ⟨rfl, n, hi, hn, inv⟩ hG
 simp only at hi; subst hi
 dsimp only at hG ⊢
 refine ifD (fun hlt => ?_) (fun hge => hj _ _ ⟨rfl, eq_of_at hll fun i a c w => inv i a c (by omega)⟩)
 have hlt : n < x.length := by omega
 have ha : x[n]? = some x[n] := List.getElem?_eq_getElem hlt
 have hc : y[n]? = some (y[n]'(by omega)) := List.getElem?_eq_getElem (by omega)
 generalize x[n] = a at ha
 generalize (y[n]'(by omega)) = c at hc
 refine idx_ldF (T := TN') hTN' hx rfl ha rfl (idx_ldF (T := TN') hTN' hy rfl hc rfl (ifN (fun q => no fun w => ?_) (fun q => ?_)))
 ·subst w; rw [ha] at hc; cases hc; exact q rfl
 ·rw [i64w (by omega) (by omega)]
  refine hG _ _ ⟨rfl, n + 1, by simp, hlt, fun i a' c' w1 w2 w3 => ?_⟩ (by simp; omega)
  by_cases e : i = n
  ·subst e; rw [ha] at w2; rw [hc] at w3; cases w2; cases w3; exact q
  ·exact inv i a' c' (by omega) w2 w3
theorem rdep_c (h : Rt m H b B ms a1 ts ol) (hf : SlF TF H a2 fs) (hfe : fs.length = ts.length) {s o : Sg} (hs : s.Thing - 1 ∈ ol) (ho : o.Thing - 1 ∈ ol) {Q : Bool × Unit -> Heap -> Prop} (hq : ∀ H', Frs [] H H' -> Q (dependsB B ts fs ol s o, ()) H') :
  CALL P [T_bool] n_ref19_depends [.pointer (some ⟨b, 0, none⟩), a1.v, a2.v, TSt.enc s, TSt.enc o] H Q := by
 apply c_ref19_depends
 unfold S_ref19_depends
 have few := h.ot.few
 have hal := abouts_len B ts fs ol s
 refine rabt_c h hf hfe hs fun x1 H1 sp1 n1 => ⟨rfl, rfl, ?_⟩
 refine rapply_c (h.new n1.2.2) (hf.frs n1.2.2 (by simp)) hfe ho fun x2 H2 sp2 n2 => ⟨rfl, ?_⟩
 have f02 := n1.2.2.trans n2.2.2
 refine rabt_c (h.new f02) n2.1.slf (by rw [applyF_len]; exact hfe) hs fun x3 H3 sp3 n3 => ?_
 refine rsame_c ((n1.new n2.2.2).new n3.2.2).1.slf n3.1.slf (by omega) ?_
 have := hq H3 (f02.trans n3.2.2)
 unfold dependsB at this
 simpa using this
theorem rahead_c' (h : Rt m H b B ms a1 ts ol) {s o : Sg} (hs : s.Thing - 1 ∈ ol) (ho : o.Thing - 1 ∈ ol) {Q : Bool × Unit -> Heap -> Prop} (hq : Q (aheadB ts s o, ()) H) : CALL P [T_bool] n_ref19_ahead [a1.v, TSt.enc s, TSt.enc o] H Q := by
 apply c_ref19_ahead
 unfold S_ref19_ahead
 obtain ⟨k, t, c, e1, e2, _, _, _, _, _, _, k1⟩ := h.card hs
 obtain ⟨k', t', c', e1', e2', _, _, _, _, _, _, k1'⟩ := h.card ho
 have w1 : IntKind.wrap .i64 (s.Thing - 1) = (k : Int) := by rw [i64w (by omega) (by omega)]; omega
 have w2 : IntKind.wrap .i64 (o.Thing - 1) = (k' : Int) := by rw [i64w (by omega) (by omega)]; omega
 rw [w1, w2]
 unfold aheadB at hq
 rw [stampAt_at e1 e2, stampAt_at e1' e2'] at hq
 refine idx_stamp' h.s rfl e2 (idx_stamp' h.s rfl e2' (JOIN_of (ifD (fun q => ?_) (fun q => ifE (fun q2 => ?_) (fun q2 => ?_)))))
 ·rw [decide_eq_true q, Bool.true_or] at hq; exact hq
 ·rw [decide_eq_false q, decide_eq_true q2, Bool.false_or, Bool.true_and] at hq; exact hq
 ·rw [decide_eq_false q, decide_eq_false q2] at hq; exact hq
theorem hangs_true {i k j : Nat} (hj : j < k) (h : (j != i && dependsB B ts fs ol (sgI l (i : Int)) (sgI l (j : Int))) = true) : hangsB B ts fs ol l i k = true := List.any_eq_true.2 ⟨j, List.mem_range.2 hj, h⟩
theorem rnext_c (h : Rt m H b B ms a1 ts ol) (hf : SlF TF H a2 fs) (hfe : fs.length = ts.length) (hl : SlF TSt H a3 l) (hll : l.length ≤ 1048600) (lv : ∀ s ∈ l, s.Thing - 1 ∈ ol) {Q : Int × Unit -> Heap -> Prop} (hq : ∀ H', Frs [] H H' -> Q (nextF B ts fs ol l, ()) H') :
  CALL P [TN'] n_ref19_next [.pointer (some ⟨b, 0, none⟩), a1.v, a2.v, a3.v] H Q := by
 apply c_ref19_next
 unfold S_ref19_next
 have h3 := hl.1
 refine JOIN_inv (fun (y : (Int × Int × Unit) × Unit) H' => Frs [] H H' ∧ y.1.1 = (nx B ts fs ol l l.length).1 ∧ y.1.2.1 = (nx B ts fs ol l l.length).2) (fun j hj => ?_) ?_
 ·refine loop_of (fun (y : (Int × Int × Int × Unit) × Unit) H' => ∃ n : Nat, y.1.2.2.1 = n ∧ n ≤ l.length ∧ Frs [] H H' ∧ y.1.1 = (nx B ts fs ol l n).1 ∧ y.1.2.1 = (nx B ts fs ol l n).2) (fun y => l.length - y.1.2.2.1.toNat) ?_ ⟨0, rfl, Nat.zero_le _, .refl _ _, rfl, rfl⟩
  rintro G ⟨⟨free, first, i, _⟩, _⟩ H1 ⟨n, hi, hn, f1, hfr, hfi⟩ hG
  simp only at hi hfr hfi; subst hi
  dsimp only at hG ⊢
  refine ifD (fun hlt => ?_) (fun hge => hj _ _ ?_)
  ·have hlt : n < l.length := by omega
   obtain ⟨r1, r2, r3, r4⟩ := nx_rng B ts fs ol l n
   rw [← hfr] at r1 r2
   rw [← hfi] at r3 r4
   have enx : nx B ts fs ol l (n + 1) = (if (!hangsB B ts fs ol l n l.length && (decide (free < 0) || aheadB ts (sgI l n) (sgI l free))) = true then (n : Int) else free, if aheadB ts (sgI l n) (sgI l first) = true then (n : Int) else first) := by
    rw [hfr, hfi]; rfl
   have hx : l[n]? = some l[n] := List.getElem?_eq_getElem hlt
   have hxm := lv _ (List.getElem_mem hlt)
   generalize l[n] = s at hx hxm
   have es : sgI l (n : Int) = s := sgI_at rfl hx
   obtain ⟨fn, hfn⟩ : ∃ fn : Nat, first = fn := ⟨first.toNat, by omega⟩
   have hfnl : fn < l.length := by omega
   have hy : l[fn]? = some l[fn] := List.getElem?_eq_getElem hfnl
   have hym := lv _ (List.getElem_mem hfnl)
   generalize l[fn] = o at hy hym
   have eo : sgI l first = o := sgI_at hfn hy
   have h1 := h.new f1
   have hf1 := hf.frs f1 (by simp)
   have hl1 := hl.frs f1 (by simp)
   rw [es, eo] at enx
   refine idx_ldF (T := TSt) hTSt hl1 rfl hx rfl (idx_ldF (T := TSt) hTSt hl1 hfn hy rfl (rahead_c' h1 hxm hym ?_))
   refine JOIN_inv (fun (y : (Int × Unit) × Unit) H' => H' = H1 ∧ y.1.1 = (if aheadB ts s o = true then (n : Int) else first)) (fun j2 hj2 => ifB_of (fun e => hj2 _ _ ⟨rfl, (if_pos e).symm⟩) (fun e => hj2 _ _ ⟨rfl, (if_neg (by have e : aheadB ts s o = false := e; rw [e]; decide)).symm⟩)) ?_
   rintro ⟨⟨first2, _⟩, _⟩ H' ⟨rfl, hf2⟩
   simp only at hf2
   dsimp only
   refine JOIN_inv (fun (y : (Bool × Unit) × Unit) H' => Frs [] H H' ∧ y.1.1 = hangsB B ts fs ol l n l.length) (fun j3 hj3 => ?_) ?_
   ·refine loop_of (fun (y : (Bool × Int × Unit) × Unit) H' => ∃ k : Nat, y.1.2.1 = k ∧ k ≤ l.length ∧ Frs [] H H' ∧ (y.1.1 = true -> hangsB B ts fs ol l n l.length = true) ∧ (y.1.1 = false -> ∀ j : Nat, j < k -> (j != n && dependsB B ts fs ol (sgI l (n : Int)) (sgI l (j : Int))) = false)) (fun y => l.length - y.1.2.1.toNat) ?_ ⟨0, rfl, Nat.zero_le _, f1, fun e => (by cases e), fun _ j h => by omega⟩
    rintro G2 ⟨⟨hg, i2, _⟩, _⟩ H4 ⟨k, hk, hkl, f4, ht, hff⟩ hG2
    simp only at hk ht hff; subst hk
    dsimp only at hG2 ⊢
    refine hJ ((k : Int) < a3.len ∧ hg = false) (fun j4 hj4 => ifD (fun e => hj4 _ (by simp; omega)) (fun e => hj4 _ (by simp; omega))) (fun q => ?_) (fun q => hj3 _ _ ⟨f4, ?_⟩)
    ·obtain ⟨q1, q2⟩ := q
     have hkl2 : k < l.length := by omega
     have hz : l[k]? = some l[k] := List.getElem?_eq_getElem hkl2
     have hzm := lv _ (List.getElem_mem hkl2)
     generalize l[k] = u at hz hzm
     have eu : sgI l (k : Int) = u := sgI_at rfl hz
     have hl4 := hl.frs f4 (by simp)
     refine JOIN_inv (fun (y : (Bool × Unit) × Unit) H' => Frs [] H H' ∧ y.1.1 = (k != n && dependsB B ts fs ol s u)) (fun j5 hj5 => ifN (fun e => ?_) (fun e => hj5 _ _ ⟨f4, ?_⟩)) ?_
     ·refine idx_ldF (T := TSt) hTSt hl4 rfl hx rfl (idx_ldF (T := TSt) hTSt hl4 rfl hz rfl (rdep_c (h.new f4) (hf.frs f4 (by simp)) hfe hxm hzm fun H5 f5 => hj5 _ _ ⟨f4.trans f5, ?_⟩))
      have : (k != n) = true := by simp; omega
      rw [this, Bool.true_and]
     ·have : (k != n) = false := by simp; omega
      rw [this, Bool.false_and]
     ·rintro ⟨⟨r, _⟩, _⟩ H5 ⟨f5, hr⟩
      simp only at hr
      dsimp only
      rw [i64w (by omega) (by omega)]
      refine hG2 _ _ ⟨k + 1, by simp, hkl2, f5, fun e => ?_, fun e j w => ?_⟩ (by simp; omega)
      ·exact hangs_true hkl2 (by rw [es, eu, ← hr]; exact e)
      ·by_cases ej : j = k
       ·subst ej; rw [es, eu, ← hr]; exact e
       ·exact hff q2 j (by omega)
    ·cases hh : hg with
     | true => exact (ht hh).symm
     | false =>
      have hkk : k = l.length := by
       have : ¬ (k : Int) < a3.len := fun w => q ⟨w, hh⟩
       omega
      symm
      refine Bool.eq_false_iff.2 fun w => ?_
      obtain ⟨j, hj, hd⟩ := List.any_eq_true.1 w
      have := hff hh j (by have := List.mem_range.1 hj; omega)
      rw [this] at hd; cases hd
   ·rintro ⟨⟨hg, _⟩, _⟩ H4 ⟨f4, hhg⟩
    simp only at hhg
    dsimp only
    have hl4 := hl.frs f4 (by simp)
    refine JOIN_inv (fun (y : (Bool × Unit) × Unit) H' => H' = H4 ∧ y.1.1 = (!hg && (decide (free < 0) || aheadB ts s (sgI l free)))) (fun j5 hj5 => ifB_of (fun e => ?_) (fun e => ?_)) ?_
    ·have e : (!hg) = true := e
     rw [e, Bool.true_and] at hj5
     refine ifD (fun e2 => hj5 _ _ ⟨rfl, by rw [decide_eq_true e2]; rfl⟩) (fun e2 => ?_)
     rw [decide_eq_false e2, Bool.false_or] at hj5
     obtain ⟨gn, hgn⟩ : ∃ gn : Nat, free = gn := ⟨free.toNat, by omega⟩
     have hgl : gn < l.length := by omega
     have hz : l[gn]? = some l[gn] := List.getElem?_eq_getElem hgl
     have hzm := lv _ (List.getElem_mem hgl)
     generalize l[gn] = u at hz hzm
     rw [sgI_at hgn hz] at hj5
     exact idx_ldF (T := TSt) hTSt hl4 rfl hx rfl (idx_ldF (T := TSt) hTSt hl4 hgn hz rfl (rahead_c' (h.new f4) hxm hzm (hj5 _ _ ⟨rfl, rfl⟩)))
    ·have e : (!hg) = false := e
     rw [e, Bool.false_and] at hj5
     exact hj5 _ _ ⟨rfl, rfl⟩
    ·rintro ⟨⟨r, _⟩, _⟩ H5 ⟨rfl, hr⟩
     simp only at hr
     dsimp only
     rw [hhg] at hr
     rw [← hr, ← hf2] at enx
     refine JOIN_inv (fun (y : (Int × Unit) × Unit) H' => H' = H5 ∧ y.1.1 = (if r = true then (n : Int) else free)) (fun j6 hj6 => ifB_of (fun e => hj6 _ _ ⟨rfl, (if_pos e).symm⟩) (fun e => hj6 _ _ ⟨rfl, (if_neg (by have e : r = false := e; rw [e]; decide)).symm⟩)) ?_
     rintro ⟨⟨fr2, _⟩, _⟩ H6 ⟨rfl, hfr2⟩
     simp only at hfr2
     dsimp only
     rw [i64w (by omega) (by omega)]
     exact hG _ _ ⟨n + 1, by simp, hlt, f4, by rw [enx, hfr2], by rw [enx]⟩ (by simp; omega)
  ·have : n = l.length := by omega
   subst this; exact ⟨f1, hfr, hfi⟩
 ·rintro ⟨⟨free, first, _⟩, _⟩ H1 ⟨f1, e1, e2⟩
  simp only at e1 e2
  dsimp only
  have := hq H1 f1
  unfold nextF at this
  rw [← e1, ← e2] at this
  exact ifD (fun q => by rwa [if_pos q] at this) (fun q => by rwa [if_neg q] at this)
end
end Go.Proofs.YtolekmhhkopooaaGreatDoor.Zq
end
section
namespace Go.Proofs.YtolekmhhkopooaaGreatDoor.Zq
open Zv
section
variable {H : Heap} {b m : Nat} {se : Bool} {B : List Cd} {ms : List G_api_MarkInfo} {a1 a2 a3 : Sl} {ts : List Tg} {fs : List Ft} {ol : List Int} {l : List Sg}
theorem exists_ord (ts : List Tg) : ∃ ol, IsOrd ts ol := by
 refine ⟨(tabI ts ts.length).mergeSort fun a c => decide (stampAt ts a.toNat ≤ stampAt ts c.toNat), List.mergeSort_perm _ _, fun i j a c hij ha hc => ?_⟩
 have hp := List.pairwise_mergeSort (le := fun a c : Int => decide (stampAt ts a.toNat ≤ stampAt ts c.toNat)) (fun a b c h1 h2 => by simp at h1 h2 ⊢; omega) (fun a c => by simp; omega) (tabI ts ts.length)
 have hi := List.getElem?_eq_some_iff.1 ha
 have hj := List.getElem?_eq_some_iff.1 hc
 have := List.pairwise_iff_getElem.1 hp i j hi.1 hj.1 hij
 rw [hi.2, hj.2] at this
 simpa using this
theorem srt_uniq {f : Int -> Int} : ∀ {l1 l2 : List Int}, l1.Pairwise (fun a c => f a < f c) -> l2.Pairwise (fun a c => f a < f c) -> (∀ x, x ∈ l1 ↔ x ∈ l2) -> l1 = l2
 | [], [], _, _, _ => rfl
 | [], c :: r, _, _, h => by have := (h c).2 (by simp); cases this
 | a :: r, [], _, _, h => by have := (h a).1 (by simp); cases this
 | a :: r, c :: q, h1, h2, h => by
  rw [List.pairwise_cons] at h1 h2
  have e : a = c := by
   refine Classical.byContradiction fun n => ?_
   rcases List.mem_cons.1 ((h a).1 (by simp)) with w | w
   ·exact n w
   ·rcases List.mem_cons.1 ((h c).2 (by simp)) with w2 | w2
    ·exact n w2.symm
    ·have := h1.1 c w2; have := h2.1 a w; omega
  subst e
  congr 1
  refine srt_uniq h1.2 h2.2 fun x => ⟨fun hx => ?_, fun hx => ?_⟩
  ·rcases List.mem_cons.1 ((h x).1 (by simp [hx])) with w | w
   ·subst w; have := h1.1 x hx; omega
   ·exact w
  ·rcases List.mem_cons.1 ((h x).2 (by simp [hx])) with w | w
   ·subst w; have := h2.1 x hx; omega
   ·exact w
theorem OrdT.uniq {l1 l2 : List Int} (h1 : OrdT B ts l1) (h2 : OrdT B ts l2) : l1 = l2 := by
 have pw : ∀ {l : List Int}, OrdT B ts l -> l.Pairwise (fun a c => stampAt ts a.toNat < stampAt ts c.toNat) := fun h => List.pairwise_iff_getElem.2 fun i j hi hj hij => h.srt i j _ _ hij (List.getElem?_eq_getElem hi) (List.getElem?_eq_getElem hj)
 refine srt_uniq (f := fun a => stampAt ts a.toNat) (pw h1) (pw h2) fun x => ⟨fun hx => ?_, fun hx => ?_⟩
 ·obtain ⟨k, t, c, e1, e2, e3, _⟩ := h1.at' x hx; subst e1; exact h2.all k t e2 e3
 ·obtain ⟨k, t, c, e1, e2, e3, _⟩ := h2.at' x hx; subst e1; exact h1.all k t e2 e3
theorem ord_of {B : List Cd} (okB : OkB B) (e : setE se B ts fs = 0) : ∃ ol, OrdT B ts ol := by
 obtain ⟨e1, e2, e3, e4⟩ := setE_ok (e := e)
 obtain ⟨ol, ho⟩ := exists_ord ts
 exact ⟨ol, ho.ordT e4 e2 okB e3⟩
theorem SlF.after {T : Tag} {H1 H2 : Heap} {out s : Sl} {l : List T.α} (h : SlF T H1 s l) (a : After out H1 H2) (ap : ∀ d off, s.p = some ⟨d, off, none⟩ -> out.p ≠ some ⟨d, 0, none⟩) : SlF T H2 s l := by
 by_cases hq : ∃ d, out.p = some ⟨d, 0, none⟩
 ·obtain ⟨d0, hd0⟩ := hq
  exact h.frs (a.frs (B := [d0]) fun d hd => by rw [hd0] at hd; cases hd; simp) fun x hx off e => by simp at hx; subst hx; exact ap _ _ e hd0
 ·exact h.frs (a.frs (B := []) fun d hd => absurd ⟨d, hd⟩ hq) (by simp)
theorem reff_c (h : Rt m H b B ms a1 ts ol) (hf : SlF TF H a2 fs) (hfe : fs.length = ts.length) {k : Int} {Q : Sl × Unit -> Heap -> Prop} (hq : ∀ s H' sp, NewO TSt H s H' (effs B ts fs ol k) sp -> Q (s, ()) H') :
  CALL P [T_sl] n_ref19_effects [.pointer (some ⟨b, 0, none⟩), a1.v, a2.v, .int .i64 k] H Q := by
 apply c_ref19_effects
 unfold S_ref19_effects
 refine rorder_c h.s h.ot fun x1 H1 sp1 n1 => ?_
 have h1 := h.new n1.2.2
 have hf1 := hf.frs n1.2.2 (by simp)
 have ho := n1.1.slf
 have hol : x1.len = ol.length := by have := ho.1; simpa using this
 have few := h.ot.few
 refine JOIN_inv (fun y H' => ∃ sp, NewO TSt H1 y.1.1 H' (effs B ts fs ol k) sp) (fun j hj => ?_) (fun y H' hh => by obtain ⟨sp, hh⟩ := hh; exact hq _ _ _ (hh.older n1.2.2))
 refine loop_of (fun (y : (Sl × Int × Unit) × Unit) H' => ∃ (n : Nat) (sp : List Sg), y.1.2.1 = n ∧ n ≤ ol.length ∧ NewO TSt H1 y.1.1 H' ((ol.take n).flatMap (effO1 B ts fs k)) sp) (fun y => ol.length - y.1.2.1.toNat) ?_ ⟨0, [], rfl, Nat.zero_le _, by simpa using NewO.nil' TSt H1⟩
 rintro G ⟨⟨out, i, _⟩, _⟩ H2 ⟨n, sp, hi, hn, no⟩ hG
 simp only at hi no; subst hi
 dsimp only at hG ⊢
 have f2 := no.2.2
 refine ifD (fun hlt => ?_) (fun hge => hj _ _ ⟨sp, ?_⟩)
 ·have hlt : n < ol.length := by omega
  have hx : ol[n]? = some ol[n] := List.getElem?_eq_getElem hlt
  have hm : ol[n] ∈ ol := List.getElem_mem hlt
  generalize ol[n] = x at hx hm
  have hx1 : (ol.map (· + 1))[n]? = some (x + 1) := by rw [List.getElem?_map, hx]; rfl
  obtain ⟨kx, t, c, ek, et, e3, e4, e5, ecp, eck, e8, k1⟩ := h.card hm
  have hfx : fs[kx]? = some (fs[kx]'(by have := (List.getElem?_eq_some_iff.1 et).1; omega)) := List.getElem?_eq_getElem _
  generalize (fs[kx]'_) = f at hfx
  have eft : ftI fs x = f := ftI_at ek hfx
  have tk := fm_take (effO1 B ts fs k) hx
  have hpre : ((ol.take n).flatMap (effO1 B ts fs k)).length ≤ 64 := by
   have := fm_len (f := effO1 B ts fs k) (c := 4) (l := ol.take n) fun y hy => by
    obtain ⟨_, _, c', _, _, _, _, _, ecp', _, e4', _⟩ := h.card (List.mem_of_mem_take hy)
    unfold effO1
    split
    ·simp
    ·have := effN_len (y + 1) k (cpI B ts y)
     rw [ecp'] at this ⊢; omega
   rw [List.length_take] at this
   omega
  have w1 : IntKind.wrap .i64 (x + 1 - 1) = (kx : Int) := by rw [i64w (by omega) (by omega)]; omega
  have ho2 := ho.frs f2 (by simp)
  refine JOIN_inv (fun y H' => ∃ sp, NewO TSt H1 y.1.1 H' ((ol.take (n + 1)).flatMap (effO1 B ts fs k)) sp) (fun j2 hj2 => ?_) ?_
  ·refine idx_ldF (T := TN') hTN' ho2 rfl hx1 rfl ?_
   rw [w1]
   refine idx_traits (hf1.frs f2 (by simp)) rfl hfx (rhas_c (ifB_of (fun hM => ?_) (fun hM => ?_)))
   ·refine hj2 _ _ ⟨sp, ?_⟩
    have : effO1 B ts fs k x = [] := by unfold effO1; rw [eft, if_pos hM]
    rw [tk, this, List.append_nil]; exact no
   ·have e1 : effO1 B ts fs k x = effN (x + 1) k c.ps := by
     unfold effO1; rw [eft, if_neg (by have hM : hasT f.Traits 6 = false := hM; rw [hM]; decide), ecp]
    rw [e1] at tk
    refine idx_ldF (T := TN') hTN' ho2 rfl hx1 rfl ?_
    rw [w1]
    refine idx_tcard ((h1.new f2).s) rfl et (rat_in (h1.new f2) e4 e5 fun g H6 cr f6 => ?_)
    have no6 := no.new f6
    have hpl := cr.p.1
    have hap : ∀ d off, g.Parts.p = some ⟨d, off, none⟩ -> out.p ≠ some ⟨d, 0, none⟩ := fun d off e e2 => by
     have := cr.lo d (by rw [e]; simp [bl])
     have := no.1.lt e2; omega
    refine JOIN_inv (fun y H' => ∃ sp, NewO TSt H1 y.1.1 H' ((ol.take (n + 1)).flatMap (effO1 B ts fs k)) sp) (fun j3 hj3 => ?_) (fun y H' h => hj2 _ _ h)
    refine loop_of (fun (y : (Sl × Int × Unit) × Unit) H' => ∃ (i : Nat) (sp : List Sg), y.1.2.1 = i ∧ i ≤ c.ps.length ∧ NewO TSt H1 y.1.1 H' ((ol.take n).flatMap (effO1 B ts fs k) ++ (c.ps.zipIdx.take i).flatMap (effN1 (x + 1) k)) sp ∧ SlF TP H' g.Parts c.ps ∧ ∀ d off, g.Parts.p = some ⟨d, off, none⟩ -> y.1.1.p ≠ some ⟨d, 0, none⟩) (fun y => c.ps.length - y.1.2.1.toNat) ?_ ⟨0, sp, rfl, Nat.zero_le _, by simpa using no6, cr.p, hap⟩
    rintro G2 ⟨⟨out2, i2, _⟩, _⟩ H7 ⟨i, sp2, hi, hin, no2, hps, hap2⟩ hG2
    simp only at hi no2 hap2; subst hi
    dsimp only at hG2 ⊢
    refine ifD (fun hlt2 => ?_) (fun hge2 => hj3 _ _ ⟨sp2, ?_⟩)
    ·have hlt2 : i < c.ps.length := by omega
     have hy : c.ps[i]? = some c.ps[i] := List.getElem?_eq_getElem hlt2
     have hz : c.ps.zipIdx[i]? = some (c.ps[i], i) := by rw [List.getElem?_zipIdx, hy]; simp
     generalize c.ps[i] = p at hy hz
     have tk2 := fm_take (effN1 (x + 1) k) hz
     have hpre2 : ((c.ps.zipIdx.take i).flatMap (effN1 (x + 1) k)).length ≤ 4 := by
      have := fm_len (f := effN1 (x + 1) k) (c := 1) (l := c.ps.zipIdx.take i) fun y _ => effN1_len _ _ y
      rw [List.length_take, List.length_zipIdx] at this
      omega
     refine JD (p.When = 5 ∧ layV p.Verb = k) (fun j4 hj4 => idx_when' hps rfl hy (ifE (fun e5 => idx_verb hps rfl hy (rlay_c (hj4 _ (by simp [e5])))) (fun e5 => hj4 _ (by simp [e5])))) ?_
     refine JOIN_inv (fun y H' => ∃ sp, NewO TSt H1 y.1.1 H' ((ol.take n).flatMap (effO1 B ts fs k) ++ (c.ps.zipIdx.take (i + 1)).flatMap (effN1 (x + 1) k)) sp ∧ SlF TP H' g.Parts c.ps ∧ ∀ d off, g.Parts.p = some ⟨d, off, none⟩ -> y.1.1.p ≠ some ⟨d, 0, none⟩) (fun j5 hj5 => ifD (fun hc => ?_) (fun hc => hj5 _ _ ⟨sp2, ?_, hps, hap2⟩)) ?_
     ·have e2 : effN1 (x + 1) k (p, i) = [⟨x + 1, i, p⟩] := by unfold effN1; rw [if_pos hc]
      refine idx_ldF (T := TN') hTN' (ho.frs no2.2.2 (by simp)) rfl hx1 rfl (idx_ldF (T := TP) hTP hps rfl hy rfl ?_)
      refine app_c tySt rfl (fun _ => by simp) (m := 1) [(⟨x + 1, i, p⟩ : Sg)] rfl rfl (by rw [List.length_append]; show 2 * (_ + 1) * 4096 ≤ _; omega) no2.1 fun s4 H8 sp5 k1 k2 k3 => ?_
      refine hj5 _ _ ⟨sp5, ?_, hps.after k3 hap2, fun d off e => ?_⟩
      ·rw [tk2, e2, ← List.append_assoc]; exact no2.app k1 k2 k3
      ·rcases k2 with q | ⟨q, _⟩
       ·dsimp only; rw [q]; exact hap2 d off e
       ·dsimp only; rw [q]; intro w
        have := slF_lt hps e
        cases w; omega
     ·have e2 : effN1 (x + 1) k (p, i) = [] := by unfold effN1; rw [if_neg hc]
      rw [tk2, e2, List.append_nil]; exact no2
     ·rintro ⟨⟨out3, _⟩, _⟩ H8 ⟨sp3, no3, hps3, hap3⟩
      dsimp only
      rw [i64w (by omega) (by omega)]
      exact hG2 _ _ ⟨i + 1, sp3, by simp, hlt2, no3, hps3, hap3⟩ (by simp; omega)
    ·have : i = c.ps.length := by omega
     subst this
     have e3 : c.ps.zipIdx.take c.ps.length = c.ps.zipIdx := by rw [← List.length_zipIdx (l := c.ps) (i := 0), List.take_length]
     rw [e3] at no2
     rw [tk]; exact no2
  ·rintro ⟨⟨out3, _⟩, _⟩ H3 ⟨sp3, no3⟩
   dsimp only
   rw [i64w (by omega) (by omega)]
   exact hG _ _ ⟨n + 1, sp3, by simp, hlt, no3⟩ (by simp; omega)
 ·have : n = ol.length := by omega
  subst this
  rw [List.take_length] at no; exact no
theorem reffects_c (h : BD m H b se B ms) (okB : OkB B) (hs : SlF TT' H a1 ts) (hf : SlF TF H a2 fs) {k : Int} {Q : Sl × Int × Unit -> Heap -> Prop}
  (q1 : ∀ H', setE se B ts fs ≠ 0 -> Frs [] H H' -> Q (⟨none, 0, 0⟩, setE se B ts fs, ()) H') (q2 : ∀ H', setE se B ts fs = 0 -> (k < 1 ∨ 5 < k) -> Frs [] H H' -> Q (⟨none, 0, 0⟩, 2, ()) H')
  (q0 : ∀ s ol H' sp, setE se B ts fs = 0 -> 1 ≤ k -> k ≤ 5 -> OrdT B ts ol -> NewO TSt H s H' (effs B ts fs ol k) sp -> Q (s, 0, ()) H') :
  CALL P [T_sl, TN'] n_ref19_Effects [.pointer (some ⟨b, 0, none⟩), a1.v, a2.v, .int .i64 k] H Q := by
 apply c_ref19_Effects
 unfold S_ref19_Effects
 refine rwrong_c h okB hs hf fun H1 f1 => ifN (fun e => q1 H1 e f1) (fun e => ?_)
 obtain ⟨e1, e2, e3, e4⟩ := setE_ok (e := e)
 obtain ⟨ol, ot⟩ := ord_of okB e
 subst e1
 refine hJ (k < 1 ∨ 5 < k) (fun j hj => ifD (fun h => hj _ (by simp; omega)) (fun h => hj _ (by simp; omega))) (fun hk => q2 _ e hk f1) (fun hk => ?_)
 exact reff_c ⟨h.new f1, okB, hs.frs f1 (by simp), ot⟩ (hf.frs f1 (by simp)) e2 fun s H2 sp no => q0 s ol H2 sp e (by omega) (by omega) ot (no.older f1)
end
end Go.Proofs.YtolekmhhkopooaaGreatDoor.Zq
end
section
namespace Go.Proofs.YtolekmhhkopooaaGreatDoor.Zq
open Zv
section
variable {H : Heap} {b m : Nat} {se : Bool} {B : List Cd} {ms : List G_api_MarkInfo} {a1 a2 a3 : Sl} {ts : List Tg} {fs : List Ft} {ol : List Int} {l : List Sg}
theorem OwJ.take {E : Env} {T : Tag} {ts : TypeId} {z : T.α} (ty : TyS E T ts z) {H : Heap} {s : Sl} {l : List T.α} (h : OwJ T H s l) {i : Int} {n : Nat} (hi : i = n) (hn : n ≤ l.length) (hp : s.p ≠ none) {k : Sl -> Prop} (hk : OwJ T H ⟨s.p, n, s.cap⟩ (l.take n) -> k ⟨s.p, n, s.cap⟩) : GENV T_sl (aSlice E ts s.v none (some (.int .i64 i)) none H) k := by
 obtain ⟨⟨ti, e, te, e1, e2, e3, e4, e5, e6, e7⟩, hn0, hT, hone⟩ := ty
 subst hi
 obtain ⟨p, m, c⟩ := s
 obtain ⟨g1, g2, g0, ⟨g3, g4, g5⟩ | ⟨d, r, g3, g4, g5, g6⟩⟩ := h
 ·exact absurd g3 hp
 ·simp only at g1 g2 g3 g5 g6 g0; subst g3
  refine ⟨⟨some ⟨d, 0, none⟩, n, c⟩, ?_, hk ⟨by simp; omega, by simp only; omega, by simp only; omega, .inr ⟨d, r, rfl, g4, by simp only; omega, by simp only; rw [← g6, List.take_take, Nat.min_eq_left (by omega)]⟩⟩⟩
  unfold aSlice
  have hex : Zq.exact H d 0 c = true := by unfold Zq.exact; rw [g4]; rfl
  simp only [e1, e2, e3, Option.bind_some, Sl.v, natOf, Option.isSome_none, Bool.false_and, Bool.false_eq_true, if_false, hex, or_true, if_true]
  rw [if_pos (by omega)]
  simp only [Option.bind_some, Int.toNat_natCast]
  rw [if_pos (by omega)]
  simp [Tag.enc, encC]
theorem Ow.pne {T : Tag} {H : Heap} {s : Sl} {l sp : List T.α} (h : Ow T H s l sp) (hl : 0 < l.length) : ∃ d, s.p = some ⟨d, 0, none⟩ := by
 obtain ⟨_, _, _, ⟨_, h4, _⟩ | ⟨c, h4, _⟩⟩ := h
 ·subst h4; simp at hl
 ·exact ⟨c, h4⟩
theorem effs_len {B : List Cd} {ts : List Tg} {ol : List Int} (ot : OrdT B ts ol) (fs : List Ft) (k : Int) : (effs B ts fs ol k).length ≤ 64 := by
 have := fm_len (f := effO1 B ts fs k) (c := 4) (l := ol) fun y hy => by
  obtain ⟨k', t, c, e1, e2, e3, e4, e5, e6, e7, e8⟩ := ot.at' y hy
  unfold effO1
  split
  ·simp
  ·have := effN_len (y + 1) k (cpI B ts y)
   have hc : cpI B ts y = c.ps := by subst e1; unfold cpI cdI; rw [Int.toNat_natCast, e2]; show ((B[(t.Card - 1).toNat]?).map (·.ps)).getD [] = _; rw [e5]; rfl
   rw [hc] at this ⊢; omega
 have := ot.few
 unfold effs; omega
theorem rall_c (h : BD m H b se B ms) (okB : OkB B) (hs : SlF TT' H a1 ts) (hf : SlF TF H a2 fs) {k : Int} {Q : Sl × Sl × Int × Unit -> Heap -> Prop}
  (q1 : ∀ H', setE se B ts fs ≠ 0 -> Frs [] H H' -> Q (⟨none, 0, 0⟩, ⟨none, 0, 0⟩, setE se B ts fs, ()) H') (q2 : ∀ H', setE se B ts fs = 0 -> (k < 1 ∨ 5 < k) -> Frs [] H H' -> Q (⟨none, 0, 0⟩, ⟨none, 0, 0⟩, 2, ()) H')
  (q0 : ∀ s r ol H' sp sr, setE se B ts fs = 0 -> 1 ≤ k -> k ≤ 5 -> OrdT B ts ol -> NewO TF H s H' (allS B ts ol fs (effs B ts fs ol k) (effs B ts fs ol k).length).1 sp -> NewO TSt H r H' (allS B ts ol fs (effs B ts fs ol k) (effs B ts fs ol k).length).2.2 sr -> (∀ d, s.p = some ⟨d, 0, none⟩ -> r.p ≠ some ⟨d, 0, none⟩) -> Q (s, r, 0, ()) H') :
  CALL P [T_sl, T_sl, TN'] n_ref19_All [.pointer (some ⟨b, 0, none⟩), a1.v, a2.v, .int .i64 k] H Q := by
 apply c_ref19_All
 unfold S_ref19_All
 refine reffects_c h okB hs hf (fun H' e f => ifB_t (by simpa using e) (q1 H' e f)) (fun H' e hk f => ifB_t rfl (q2 H' e hk f)) fun x1 ol H1 sp1 e hk1 hk5 ot n1 => ifB_f rfl ?_
 obtain ⟨e1, e2, e3, e4⟩ := setE_ok (e := e)
 subst e1
 have hel := effs_len ot fs k
 have hlv : ∀ s ∈ effs B ts fs ol k, s.Thing - 1 ∈ ol := fun s hs => (mem_effs hs).1
 have fin := q0
 generalize hL : effs B ts fs ol k = L at n1 hel hlv
 refine copy_g tyF rfl (fun _ => by simp) (hf.frs n1.2.2 (by simp)) (by omega) fun x2 H2 sp2 n2 => ?_
 have n12 := n1.new n2.2.2
 refine JOIN_inv (fun (y : (Sl × Sl × Unit) × Unit) H' => ∃ sp sr, NewO TF H y.1.1 H' (allS B ts ol fs L L.length).1 sp ∧ NewO TSt H y.1.2.1 H' (allS B ts ol fs L L.length).2.2 sr ∧ ∀ d, y.1.1.p = some ⟨d, 0, none⟩ -> y.1.2.1.p ≠ some ⟨d, 0, none⟩) (fun j hj => ?_) (fun y H' hh => by obtain ⟨sp, sr, h1, h2, h3⟩ := hh; exact fin _ _ ol _ sp sr e hk1 hk5 ot (by rw [hL]; exact h1) (by rw [hL]; exact h2) h3)
 refine loop_of (fun (y : (Sl × Sl × Sl × Unit) × Unit) H' => ∃ (n : Nat) (sl so : List Sg) (sf : List Ft), n ≤ L.length ∧ NewO TSt H y.1.1 H' (allS B ts ol fs L n).2.1 sl ∧ NewO TF H y.1.2.1 H' (allS B ts ol fs L n).1 sf ∧ NewO TSt H y.1.2.2.1 H' (allS B ts ol fs L n).2.2 so ∧ (∀ d, y.1.1.p = some ⟨d, 0, none⟩ -> y.1.2.2.1.p ≠ some ⟨d, 0, none⟩) ∧ (∀ d, y.1.2.1.p = some ⟨d, 0, none⟩ -> y.1.2.2.1.p ≠ some ⟨d, 0, none⟩)) (fun y => y.1.1.len) ?_
  ⟨0, sp1, [], sp2, Nat.zero_le _, n12, n2.older n1.2.2, (NewO.nil' TSt H2).older n12.2.2, by simp, by simp⟩
 rintro G ⟨⟨left, out, steps, _⟩, _⟩ H4 ⟨n, sl, so, sf, hn, nl, nf, ns, dl, df⟩ hG
 simp only at nl nf ns dl df
 dsimp only at hG ⊢
 obtain ⟨i1, i2, i3, i4⟩ := allS_inv B ts ol fs L n hn
 have elen : left.len = (allS B ts ol fs L n).2.1.length := nl.1.1
 have step : allS B ts ol fs L (n + 1) = (applyF B ts (allS B ts ol fs L n).1 ol (sgI (allS B ts ol fs L n).2.1 (nextF B ts (allS B ts ol fs L n).1 ol (allS B ts ol fs L n).2.1)), (allS B ts ol fs L n).2.1.eraseIdx (nextF B ts (allS B ts ol fs L n).1 ol (allS B ts ol fs L n).2.1).toNat, (allS B ts ol fs L n).2.2 ++ [sgI (allS B ts ol fs L n).2.1 (nextF B ts (allS B ts ol fs L n).1 ol (allS B ts ol fs L n).2.1)]) := rfl
 refine ifD (fun hpos => ?_) (fun hz => hj _ _ ?_)
 ·have f4 := nl.2.2
  have hnl : n < L.length := by omega
  obtain ⟨g1, g2⟩ := nextF_rng B ts (allS B ts ol fs L n).1 ol (l := (allS B ts ol fs L n).2.1) (by omega)
  generalize hcf : (allS B ts ol fs L n).1 = cf at nf i1 step g1 g2
  generalize hcl : (allS B ts ol fs L n).2.1 = cl at nl i2 i3 step elen g1 g2
  generalize hcs : (allS B ts ol fs L n).2.2 = cs at ns i4 step
  have lv : ∀ s ∈ cl, s.Thing - 1 ∈ ol := fun s hs => hlv s (i3 s hs)
  have rt4 : Rt m H4 b B ms a1 ts ol := ⟨h.new f4, okB, hs.frs f4 (by simp), ot⟩
  refine rnext_c rt4 nf.1.slf (by omega) nl.1.slf (by omega) lv fun H5 f5 => ?_
  generalize nextF B ts cf ol cl = i at step g1 g2
  obtain ⟨ni, hni⟩ : ∃ ni : Nat, i = ni := ⟨i.toNat, by omega⟩
  subst hni
  have hil : ni < cl.length := by omega
  have hx : cl[ni]? = some cl[ni] := List.getElem?_eq_getElem hil
  have hxm := lv _ (List.getElem_mem hil)
  generalize cl[ni] = s at hx hxm
  rw [sgI_at rfl hx, Int.toNat_natCast] at step
  have nl5 := nl.new f5
  have nf5 := nf.new f5
  refine idx_ldF (T := TSt) hTSt nl5.1.slf rfl hx rfl (rapply_c (rt4.new f5) nf5.1.slf (by omega) hxm fun x11 H6 sp11 n11 => ?_)
  have nl6 := nl5.new n11.2.2
  refine idx_ldF (T := TSt) hTSt nl6.1.slf rfl hx rfl ?_
  have ns6 := (ns.new f5).new n11.2.2
  refine app_c tySt rfl (fun _ => by simp) (m := 1) [s] rfl rfl (by show 2 * (_ + 1) * 4096 ≤ _; omega) ns6.1 fun x15 H7 sp15 k1 k2 k3 => ?_
  have ns7 : NewO TSt H x15 H7 (cs ++ [s]) sp15 := ns6.app k1 k2 k3
  have f47 : Frs [] H H7 := ns7.2.2
  have l7 : Ow TSt H7 left cl sl := nl6.1.after k3 dl
  have o7 : Ow TF H7 x11 (applyF B ts cf ol s) sp11 := n11.1.after k3 fun d hd e => by
   have h1 := n11.2.1 d hd
   have h2 := (ns.new f5).1.lt e; omega
  obtain ⟨dL, hdL⟩ := l7.pne (by omega)
  have hpn : left.p ≠ none := by rw [hdL]; simp
  refine l7.j.take tySt rfl (by omega) hpn fun o16 => ?_
  refine copy_g tySt rfl (fun _ => by simp) o16.slf (by rw [List.length_take]; omega) fun x17 H8 sp17 n17 => ?_
  have l8 : Ow TSt H8 left cl sl := l7.frs n17.2.2 (by simp [Sl.off])
  rw [i64w (by omega) (by omega)]
  refine l8.j.drop tySt (n := ni + 1) rfl (by omega) hpn fun x18 h18 => ?_
  refine apps_c tySt rfl (fun _ => by simp) h18 (by rw [List.length_take, List.length_drop]; omega) n17.1 fun x19 H9 sp19 k1' k2' k3' => ?_
  have n19 : NewO TSt H7 x19 H9 (cl.take ni ++ cl.drop (ni + 1)) sp19 := n17.app k1' k2' k3'
  have f79 := n19.2.2
  refine hG _ _ ⟨n + 1, sp19, sp15, sp11, hnl, ?_, ?_, ?_, fun d hd e => ?_, fun d hd e => ?_⟩ ?_
  ·rw [step]; dsimp only; rw [List.eraseIdx_eq_take_drop_succ]
   exact n19.older f47
  ·rw [step]; dsimp only
   exact ⟨o7.frs f79 (by simp [Sl.off]), fun d hd => by have := n11.2.1 d hd; have := nl5.2.2.1; omega, f47.trans f79⟩
  ·rw [step]; dsimp only
   exact ns7.new f79
  ·have := n19.2.1 d hd
   have := ns7.1.lt e; omega
  ·dsimp only at hd e
   have h1 := n11.2.1 d hd
   have h3 := n11.1.lt hd
   rcases k2 with q | ⟨q, _⟩
   ·have h2 := (ns.new f5).1.lt (q ▸ e); omega
   ·rw [q] at e; cases e; omega
  ·dsimp only
   have := n19.1.1
   rw [List.length_append, List.length_take, List.length_drop] at this
   omega
 ·have : n = L.length := by omega
  subst this
  exact ⟨sf, so, nf, ns, df⟩
end
end Go.Proofs.YtolekmhhkopooaaGreatDoor.Zq
end
section
namespace Go.Proofs.YtolekmhhkopooaaGreatDoor.Zq
open Zv
section
variable {se : Bool} {B : List Cd} {ts : List Tg} {fs : List Ft} {ol : List Int}
theorem bitI_rng (t : Int) : 0 ≤ bitI t ∧ bitI t ≤ 128 := by
 unfold bitI
 split
 ·rename_i h
  have : t = 1 ∨ t = 2 ∨ t = 3 ∨ t = 4 ∨ t = 5 ∨ t = 6 ∨ t = 7 ∨ t = 8 := by omega
  rcases this with rfl | rfl | rfl | rfl | rfl | rfl | rfl | rfl <;> decide
 ·omega
theorem bv_nat {s : Int} (h0 : 0 ≤ s) (h1 : s < 256) : (BitVec.ofInt (IntKind.bits .u16) s).toNat = s.toNat := by
 show (BitVec.ofInt 16 s).toNat = _
 rw [BitVec.toNat_ofInt]
 omega
theorem withT_rng {s : Int} (t : Int) (h0 : 0 ≤ s) (h1 : s < 256) : 0 ≤ withT s t ∧ withT s t < 256 := by
 obtain ⟨b0, b1⟩ := bitI_rng t
 unfold withT
 refine ⟨u16nn _, ?_⟩
 have e : (BitVec.ofInt (IntKind.bits .u16) s ||| BitVec.ofInt (IntKind.bits .u16) (bitI t)).toNat < 2 ^ 8 := by
  rw [BitVec.toNat_or, bv_nat h0 h1, bv_nat b0 (by omega)]
  exact Nat.or_lt_two_pow (by omega) (by omega)
 generalize (BitVec.ofInt (IntKind.bits .u16) s ||| BitVec.ofInt (IntKind.bits .u16) (bitI t)).toNat = x at e
 show (x : Int) % 65536 < 256
 omega
theorem woutT_rng {s : Int} (t : Int) (h0 : 0 ≤ s) (h1 : s < 256) : 0 ≤ woutT s t ∧ woutT s t < 256 := by
 unfold woutT
 refine ⟨u16nn _, ?_⟩
 have e : (BitVec.ofInt (IntKind.bits .u16) s &&& ~~~BitVec.ofInt (IntKind.bits .u16) (bitI t)).toNat < 256 := by
  rw [BitVec.toNat_and, bv_nat h0 h1]
  exact Nat.lt_of_le_of_lt Nat.and_le_left (by omega)
 generalize (BitVec.ofInt (IntKind.bits .u16) s &&& ~~~BitVec.ofInt (IntKind.bits .u16) (bitI t)).toNat = x at e
 show (x : Int) % 65536 < 256
 omega
theorem doneF_nn {f : Ft} (p : Pt) (h : Int) (h0 : 0 ≤ f.Traits) : 0 ≤ (doneF f p h).Traits := by
 unfold doneF
 split
 ·exact h0
 split
 ·exact h0
 split
 ·exact u16nn _
 split
 ·exact u16nn _
 split
 ·exact h0
 split
 ·exact h0
 ·exact h0
theorem doneF_ok {f : Ft} (p : Pt) {h : Int} (hh : h = 0 ∨ h = 1) (h0 : 0 ≤ f.Traits) (h1 : f.Traits < 256) (hd : f.Holder = 0 ∨ f.Holder = 1) : ((doneF f p h).Holder = 0 ∨ (doneF f p h).Holder = 1) ∧ (doneF f p h).Traits < 256 := by
 unfold doneF
 split
 ·exact ⟨hh, h1⟩
 split
 ·exact ⟨hd, h1⟩
 split
 ·exact ⟨hd, (withT_rng _ h0 h1).2⟩
 split
 ·exact ⟨hd, (woutT_rng _ h0 h1).2⟩
 split
 ·exact ⟨hd, h1⟩
 split
 ·exact ⟨hd, h1⟩
 ·exact ⟨hd, h1⟩
structure FtJ (ts : List Tg) (out : List Ft) : Prop where
 len : out.length = ts.length
 nn : ∀ f ∈ out, 0 ≤ f.Traits
 ok : ∀ (i : Nat) t f, ts[i]? = some t -> out[i]? = some f -> t.Place = 4 -> (f.Holder = 0 ∨ f.Holder = 1) ∧ f.Traits < 256
theorem Tog.j (tog : Tog B ts fs) (hfe : fs.length = ts.length) (nn : ∀ f ∈ fs, 0 ≤ f.Traits) : FtJ ts fs :=
 ⟨hfe, nn, fun i t f h1 h2 h3 => by obtain ⟨c, _, _, _, _, _, w⟩ := tog.all i t f h1 h2; exact ⟨(w h3).2.2.1, (w h3).2.2.2⟩⟩
theorem FtJ.tog {out : List Ft} (j : FtJ ts out) (tog : Tog B ts fs) (hfe : fs.length = ts.length) : Tog B ts out := by
 refine ⟨fun i t f h1 h2 => ?_, tog.few, tog.dst⟩
 have hi := (List.getElem?_eq_some_iff.1 h1).1
 obtain ⟨c, w1, w2, w3, w4, w5, w⟩ := tog.all i t _ h1 (List.getElem?_eq_getElem (by omega))
 exact ⟨c, w1, w2, w3, w4, w5, fun h4 => ⟨(w h4).1, (w h4).2.1, (j.ok i t f h1 h2 h4).1, (j.ok i t f h1 h2 h4).2⟩⟩
theorem FtJ.put {out : List Ft} (j : FtJ ts out) (s : Sg) {h : Int} (hh : h = 0 ∨ h = 1) {n : Int} {k : Nat} {t : Tg} (hk : n = (k : Int) + 1) (ht : ts[k]? = some t) (hp : t.Place = 4) : FtJ ts (put1 s h out n) := by
 have hkl := (List.getElem?_eq_some_iff.1 ht).1
 have hl := j.len
 have hx : out[k]? = some (out[k]'(by omega)) := List.getElem?_eq_getElem (by omega)
 have hm : out[k]'(by omega) ∈ out := List.getElem_mem (by omega)
 generalize (out[k]'(by omega)) = f at hx hm
 have ef : ftI out (n - 1) = f := ftI_at (by omega) hx
 have e : put1 s h out n = out.set k (doneF f s.What h) := by unfold put1; rw [ef, show (n - 1).toNat = k by omega]
 rw [e]
 obtain ⟨o1, o2⟩ := j.ok k t f ht hx hp
 refine ⟨by simpa using hl, fun g hg => ?_, fun i u g h1 h2 h3 => ?_⟩
 ·rcases List.mem_or_eq_of_mem_set hg with w | rfl
  ·exact j.nn g w
  ·exact doneF_nn _ _ (j.nn f hm)
 ·by_cases ei : i = k
  ·subst ei
   rw [List.getElem?_set_self (by omega)] at h2
   cases h2
   exact doneF_ok _ hh (j.nn f hm) o2 o1
  ·rw [List.getElem?_set_ne (fun q => ei q.symm)] at h2
   exact j.ok i u g h1 h2 h3
theorem FtJ.apply (ot : OrdT B ts ol) (j : FtJ ts fs) {s : Sg} (hs : s.Thing - 1 ∈ ol) : FtJ ts (applyF B ts fs ol s) := by
 obtain ⟨k, t, c, e1, e2, e3, _⟩ := ot.at' _ hs
 have hkl := (List.getElem?_eq_some_iff.1 e2).1
 have hl := j.len
 have hx : fs[k]? = some (fs[k]'(by omega)) := List.getElem?_eq_getElem (by omega)
 have hh := (j.ok k t _ e2 hx e3).1
 rw [← ftI_at e1 hx] at hh
 unfold applyF
 generalize (ftI fs (s.Thing - 1)).Holder = h at hh
 have : ∀ (L : List Int) (out : List Ft), (∀ x ∈ L, x - 1 ∈ ol) -> FtJ ts out -> FtJ ts (L.foldl (put1 s h) out) := by
  intro L
  induction L with
  | nil => intro out _ j; exact j
  | cons x r ih =>
   intro out hL j
   obtain ⟨k, t, c, e1, e2, e3, _⟩ := ot.at' _ (hL x (by simp))
   exact ih _ (fun y hy => hL y (by simp [hy])) (j.put s hh (k := k) (by omega) e2 e3)
 exact this _ fs (fun x hx => (mem_abouts.1 hx).1) j
theorem FtJ.all (ot : OrdT B ts ol) (j : FtJ ts fs) {l : List Sg} (lv : ∀ s ∈ l, s.Thing - 1 ∈ ol) : ∀ n, n ≤ l.length -> FtJ ts (allS B ts ol fs l n).1
 | 0, _ => j
 | n + 1, hn => by
  obtain ⟨i1, i2, i3, i4⟩ := allS_inv B ts ol fs l n (by omega)
  have hr := nextF_rng B ts (allS B ts ol fs l n).1 ol (l := (allS B ts ol fs l n).2.1) (by omega)
  have ih := FtJ.all ot j lv n (by omega)
  unfold allS
  refine ih.apply ot (lv _ (i3 _ ?_))
  unfold sgI
  rw [List.getElem?_eq_getElem (by omega)]
  exact List.getElem_mem _
theorem FtJ.setE {out : List Ft} (j : FtJ ts out) (e : setE se B ts fs = 0) : setE se B ts out = 0 := by
 obtain ⟨e1, e2, e3, e4⟩ := setE_ok (e := e)
 refine (setE_0 (by omega) (fun q => ?_)).1 (j.tog e4 e2)
 rcases q with q | q
 ·rw [e1] at q; cases q
 ·exact q j.len
end
end Go.Proofs.YtolekmhhkopooaaGreatDoor.Zq
end
section
namespace Go.Proofs.YtolekmhhkopooaaGreatDoor.Zq
open Zv
section
variable {B : List Cd} {ts : List Tg} {fs : List Ft} {ol : List Int}
theorem OrdT.pw (ot : OrdT B ts ol) : ol.Pairwise fun a c => stampAt ts a.toNat < stampAt ts c.toNat :=
 List.pairwise_iff_getElem.2 fun i j hi hj h => ot.srt i j _ _ h (List.getElem?_eq_getElem hi) (List.getElem?_eq_getElem hj)
end
end Go.Proofs.YtolekmhhkopooaaGreatDoor.Zq
end
section
namespace Go.Proofs.YtolekmhhkopooaaGreatDoor.Zq
open Zv
section
theorem idx_ow {T : Tag} {H : Heap} {s : Sl} {l sp : List T.α} (h : Ow T H s l sp) {i : Int} {n : Nat} (hi : i = n) (hn : n < l.length) {sz : Nat} (hz : sz = T.n) {K : Nat -> Nat -> Prop} (hk : ∀ c o, s.p = some ⟨c, 0, none⟩ -> o = n * T.n -> K c o) : IDX s.p s.len i sz K := by
 obtain ⟨g1, g2, g0, ⟨_, g3, _⟩ | ⟨c, g3, g4⟩⟩ := id h
 ·subst g3; simp at hn
 ·subst hi; subst hz
  unfold IDX NIL
  rw [g3]
  exact ⟨⟨by omega, by omega⟩, hk c _ g3 (by rw [Int.toNat_natCast]; simp)⟩
theorem ow_ld {T T1 : Tag} (hT : ∀ x, (T.cells x).length = T.n) {H : Heap} {s : Sl} {l sp : List T.α} (h : Ow T H s l sp) {c : Nat} (hc : s.p = some ⟨c, 0, none⟩) {n : Nat} {x : T.α} (hx : l[n]? = some x) (pre post : List Value) (of : Nat) {v : T1.α} {o : Nat} (ho : o = n * T.n)
  (e1 : T.cells x = pre ++ (T1.cells v ++ post)) (hp : pre.length = of) (hn : (T1.cells v).length = T1.n) {K : T1.α -> Prop} (hK : K v) : LD T1 H c (o + of) K := by
 obtain ⟨g1, g2, g0, ⟨g3, _⟩ | ⟨c', g3, g4⟩⟩ := id h
 ·rw [hc] at g3; cases g3
 ·rw [hc] at g3; cases g3
  have hl := (List.getElem?_eq_some_iff.1 hx).1
  have hx1 : (l ++ sp)[n]? = some x := by rw [List.getElem?_append_left hl, hx]
  refine LD_of (T := T1) v (fl T ((l ++ sp).take n) ++ pre) (post ++ fl T ((l ++ sp).drop (n + 1))) g4 ?_ ?_ hn hK
  ·rw [fl_cut _ _ _ hx1, e1]; simp [List.append_assoc]
  ·rw [List.length_append, fl_len hT, List.length_take, Nat.min_eq_left (by rw [List.length_append]; omega), hp, ho]
theorem ow_st {T : Tag} (hT : ∀ x, (T.cells x).length = T.n) {H : Heap} {s : Sl} {l sp : List T.α} (h : Ow T H s l sp) {c : Nat} (hc : s.p = some ⟨c, 0, none⟩) {n : Nat} {x x' : T.α} (hx : l[n]? = some x) (pre post old vs : List Value) (of : Nat) {o : Nat} (ho : o = n * T.n)
  (e1 : T.cells x = pre ++ (old ++ post)) (e2 : T.cells x' = pre ++ (vs ++ post)) (hp : pre.length = of) (hl : old.length = vs.length) (hv : vs.all cell1 = true) {K : Heap -> Prop}
  (hK : ∀ H', Ow T H' s (l.set n x') sp -> Frs [c] H H' -> H'.length = H.length -> K H') : ST H c (o + of) vs K := by
 obtain ⟨g1, g2, g0, ⟨g3, _⟩ | ⟨c', g3, g4⟩⟩ := id h
 ·rw [hc] at g3; cases g3
 ·rw [hc] at g3; cases g3
  have hn := (List.getElem?_eq_some_iff.1 hx).1
  have hx1 : (l ++ sp)[n]? = some x := by rw [List.getElem?_append_left hn, hx]
  refine ST_of (fl T ((l ++ sp).take n) ++ pre) old (post ++ fl T ((l ++ sp).drop (n + 1))) g4 ?_ ?_ hl hv ?_
  ·rw [fl_cut _ _ _ hx1, e1]; simp [List.append_assoc]
  ·rw [List.length_append, fl_len hT, List.length_take, Nat.min_eq_left (by rw [List.length_append]; omega), hp, ho]
  ·refine hK _ ⟨by simpa using g1, by simpa using g2, g0, .inr ⟨c, hc, ?_⟩⟩ (Frs.set _ _ (by simp)) (by simp)
   rw [set_get (get_lt g4)]
   have hx2 : (l.set n x' ++ sp)[n]? = some x' := by rw [List.getElem?_append_left (by simpa using hn), List.getElem?_set_self hn]
   rw [fl_cut _ _ _ hx2, e2]
   have e3 : (l.set n x' ++ sp).take n = (l ++ sp).take n := by
    rw [List.take_append_of_le_length (by simp; omega), List.take_append_of_le_length (by omega), List.take_set_of_le (Nat.le_refl _)]
   have e4 : (l.set n x' ++ sp).drop (n + 1) = (l ++ sp).drop (n + 1) := by
    rw [← List.set_append_left n x' hn, List.drop_set_of_lt (by omega)]
   rw [e3, e4]; simp [List.append_assoc]
theorem idx_any {T : Tag} (hT : ∀ x, (T.cells x).length = T.n) {H : Heap} {s : Sl} {l : List T.α} (h : SlF T H s l) {i : Int} {n : Nat} {x : T.α} (hi : i = n) (hx : l[n]? = some x) {sz : Nat} (hz : sz = T.n) {K : Nat -> Nat -> Prop}
  (hk : ∀ b o, (∀ H2, SlF T H2 s l -> ∀ (T1 : Tag) (pre post : List Value) (v : T1.α) (of : Nat) (k : T1.α -> Prop), T.cells x = pre ++ (T1.cells v ++ post) -> pre.length = of -> (T1.cells v).length = T1.n -> k v -> LD T1 H2 b (o + of) k) -> K b o) : IDX s.p s.len i sz K := by
 have t := idx_ldF hT h hi hx (k := fun _ => True) hz trivial
 have hl := (List.getElem?_eq_some_iff.1 hx).1
 obtain ⟨h1, ⟨_, h2, _⟩ | ⟨_, _, _, h2, _⟩ | ⟨b, A, B, z, o, ro, h3, h4⟩⟩ := id h
 ·subst h2; simp at hl
 ·subst h2; simp at hl
 ·unfold IDX NIL at t ⊢
  rw [h3] at t ⊢
  refine ⟨t.1, hk _ _ fun H2 h2 T1 pre post v of k e1 e2 e3 hk => ?_⟩
  have t2 := idx_fld hT h2 hi hx hz pre post (T1 := T1) e1 e2 e3 (K := k) hk
  unfold IDX NIL at t2
  rw [h3] at t2
  exact t2.2
theorem set_same {α : Type} {l : List α} {n : Nat} {x : α} (h : l[n]? = some x) : l.set n x = l := by
 apply List.ext_getElem?
 intro i
 by_cases e : i = n
 ·subst e; rw [List.getElem?_set_self (List.getElem?_eq_some_iff.1 h).1, h]
 ·rw [List.getElem?_set_ne (fun q => e q.symm)]
theorem clone_g {E : Env} {T : Tag} {ts : TypeId} {z : T.α} (ty : TyS E T ts z) {tj : TI} (h2 : E.ty ts = some tj) (h4 : ∀ k, tj.k ≠ .int k) {H : Heap} {s : Sl} {l : List T.α} (hf : SlF T H s l) (hl : l.length ≤ 1048600) {n : Nat} (hn : n = T.n) {Q : Sl × Unit -> Heap -> Prop} (hq : ∀ r H' sp, NewO T H r H' l sp -> Q (r, ()) H') :
  ifB s.p.isNone (Q ((Sl.mk none 0 0), ()) H) (NEW H [] n fun H1 => APP T_sl (lenV ((Sl.mk (some ⟨H.length, 0, none⟩) 0 0)).v + (lenX s.v).getD 0) (aAppendE E [ts, ts] ((Sl.mk (some ⟨H.length, 0, none⟩) 0 0)).v s.v H1) fun (x1 : Sl) H2 => Q (x1, ()) H2) := by
 subst hn
 refine ifB_of (fun e => ?_) (fun e => ?_)
 ·obtain ⟨h1, ⟨_, h2, _⟩ | ⟨_, _, h3, _⟩ | ⟨_, _, _, _, _, _, h3, _⟩⟩ := hf
  ·subst h2; exact hq _ _ [] (NewO.nil' T H)
  ·rw [h3] at e; cases e
  ·rw [h3] at e; cases e
 ·unfold NEW
  have r1 : (mk H [] T.n false)[H.length]? = some (.row [] T.n false false true) := by simp [mk]
  have f1 : Frs [] H (mk H [] T.n false) := Frs.app _ _ _
  generalize mk H [] T.n false = H1 at r1 f1
  have o1 : Ow T H1 ⟨some ⟨H.length, 0, none⟩, 0, 0⟩ [] [] := ⟨rfl, rfl, by simp, .inr ⟨_, rfl, r1⟩⟩
  have n1 : NewO T H ⟨some ⟨H.length, 0, none⟩, 0, 0⟩ H1 [] [] := ⟨o1, fun d hd => by simp at hd; subst hd; exact Nat.le_refl _, f1⟩
  refine apps_c ty h2 h4 (hf.frs f1 (by simp)) (by simp only [List.length_nil]; omega) o1 fun s8 H8 sp8 k1 k2 k3 => ?_
  have := n1.app k1 k2 k3
  rw [List.nil_append] at this
  exact hq _ _ sp8 this
variable {H : Heap} {b m : Nat} {se : Bool} {B : List Cd} {ms : List G_api_MarkInfo} {a1 a2 a3 cs so : Sl} {bp : Option Addr} {ts : List Tg} {fs : List Ft} {ol : List Int} {l : List Sg}
theorem pclone_c (hf : SlF TF H a2 fs) (hl : fs.length ≤ 1048600) {Q : Sl × Unit -> Heap -> Prop} (hq : ∀ r H' sp, NewO TF H r H' fs sp -> Q (r, ()) H') : CALL P [T_sl] n_slices_Clone_api_Feature_api_Feature [a2.v] H Q := by
 apply c_slices_Clone_api_Feature_api_Feature
 unfold S_slices_Clone_api_Feature_api_Feature
 exact clone_g tyF rfl (fun _ => by simp) hf hl rfl hq
theorem pclonest_c (hf : SlF TSt H a2 l) (hl : l.length ≤ 1048600) {Q : Sl × Unit -> Heap -> Prop} (hq : ∀ r H' sp, NewO TSt H r H' l sp -> Q (r, ()) H') : CALL P [T_sl] n_slices_Clone_api_Standing_api_Standing [a2.v] H Q := by
 apply c_slices_Clone_api_Standing_api_Standing
 unfold S_slices_Clone_api_Standing_api_Standing
 exact clone_g tySt rfl (fun _ => by simp) hf hl rfl hq
theorem peq_c {s r : Sl} {x y : List Int} (hx : SlF TN' H s x) (hy : SlF TN' H r y) (hl : x.length ≤ 1048600) {Q : Bool × Unit -> Heap -> Prop} (hq : Q (decide (x = y), ()) H) : CALL P [T_bool] n_slices_Equal_int_int [s.v, r.v] H Q := by
 apply c_slices_Equal_int_int
 unfold S_slices_Equal_int_int
 have h1 := hx.1
 have h2 := hy.1
 have no : ¬ x = y -> Q (false, ()) H := fun q => by have := hq; rwa [decide_eq_false q] at this
 refine ifN (fun e => no fun q => by subst q; omega) (fun e => ?_)
 have hll : x.length = y.length := by omega
 refine JOIN_inv (fun _ H' => H' = H ∧ x = y) (fun j hj => ?_) (fun _ H' hh => by obtain ⟨rfl, e⟩ := hh; rwa [decide_eq_true e] at hq)
 refine loop_of (fun (t : (Int × Unit) × Unit) H' => H' = H ∧ ∃ n : Nat, t.1.1 = n ∧ n ≤ x.length ∧ ∀ (i : Nat) a c, i < n -> x[i]? = some a -> y[i]? = some c -> a = c) (fun t => x.length - t.1.1.toNat) ?_ ⟨rfl, 0, rfl, Nat.zero_le _, fun i a c h => by omega⟩
 rintro G ⟨⟨i, _⟩, _⟩ H' ⟨rfl, n, hi, hn, inv⟩ hG
 simp only at hi; subst hi
 dsimp only at hG ⊢
 refine ifD (fun hlt => ?_) (fun hge => hj _ _ ⟨rfl, eq_of_at hll fun i a c w => inv i a c (by omega)⟩)
 have hlt : n < x.length := by omega
 have ha : x[n]? = some x[n] := List.getElem?_eq_getElem hlt
 have hc : y[n]? = some (y[n]'(by omega)) := List.getElem?_eq_getElem (by omega)
 generalize x[n] = a at ha
 generalize (y[n]'(by omega)) = c at hc
 refine idx_ldF (T := TN') hTN' hx rfl ha rfl (idx_ldF (T := TN') hTN' hy rfl hc rfl (ifN (fun q => no fun w => ?_) (fun q => ?_)))
 ·subst w; rw [ha] at hc; cases hc; exact q rfl
 ·rw [i64w (by omega) (by omega)]
  refine hG _ _ ⟨rfl, n + 1, by simp, hlt, fun i a' c' w1 w2 w3 => ?_⟩ (by simp; omega)
  by_cases e : i = n
  ·subst e; rw [ha] at w2; rw [hc] at w3; cases w2; cases w3; exact q
  ·exact inv i a' c' (by omega) w2 w3
theorem Plc.at4 (pl : Plc m H a1 cs so B ts ol) (hfe : fs.length = ts.length) : ∃ cl, SlF TC H cs cl ∧ ∀ x ∈ ol, ∃ (k : Nat) (t : Tg) (c : Cd) (g : G_api_Card) (f : Ft), x = k ∧ k < 2048 ∧ ts[k]? = some t ∧ t.Place = 4 ∧ 1 ≤ t.Stamp ∧ cl[k]? = some g ∧ CR m H g c ∧ cpI B ts x = c.ps ∧ ckI B ts x = c.g.Kind ∧ g.Kind = c.g.Kind ∧ c.ps.length ≤ 4 ∧ fs[k]? = some f ∧ ftI fs x = f := by
 obtain ⟨cl, hcl, cd⟩ := pl.card
 refine ⟨cl, hcl, fun x hx => ?_⟩
 obtain ⟨k, t, c, g, ek, et, eg, cr, ecp, eck, egk, e4⟩ := cd x hx
 obtain ⟨k', t', _, e1', e2', e3', _, _, e6', _⟩ := pl.ot.at' x hx
 have : k' = k := by omega
 subst this; rw [et] at e2'; cases e2'
 have hkl := (List.getElem?_eq_some_iff.1 et).1
 have hlen := pl.ot.len
 have hfx : fs[k']? = some (fs[k']'(by omega)) := List.getElem?_eq_getElem (by omega)
 exact ⟨k', t, c, g, _, ek, by omega, et, e3', e6', eg, cr, ecp, eck, egk, e4, hfx, ftI_at ek hfx⟩
theorem pmeans_c (pl : Plc m H a1 cs so B ts ol) (hf : SlF TF H a2 fs) (hfe : fs.length = ts.length) {s : Sg} (hs : s.Thing - 1 ∈ ol) {x : Int} (hx : x ∈ ol) {Q : Bool × Unit -> Heap -> Prop} (hq : Q (meansB B ts fs s x, ()) H) :
  CALL P [T_bool] n_layer_place_means [T_G_layer_place.enc ⟨bp, a1, cs, so⟩, a2.v, TSt.enc s, .int .i64 x] H Q := by
 apply c_layer_place_means
 unfold S_layer_place_means
 obtain ⟨cl, hcl, cd⟩ := pl.at4 hfe
 obtain ⟨k, t, c, g, f, ek, k2, et, ep, est, eg, cr, ecp, eck, egk, e4, hfx, ef⟩ := cd x hx
 obtain ⟨k', t', c', g', f', ek', k2', et', ep', est', eg', cr', ecp', eck', egk', e4', hfx', ef'⟩ := cd _ hs
 rw [i64w (by omega) (by omega)]
 unfold meansB at hq
 refine ifE (fun q => ?_) (fun q4 => ?_)
 ·rw [if_pos q] at hq; exact hq
 rw [if_neg q4, ef, ef', eck, ← egk] at hq
 refine idx_ldF (T := TF) hTF hf ek hfx rfl ?_
 refine idx_any (T := TF) hTF hf ek' hfx' rfl fun b o rd => rd H hf TN' [] ((TF.cells f').drop 1) f'.Holder 0 _ rfl rfl rfl ⟨rfl, rd H hf TN' [] ((TF.cells f').drop 1) f'.Holder 0 _ rfl rfl rfl ⟨rfl, ?_⟩⟩
 refine idx_fld (T := TC) (T1 := T_int .u8) hTC hcl ek eg rfl ((TC.cells g).take 2) ((TC.cells g).drop 3) rfl rfl rfl (ifN (fun q => ?_) (fun q => ?_))
 ·rw [if_pos q] at hq; exact hq
 rw [if_neg (fun w => w q)] at hq
 refine ifE (fun q => by rw [if_pos q] at hq; exact hq) (fun q5 => ?_)
 rw [if_neg q5] at hq
 refine ifE (fun q => by rw [if_pos q] at hq; exact hq) (fun q6 => ?_)
 rw [if_neg q6] at hq
 refine ifE (fun q => by rw [if_pos q] at hq; exact hq) (fun q7 => ?_)
 rw [if_neg q7] at hq
 refine ifE (fun q => ?_) (fun q8 => ?_)
 ·rw [if_pos q] at hq
  refine JOIN_of (ifB_of (fun e => ?_) (fun e => ?_))
  ·have e : (f.Holder == f'.Holder) = true := e
   rw [e, Bool.true_and] at hq; exact hq
  ·have e : (f.Holder == f'.Holder) = false := e
   rw [e, Bool.false_and] at hq; exact hq
 rw [if_neg q8] at hq
 refine ifE (fun q => by rw [if_pos q] at hq; exact hq) (fun q9 => ?_)
 rw [if_neg q9] at hq
 refine ifE (fun q => ?_) (fun q10 => ?_)
 ·rw [if_pos q] at hq; exact phas_c hq
 ·rw [if_neg q10] at hq; exact hq
end
end Go.Proofs.YtolekmhhkopooaaGreatDoor.Zq
end
section
namespace Go.Proofs.YtolekmhhkopooaaGreatDoor.Zq
open Zv
section
variable {H : Heap} {b m : Nat} {se : Bool} {B : List Cd} {ms : List G_api_MarkInfo} {a1 a2 a3 cs so : Sl} {bp : Option Addr} {ts : List Tg} {fs : List Ft} {ol : List Int} {l : List Sg}
theorem pabt_c (pl : Plc m H a1 cs so B ts ol) (hf : SlF TF H a2 fs) (hfe : fs.length = ts.length) {s : Sg} (hs : s.Thing - 1 ∈ ol) {Q : Sl × Unit -> Heap -> Prop} (hq : ∀ r H' sp, NewO TN' H r H' (abouts B ts fs ol s) sp -> Q (r, ()) H') :
  CALL P [T_sl] n_layer_place_about [T_G_layer_place.enc ⟨bp, a1, cs, so⟩, a2.v, TSt.enc s] H Q := by
 apply c_layer_place_about
 unfold S_layer_place_about
 have hol := pl.o.1
 have few := pl.ot.few
 have hlen := pl.ot.len
 obtain ⟨cl, hcl, cd⟩ := pl.at4 hfe
 refine JOIN_inv (fun y H' => ∃ sp, NewO TN' H y.1.1 H' (abouts B ts fs ol s) sp) (fun j hj => ?_) (fun y H' h => by obtain ⟨sp, h⟩ := h; exact hq _ _ _ h)
 refine loop_of (fun (y : (Sl × Int × Unit) × Unit) H' => ∃ (n : Nat) (sp : List Int), y.1.2.1 = n ∧ n ≤ ol.length ∧ NewO TN' H y.1.1 H' ((ol.take n).flatMap (abouts1 B ts fs s)) sp) (fun y => ol.length - y.1.2.1.toNat) ?_ ⟨0, [], rfl, Nat.zero_le _, by simpa using NewO.nil' TN' H⟩
 rintro G ⟨⟨out, i, _⟩, _⟩ H1 ⟨n, sp, hi, hn, no⟩ hG
 simp only at hi no; subst hi
 dsimp only at hG ⊢
 have f1 := no.2.2
 refine ifD (fun hlt => ?_) (fun hge => hj _ _ ⟨sp, ?_⟩)
 ·have hlt : n < ol.length := by omega
  have hx : ol[n]? = some ol[n] := List.getElem?_eq_getElem hlt
  have hm : ol[n] ∈ ol := List.getElem_mem hlt
  generalize ol[n] = x at hx hm
  obtain ⟨kx, _, _, _, _, ek, k2, _⟩ := cd x hm
  have tk := fm_take (abouts1 B ts fs s) hx
  have hpre : ((ol.take n).flatMap (abouts1 B ts fs s)).length ≤ 16 := by
   have := fm_len (f := abouts1 B ts fs s) (c := 1) (l := ol.take n) fun y _ => abouts1_len B ts fs s y
   rw [List.length_take] at this
   omega
  refine idx_ldF (T := TN') hTN' (pl.o.frs f1 (by simp)) rfl hx rfl (pmeans_c (pl.new f1) (hf.frs f1 (by simp)) hfe hs hm ?_)
  refine JOIN_inv (fun y H' => ∃ sp, NewO TN' H y.1.1 H' ((ol.take (n + 1)).flatMap (abouts1 B ts fs s)) sp) (fun j2 hj2 => ifB_of (fun e => ?_) (fun e => ?_)) ?_
  ·have e1 : abouts1 B ts fs s x = [x + 1] := if_pos e
   rw [i64w (by omega) (by omega)]
   refine app_c tyI' rfl (fun _ => by simp) (m := 1) [x + 1] rfl rfl (by show 2 * (_ + 1) * 4096 ≤ _; omega) no.1 fun s4 H5 sp5 k1 k2 k3 => ?_
   exact hj2 _ _ ⟨sp5, by rw [tk, e1]; exact no.app k1 k2 k3⟩
  ·have e1 : abouts1 B ts fs s x = [] := if_neg (by have e : meansB B ts fs s x = false := e; rw [e]; decide)
   exact hj2 _ _ ⟨sp, by rw [tk, e1, List.append_nil]; exact no⟩
  ·rintro ⟨⟨out3, _⟩, _⟩ H3 ⟨sp3, no3⟩
   rw [i64w (by omega) (by omega)]
   exact hG _ _ ⟨n + 1, sp3, by simp, hlt, no3⟩ (by simp; omega)
 ·have : n = ol.length := by omega
  subst this
  rw [List.take_length] at no; exact no
theorem papply_c (pl : Plc m H a1 cs so B ts ol) (hf : SlF TF H a2 fs) (hfe : fs.length = ts.length) {s : Sg} (hs : s.Thing - 1 ∈ ol) {Q : Sl × Unit -> Heap -> Prop} (hq : ∀ r H' sp, NewO TF H r H' (applyF B ts fs ol s) sp -> Q (r, ()) H') :
  CALL P [T_sl] n_layer_place_apply [T_G_layer_place.enc ⟨bp, a1, cs, so⟩, a2.v, TSt.enc s] H Q := by
 apply c_layer_place_apply
 unfold S_layer_place_apply
 have hlen := pl.ot.len
 refine pclone_c hf (by omega) fun x1 H1 sp1 n1 => ?_
 refine pabt_c (pl.new n1.2.2) (hf.frs n1.2.2 (by simp)) hfe hs fun x2 H2 sp2 n2 => ?_
 obtain ⟨cl, hcl, cd⟩ := pl.at4 hfe
 obtain ⟨k', t', c', g', f', ek', k2', et', ep', est', eg', cr', ecp', eck', egk', e4', hfx', ef'⟩ := cd _ hs
 have hl2 : x2.len = (abouts B ts fs ol s).length := n2.1.1
 have hmem : ∀ x ∈ abouts B ts fs ol s, ∃ k : Nat, x = (k : Int) + 1 ∧ k < fs.length := fun x hx => by
  obtain ⟨k, t, c, g, f, e1, _, e2, _⟩ := cd _ (mem_abouts.1 hx).1
  have := (List.getElem?_eq_some_iff.1 e2).1
  exact ⟨k, by omega, by omega⟩
 have hal := abouts_len B ts fs ol s
 have few := pl.ot.few
 generalize hL : abouts B ts fs ol s = L at hl2 hmem n2 hal
 have eap : applyF B ts fs ol s = L.foldl (put1 s f'.Holder) fs := by unfold applyF; rw [hL, ef']
 refine JOIN_inv (fun _ H' => NewO TF H x1 H' (L.foldl (put1 s f'.Holder) fs) sp1) (fun j hj => ?_) (fun _ H' hh => hq _ _ sp1 (by rw [eap]; exact hh))
 refine loop_of (fun (y : (Int × Unit) × Unit) H' => ∃ n : Nat, y.1.1 = n ∧ n ≤ L.length ∧ NewO TF H x1 H' ((L.take n).foldl (put1 s f'.Holder) fs) sp1 ∧ Ow TN' H' x2 L sp2) (fun y => L.length - y.1.1.toNat) ?_ ⟨0, rfl, Nat.zero_le _, by simpa using n1.new n2.2.2, n2.1⟩
 rintro G ⟨⟨i, _⟩, _⟩ H4 ⟨n, hi, hn, no, o2⟩ hG
 simp only at hi; subst hi
 dsimp only at hG ⊢
 refine ifD (fun hlt => ?_) (fun hge => hj _ _ ?_)
 ·have hlt : n < L.length := by omega
  have hx : L[n]? = some L[n] := List.getElem?_eq_getElem hlt
  obtain ⟨k, ek, hk⟩ := hmem L[n] (List.getElem_mem hlt)
  generalize L[n] = x at hx ek
  have tk := fold_take (put1 s f'.Holder) fs hx
  have hcl := fold_put_len s f'.Holder (L.take n) fs
  generalize hcur : (L.take n).foldl (put1 s f'.Holder) fs = cur at no tk hcl
  have hky : cur[k]? = some (cur[k]'(by omega)) := List.getElem?_eq_getElem (by omega)
  generalize (cur[k]'(by omega)) = g at hky
  have eg : ftI cur (x - 1) = g := ftI_at (by omega) hky
  have w3 : IntKind.wrap .i64 (x - 1) = (k : Int) := by rw [i64w (by omega) (by omega)]; omega
  have w4 : IntKind.wrap .i64 (s.Thing - 1) = (k' : Int) := by rw [i64w (by omega) (by omega)]; omega
  refine idx_ldF (T := TN') hTN' o2.slf rfl hx rfl ?_
  rw [w3, w4]
  refine idx_ow no.1 rfl (by omega) rfl fun c0 o hc0 ho => ?_
  have ep : put1 s f'.Holder cur x = cur.set k (doneF g s.What f'.Holder) := by
   unfold put1
   rw [eg, show (x - 1).toNat = k by omega]
  refine JOIN_inv (fun _ H' => Ow TF H' x1 (cur.set k (doneF g s.What f'.Holder)) sp1 ∧ Frs [c0] H4 H' ∧ H'.length = H4.length) (fun j12 hj12 => ?_) ?_
  ·have hkl : k < cur.length := (List.getElem?_eq_some_iff.1 hky).1
   unfold doneF at hj12
   refine ifE (fun e => ?_) (fun e10 => ?_)
   ·rw [if_pos e] at hj12
    exact idx_hold (hf.frs no.2.2 (by simp)) rfl hfx' (ow_st (T := TF) hTF no.1 hc0 hky [] ((TF.cells g).drop 1) ((TF.cells g).take 1) [.int .i64 f'.Holder] 0 ho rfl (x' := ⟨f'.Holder, g.Suit, g.Traits, g.Power, g.Health⟩) rfl rfl rfl rfl fun H6 o6 f6 l6 => hj12 _ _ ⟨o6, f6, l6⟩)
   rw [if_neg e10] at hj12
   refine JOIN_inv _ (fun j17 hj17 => ?_) (fun _ H' hh => hj12 _ H' hh)
   refine ifE (fun e => ?_) (fun e11 => ?_)
   ·rw [if_pos e] at hj17
    exact ow_st (T := TF) hTF no.1 hc0 hky ((TF.cells g).take 1) ((TF.cells g).drop 2) [.int .u8 g.Suit] [.int .u8 s.What.Suit] 1 ho rfl (x' := ⟨g.Holder, s.What.Suit, g.Traits, g.Power, g.Health⟩) rfl rfl rfl rfl fun H6 o6 f6 l6 => hj17 _ _ ⟨o6, f6, l6⟩
   rw [if_neg e11] at hj17
   refine JOIN_inv _ (fun j19 hj19 => ?_) (fun _ H' hh => hj17 _ H' hh)
   refine ifE (fun e => ?_) (fun e12 => ?_)
   ·rw [if_pos e] at hj19
    exact ow_ld (T := TF) (T1 := T_int .u16) hTF no.1 hc0 hky ((TF.cells g).take 2) ((TF.cells g).drop 3) 2 (v := g.Traits) ho rfl rfl rfl (pwith_c (ow_st (T := TF) hTF no.1 hc0 hky ((TF.cells g).take 2) ((TF.cells g).drop 3) [.int .u16 g.Traits] [.int .u16 (withT g.Traits s.What.Trait)] 2 ho rfl (x' := ⟨g.Holder, g.Suit, withT g.Traits s.What.Trait, g.Power, g.Health⟩) rfl rfl rfl rfl fun H6 o6 f6 l6 => hj19 _ _ ⟨o6, f6, l6⟩))
   rw [if_neg e12] at hj19
   refine JOIN_inv _ (fun j23 hj23 => ?_) (fun _ H' hh => hj19 _ H' hh)
   refine ifE (fun e => ?_) (fun e13 => ?_)
   ·rw [if_pos e] at hj23
    exact ow_ld (T := TF) (T1 := T_int .u16) hTF no.1 hc0 hky ((TF.cells g).take 2) ((TF.cells g).drop 3) 2 (v := g.Traits) ho rfl rfl rfl (pwout_c (ow_st (T := TF) hTF no.1 hc0 hky ((TF.cells g).take 2) ((TF.cells g).drop 3) [.int .u16 g.Traits] [.int .u16 (woutT g.Traits s.What.Trait)] 2 ho rfl (x' := ⟨g.Holder, g.Suit, woutT g.Traits s.What.Trait, g.Power, g.Health⟩) rfl rfl rfl rfl fun H6 o6 f6 l6 => hj23 _ _ ⟨o6, f6, l6⟩))
   rw [if_neg e13] at hj23
   refine JOIN_inv _ (fun j27 hj27 => ?_) (fun _ H' hh => hj23 _ H' hh)
   refine ifE (fun e => ?_) (fun e14 => ?_)
   ·rw [if_pos e] at hj27
    refine ow_st (T := TF) hTF no.1 hc0 hky ((TF.cells g).take 3) ((TF.cells g).drop 4) [.int .i64 g.Power] [.int .i64 s.What.Count] 3 ho rfl (x' := ⟨g.Holder, g.Suit, g.Traits, s.What.Count, g.Health⟩) rfl rfl rfl rfl fun H6 o6 f6 l6 => ⟨rfl, ?_⟩
    refine ow_st (T := TF) hTF o6 hc0 (List.getElem?_set_self hkl) ((TF.cells (⟨g.Holder, g.Suit, g.Traits, s.What.Count, g.Health⟩ : Ft)).take 4) [] [.int .i64 g.Health] [.int .i64 s.What.Count] 4 ho rfl (x' := ⟨g.Holder, g.Suit, g.Traits, s.What.Count, s.What.Count⟩) rfl rfl rfl rfl fun H7 o7 f7 l7 => hj27 _ _ ⟨?_, f6.trans f7, by omega⟩
    rw [List.set_set] at o7; exact o7
   rw [if_neg e14] at hj27
   refine JOIN_inv _ (fun j29 hj29 => ?_) (fun _ H' hh => hj27 _ H' hh)
   refine ifE (fun e => ?_) (fun e15 => ?_)
   ·rw [if_pos e] at hj29
    refine ow_ld (T := TF) (T1 := TN') hTF no.1 hc0 hky ((TF.cells g).take 3) ((TF.cells g).drop 4) 3 (v := g.Power) ho rfl rfl rfl ?_
    refine ow_st (T := TF) hTF no.1 hc0 hky ((TF.cells g).take 3) ((TF.cells g).drop 4) [.int .i64 g.Power] [.int .i64 (IntKind.wrap .i64 (g.Power + s.What.Count))] 3 ho rfl (x' := ⟨g.Holder, g.Suit, g.Traits, IntKind.wrap .i64 (g.Power + s.What.Count), g.Health⟩) rfl rfl rfl rfl fun H6 o6 f6 l6 => ?_
    refine ow_ld (T := TF) (T1 := TN') hTF o6 hc0 (List.getElem?_set_self hkl) ((TF.cells (⟨g.Holder, g.Suit, g.Traits, IntKind.wrap .i64 (g.Power + s.What.Count), g.Health⟩ : Ft)).take 4) [] 4 (v := g.Health) ho rfl rfl rfl ?_
    refine ow_st (T := TF) hTF o6 hc0 (List.getElem?_set_self hkl) ((TF.cells (⟨g.Holder, g.Suit, g.Traits, IntKind.wrap .i64 (g.Power + s.What.Count), g.Health⟩ : Ft)).take 4) [] [.int .i64 g.Health] [.int .i64 (IntKind.wrap .i64 (g.Health + s.What.Count))] 4 ho rfl (x' := ⟨g.Holder, g.Suit, g.Traits, IntKind.wrap .i64 (g.Power + s.What.Count), IntKind.wrap .i64 (g.Health + s.What.Count)⟩) rfl rfl rfl rfl fun H7 o7 f7 l7 => hj29 _ _ ⟨?_, f6.trans f7, by omega⟩
    rw [List.set_set] at o7; exact o7
   rw [if_neg e15, set_same hky] at hj29
   exact hj29 _ _ ⟨no.1, .refl _ _, rfl⟩
  ·rintro _ H6 ⟨o6, f6, l6⟩
   obtain ⟨p1, p2⟩ := no.ptr _ hc0
   obtain ⟨p3, p4⟩ := n1.ptr _ hc0
   rw [i64w (by omega) (by omega)]
   refine hG _ _ ⟨n + 1, by simp, hlt, by rw [tk, ep]; exact ⟨o6, no.2.1, no.2.2.then f6 fun d hd => by simp at hd; subst hd; exact .inr p1⟩, o2.frs f6 fun d hd e => ?_⟩ (by simp; omega)
   simp at hd; subst hd
   have := n2.2.1 _ e; omega
 ·have : n = L.length := by omega
  subst this
  rw [List.take_length] at no; exact no
theorem plah_c (pl : Plc m H a1 cs so B ts ol) {s o : Sg} (hs : s.Thing - 1 ∈ ol) (ho : o.Thing - 1 ∈ ol) {Q : Bool × Unit -> Heap -> Prop} (hq : Q (aheadB ts s o, ()) H) : CALL P [T_bool] n_layer_place_ahead [T_G_layer_place.enc ⟨bp, a1, cs, so⟩, TSt.enc s, TSt.enc o] H Q := by
 apply c_layer_place_ahead
 unfold S_layer_place_ahead
 obtain ⟨k, t, c, e1, e2, _⟩ := pl.ot.at' _ hs
 obtain ⟨k', t', c', e1', e2', _⟩ := pl.ot.at' _ ho
 have hlen := pl.ot.len
 have hk := (List.getElem?_eq_some_iff.1 e2).1
 have hk' := (List.getElem?_eq_some_iff.1 e2').1
 have w1 : IntKind.wrap .i64 (s.Thing - 1) = (k : Int) := by rw [i64w (by omega) (by omega)]; omega
 have w2 : IntKind.wrap .i64 (o.Thing - 1) = (k' : Int) := by rw [i64w (by omega) (by omega)]; omega
 rw [w1, w2]
 unfold aheadB at hq
 rw [stampAt_at e1 e2, stampAt_at e1' e2'] at hq
 refine idx_stamp' pl.hs rfl e2 (idx_stamp' pl.hs rfl e2' (JOIN_of (ifD (fun q => ?_) (fun q => ifE (fun q2 => ?_) (fun q2 => ?_)))))
 ·rw [decide_eq_true q, Bool.true_or] at hq; exact hq
 ·rw [decide_eq_false q, decide_eq_true q2, Bool.false_or, Bool.true_and] at hq; exact hq
 ·rw [decide_eq_false q, decide_eq_false q2] at hq; exact hq
theorem pdep_c (pl : Plc m H a1 cs so B ts ol) (hf : SlF TF H a2 fs) (hfe : fs.length = ts.length) {s o : Sg} (hs : s.Thing - 1 ∈ ol) (ho : o.Thing - 1 ∈ ol) {Q : Bool × Unit -> Heap -> Prop} (hq : ∀ H', Frs [] H H' -> Q (dependsB B ts fs ol s o, ()) H') :
  CALL P [T_bool] n_layer_place_depends [T_G_layer_place.enc ⟨bp, a1, cs, so⟩, a2.v, TSt.enc s, TSt.enc o] H Q := by
 apply c_layer_place_depends
 unfold S_layer_place_depends
 have few := pl.ot.few
 have hal := abouts_len B ts fs ol s
 refine pabt_c pl hf hfe hs fun x1 H1 sp1 n1 => ⟨rfl, rfl, rfl, rfl, ?_⟩
 refine papply_c (pl.new n1.2.2) (hf.frs n1.2.2 (by simp)) hfe ho fun x2 H2 sp2 n2 => ⟨rfl, rfl, ?_⟩
 have f02 := n1.2.2.trans n2.2.2
 refine pabt_c (pl.new f02) n2.1.slf (by rw [applyF_len]; exact hfe) hs fun x3 H3 sp3 n3 => ?_
 refine peq_c ((n1.new n2.2.2).new n3.2.2).1.slf n3.1.slf (by omega) ?_
 have := hq H3 (f02.trans n3.2.2)
 unfold dependsB at this
 simpa using this
def mayS (B : List Cd) (ts : List Tg) (s : Sg) : Prop := 1 ≤ s.Thing ∧ (∃ t, ts[(s.Thing - 1).toNat]? = some t ∧ t.Place = 4) ∧ 0 ≤ s.Place ∧ (cpI B ts (s.Thing - 1))[s.Place.toNat]? = some s.What ∧ s.What.When = 5
theorem mayS.mem (ot : OrdT B ts ol) {s : Sg} (h : mayS B ts s) : s.Thing - 1 ∈ ol := by
 obtain ⟨h1, ⟨t, h2, h3⟩, _⟩ := h
 have := ot.all _ t h2 h3
 rwa [show (((s.Thing - 1).toNat : Nat) : Int) = s.Thing - 1 by omega] at this
theorem ba_inj {x y : ByteArray} (h : x.toList = y.toList) : x = y := by
 obtain ⟨⟨x⟩⟩ := x
 obtain ⟨⟨y⟩⟩ := y
 rw [ByteArray.toList_mk, ByteArray.toList_mk] at h
 rw [h]
theorem ba_iff {x y : ByteArray} : x.toList = y.toList ↔ x = y := ⟨ba_inj, by rintro rfl; rfl⟩
theorem pt_eq (x y : Pt) : ((x.When == y.When) && ((x.Verb == y.Verb) && ((x.Whom == y.Whom) && ((x.Count == y.Count) && ((x.Suit == y.Suit) && ((x.Trait == y.Trait) && ((x.Mark == y.Mark) && ((x.Name.toList == y.Name.toList) && true)))))))) = true ↔ x = y := by
 simp only [Bool.and_eq_true, and_true, beq_iff_eq, ba_iff]
 obtain ⟨x1, x2, x3, x4, x5, x6, x7, x8⟩ := x
 obtain ⟨y1, y2, y3, y4, y5, y6, y7, y8⟩ := y
 simp
theorem psame_c {x y : Pt} {Q : Bool × Unit -> Heap -> Prop} (hq : ∀ r, (r = true ↔ x = y) -> Q (r, ()) H) : CALL P [T_bool] n_effect_Same [TP.enc x, TP.enc y] H Q := by
 apply c_effect_Same
 unfold S_effect_Same
 exact hq _ (pt_eq x y)
theorem pmay_c (pl : Plc m H a1 cs so B ts ol) {s : Sg} {Q : Bool × Unit -> Heap -> Prop} (hq : ∀ r, (r = true ↔ mayS B ts s) -> Q (r, ()) H) : CALL P [T_bool] n_layer_place_may [T_G_layer_place.enc ⟨bp, a1, cs, so⟩, TSt.enc s] H Q := by
 apply c_layer_place_may
 unfold S_layer_place_may
 have hlen := pl.ot.len
 have hsl := pl.hs.1
 obtain ⟨cl, hcl, cd⟩ := pl.card
 by_cases h1 : s.Thing < 1
 ·exact JOIN_of (ifB_t (by simpa using h1) (ifB_t rfl (hq _ ⟨fun q => (by cases q), fun q => by have := q.1; omega⟩)))
 by_cases h2 : (ts.length : Int) < s.Thing
 ·refine JOIN_of (ifB_f (by simpa using h1) (ifB_t (by simp; omega) (ifB_t rfl (hq _ ⟨fun q => (by cases q), fun q => ?_⟩))))
  obtain ⟨_, ⟨t, q, _⟩, _⟩ := q
  have := (List.getElem?_eq_some_iff.1 q).1; omega
 have hw : IntKind.wrap .i64 (s.Thing - 1) = ((s.Thing - 1).toNat : Int) := by rw [i64w (by omega) (by omega)]; omega
 rw [hw]
 have ht : ts[(s.Thing - 1).toNat]? = some (ts[(s.Thing - 1).toNat]'(by omega)) := List.getElem?_eq_getElem (by omega)
 generalize (ts[(s.Thing - 1).toNat]'(by omega)) = t at ht
 refine JOIN_of (ifB_f (by simpa using h1) (ifB_f (by simp; omega) (idx_place pl.hs rfl ht (ifN (fun q => ?_) (fun q => ?_)))))
 ·refine hq _ ⟨fun q => (by cases q), fun w => ?_⟩
  obtain ⟨_, ⟨t', w1, w2⟩, _⟩ := w
  rw [ht] at w1; cases w1; exact absurd w2 q
 ·have hm := pl.ot.all _ t ht q
  obtain ⟨k, t', c, g, ek, et, eg, cr, ecp, eck, egk, e4⟩ := cd _ hm
  have : k = (s.Thing - 1).toNat := by omega
  subst this
  rw [show (((s.Thing - 1).toNat : Nat) : Int) = s.Thing - 1 by omega] at ecp
  have hps := cr.p
  have hpl := hps.1
  have key : mayS B ts s ↔ 0 ≤ s.Place ∧ c.ps[s.Place.toNat]? = some s.What ∧ s.What.When = 5 := by
   unfold mayS
   rw [ecp]
   exact ⟨fun w => w.2.2, fun w => ⟨by omega, ⟨t, ht, q⟩, w⟩⟩
  refine idx_cparts hcl rfl eg (JOIN_of (ifD (fun p0 => ?_) (fun p0 => hq _ ⟨fun q => (by cases q), fun w => absurd (key.1 w).1 p0⟩)))
  refine ifD (fun p1 => ?_) (fun p1 => hq _ ⟨fun q => (by cases q), fun w => ?_⟩)
  ·have hp : c.ps[s.Place.toNat]? = some (c.ps[s.Place.toNat]'(by omega)) := List.getElem?_eq_getElem (by omega)
   generalize (c.ps[s.Place.toNat]'(by omega)) = p at hp
   have pn : s.Place = (s.Place.toNat : Int) := by omega
   refine idx_when' hps pn hp (ifE (fun w5 => ?_) (fun w5 => hq _ ⟨fun q => (by cases q), fun w => ?_⟩))
   ·refine idx_part hps pn hp (psame_c fun r hr => hq r ?_)
    rw [hr, key, hp]
    constructor
    ·rintro rfl; exact ⟨by omega, rfl, w5⟩
    ·rintro ⟨_, w, _⟩; simpa using w
   ·obtain ⟨_, w1, w2⟩ := key.1 w
    rw [hp] at w1; simp at w1; subst w1; exact absurd w2 w5
  ·have := (List.getElem?_eq_some_iff.1 (key.1 w).2.1).1; omega
end
end Go.Proofs.YtolekmhhkopooaaGreatDoor.Zq
end
section
namespace Go.Proofs.YtolekmhhkopooaaGreatDoor.Zq
open Zv
section
variable {H : Heap} {b m : Nat} {se : Bool} {B : List Cd} {ms : List G_api_MarkInfo} {a1 a2 a3 cs so : Sl} {bp : Option Addr} {ts : List Tg} {fs : List Ft} {ol : List Int} {l : List Sg}
theorem OwJ.pne {T : Tag} {H : Heap} {s : Sl} {l : List T.α} (h : OwJ T H s l) (hl : 0 < l.length) : s.p ≠ none := by
 obtain ⟨_, _, _, ⟨_, h4, _⟩ | ⟨c, _, h4, _⟩⟩ := h
 ·subst h4; simp at hl
 ·rw [h4]; simp
def okS (B : List Cd) (ts : List Tg) (l : List Sg) (i : Nat) (s : Sg) : Prop := mayS B ts s ∧ layV s.What.Verb = layV (sgI l 0).What.Verb ∧ ∀ (j : Nat) o, j < i -> l[j]? = some o -> ¬ (o.Thing = s.Thing ∧ o.Place = s.Place)
def listS (B : List Cd) (ts : List Tg) (l : List Sg) : Prop := ∀ (i : Nat) s, l[i]? = some s -> okS B ts l i s
theorem listS.mem (h : listS B ts l) (ot : OrdT B ts ol) : ∀ s ∈ l, s.Thing - 1 ∈ ol := fun s hs => by
 obtain ⟨i, hi⟩ := List.mem_iff_getElem?.1 hs
 exact (h i s hi).1.mem ot
theorem plisted_c (pl : Plc m H a1 cs so B ts ol) (hl : OwJ TSt H a3 l) (hll : l.length ≤ 1048600) {Q : Bool × Unit -> Heap -> Prop} (hq : ∀ r, (r = true ↔ listS B ts l) -> Q (r, ()) H) :
  CALL P [T_bool] n_layer_place_listed [T_G_layer_place.enc ⟨bp, a1, cs, so⟩, a3.v] H Q := by
 apply c_layer_place_listed
 unfold S_layer_place_listed
 have hs := hl.slf
 have h3 := hs.1
 have no : ¬ listS B ts l -> Q (false, ()) H := fun q => hq false ⟨fun e => (by cases e), fun w => absurd w q⟩
 refine JOIN_inv (fun _ H' => H' = H ∧ listS B ts l) (fun j hj => ?_) (fun _ H' hh => by obtain ⟨rfl, e⟩ := hh; exact hq true ⟨fun _ => e, fun _ => rfl⟩)
 refine loop_of (fun (y : (Int × Unit) × Unit) H' => H' = H ∧ ∃ n : Nat, y.1.1 = n ∧ n ≤ l.length ∧ ∀ (i : Nat) s, i < n -> l[i]? = some s -> okS B ts l i s) (fun y => l.length - y.1.1.toNat) ?_ ⟨rfl, 0, rfl, Nat.zero_le _, fun i s h => by omega⟩
 rintro G ⟨⟨i, _⟩, _⟩ H' ⟨rfl, n, hi, hn, inv⟩ hG
 simp only at hi; subst hi
 dsimp only at hG ⊢
 refine ifD (fun hlt => ?_) (fun hge => hj _ _ ⟨rfl, fun i s h => inv i s (by have := (List.getElem?_eq_some_iff.1 h).1; omega) h⟩)
 have hlt : n < l.length := by omega
 have hx : l[n]? = some l[n] := List.getElem?_eq_getElem hlt
 generalize l[n] = s at hx
 have hz : l[0]? = some (l[0]'(by omega)) := List.getElem?_eq_getElem (by omega)
 generalize (l[0]'(by omega)) = z at hz
 have ez : sgI l 0 = z := sgI_at (n := 0) rfl hz
 refine JOIN_inv (fun _ H2 => H2 = H' ∧ okS B ts l n s) (fun j5 hj5 => ?_) (fun _ H2 hh => ?_)
 ·refine idx_ldF (T := TSt) hTSt hs rfl hx rfl ?_
  refine hJ (¬ (mayS B ts s ∧ layV s.What.Verb = layV z.What.Verb)) (fun j10 hj10 => pmay_c pl fun r hr => ifB_of (fun e => hj10 _ ?_) (fun e => ?_)) (fun c => no fun w => c ⟨(w n s hx).1, by rw [← ez]; exact (w n s hx).2.1⟩) (fun c => ?_)
  ·have e : (!r) = true := e
   simp only [true_iff]
   intro w
   rw [hr.2 w.1] at e; cases e
  ·have e : (!r) = false := e
   have hr1 : r = true := by simpa using e
   refine idx_any (T := TSt) hTSt hs rfl hz rfl fun b o rd => rd _ hs (T_int .u8) ((TSt.cells z).take 3) ((TSt.cells z).drop 4) z.What.Verb 3 _ rfl rfl rfl (play_c (rd _ hs (T_int .u8) ((TSt.cells z).take 3) ((TSt.cells z).drop 4) z.What.Verb 3 _ rfl rfl rfl ⟨rfl, play_c (hj10 _ ?_)⟩))
   simp only [bne_iff_ne, ne_eq]
   constructor
   ·exact fun q w => q w.2
   ·exact fun q w => q ⟨hr.1 hr1, w⟩
  ·obtain ⟨c1, c2⟩ := Classical.not_not.1 c
   refine hl.take tySt rfl (by omega) (hl.pne (by omega)) fun o19 => ?_
   refine JOIN_inv (fun _ H2 => H2 = H' ∧ okS B ts l n s) (fun j20 hj20 => ?_) (fun _ H2 hh => hj5 _ _ hh)
   refine loop_of (fun (y : (Int × Unit) × Unit) H2 => H2 = H' ∧ ∃ k : Nat, y.1.1 = k ∧ k ≤ n ∧ ∀ (j : Nat) o, j < k -> l[j]? = some o -> ¬ (o.Thing = s.Thing ∧ o.Place = s.Place)) (fun y => n - y.1.1.toNat) ?_ ⟨rfl, 0, rfl, Nat.zero_le _, fun j o h => by omega⟩
   rintro G2 ⟨⟨i2, _⟩, _⟩ H2 ⟨rfl, k, hk, hkn, inv2⟩ hG2
   simp only at hk; subst hk
   dsimp only at hG2 ⊢
   refine ifD (fun hlt2 => ?_) (fun hge2 => hj20 _ _ ⟨rfl, c1, by rw [ez]; exact c2, fun j o w => inv2 j o (by omega)⟩)
   have hlt2 : k < n := by omega
   have hu : l[k]? = some (l[k]'(by omega)) := List.getElem?_eq_getElem (by omega)
   generalize (l[k]'(by omega)) = u at hu
   have hu' : (l.take n)[k]? = some u := by rw [List.getElem?_take, if_pos hlt2]; exact hu
   refine idx_ldF (T := TSt) hTSt o19.slf rfl hu' rfl (hJ (u.Thing = s.Thing ∧ u.Place = s.Place) (fun j27 hj27 => ifE (fun e => hj27 _ (by simp [e])) (fun e => hj27 _ (by simp [e]))) (fun c => no fun w => (w n s hx).2.2 k u hlt2 hu c) (fun c => ?_))
   rw [i64w (by omega) (by omega)]
   refine hG2 _ _ ⟨rfl, k + 1, by simp, hlt2, fun j o w h => ?_⟩ (by simp; omega)
   by_cases e : j = k
   ·subst e; rw [hu] at h; cases h; exact c
   ·exact inv2 j o (by omega) h
 ·obtain ⟨rfl, ok⟩ := hh
  rw [i64w (by omega) (by omega)]
  refine hG _ _ ⟨rfl, n + 1, by simp, hlt, fun i u w h => ?_⟩ (by simp; omega)
  by_cases e : i = n
  ·subst e; rw [hx] at h; cases h; exact ok
  ·exact inv i u (by omega) h
theorem pnext_c (pl : Plc m H a1 cs so B ts ol) (hf : SlF TF H a2 fs) (hfe : fs.length = ts.length) (hl : SlF TSt H a3 l) (hll : l.length ≤ 1048600) (lv : ∀ s ∈ l, s.Thing - 1 ∈ ol) {Q : Int × Unit -> Heap -> Prop} (hq : ∀ H', Frs [] H H' -> Q (if l.length = 0 then -1 else nextF B ts fs ol l, ()) H') :
  CALL P [TN'] n_layer_place_next [T_G_layer_place.enc ⟨bp, a1, cs, so⟩, a2.v, a3.v] H Q := by
 apply c_layer_place_next
 unfold S_layer_place_next
 have h3 := hl.1
 refine JOIN_inv (fun (y : (Int × Int × Unit) × Unit) H' => Frs [] H H' ∧ y.1.1 = (nx B ts fs ol l l.length).1 ∧ y.1.2.1 = if l.length = 0 then -1 else (nx B ts fs ol l l.length).2) (fun j hj => ?_) ?_
 ·refine loop_of (fun (y : (Int × Int × Int × Unit) × Unit) H' => ∃ n : Nat, y.1.2.2.1 = n ∧ n ≤ l.length ∧ Frs [] H H' ∧ y.1.1 = (nx B ts fs ol l n).1 ∧ y.1.2.1 = if n = 0 then -1 else (nx B ts fs ol l n).2) (fun y => l.length - y.1.2.2.1.toNat) ?_ ⟨0, rfl, Nat.zero_le _, .refl _ _, rfl, rfl⟩
  rintro G ⟨⟨free, first, i, _⟩, _⟩ H1 ⟨n, hi, hn, f1, hfr, hfi⟩ hG
  simp only at hi hfr hfi; subst hi
  dsimp only at hG ⊢
  refine ifD (fun hlt => ?_) (fun hge => hj _ _ ?_)
  ·have hlt : n < l.length := by omega
   obtain ⟨r1, r2, r3, r4⟩ := nx_rng B ts fs ol l n
   have hx : l[n]? = some l[n] := List.getElem?_eq_getElem hlt
   have hxm := lv _ (List.getElem_mem hlt)
   generalize l[n] = s at hx hxm
   have es : sgI l (n : Int) = s := sgI_at rfl hx
   have enx : nx B ts fs ol l (n + 1) = (if (!hangsB B ts fs ol l n l.length && (decide (free < 0) || aheadB ts s (sgI l free))) = true then (n : Int) else free, if aheadB ts s (sgI l (nx B ts fs ol l n).2) = true then (n : Int) else (nx B ts fs ol l n).2) := by
    rw [hfr]
    show (_, _) = _
    rw [es]
   rw [← hfr] at r1 r2
   have h1 := pl.new f1
   have hf1 := hf.frs f1 (by simp)
   have hl1 := hl.frs f1 (by simp)
   refine JOIN_inv (fun (y : (Int × Int × Unit) × Unit) H' => Frs [] H H' ∧ y.1.1 = (nx B ts fs ol l (n + 1)).1 ∧ y.1.2.1 = (nx B ts fs ol l (n + 1)).2) (fun j5 hj5 => ?_) ?_
   ·refine idx_ldF (T := TSt) hTSt hl1 rfl hx rfl ?_
    refine JOIN_inv (fun (y : (Bool × Unit) × Unit) H' => H' = H1 ∧ (if y.1.1 = true then (n : Int) else first) = (nx B ts fs ol l (n + 1)).2) (fun j10 hj10 => ?_) ?_
    ·by_cases h0 : n = 0
     ·rw [if_pos h0] at hfi
      subst h0
      refine ifB_t (by simp; omega) (hj10 _ _ ⟨rfl, ?_⟩)
      rw [enx]
      show ((0 : Nat) : Int) = if _ then ((0 : Nat) : Int) else 0
      split <;> rfl
     ·rw [if_neg h0] at hfi
      rw [← hfi] at r3 r4 enx
      refine ifB_f (by simp; omega) ?_
      obtain ⟨fn, hfn⟩ : ∃ fn : Nat, first = fn := ⟨first.toNat, by omega⟩
      have hfnl : fn < l.length := by omega
      have hy : l[fn]? = some l[fn] := List.getElem?_eq_getElem hfnl
      have hym := lv _ (List.getElem_mem hfnl)
      generalize l[fn] = o at hy hym
      have eo : sgI l first = o := sgI_at hfn hy
      refine idx_ldF (T := TSt) hTSt hl1 hfn hy rfl (plah_c h1 hxm hym (hj10 _ _ ⟨rfl, ?_⟩))
      rw [enx, eo]
    ·rintro ⟨⟨r, _⟩, _⟩ H' ⟨rfl, hr⟩
     dsimp only at hr ⊢
     refine JOIN_inv (fun (y : (Int × Unit) × Unit) H2 => H2 = H' ∧ y.1.1 = (nx B ts fs ol l (n + 1)).2) (fun j16 hj16 => ifB_of (fun e => hj16 _ _ ⟨rfl, by rw [← hr, if_pos e]⟩) (fun e => hj16 _ _ ⟨rfl, by rw [← hr, if_neg (by have e : r = false := e; rw [e]; decide)]⟩)) ?_
     rintro ⟨⟨first2, _⟩, _⟩ H2 ⟨rfl, hf2⟩
     dsimp only at hf2 ⊢
     refine JOIN_inv (fun _ H' => Frs [] H H' ∧ hangsB B ts fs ol l n l.length = false) (fun j18 hj18 => ?_) ?_
     ·refine loop_of (fun (y : (Int × Unit) × Unit) H' => ∃ k : Nat, y.1.1 = k ∧ k ≤ l.length ∧ Frs [] H H' ∧ ∀ j : Nat, j < k -> (j != n && dependsB B ts fs ol (sgI l (n : Int)) (sgI l (j : Int))) = false) (fun y => l.length - y.1.1.toNat) ?_ ⟨0, rfl, Nat.zero_le _, f1, fun j h => by omega⟩
      rintro G2 ⟨⟨i2, _⟩, _⟩ H4 ⟨k, hk, hkl, f4, hff⟩ hG2
      simp only at hk; subst hk
      dsimp only at hG2 ⊢
      refine ifD (fun hlt2 => ?_) (fun hge2 => hj18 _ _ ⟨f4, ?_⟩)
      ·have hkl2 : k < l.length := by omega
       have hz : l[k]? = some l[k] := List.getElem?_eq_getElem hkl2
       have hzm := lv _ (List.getElem_mem hkl2)
       generalize l[k] = u at hz hzm
       have eu : sgI l (k : Int) = u := sgI_at rfl hz
       refine idx_ldF (T := TSt) hTSt (hl.frs f4 (by simp)) rfl hz rfl ?_
       refine JOIN_inv (fun (y : (Bool × Unit) × Unit) H' => Frs [] H H' ∧ y.1.1 = (k != n && dependsB B ts fs ol s u)) (fun j5 hj5 => ifN (fun e => ?_) (fun e => hj5 _ _ ⟨f4, ?_⟩)) ?_
       ·refine pdep_c (pl.new f4) (hf.frs f4 (by simp)) hfe hxm hzm fun H5 f5 => hj5 _ _ ⟨f4.trans f5, ?_⟩
        have : (k != n) = true := by simp; omega
        rw [this, Bool.true_and]
       ·have : (k != n) = false := by simp; omega
        rw [this, Bool.false_and]
       ·rintro ⟨⟨r, _⟩, _⟩ H5 ⟨f5, hr⟩
        simp only at hr
        dsimp only
        refine ifB_of (fun e => hj5 _ _ ⟨f5, ?_, hf2⟩) (fun e => ?_)
        ·have hh : hangsB B ts fs ol l n l.length = true := hangs_true hkl2 (by rw [es, eu, ← hr]; exact e)
         rw [enx, hh]; rfl
        ·rw [i64w (by omega) (by omega)]
         refine hG2 _ _ ⟨k + 1, by simp, hkl2, f5, fun j w => ?_⟩ (by simp; omega)
         by_cases ej : j = k
         ·subst ej; rw [es, eu, ← hr]; exact e
         ·exact hff j (by omega)
      ·refine Bool.eq_false_iff.2 fun w => ?_
       obtain ⟨j, hj, hd⟩ := List.any_eq_true.1 w
       have := hff j (by have := List.mem_range.1 hj; omega)
       rw [this] at hd; cases hd
     ·rintro _ H4 ⟨f4, hh⟩
      have hl4 := hl.frs f4 (by simp)
      have e1 : (nx B ts fs ol l (n + 1)).1 = if (decide (free < 0) || aheadB ts s (sgI l free)) = true then (n : Int) else free := by
       rw [enx, hh]; rfl
      refine JOIN_inv (fun (y : (Bool × Unit) × Unit) H' => H' = H4 ∧ y.1.1 = (decide (free < 0) || aheadB ts s (sgI l free))) (fun j5 hj5 => ifD (fun e2 => hj5 _ _ ⟨rfl, by rw [decide_eq_true e2]; rfl⟩) (fun e2 => ?_)) ?_
      ·rw [decide_eq_false e2, Bool.false_or] at hj5
       obtain ⟨gn, hgn⟩ : ∃ gn : Nat, free = gn := ⟨free.toNat, by omega⟩
       have hgl : gn < l.length := by omega
       have hz : l[gn]? = some l[gn] := List.getElem?_eq_getElem hgl
       have hzm := lv _ (List.getElem_mem hgl)
       generalize l[gn] = u at hz hzm
       rw [sgI_at hgn hz] at hj5
       exact idx_ldF (T := TSt) hTSt hl4 hgn hz rfl (plah_c (pl.new f4) hxm hzm (hj5 _ _ ⟨rfl, rfl⟩))
      ·rintro ⟨⟨r, _⟩, _⟩ H5 ⟨rfl, hr⟩
       simp only at hr
       dsimp only
       rw [← hr] at e1
       refine JOIN_inv (fun (y : (Int × Unit) × Unit) H2 => H2 = H5 ∧ y.1.1 = (nx B ts fs ol l (n + 1)).1) (fun j16 hj16 => ifB_of (fun e => hj16 _ _ ⟨rfl, by rw [e1, if_pos e]⟩) (fun e => hj16 _ _ ⟨rfl, by rw [e1, if_neg (by have e : r = false := e; rw [e]; decide)]⟩)) ?_
       rintro ⟨⟨fr2, _⟩, _⟩ H6 ⟨rfl, hr2⟩
       exact hj5 _ _ ⟨f4, hr2, hf2⟩
   ·rintro ⟨⟨fr2, fi2, _⟩, _⟩ H4 ⟨f4, e1, e2⟩
    dsimp only at e1 e2 ⊢
    rw [i64w (by omega) (by omega)]
    exact hG _ _ ⟨n + 1, by simp, hlt, f4, e1, by rw [if_neg (by omega)]; exact e2⟩ (by simp; omega)
  ·have : n = l.length := by omega
   subst this
   exact ⟨f1, hfr, hfi⟩
 ·rintro ⟨⟨free, first, _⟩, _⟩ H1 ⟨f1, hfr, hfi⟩
  dsimp only at hfr hfi ⊢
  have fin := hq H1 f1
  by_cases h0 : l.length = 0
  ·rw [if_pos h0] at fin hfi
   rw [h0] at hfr
   have : free = -1 := hfr
   refine ifB_f (by simp; omega) ?_
   rw [hfi]; exact fin
  ·rw [if_neg h0] at fin hfi
   unfold nextF at fin
   rw [← hfr, ← hfi] at fin
   refine ifD (fun e => ?_) (fun e => ?_)
   ·rw [if_neg (by omega)] at fin; exact fin
   ·rw [if_pos (by omega)] at fin; exact fin
variable {s o : Sg}
theorem laAbout_c (h : BP m H b se B ms) (okB : OkB B) (gv : Gv H a1 a2 ts fs) {Q : Sl × Int × Unit -> Heap -> Prop} (q1 : ∀ H', setE se B ts fs ≠ 0 -> Frs [] H H' -> Q (⟨none, 0, 0⟩, setE se B ts fs, ()) H') (q2 : ∀ H', setE se B ts fs = 0 -> ¬ mayS B ts s -> Frs [] H H' -> Q (⟨none, 0, 0⟩, 2, ()) H')
  (q0 : ∀ r ol H' sp, setE se B ts fs = 0 -> OrdT B ts ol -> mayS B ts s -> NewO TN' H r H' (abouts B ts fs ol s) sp -> Q (r, 0, ()) H') : CALL P [T_sl, TN'] n_layer_About [.pointer (some ⟨b, 0, none⟩), a1.v, a2.v, TSt.enc s] H Q := by
 apply c_layer_About
 unfold S_layer_About
 refine setup2_c h okB gv.s gv.f gv.fl gv.okt gv.okf gv.len (fun p H' e f => ifB_t (by simpa using e) (q1 H' e f)) fun cs so ol H' e tog pl f => ifB_f rfl ?_
 obtain ⟨_, hfe, _, _⟩ := setE_ok (e := e)
 refine pmay_c pl fun r hr => ifB_of (fun w => q2 _ e (fun q => ?_) f) (fun w => ?_)
 ·have w : (!r) = true := w
  rw [hr.2 q] at w; cases w
 ·have w : (!r) = false := w
  have hm := hr.1 (by simpa using w)
  exact pabt_c pl (gv.f.frs f (by simp)) hfe (hm.mem pl.ot) fun x H2 sp no => q0 x ol H2 sp e pl.ot hm (no.older f)
theorem laApply_c (h : BP m H b se B ms) (okB : OkB B) (gv : Gv H a1 a2 ts fs) {Q : Sl × Int × Unit -> Heap -> Prop} (q1 : ∀ H', setE se B ts fs ≠ 0 -> Frs [] H H' -> Q (⟨none, 0, 0⟩, setE se B ts fs, ()) H') (q2 : ∀ H', setE se B ts fs = 0 -> ¬ mayS B ts s -> Frs [] H H' -> Q (⟨none, 0, 0⟩, 2, ()) H')
  (q0 : ∀ r ol H' sp, setE se B ts fs = 0 -> OrdT B ts ol -> mayS B ts s -> NewO TF H r H' (applyF B ts fs ol s) sp -> Q (r, 0, ()) H') : CALL P [T_sl, TN'] n_layer_Apply [.pointer (some ⟨b, 0, none⟩), a1.v, a2.v, TSt.enc s] H Q := by
 apply c_layer_Apply
 unfold S_layer_Apply
 refine setup2_c h okB gv.s gv.f gv.fl gv.okt gv.okf gv.len (fun p H' e f => ifB_t (by simpa using e) (q1 H' e f)) fun cs so ol H' e tog pl f => ifB_f rfl ?_
 obtain ⟨_, hfe, _, _⟩ := setE_ok (e := e)
 refine pmay_c pl fun r hr => ifB_of (fun w => q2 _ e (fun q => ?_) f) (fun w => ?_)
 ·have w : (!r) = true := w
  rw [hr.2 q] at w; cases w
 ·have w : (!r) = false := w
  have hm := hr.1 (by simpa using w)
  exact papply_c pl (gv.f.frs f (by simp)) hfe (hm.mem pl.ot) fun x H2 sp no => q0 x ol H2 sp e pl.ot hm (no.older f)
theorem laDepends_c (h : BP m H b se B ms) (okB : OkB B) (gv : Gv H a1 a2 ts fs) {Q : Bool × Int × Unit -> Heap -> Prop} (q1 : ∀ H', setE se B ts fs ≠ 0 -> Frs [] H H' -> Q (false, setE se B ts fs, ()) H') (q2 : ∀ H', setE se B ts fs = 0 -> ¬ listS B ts [s, o] -> Frs [] H H' -> Q (false, 2, ()) H')
  (q0 : ∀ ol H', setE se B ts fs = 0 -> OrdT B ts ol -> listS B ts [s, o] -> Frs [] H H' -> Q (dependsB B ts fs ol s o, 0, ()) H') : CALL P [T_bool, TN'] n_layer_Depends [.pointer (some ⟨b, 0, none⟩), a1.v, a2.v, TSt.enc s, TSt.enc o] H Q := by
 apply c_layer_Depends
 unfold S_layer_Depends
 refine setup2_c h okB gv.s gv.f gv.fl gv.okt gv.okf gv.len (fun p H' e f => ifB_t (by simpa using e) (q1 H' e f)) fun cs so ol H1 e tog pl f => ifB_f rfl ?_
 obtain ⟨_, hfe, _, _⟩ := setE_ok (e := e)
 unfold NEW
 obtain ⟨r2, f2, l2⟩ := row1 H1 (fl TSt [s, o]) 10
 have ec : fl TSt [s, o] = TSt.cells s ++ TSt.cells o := by simp [fl]
 change CALL P [T_bool] _ _ (mk H1 (fl TSt [s, o]) 10 false) _
 generalize mk H1 (fl TSt [s, o]) 10 false = H2 at r2 f2 l2
 have o2 : Ow TSt H2 ⟨some ⟨H1.length, 0, none⟩, 2, 2⟩ [s, o] [] := ⟨rfl, rfl, by simp, .inr ⟨_, rfl, by simpa using r2⟩⟩
 have pl2 := pl.new f2
 have f02 := f.trans f2
 refine plisted_c pl2 o2.j (by simp) fun r hr => ifB_of (fun w => q2 _ e (fun q => ?_) f02) (fun w => ?_)
 ·have w : (!r) = true := w
  rw [hr.2 q] at w; cases w
 ·have w : (!r) = false := w
  have hm := hr.1 (by simpa using w)
  exact pdep_c pl2 (gv.f.frs f02 (by simp)) hfe (hm.mem pl.ot s (by simp)) (hm.mem pl.ot o (by simp)) fun H3 f3 => q0 ol H3 e pl.ot hm (f02.trans f3)
theorem laNext_c (h : BP m H b se B ms) (okB : OkB B) (gv : Gv H a1 a2 ts fs) (hl : OwJ TSt H a3 l) (hll : l.length ≤ 1048600) {Q : Int × Int × Unit -> Heap -> Prop} (q1 : ∀ H', setE se B ts fs ≠ 0 -> Frs [] H H' -> Q (0, setE se B ts fs, ()) H') (q2 : ∀ H', setE se B ts fs = 0 -> ¬ listS B ts l -> Frs [] H H' -> Q (0, 2, ()) H')
  (q0 : ∀ ol H', setE se B ts fs = 0 -> OrdT B ts ol -> listS B ts l -> Frs [] H H' -> Q (if l.length = 0 then -1 else nextF B ts fs ol l, 0, ()) H') : CALL P [TN', TN'] n_layer_Next [.pointer (some ⟨b, 0, none⟩), a1.v, a2.v, a3.v] H Q := by
 apply c_layer_Next
 unfold S_layer_Next
 refine setup2_c h okB gv.s gv.f gv.fl gv.okt gv.okf gv.len (fun p H' e f => ifB_t (by simpa using e) (q1 H' e f)) fun cs so ol H1 e tog pl f => ifB_f rfl ?_
 obtain ⟨_, hfe, _, _⟩ := setE_ok (e := e)
 have hl1 := hl.frs f (by simp)
 refine plisted_c pl hl1 hll fun r hr => ifB_of (fun w => q2 _ e (fun q => ?_) f) (fun w => ?_)
 ·have w : (!r) = true := w
  rw [hr.2 q] at w; cases w
 ·have w : (!r) = false := w
  have hm := hr.1 (by simpa using w)
  exact pnext_c pl (gv.f.frs f (by simp)) hfe hl1.slf hll (hm.mem pl.ot) fun H3 f3 => q0 ol H3 e pl.ot hm (f.trans f3)
end
end Go.Proofs.YtolekmhhkopooaaGreatDoor.Zq
end
section
namespace Go.Proofs.YtolekmhhkopooaaGreatDoor.Zq
open Zv
section
variable {H : Heap} {b m : Nat} {se : Bool} {B : List Cd} {ms : List G_api_MarkInfo} {a1 a2 a3 : Sl} {ts : List Tg} {fs : List Ft} {ol : List Int} {l : List Sg} {s o : Sg}
theorem rsame05_c {x y : Pt} {Q : Bool × Unit -> Heap -> Prop} (hq : ∀ r, (r = true ↔ x = y) -> Q (r, ()) H) : CALL P [T_bool] n_ref05_Same [TP.enc x, TP.enc y] H Q := by
 apply c_ref05_Same
 unfold S_ref05_Same
 have key : x = y ↔ (x.When = y.When ∧ x.Verb = y.Verb ∧ x.Whom = y.Whom ∧ x.Count = y.Count ∧ x.Suit = y.Suit ∧ x.Trait = y.Trait ∧ x.Mark = y.Mark ∧ x.Name = y.Name) := by
  obtain ⟨x1, x2, x3, x4, x5, x6, x7, x8⟩ := x
  obtain ⟨y1, y2, y3, y4, y5, y6, y7, y8⟩ := y
  simp
 have no : ∀ j : (Bool × Unit) × Unit -> Heap -> Prop, (∀ r, (r = true ↔ x = y) -> j ((r, ()), ()) H) -> ¬ x = y -> j ((false, ()), ()) H := fun j hj h => hj false ⟨fun e => (by cases e), fun e => absurd e h⟩
 refine JOIN_inv (fun (z : (Bool × Unit) × Unit) H' => H' = H ∧ (z.1.1 = true ↔ x = y)) (fun j hj => ?_) (fun z H' hh => by obtain ⟨rfl, e⟩ := hh; exact hq _ e)
 have hj' : ∀ r, (r = true ↔ x = y) -> j ((r, ()), ()) H := fun r hr => hj _ _ ⟨rfl, hr⟩
 refine ifE (fun e1 => ?_) (fun e1 => no j hj' fun q => e1 (key.1 q).1)
 refine ifE (fun e2 => ?_) (fun e2 => no j hj' fun q => e2 (key.1 q).2.1)
 refine ifE (fun e3 => ?_) (fun e3 => no j hj' fun q => e3 (key.1 q).2.2.1)
 refine ifE (fun e4 => ?_) (fun e4 => no j hj' fun q => e4 (key.1 q).2.2.2.1)
 refine ifE (fun e5 => ?_) (fun e5 => no j hj' fun q => e5 (key.1 q).2.2.2.2.1)
 refine ifE (fun e6 => ?_) (fun e6 => no j hj' fun q => e6 (key.1 q).2.2.2.2.2.1)
 refine ifE (fun e7 => hj' _ ?_) (fun e7 => no j hj' fun q => e7 (key.1 q).2.2.2.2.2.2.1)
 rw [key]
 simp [e1, e2, e3, e4, e5, e6, e7, ba_iff]
theorem rmay_c (h : Rt m H b B ms a1 ts ol) {Q : Bool × Unit -> Heap -> Prop} (hq : ∀ r H', (r = true ↔ mayS B ts s) -> Frs [] H H' -> Q (r, ()) H') : CALL P [T_bool] n_ref19_may [.pointer (some ⟨b, 0, none⟩), a1.v, TSt.enc s] H Q := by
 apply c_ref19_may
 unfold S_ref19_may
 have hlen := h.ot.len
 have hsl := h.s.1
 have rf := Frs.refl [] H
 by_cases h1 : s.Thing < 1
 ·exact JOIN_of (ifB_t (by simpa using h1) (ifB_t rfl (hq _ _ ⟨fun q => (by cases q), fun q => by have := q.1; omega⟩ rf)))
 by_cases h2 : (ts.length : Int) < s.Thing
 ·refine JOIN_of (ifB_f (by simpa using h1) (ifB_t (by simp; omega) (ifB_t rfl (hq _ _ ⟨fun q => (by cases q), fun q => ?_⟩ rf))))
  obtain ⟨_, ⟨t, q, _⟩, _⟩ := q
  have := (List.getElem?_eq_some_iff.1 q).1; omega
 have hw : IntKind.wrap .i64 (s.Thing - 1) = ((s.Thing - 1).toNat : Int) := by rw [i64w (by omega) (by omega)]; omega
 rw [hw]
 have ht : ts[(s.Thing - 1).toNat]? = some (ts[(s.Thing - 1).toNat]'(by omega)) := List.getElem?_eq_getElem (by omega)
 generalize (ts[(s.Thing - 1).toNat]'(by omega)) = t at ht
 refine JOIN_of (ifB_f (by simpa using h1) (ifB_f (by simp; omega) (idx_place h.s rfl ht (ifN (fun q => ?_) (fun q => ?_)))))
 ·refine hq _ _ ⟨fun q => (by cases q), fun w => ?_⟩ rf
  obtain ⟨_, ⟨t', w1, w2⟩, _⟩ := w
  rw [ht] at w1; cases w1; exact absurd w2 q
 ·have hm := h.ot.all _ t ht q
  obtain ⟨k, t', c, e1, e2, e3, e4, e5, e6, e7, e8, e9⟩ := h.card hm
  have : k = (s.Thing - 1).toNat := by omega
  subst this
  rw [ht] at e2; cases e2
  rw [show (((s.Thing - 1).toNat : Nat) : Int) = s.Thing - 1 by omega] at e6
  have key : mayS B ts s ↔ 0 ≤ s.Place ∧ c.ps[s.Place.toNat]? = some s.What ∧ s.What.When = 5 := by
   unfold mayS
   rw [e6]
   exact ⟨fun w => w.2.2, fun w => ⟨by omega, ⟨t, ht, q⟩, w⟩⟩
  refine idx_tcard h.s rfl ht (rat_in h e4 e5 fun g H2 cr f2 => ?_)
  have hps := cr.p
  have hpl := hps.1
  refine hJ (s.Place < 0 ∨ (c.ps.length : Int) ≤ s.Place) (fun j hj => ifD (fun w => hj _ (by simp; omega)) (fun w => hj _ (by simp; omega))) (fun w => hq _ _ ⟨fun q => (by cases q), fun v => ?_⟩ f2) (fun w => ?_)
  ·obtain ⟨v1, v2, _⟩ := key.1 v
   have := (List.getElem?_eq_some_iff.1 v2).1; omega
  ·have hp : c.ps[s.Place.toNat]? = some (c.ps[s.Place.toNat]'(by omega)) := List.getElem?_eq_getElem (by omega)
   generalize (c.ps[s.Place.toNat]'(by omega)) = p at hp
   have pn : s.Place = (s.Place.toNat : Int) := by omega
   refine idx_part hps pn hp (JOIN_of (ifE (fun w5 => rsame05_c fun r hr => hq r _ ?_ f2) (fun w5 => hq _ _ ⟨fun q => (by cases q), fun v => ?_⟩ f2)))
   ·rw [hr, key, hp]
    constructor
    ·rintro rfl; exact ⟨by omega, rfl, w5⟩
    ·rintro ⟨_, v, _⟩; simpa using v
   ·obtain ⟨_, v1, v2⟩ := key.1 v
    rw [hp] at v1; simp at v1; subst v1; exact absurd v2 w5
theorem listS.few (h : listS B ts l) (ot : OrdT B ts ol) : l.length ≤ 64 := by
 have few := ot.few
 let code : Sg -> Int × Int := fun s => (s.Thing - 1, s.Place)
 have nd : (l.map code).Nodup := by
  rw [List.nodup_iff_pairwise_ne, List.pairwise_map, List.pairwise_iff_getElem]
  intro i j hi hj hij e
  have h2 := (h j _ (List.getElem?_eq_getElem hj)).2.2 i _ hij (List.getElem?_eq_getElem hi)
  have e1 := congrArg Prod.fst e
  have e2 := congrArg Prod.snd e
  dsimp only [code] at e1 e2
  exact h2 ⟨by omega, e2⟩
 have sub : l.map code ⊆ ol.flatMap fun x => [(x, 0), (x, 1), (x, 2), (x, 3)] := fun p hp => by
  obtain ⟨s, hs, rfl⟩ := List.mem_map.1 hp
  obtain ⟨i, hi⟩ := List.mem_iff_getElem?.1 hs
  have hmay := (h i s hi).1
  have hm := hmay.mem ot
  refine List.mem_flatMap.2 ⟨_, hm, ?_⟩
  obtain ⟨k, t, c, e1, e2, e3, e4, e5, e6, e7, e8⟩ := ot.at' _ hm
  have hc : cpI B ts (s.Thing - 1) = c.ps := by rw [e1]; unfold cpI cdI; rw [Int.toNat_natCast, e2]; show ((B[(t.Card - 1).toNat]?).map (·.ps)).getD [] = _; rw [e5]; rfl
  obtain ⟨_, _, p0, p1, _⟩ := hmay
  rw [hc] at p1
  have := (List.getElem?_eq_some_iff.1 p1).1
  have : s.Place = 0 ∨ s.Place = 1 ∨ s.Place = 2 ∨ s.Place = 3 := by omega
  rcases this with w | w | w | w <;> simp [code, w]
 have h1 := nd.length_le_of_subset sub
 have h2 := fm_len (f := fun x : Int => [(x, (0 : Int)), (x, 1), (x, 2), (x, 3)]) (c := 4) (l := ol) fun x _ => Nat.le_refl 4
 rw [List.length_map] at h1
 omega
theorem rlisted_c (h : Rt m H b B ms a1 ts ol) (hs : SlF TSt H a3 l) {Q : Bool × Unit -> Heap -> Prop} (hq : ∀ r H', (r = true ↔ listS B ts l) -> Frs [] H H' -> Q (r, ()) H') :
  CALL P [T_bool] n_ref19_listed [.pointer (some ⟨b, 0, none⟩), a1.v, a3.v] H Q := by
 apply c_ref19_listed
 unfold S_ref19_listed
 have h3 := hs.1
 refine ifD (fun w => hq _ _ ⟨fun q => (by cases q), fun q => by have := q.few h.ot; omega⟩ (.refl _ _)) (fun w => ?_)
 have no : ∀ H', Frs [] H H' -> ¬ listS B ts l -> Q (false, ()) H' := fun H' f q => hq false H' ⟨fun e => (by cases e), fun w => absurd w q⟩ f
 refine JOIN_inv (fun _ H' => Frs [] H H' ∧ listS B ts l) (fun j hj => ?_) (fun _ H' hh => hq true H' ⟨fun _ => hh.2, fun _ => rfl⟩ hh.1)
 refine loop_of (fun (y : (Int × Unit) × Unit) H' => Frs [] H H' ∧ ∃ n : Nat, y.1.1 = n ∧ n ≤ l.length ∧ ∀ (i : Nat) s, i < n -> l[i]? = some s -> okS B ts l i s) (fun y => l.length - y.1.1.toNat) ?_ ⟨.refl _ _, 0, rfl, Nat.zero_le _, fun i s h => by omega⟩
 rintro G ⟨⟨i, _⟩, _⟩ H' ⟨f1, n, hi, hn, inv⟩ hG
 simp only at hi; subst hi
 dsimp only at hG ⊢
 refine ifD (fun hlt => ?_) (fun hge => hj _ _ ⟨f1, fun i s h => inv i s (by have := (List.getElem?_eq_some_iff.1 h).1; omega) h⟩)
 have hlt : n < l.length := by omega
 have hx : l[n]? = some l[n] := List.getElem?_eq_getElem hlt
 generalize l[n] = s at hx
 have hz : l[0]? = some (l[0]'(by omega)) := List.getElem?_eq_getElem (by omega)
 generalize (l[0]'(by omega)) = z at hz
 have ez : sgI l 0 = z := sgI_at (n := 0) rfl hz
 have hs1 := hs.frs f1 (by simp)
 refine JOIN_inv (fun _ H2 => Frs [] H H2 ∧ okS B ts l n s) (fun j5 hj5 => ?_) (fun _ H2 hh => ?_)
 ·refine JOIN_inv (fun (y : (Bool × Unit) × Unit) H2 => Frs [] H H2 ∧ (y.1.1 = true ↔ ¬ (mayS B ts s ∧ layV s.What.Verb = layV z.What.Verb))) (fun j7 hj7 => ?_) ?_
  ·refine idx_ldF (T := TSt) hTSt hs1 rfl hx rfl (rmay_c (h.new f1) fun r H5 hr f5 => ifB_of (fun e => hj7 _ _ ⟨f1.trans f5, ?_⟩) (fun e => ?_))
   ·have e : (!r) = true := e
    simp only [true_iff]
    intro w
    rw [hr.2 w.1] at e; cases e
   ·have e : (!r) = false := e
    have hr1 : r = true := by simpa using e
    have hs5 := hs1.frs f5 (by simp)
    refine idx_fld (T := TSt) (T1 := T_int .u8) (of := 3) hTSt hs5 rfl hx rfl ((TSt.cells s).take 3) ((TSt.cells s).drop 4) rfl rfl rfl ?_
    refine idx_any (T := TSt) hTSt hs5 rfl hz rfl fun b o rd => rd _ hs5 (T_int .u8) ((TSt.cells z).take 3) ((TSt.cells z).drop 4) z.What.Verb 3 _ rfl rfl rfl (rlay_c (rd _ hs5 (T_int .u8) ((TSt.cells z).take 3) ((TSt.cells z).drop 4) z.What.Verb 3 _ rfl rfl rfl ⟨rfl, rlay_c (hj7 _ _ ⟨f1.trans f5, ?_⟩)⟩))
    simp only [bne_iff_ne, ne_eq]
    constructor
    ·exact fun q w => q w.2
    ·exact fun q w => q ⟨hr.1 hr1, w⟩
  ·rintro ⟨⟨r, _⟩, _⟩ H4 ⟨f4, hr⟩
   dsimp only at hr ⊢
   refine ifB_of (fun e => no _ f4 fun w => hr.1 e ⟨(w n s hx).1, by rw [← ez]; exact (w n s hx).2.1⟩) (fun e => ?_)
   obtain ⟨c1, c2⟩ := Classical.not_not.1 fun q => by
    have e : r = false := e
    rw [hr.2 q] at e; cases e
   have hs4 := hs.frs f4 (by simp)
   refine JOIN_inv (fun _ H2 => Frs [] H H2 ∧ okS B ts l n s) (fun j22 hj22 => ?_) (fun _ H2 hh => hj5 _ _ hh)
   refine loop_of (fun (y : (Int × Unit) × Unit) H2 => H2 = H4 ∧ ∃ k : Nat, y.1.1 = k ∧ k ≤ n ∧ ∀ (j : Nat) o, j < k -> l[j]? = some o -> ¬ (o.Thing = s.Thing ∧ o.Place = s.Place)) (fun y => n - y.1.1.toNat) ?_ ⟨rfl, 0, rfl, Nat.zero_le _, fun j o h => by omega⟩
   rintro G2 ⟨⟨i2, _⟩, _⟩ H2 ⟨rfl, k, hk, hkn, inv2⟩ hG2
   simp only at hk; subst hk
   dsimp only at hG2 ⊢
   refine ifD (fun hlt2 => ?_) (fun hge2 => hj22 _ _ ⟨f4, c1, by rw [ez]; exact c2, fun j o w => inv2 j o (by omega)⟩)
   have hlt2 : k < n := by omega
   have hu : l[k]? = some (l[k]'(by omega)) := List.getElem?_eq_getElem (by omega)
   generalize (l[k]'(by omega)) = u at hu
   have thing : ∀ {s : Sg} {j : Nat} {K : Int -> Prop}, l[j]? = some s -> K s.Thing -> IDX a3.p a3.len (j : Int) 10 fun b o => LD TN' H2 b (o + 0) K := fun {s j K} h3 h4 => idx_fld (T := TSt) (T1 := TN') hTSt hs4 rfl h3 rfl [] ((TSt.cells s).drop 1) rfl rfl rfl h4
   have place : ∀ {s : Sg} {j : Nat} {K : Int -> Prop}, l[j]? = some s -> K s.Place -> IDX a3.p a3.len (j : Int) 10 fun b o => LD TN' H2 b (o + 1) K := fun {s j K} h3 h4 => idx_fld (T := TSt) (T1 := TN') hTSt hs4 rfl h3 rfl ((TSt.cells s).take 1) ((TSt.cells s).drop 2) rfl rfl rfl h4
   refine hJ (u.Thing = s.Thing ∧ u.Place = s.Place) (fun j26 hj26 => thing hu (thing hx (ifE (fun e => place hu (place hx (hj26 _ (by simp [e])))) (fun e => hj26 _ (by simp [e]))))) (fun c => no _ f4 fun w => (w n s hx).2.2 k u hlt2 hu c) (fun c => ?_)
   rw [i64w (by omega) (by omega)]
   refine hG2 _ _ ⟨rfl, k + 1, by simp, hlt2, fun j o w h => ?_⟩ (by simp; omega)
   by_cases e : j = k
   ·subst e; rw [hu] at h; cases h; exact c
   ·exact inv2 j o (by omega) h
 ·obtain ⟨f2, ok⟩ := hh
  rw [i64w (by omega) (by omega)]
  refine hG _ _ ⟨f2, n + 1, by simp, hlt, fun i u w h => ?_⟩ (by simp; omega)
  by_cases e : i = n
  ·subst e; rw [hx] at h; cases h; exact ok
  ·exact inv i u (by omega) h
theorem r19About_c (h : BD m H b se B ms) (okB : OkB B) (hs : SlF TT' H a1 ts) (hf : SlF TF H a2 fs) {Q : Sl × Int × Unit -> Heap -> Prop} (q1 : ∀ H', setE se B ts fs ≠ 0 -> Frs [] H H' -> Q (⟨none, 0, 0⟩, setE se B ts fs, ()) H') (q2 : ∀ H', setE se B ts fs = 0 -> ¬ mayS B ts s -> Frs [] H H' -> Q (⟨none, 0, 0⟩, 2, ()) H')
  (q0 : ∀ r ol H' sp, setE se B ts fs = 0 -> OrdT B ts ol -> mayS B ts s -> NewO TN' H r H' (abouts B ts fs ol s) sp -> Q (r, 0, ()) H') : CALL P [T_sl, TN'] n_ref19_About [.pointer (some ⟨b, 0, none⟩), a1.v, a2.v, TSt.enc s] H Q := by
 apply c_ref19_About
 unfold S_ref19_About
 refine rwrong_c h okB hs hf fun H1 f1 => ifN (fun e => q1 H1 e f1) (fun e => ?_)
 obtain ⟨e1, e2, e3, e4⟩ := setE_ok (e := e)
 obtain ⟨ol, ot⟩ := ord_of okB e
 subst e1
 have rt : Rt m H1 b B ms a1 ts ol := ⟨h.new f1, okB, hs.frs f1 (by simp), ot⟩
 refine rmay_c rt fun r H2 hr f2 => ifB_of (fun w => q2 _ e (fun q => ?_) (f1.trans f2)) (fun w => ?_)
 ·have w : (!r) = true := w
  rw [hr.2 q] at w; cases w
 ·have w : (!r) = false := w
  have hm := hr.1 (by simpa using w)
  exact rabt_c (rt.new f2) (hf.frs (f1.trans f2) (by simp)) e2 (hm.mem ot) fun x H3 sp no => q0 x ol H3 sp e ot hm (no.older (f1.trans f2))
theorem r19Apply_c (h : BD m H b se B ms) (okB : OkB B) (hs : SlF TT' H a1 ts) (hf : SlF TF H a2 fs) {Q : Sl × Int × Unit -> Heap -> Prop} (q1 : ∀ H', setE se B ts fs ≠ 0 -> Frs [] H H' -> Q (⟨none, 0, 0⟩, setE se B ts fs, ()) H') (q2 : ∀ H', setE se B ts fs = 0 -> ¬ mayS B ts s -> Frs [] H H' -> Q (⟨none, 0, 0⟩, 2, ()) H')
  (q0 : ∀ r ol H' sp, setE se B ts fs = 0 -> OrdT B ts ol -> mayS B ts s -> NewO TF H r H' (applyF B ts fs ol s) sp -> Q (r, 0, ()) H') : CALL P [T_sl, TN'] n_ref19_Apply [.pointer (some ⟨b, 0, none⟩), a1.v, a2.v, TSt.enc s] H Q := by
 apply c_ref19_Apply
 unfold S_ref19_Apply
 refine rwrong_c h okB hs hf fun H1 f1 => ifN (fun e => q1 H1 e f1) (fun e => ?_)
 obtain ⟨e1, e2, e3, e4⟩ := setE_ok (e := e)
 obtain ⟨ol, ot⟩ := ord_of okB e
 subst e1
 have rt : Rt m H1 b B ms a1 ts ol := ⟨h.new f1, okB, hs.frs f1 (by simp), ot⟩
 refine rmay_c rt fun r H2 hr f2 => ifB_of (fun w => q2 _ e (fun q => ?_) (f1.trans f2)) (fun w => ?_)
 ·have w : (!r) = true := w
  rw [hr.2 q] at w; cases w
 ·have w : (!r) = false := w
  have hm := hr.1 (by simpa using w)
  exact rapply_c (rt.new f2) (hf.frs (f1.trans f2) (by simp)) e2 (hm.mem ot) fun x H3 sp no => q0 x ol H3 sp e ot hm (no.older (f1.trans f2))
theorem r19Depends_c (h : BD m H b se B ms) (okB : OkB B) (hs : SlF TT' H a1 ts) (hf : SlF TF H a2 fs) {Q : Bool × Int × Unit -> Heap -> Prop} (q1 : ∀ H', setE se B ts fs ≠ 0 -> Frs [] H H' -> Q (false, setE se B ts fs, ()) H') (q2 : ∀ H', setE se B ts fs = 0 -> ¬ listS B ts [s, o] -> Frs [] H H' -> Q (false, 2, ()) H')
  (q0 : ∀ ol H', setE se B ts fs = 0 -> OrdT B ts ol -> listS B ts [s, o] -> Frs [] H H' -> Q (dependsB B ts fs ol s o, 0, ()) H') : CALL P [T_bool, TN'] n_ref19_Depends [.pointer (some ⟨b, 0, none⟩), a1.v, a2.v, TSt.enc s, TSt.enc o] H Q := by
 apply c_ref19_Depends
 unfold S_ref19_Depends
 refine rwrong_c h okB hs hf fun H1 f1 => ifN (fun e => q1 H1 e f1) (fun e => ?_)
 obtain ⟨e1, e2, e3, e4⟩ := setE_ok (e := e)
 obtain ⟨ol, ot⟩ := ord_of okB e
 subst e1
 have rt : Rt m H1 b B ms a1 ts ol := ⟨h.new f1, okB, hs.frs f1 (by simp), ot⟩
 unfold NEW
 obtain ⟨r2, f2, l2⟩ := row1 H1 (fl TSt [s, o]) 10
 change CALL P [T_bool] _ _ (mk H1 (fl TSt [s, o]) 10 false) _
 generalize mk H1 (fl TSt [s, o]) 10 false = H2 at r2 f2 l2
 have o2 : Ow TSt H2 ⟨some ⟨H1.length, 0, none⟩, 2, 2⟩ [s, o] [] := ⟨rfl, rfl, by simp, .inr ⟨_, rfl, by simpa using r2⟩⟩
 have f02 := f1.trans f2
 refine rlisted_c (rt.new f2) o2.slf fun r H3 hr f3 => ifB_of (fun w => q2 _ e (fun q => ?_) (f02.trans f3)) (fun w => ?_)
 ·have w : (!r) = true := w
  rw [hr.2 q] at w; cases w
 ·have w : (!r) = false := w
  have hm := hr.1 (by simpa using w)
  have f03 := f02.trans f3
  exact rdep_c ((rt.new f2).new f3) (hf.frs f03 (by simp)) e2 (hm.mem ot s (by simp)) (hm.mem ot o (by simp)) fun H4 f4 => q0 ol H4 e ot hm (f03.trans f4)
theorem r19Next_c (h : BD m H b se B ms) (okB : OkB B) (hs : SlF TT' H a1 ts) (hf : SlF TF H a2 fs) (hl : SlF TSt H a3 l) {Q : Int × Int × Unit -> Heap -> Prop} (q1 : ∀ H', setE se B ts fs ≠ 0 -> Frs [] H H' -> Q (0, setE se B ts fs, ()) H') (q2 : ∀ H', setE se B ts fs = 0 -> ¬ listS B ts l -> Frs [] H H' -> Q (0, 2, ()) H')
  (q0 : ∀ ol H', setE se B ts fs = 0 -> OrdT B ts ol -> listS B ts l -> Frs [] H H' -> Q (if l.length = 0 then -1 else nextF B ts fs ol l, 0, ()) H') : CALL P [TN', TN'] n_ref19_Next [.pointer (some ⟨b, 0, none⟩), a1.v, a2.v, a3.v] H Q := by
 apply c_ref19_Next
 unfold S_ref19_Next
 refine rwrong_c h okB hs hf fun H1 f1 => ifN (fun e => q1 H1 e f1) (fun e => ?_)
 obtain ⟨e1, e2, e3, e4⟩ := setE_ok (e := e)
 obtain ⟨ol, ot⟩ := ord_of okB e
 subst e1
 have rt : Rt m H1 b B ms a1 ts ol := ⟨h.new f1, okB, hs.frs f1 (by simp), ot⟩
 have h3 := hl.1
 refine rlisted_c rt (hl.frs f1 (by simp)) fun r H2 hr f2 => ifB_of (fun w => q2 _ e (fun q => ?_) (f1.trans f2)) (fun w => ?_)
 ·have w : (!r) = true := w
  rw [hr.2 q] at w; cases w
 ·have w : (!r) = false := w
  have hm := hr.1 (by simpa using w)
  have f02 := f1.trans f2
  have few := hm.few ot
  refine ifE (fun z => ?_) (fun z => ?_)
  ·have := q0 ol H2 e ot hm f02
   rw [if_pos (by omega)] at this; exact this
  ·refine rnext_c (rt.new f2) (hf.frs f02 (by simp)) e2 (hl.frs f02 (by simp)) (by omega) (hm.mem ot) fun H3 f3 => ?_
   have := q0 ol H3 e ot hm (f02.trans f3)
   rw [if_neg (by omega)] at this; exact this
end
end Go.Proofs.YtolekmhhkopooaaGreatDoor.Zq
end
section
namespace Go.Proofs.YtolekmhhkopooaaGreatDoor.Zq
abbrev FL := List (Nat × Option Value)
abbrev R := Bool
inductive Tr where
 | nil
 | node (v : Option ABlk) (a b : Tr)
noncomputable def tget (t : Tr) : Nat -> Option ABlk :=
 Tr.rec (fun _ => none) (fun v _ _ fa fb i => Bool.rec (Bool.rec (fb (Nat.sub (Nat.div i 2) 1)) (fa (Nat.div i 2)) (Nat.beq (Nat.mod i 2) 1)) v (Nat.beq i 0)) t
noncomputable def tset (d : Nat) : Tr -> Nat -> ABlk -> Tr :=
 Nat.rec (fun t _ _ => t) (fun _ ih t i x =>
  Tr.rec
   (Bool.rec (Bool.rec (.node none .nil (ih .nil (Nat.sub (Nat.div i 2) 1) x)) (.node none (ih .nil (Nat.div i 2) x) .nil) (Nat.beq (Nat.mod i 2) 1)) (.node (some x) .nil .nil) (Nat.beq i 0))
   (fun v a b _ _ => Bool.rec (Bool.rec (.node v a (ih b (Nat.sub (Nat.div i 2) 1) x)) (.node v (ih a (Nat.div i 2) x) b) (Nat.beq (Nat.mod i 2) 1)) (.node (some x) a b) (Nat.beq i 0)) t) d
abbrev FCall := Tgt -> List Value -> Nat -> Tr -> (Value -> Nat -> Tr -> Option R) -> Option R
section
theorem nbeq (i t : Nat) : Nat.beq i t = decide (i = t) := by
 cases h : Nat.beq i t with
 | false => exact (decide_eq_false (Nat.ne_of_beq_eq_false h)).symm
 | true => exact (decide_eq_true (Nat.eq_of_beq_eq_true h)).symm
theorem three (i : Nat) : i = 0 ∨ (∃ q, i = 2 * q + 1) ∨ ∃ q, i = 2 * q + 2 := by
 by_cases h : i = 0
 ·exact .inl h
 ·by_cases h2 : i % 2 = 1
  ·exact .inr (.inl ⟨i / 2, by omega⟩)
  ·exact .inr (.inr ⟨i / 2 - 1, by omega⟩)
theorem m1 (q : Nat) : Nat.beq (Nat.mod (2 * q + 1) 2) 1 = true := by rw [nbeq]; exact decide_eq_true (by show (2 * q + 1) % 2 = 1; omega)
theorem m2 (q : Nat) : Nat.beq (Nat.mod (2 * q + 2) 2) 1 = false := by rw [nbeq]; exact decide_eq_false (by show ¬ (2 * q + 2) % 2 = 1; omega)
theorem d1 (q : Nat) : Nat.div (2 * q + 1) 2 = q := by show (2 * q + 1) / 2 = q; omega
theorem d2 (q : Nat) : Nat.sub (Nat.div (2 * q + 2) 2) 1 = q := by show (2 * q + 2) / 2 - 1 = q; omega
theorem tget_nil (i : Nat) : tget .nil i = none := rfl
theorem tget_0 (v : Option ABlk) (a b : Tr) : tget (.node v a b) 0 = v := rfl
theorem tget_1 (v : Option ABlk) (a b : Tr) (q : Nat) : tget (.node v a b) (2 * q + 1) = tget a q := by
 have e : tget (.node v a b) (2 * q + 1) = Bool.rec (tget b (Nat.sub (Nat.div (2 * q + 1) 2) 1)) (tget a (Nat.div (2 * q + 1) 2)) (Nat.beq (Nat.mod (2 * q + 1) 2) 1) := rfl
 rw [e, m1, d1]
theorem tget_2 (v : Option ABlk) (a b : Tr) (q : Nat) : tget (.node v a b) (2 * q + 2) = tget b q := by
 have e : tget (.node v a b) (2 * q + 2) = Bool.rec (tget b (Nat.sub (Nat.div (2 * q + 2) 2) 1)) (tget a (Nat.div (2 * q + 2) 2)) (Nat.beq (Nat.mod (2 * q + 2) 2) 1) := rfl
 rw [e, m2, d2]
def ta : Tr -> Tr | .nil => .nil | .node _ a _ => a
def tb : Tr -> Tr | .nil => .nil | .node _ _ b => b
def tv : Tr -> Option ABlk | .nil => none | .node v _ _ => v
theorem tget_n0 (t : Tr) : tget t 0 = tv t := by cases t <;> rfl
theorem tget_n1 (t : Tr) (q : Nat) : tget t (2 * q + 1) = tget (ta t) q := by cases t; rfl; exact tget_1 _ _ _ _
theorem tget_n2 (t : Tr) (q : Nat) : tget t (2 * q + 2) = tget (tb t) q := by cases t; rfl; exact tget_2 _ _ _ _
theorem tset_0 (d : Nat) (t : Tr) (x : ABlk) : tset (d + 1) t 0 x = .node (some x) (ta t) (tb t) := by cases t <;> rfl
theorem tset_1 (d : Nat) (t : Tr) (q : Nat) (x : ABlk) : tset (d + 1) t (2 * q + 1) x = .node (tv t) (tset d (ta t) q x) (tb t) := by
 cases t with
 | nil =>
  have e : tset (d + 1) .nil (2 * q + 1) x = Bool.rec (.node none .nil (tset d .nil (Nat.sub (Nat.div (2 * q + 1) 2) 1) x)) (.node none (tset d .nil (Nat.div (2 * q + 1) 2) x) .nil) (Nat.beq (Nat.mod (2 * q + 1) 2) 1) := rfl
  rw [e, m1, d1]; rfl
 | node v a b =>
  have e : tset (d + 1) (.node v a b) (2 * q + 1) x = Bool.rec (.node v a (tset d b (Nat.sub (Nat.div (2 * q + 1) 2) 1) x)) (.node v (tset d a (Nat.div (2 * q + 1) 2) x) b) (Nat.beq (Nat.mod (2 * q + 1) 2) 1) := rfl
  rw [e, m1, d1]; rfl
theorem tset_2 (d : Nat) (t : Tr) (q : Nat) (x : ABlk) : tset (d + 1) t (2 * q + 2) x = .node (tv t) (ta t) (tset d (tb t) q x) := by
 cases t with
 | nil =>
  have e : tset (d + 1) .nil (2 * q + 2) x = Bool.rec (.node none .nil (tset d .nil (Nat.sub (Nat.div (2 * q + 2) 2) 1) x)) (.node none (tset d .nil (Nat.div (2 * q + 2) 2) x) .nil) (Nat.beq (Nat.mod (2 * q + 2) 2) 1) := rfl
  rw [e, m2, d2]; rfl
 | node v a b =>
  have e : tset (d + 1) (.node v a b) (2 * q + 2) x = Bool.rec (.node v a (tset d b (Nat.sub (Nat.div (2 * q + 2) 2) 1) x)) (.node v (tset d a (Nat.div (2 * q + 2) 2) x) b) (Nat.beq (Nat.mod (2 * q + 2) 2) 1) := rfl
  rw [e, m2, d2]; rfl
theorem tget_tset : ∀ (d : Nat) (t : Tr) (i : Nat) (x : ABlk) (j : Nat), i + 1 < 2 ^ d -> tget (tset d t i x) j = if i = j then some x else tget t j
 | 0, _, i, _, _, h => by simp at h
 | d + 1, t, i, x, j, h => by
  rw [Nat.pow_succ] at h
  rcases three i with rfl | ⟨q, rfl⟩ | ⟨q, rfl⟩
  ·rw [tset_0]
   rcases three j with rfl | ⟨p, rfl⟩ | ⟨p, rfl⟩
   ·rw [tget_0, if_pos rfl]
   ·rw [tget_1, if_neg (by omega), tget_n1]
   ·rw [tget_2, if_neg (by omega), tget_n2]
  ·rw [tset_1]
   rcases three j with rfl | ⟨p, rfl⟩ | ⟨p, rfl⟩
   ·rw [tget_0, if_neg (by omega), tget_n0]
   ·rw [tget_1, tget_tset d _ _ _ _ (by omega), tget_n1]
    by_cases hq : q = p
    ·rw [if_pos hq, if_pos (by omega)]
    ·rw [if_neg hq, if_neg (by omega)]
   ·rw [tget_2, if_neg (by omega), tget_n2]
  ·rw [tset_2]
   rcases three j with rfl | ⟨p, rfl⟩ | ⟨p, rfl⟩
   ·rw [tget_0, if_neg (by omega), tget_n0]
   ·rw [tget_1, if_neg (by omega), tget_n1]
   ·rw [tget_2, tget_tset d _ _ _ _ (by omega), tget_n2]
    by_cases hq : q = p
    ·rw [if_pos hq, if_pos (by omega)]
    ·rw [if_neg hq, if_neg (by omega)]
structure Rl (n : Nat) (t : Tr) (H : Heap) : Prop where
 len : H.length = n
 bnd : n ≤ 16777216
 get : ∀ (b : Nat) (x : ABlk), tget t b = some x -> H[b]? = some x
variable {E : Env} {n : Nat} {t : Tr} {H : Heap} {N : Nat} {l : FL}
theorem Rl.nil : Rl 0 .nil [] := ⟨rfl, by omega, fun b x h => by simp [tget_nil] at h⟩
theorem Rl.push (h : Rl n t H) (x : ABlk) (hb : n + 1 ≤ 16777216) : Rl (n + 1) (tset 25 t n x) (H ++ [x]) := by
 refine ⟨by simp [h.len], hb, fun b y => ?_⟩
 rw [tget_tset _ _ _ _ _ (by show n + 1 < 33554432; omega)]
 by_cases hq : n = b
 ·rw [if_pos hq, ← hq, ← h.len, List.getElem?_append_right (Nat.le_refl _), Nat.sub_self]; exact id
 ·rw [if_neg hq]
  intro hy
  have := h.get b y hy
  rw [List.getElem?_append_left (List.getElem?_eq_some_iff.1 this).1]; exact this
theorem Rl.set (h : Rl n t H) {b : Nat} (x : ABlk) (hb : b + 1 ≤ n) : Rl n (tset 25 t b x) (H.set b x) := by
 have := h.len
 have := h.bnd
 refine ⟨by simp [h.len], h.bnd, fun c y => ?_⟩
 rw [tget_tset _ _ _ _ _ (by show b + 1 < 33554432; omega)]
 by_cases hq : b = c
 ·subst hq; rw [if_pos rfl, List.getElem?_set_self (by omega)]; exact id
 ·rw [if_neg hq, List.getElem?_set_ne hq]; exact h.get c y
end
section
variable {E : Env} {n : Nat} {t : Tr} {H : Heap} {N : Nat} {l : FL} {call : CallT}
def CallF (call : CallT) (fc : FCall) : Prop := ∀ tg args n t K r, fc tg args n t K = some r -> ∀ H, Rl n t H -> ∃ v n' t' H', Rl n' t' H' ∧ call tg args H = some (v, H') ∧ K v n' t' = some r
variable {fc : FCall} (hC : CallF call fc)
include hC
end
section
variable {E : Env} {n : Nat} {t : Tr} {H : Heap}
end
end Go.Proofs.YtolekmhhkopooaaGreatDoor.Zq
end
section
namespace Go.Proofs.YtolekmhhkopooaaGreatDoor.Zq
open Go Zv
namespace KFeatures
abbrev T : Tag := T_G_api_Feature
abbrev X := T.α
theorem hT (x : X) : (T.cells x).length = T.n := rfl
theorem same_iff (x y : G_api_Feature) : (!((x.Holder == y.Holder) && ((x.Suit == y.Suit) && ((x.Traits == y.Traits) && ((x.Power == y.Power) && ((x.Health == y.Health) && true)))))) = false ↔ x = y := by
 cases x; cases y; simp
theorem same_c {H : Heap} {a b : Sl} {l m : List X} (ha : SlF T H a l) (hb : SlF T H b m) (hl : l.length ≤ 4611686018427387904) {Q : Bool × Unit -> Heap -> Prop} (hq : ∀ r : Bool, (r = true ↔ l = m) -> Q (r, ()) H) : CALL P [T_bool] n_kit_SameFeatures [a.v, b.v] H Q := by
 apply c_kit_SameFeatures
 unfold S_kit_SameFeatures
 exact same_g (T := T) hT same_iff rfl ha hb hl hq
def w : X := (G_api_Feature.mk (-77) 0 0 0 0 : G_api_Feature)
def z : X := (G_api_Feature.mk 0 0 0 0 0 : G_api_Feature)
theorem tyS : TyS E T 27 z := ⟨⟨_, _, _, rfl, rfl, rfl, rfl, by decide, by decide, rfl⟩, by decide, hT, fun _ => rfl⟩
theorem copy_c {H : Heap} {a : Sl} {l : List X} (ha : SlF T H a l) (hl : l.length ≤ 1048600) {Q : Sl × Unit -> Heap -> Prop} (hq : ∀ s' H' sp, NewO T H s' H' l sp -> Q (s', ()) H') : CALL P [T_sl] n_kit_CopyFeatures [a.v] H Q := by
 apply c_kit_CopyFeatures
 unfold S_kit_CopyFeatures
 exact copy_g tyS rfl (fun _ => by simp) ha hl hq
theorem lent_c {H : Heap} {a : Sl} {l : List X} (ha : SlF T H a l) (hl : l.length ≤ 1048600) {Q : Sl × Unit -> Heap -> Prop} (hq : ∀ s' H' sp, NewO T H s' H' (l ++ [w, w]) sp -> (∃ d, s'.p = some ⟨d, 0, none⟩) -> Q (s', ()) H') : CALL P [T_sl] n_kit_LentFeatures [a.v] H Q := by
 apply c_kit_LentFeatures
 unfold S_kit_LentFeatures
 exact lent_g tyS rfl (fun _ => by simp) ha hl [w, w] rfl rfl hq
theorem kept_c {H : Heap} {a b : Sl} {l m : List X} (ha : SlF T H a l) (hb : SlF T H b m) (hl : l.length ≤ 1048600) (hm : m.length ≤ 1048600) {Q : Bool × Unit -> Heap -> Prop} (hq : ∀ (r : Bool) H', (r = true ↔ l = m ++ [w, w]) -> Frs [] H H' -> Q (r, ()) H') : CALL P [T_bool] n_kit_KeptFeatures [a.v, b.v] H Q := by
 apply c_kit_KeptFeatures
 unfold S_kit_KeptFeatures
 refine copy_c hb hm fun s1 H1 sp1 n1 => ?_
 refine app_c tyS rfl (fun _ => by simp) (m := 2) [w, w] rfl rfl (by show 2 * (m.length + 2) * 4096 ≤ _; omega) n1.1 fun s2 H2 sp2 k1 k2 k3 => ?_
 have n2 := n1.app k1 k2 k3
 exact same_c (ha.frs n2.2.2 (by simp)) k1.slf (by omega) fun r hr => hq r H2 hr n2.2.2
theorem tyL : TyS E T_sl 100 ⟨none, 0, 0⟩ := ⟨⟨_, _, _, rfl, rfl, rfl, rfl, by decide, by decide, rfl⟩, by decide, fun _ => rfl, fun _ => rfl⟩
def mkf (i k : Int) : X := ((G_api_Feature.mk (IntKind.wrap .i64 ((IntKind.wrap .i64 (0 - i)) - 1)) 0 0 k 0) : G_api_Feature)
theorem mark_c (i k : Int) (H : Heap) (Q : X × Unit -> Heap -> Prop) (hq : Q (mkf i k, ()) H) : CALL P [T] n_kit_markFeatures [.int .i64 i, .int .i64 k] H Q := by
 apply c_kit_markFeatures
 unfold S_kit_markFeatures
 exact hq
theorem apart_c {H : Heap} {a : Sl} {ls : List Sl} (h : Apt T H a ls) {Q : Bool × Unit -> Heap -> Prop} (hq : ∀ H', H.length ≤ H'.length -> (∀ d, d < H.length -> (∀ s ∈ ls, s.p ≠ some ⟨d, 0, none⟩) -> H'[d]? = H[d]?) -> Q (true, ()) H') : CALL P [T_bool] n_kit_ApartFeatures [a.v] H Q := by
 apply c_kit_ApartFeatures
 unfold S_kit_ApartFeatures
 refine apart1 tyS tyL rfl (fun _ => by simp) h.lst h.own h.few fun s' H1 sp n1 => ?_
 obtain ⟨f, hf⟩ := h.rws n1.2.2
 refine apart2 (T := T) (mk := mkf) (C := fun i k H Q => CALL P [T] n_kit_markFeatures [.int .i64 i, .int .i64 k] H Q) hT (fun _ => rfl) mark_c n1.1 (by simpa using h.few) hf (dst_full h.dst) (fun v hv c hp hs => ?_) rfl fun H2 how hl hfr hrw => ?_
 ·obtain ⟨s, hs', rfl⟩ := List.mem_map.1 hv
  obtain ⟨l, lsp, hown⟩ := h.own s hs'
  obtain ⟨_, _, _, ⟨q, _⟩ | ⟨d, q, q2⟩⟩ := hown
  ·rw [show (full s).p = s.p from rfl, q] at hp; cases hp
  ·rw [show (full s).p = s.p from rfl, q] at hp; cases hp
   have := n1.2.1 d hs
   have := get_lt q2
   omega
 ·refine apart3 (T := T) (mk := mkf) (C := fun i k H Q => CALL P [T] n_kit_markFeatures [.int .i64 i, .int .i64 k] H Q) hT mark_c same_iff how.slf (by simpa using h.few) hrw (fun v hv => by obtain ⟨s, _, rfl⟩ := List.mem_map.1 hv; rfl) rfl ?_
  refine hq H2 (by rw [hl]; exact n1.2.2.1) fun d hd hs => ?_
  rw [hfr d (Nat.lt_of_lt_of_le hd n1.2.2.1) (fun v hv => by obtain ⟨s, hs', rfl⟩ := List.mem_map.1 hv; exact hs s hs'), n1.2.2.2 d hd (by simp)]
end KFeatures
end Go.Proofs.YtolekmhhkopooaaGreatDoor.Zq
end
section
namespace Go.Proofs.YtolekmhhkopooaaGreatDoor.Zq
open Zv
section
variable {H : Heap} {b m : Nat} {se : Bool} {B : List Cd} {ms : List G_api_MarkInfo} {a1 a2 a3 cs so : Sl} {bp : Option Addr} {ts : List Tg} {fs : List Ft} {ol : List Int} {l : List Sg}
structure In19 (H : Heap) (x : G_kit_Fill) (t : G_law19_Table) (gs : List G_api_Card) (mks : List G_api_MarkInfo) (ts : List Tg) (fs : List Ft) : Prop where
 c : SlF TC H x.Cards gs
 cl : gs.length ≤ 1048576
 cg : ∀ g ∈ gs, InC H g
 m : SlF TM H x.Marks mks
 ml : mks.length ≤ 1048576
 gv : Gv H t.Things t.Fs ts fs
 fl : fs.length ≤ 1048576
theorem heavy19_c {x : G_kit_Fill} {t : G_law19_Table} {Q : Bool × Unit -> Heap -> Prop} (hq : ∀ r, Q (r, ()) H) : CALL P [T_bool] n_law19_heavy [T_G_kit_Fill.enc x, T_G_law19_Table.enc t] H Q := by
 apply c_law19_heavy
 unfold S_law19_heavy
 refine JOIN_inv (fun _ H' => H' = H) (fun j hj => ifB_of (fun _ => hj _ _ rfl) (fun _ => ifB_of (fun _ => hj _ _ rfl) (fun _ => ifB_of (fun _ => hj _ _ rfl) (fun _ => hj _ _ rfl)))) (fun y H' e => by subst e; exact hq _)
end
end Go.Proofs.YtolekmhhkopooaaGreatDoor.Zq
end
section
namespace Go.Proofs.YtolekmhhkopooaaGreatDoor.Zq
open Zv
section
variable {B : List Cd} {ts : List Tg} {ol : List Int}
def stepN (B : List Cd) (ts : List Tg) (ol : List Int) (fs : List Ft) (l : List Sg) (n : Nat) : Int := nextF B ts (allS B ts ol fs l n).1 ol (allS B ts ol fs l n).2.1
theorem stepN_rng {fs : List Ft} {l : List Sg} {n : Nat} (h : n < l.length) : ∃ k : Nat, stepN B ts ol fs l n = k ∧ k < (allS B ts ol fs l n).2.1.length := by
 obtain ⟨i1, i2, i3, i4⟩ := allS_inv B ts ol fs l n (by omega)
 have hr := nextF_rng B ts (allS B ts ol fs l n).1 ol (l := (allS B ts ol fs l n).2.1) (by omega)
 refine ⟨(stepN B ts ol fs l n).toNat, ?_, ?_⟩ <;> unfold stepN <;> omega
theorem allS_succ (fs : List Ft) (l : List Sg) (n : Nat) : allS B ts ol fs l (n + 1) = (applyF B ts (allS B ts ol fs l n).1 ol (sgI (allS B ts ol fs l n).2.1 (stepN B ts ol fs l n)), (allS B ts ol fs l n).2.1.eraseIdx (stepN B ts ol fs l n).toNat, (allS B ts ol fs l n).2.2 ++ [sgI (allS B ts ol fs l n).2.1 (stepN B ts ol fs l n)]) := rfl
end
end Go.Proofs.YtolekmhhkopooaaGreatDoor.Zq
end
section
namespace Go.Proofs.YtolekmhhkopooaaGreatDoor.Zq
open Zv
section
variable {E : Env} {T : Tag} {ts tx : TypeId} {z : T.α}
theorem apps_in (ty : TyS E T ts z) {tj : TI} (h2 : E.ty tx = some tj) (h4 : ∀ k, tj.k ≠ .int k) {H : Heap} {s x : Sl} {l sp xs : List T.α} (hx : SlF T H x xs) (h : Ow T H s l sp) {c : Nat} (hc0 : s.p = some ⟨c, 0, none⟩) (hfit : xs.length ≤ sp.length) {k : Sl -> Heap -> Prop}
  (hk : ∀ H', Ow T H' ⟨s.p, l.length + xs.length, s.cap⟩ (l ++ xs) (sp.drop xs.length) -> Frs [c] H H' -> H'.length = H.length -> k ⟨s.p, l.length + xs.length, s.cap⟩ H') : APP T_sl (lenV s.v + (lenX x.v).getD 0) (aAppendE E [ts, tx] s.v x.v H) k := by
 have hx1 : x.len = xs.length := hx.1
 have hfo : firstOf x.v x.len T.n H = some (fl T xs) := by
  obtain ⟨p, n, c⟩ := x
  obtain ⟨_, ⟨h3, h5, h6⟩ | ⟨b, off, h3, h5, h6⟩ | ⟨b, A, B, sz, o, ro, h3, h5⟩⟩ := hx
  ·simp only at h3 h6 hx1; subst h3; subst h5; subst h6; subst hx1; simp [firstOf, Sl.v, fl]
  ·simp only at h3 h6 hx1; subst h3; subst h5; subst h6; subst hx1; simp [firstOf, Sl.v, fl]
  ·simp only at h3 hx1; subst h3; subst hx1
   simp only [firstOf, Sl.v]
   unfold Zq.rd
   rw [h5]
   simp only
   rw [if_pos (by simp [fl_len ty.len]), List.drop_left, List.take_left' (by rw [fl_len ty.len])]
 obtain ⟨⟨ti, e, te, e1, e2, e3, e4, e5, e6, e7⟩, hn, hT, hone⟩ := ty
 intro y hy
 have e8 : aAppendE E [ts, tx] s.v x.v H y = aAppE E [ts, tx] s.v x.len (fl T xs) H y := by
  unfold aAppendE
  simp only [e1, e2, e3, e4]
  have : lenX x.v = some x.len := rfl
  rw [this]
  simp only [hfo]
 rw [e8, hx1]
 obtain ⟨p, n, cp⟩ := s
 obtain ⟨g1, g2, g0, g3⟩ := h
 simp only at g1 g2 g0 g3 hc0 hk; subst g1; subst g2; subst hc0
 obtain ⟨q, _⟩ | ⟨c', q, hc⟩ := g3
 ·cases q
 cases q
 have hlt := get_lt hc
 have hxl : (fl T xs).length = xs.length * T.n := fl_len hT xs
 have hne : te.size ≠ 0 := by omega
 have hif : ¬ (te.size = 0 ∨ (fl T xs).length ≠ xs.length * te.size) := by rw [e4]; omega
 have apx : ∀ (s2 : Value), aAppX E [ts, tx] s2 xs.length (fl T xs) H = (if te.size = 0 ∨ (fl T xs).length ≠ xs.length * te.size then none else
    match s2 with
    | .slice none 0 0 =>
     if xs.length = 0 then some (.slice none 0 0, H)
     else if 2 * xs.length * te.bytes ≤ 281474976710656 ∧ te.bytes ≠ 0 ∧ (fl T xs).all cell1 = true then some (.slice (some ⟨H.length, 0, none⟩) xs.length xs.length, mk H (fl T xs) te.size true) else none
    | .slice (some ⟨b, off, none⟩) len cap =>
     if xs.length = 0 then (if len ≤ cap then some (s2, H) else none)
     else if len + xs.length ≤ cap then (wr H b (off + len * te.size) (fl T xs)).bind fun H' => some (.slice (some ⟨b, off, none⟩) (len + xs.length) cap, H')
     else if 2 * (len + xs.length) * te.bytes ≤ 281474976710656 ∧ te.bytes ≠ 0 ∧ (fl T xs).all cell1 = true then
      (rd H b off (len * te.size)).bind fun old =>
       if exact H b off cap then
        some (.slice (some ⟨H.length, 0, none⟩) (len + xs.length) (len + xs.length), mk H (old ++ fl T xs) te.size true)
       else
        match H[b]? with
        | some (.row _ sz _ false true) => if sz = te.size then some (.slice (some ⟨H.length, 0, none⟩) (len + xs.length) (len + xs.length), mk (kill H b) (old ++ fl T xs) te.size true) else none
        | _ => none
     else none
    | .slice (some ⟨b, off, some 0⟩) 0 0 => if xs.length = 0 then some (.slice (some ⟨b, off, some 0⟩) 0 0, H) else none
    | _ => none) := fun s2 => by
  unfold aAppX
  simp only [e1, h2, e2, e3, Option.bind_some]
  rfl
 by_cases hx0 : xs = []
 ·subst hx0
  have v0 : aAppE E [ts, tx] (.slice (some ⟨c, 0, none⟩) l.length (l.length + sp.length)) ([] : List T.α).length (fl T []) H y = some (.slice (some ⟨c, 0, none⟩) l.length (l.length + sp.length), H) := by
   unfold aAppE
   simp only
   rw [if_neg (fun q => q.1 rfl), apx, if_neg hif]
   simp
  exact ⟨⟨some ⟨c, 0, none⟩, l.length, l.length + sp.length⟩, H, v0, hk _ ⟨by simp, by simp, g0, .inr ⟨c, rfl, by simpa using hc⟩⟩ (.refl _ _) rfl⟩
 ·have hxl0 : xs.length ≠ 0 := by simpa using hx0
  have hw : wr H c (0 + l.length * te.size) (fl T xs) = some (H.set c (.row (fl T (l ++ xs ++ sp.drop xs.length)) T.n false false true)) := by
   unfold wr
   rw [hc]
   simp only
   have hsz : (fl T (l ++ sp)).length = (l.length + sp.length) * T.n := by rw [fl_len hT]; simp
   rw [if_pos (by rw [hsz, hxl, e4, Nat.zero_add, ← Nat.add_mul]; exact Nat.mul_le_mul_right _ (by omega)), if_pos (fl_one hone xs)]
   congr 3
   unfold patch
   rw [hxl, e4, Nat.zero_add, ← Nat.add_mul, fl_take hT, fl_drop hT, List.take_left, fl_app, fl_app]
   congr 2
   rw [← List.drop_drop, List.drop_left]
  have v0 : aAppE E [ts, tx] (.slice (some ⟨c, 0, none⟩) l.length (l.length + sp.length)) xs.length (fl T xs) H y = some (.slice (some ⟨c, 0, none⟩) (l.length + xs.length) (l.length + sp.length), H.set c (.row (fl T (l ++ xs ++ sp.drop xs.length)) T.n false false true)) := by
   unfold aAppE
   simp only
   rw [if_neg (fun q => by omega), apx, if_neg hif]
   simp only
   rw [if_neg hxl0, if_pos (by omega), hw]
   rfl
  exact ⟨⟨some ⟨c, 0, none⟩, l.length + xs.length, l.length + sp.length⟩, _, v0, hk _ ⟨by simp, by simp; omega, g0, .inr ⟨c, rfl, by rw [set_get hlt]⟩⟩ (Frs.set _ _ (by simp)) (by simp)⟩
theorem slice_3 (ty : TyS E T ts z) {H : Heap} {s : Sl} {l sp : List T.α} (h : Ow T H s l sp) {c : Nat} (hc : s.p = some ⟨c, 0, none⟩) {a b d : Int} {i j m : Nat} (ha : a = i) (hb : b = j) (hd : d = m) (hij : i ≤ j) (hjm : j ≤ m) (hm : m ≤ s.cap) {k : Sl -> Prop} (hk : ∀ x, k x) : GENV T_sl (aSlice E ts s.v (some (.int .i64 a)) (some (.int .i64 b)) (some (.int .i64 d)) H) k := by
 obtain ⟨⟨ti, e, te, e1, e2, e3, e4, e5, e6, e7⟩, hn0, hT, hone⟩ := ty
 subst ha; subst hb; subst hd
 obtain ⟨p, n, cp⟩ := s
 simp only at hc hm; subst hc
 refine ⟨⟨some ⟨c, if m = i then 0 else 0 + i * te.size, none⟩, j - i, m - i⟩, ?_, hk _⟩
 unfold aSlice
 simp only [e1, e2, e3, Option.bind_some, Sl.v, natOf, Option.isSome_some, Option.isNone_some, Bool.and_false, Bool.false_eq_true, if_false, true_or, if_true]
 rw [if_pos (by omega)]
 simp only [Option.bind_some, Int.toNat_natCast]
 rw [if_pos (by omega)]
 simp only [Option.bind_some]
 rw [if_pos (by omega)]
 simp only [Option.bind_some]
 rw [if_pos (by omega)]
 simp [Tag.enc, encC]
theorem clear_in (ty : TyS E T ts z) {H : Heap} {s : Sl} {l sp : List T.α} (h : Ow T H s l sp) {c : Nat} (hc : s.p = some ⟨c, 0, none⟩) {a b : Int} {q : Nat} (ha : a = l.length) (hb : b = ((l.length + q : Nat) : Int)) (hq : q ≤ sp.length) (hq0 : 0 < q) {K : Heap -> Prop}
  (hk : ∀ H', Ow T H' s l (List.replicate q z ++ sp.drop q) -> Frs [c] H H' -> H'.length = H.length -> K H') :
  GENV T_sl (aSlice E ts s.v (some (.int .i64 a)) (some (.int .i64 b)) none H) fun x => GENH (aClear E [ts] x.v H) K := by
 obtain ⟨⟨ti, e, te, e1, e2, e3, e4, e5, e6, e7⟩, hn0, hT, hone⟩ := ty
 subst ha; subst hb
 obtain ⟨p, n, cp⟩ := s
 obtain ⟨g1, g2, g0, g3⟩ := h
 simp only at g1 g2 g0 g3 hc; subst hc; subst g1; subst g2
 obtain ⟨w, _⟩ | ⟨c', w, hr⟩ := g3
 ·cases w
 cases w
 have hlt := get_lt hr
 have hex : Zq.exact H c 0 (l.length + sp.length) = true := by unfold Zq.exact; rw [hr]; rfl
 refine ⟨⟨some ⟨c, 0 + l.length * te.size, none⟩, q, l.length + sp.length - l.length⟩, ?_, ?_⟩
 ·unfold aSlice
  simp only [e1, e2, e3, Option.bind_some, Sl.v, natOf, Option.isSome_none, Bool.false_and, Bool.false_eq_true, if_false, hex, or_true, if_true]
  rw [if_pos (by omega)]
  simp only [Option.bind_some, Int.toNat_natCast]
  rw [if_pos (by omega)]
  simp only [Option.bind_some]
  rw [if_pos (by omega), if_neg (by omega)]
  simp [Tag.enc, encC]
 ·have hrep : rep q te.zero = fl T (List.replicate q z) := by rw [e7, rep_fl]
  have hw : wr H c (0 + l.length * te.size) (rep q te.zero) = some (H.set c (.row (fl T (l ++ List.replicate q z ++ sp.drop q)) T.n false false true)) := by
   unfold wr
   rw [hr]
   simp only
   have hsz : (fl T (l ++ sp)).length = (l.length + sp.length) * T.n := by rw [fl_len hT]; simp
   have hxl : (fl T (List.replicate q z)).length = q * T.n := by rw [fl_len hT]; simp
   rw [hrep, if_pos (by rw [hsz, hxl, e4, Nat.zero_add, ← Nat.add_mul]; exact Nat.mul_le_mul_right _ (by omega)), if_pos (fl_one hone _)]
   congr 3
   unfold patch
   rw [hxl, e4, Nat.zero_add, ← Nat.add_mul, fl_take hT, fl_drop hT, List.take_left, fl_app, fl_app]
   congr 2
   rw [← List.drop_drop, List.drop_left]
  refine ⟨_, ?_, hk _ ⟨by simp, by simp; omega, g0, .inr ⟨c, rfl, by rw [set_get hlt]⟩⟩ (Frs.set _ _ (by simp)) (by simp)⟩
  rw [List.append_assoc] at hw
  unfold aClear
  simp only [e1, e2, e3, Option.bind_some, Sl.v]
  rw [if_neg (by omega), hw]
end
section
variable {H : Heap} {b m : Nat} {se : Bool} {B : List Cd} {ms : List G_api_MarkInfo} {a1 a2 a3 cs so : Sl} {bp : Option Addr} {ts : List Tg} {fs : List Ft} {ol : List Int} {l : List Sg}
theorem pdel_c {H0 : Heap} {s : Sl} {sp : List Sg} (h : NewO TSt H0 s H l sp) {n : Int} {i : Nat} (hn : n = i) (hi : i < l.length) (hl : l.length ≤ 1048600) {Q : Sl × Unit -> Heap -> Prop} (hq : ∀ r H' sp', NewO TSt H0 r H' (l.eraseIdx i) sp' -> Q (r, ()) H') :
  CALL P [T_sl] n_slices_Delete_api_Standing_api_Standing [s.v, .int .i64 n, .int .i64 (n + 1)] H Q := by
 apply c_slices_Delete_api_Standing_api_Standing
 unfold S_slices_Delete_api_Standing_api_Standing
 obtain ⟨c, hc⟩ := h.1.pne (by omega)
 have g1 := h.1.1
 have g2 := h.1.2.1
 have hpn : s.p ≠ none := by rw [hc]; simp
 refine slice_3 tySt h.1 hc (i := i) (j := i + 1) (m := l.length) hn (by omega) (by omega) (by omega) (by omega) (by omega) fun _ => ?_
 refine ifB_f (by simp; omega) ?_
 refine slice_toO tySt h.1 hn (by omega) ?_
 refine h.1.j.drop tySt (n := i + 1) (by omega) (by omega) hpn fun x3 h3 => ?_
 have o2 : Ow TSt H ⟨s.p, i, s.cap⟩ (l.take i) (l.drop i ++ sp) := by
  obtain ⟨w1, w2, w0, ⟨w3, _⟩ | ⟨c', w3, w4⟩⟩ := h.1
  ·rw [hc] at w3; cases w3
  ·refine ⟨by simp; omega, by simp; omega, w0, .inr ⟨c', w3, ?_⟩⟩
   rw [← List.append_assoc, List.take_append_drop]; exact w4
 refine apps_in tySt rfl (fun _ => by simp) h3 o2 hc (by simp; omega) fun H1 o4 f4 l4 => ?_
 have hel : (l.take i ++ l.drop (i + 1)).length = l.length - 1 := by simp; omega
 have hlen4 : (l.take i).length + (l.drop (i + 1)).length = l.length - 1 := by simp; omega
 rw [hlen4] at o4 ⊢
 refine clear_in tySt o4 hc (q := 1) (by rw [hel]) (by rw [hel, g1]; omega) (by simp; omega) (by omega) fun H2 o5 f5 l5 => ?_
 have e1 := List.eraseIdx_eq_take_drop_succ l i
 simp only [e1] at hq
 exact hq _ H2 _ ⟨o5, fun d hd => h.2.1 d hd, (h.2.2.then f4 fun d hd => by simp at hd; subst hd; exact .inr (h.2.1 _ hc)).then f5 fun d hd => by simp at hd; subst hd; exact .inr (h.2.1 _ hc)⟩
theorem pall_c (h : BP m H b se B ms) (okB : OkB B) (gv : Gv H a1 a2 ts fs) {k : Int} {Q : Sl × Sl × Int × Unit -> Heap -> Prop}
  (q1 : ∀ H', setE se B ts fs ≠ 0 -> Frs [] H H' -> Q (⟨none, 0, 0⟩, ⟨none, 0, 0⟩, setE se B ts fs, ()) H') (q2 : ∀ H', setE se B ts fs = 0 -> (k < 1 ∨ 5 < k) -> Frs [] H H' -> Q (⟨none, 0, 0⟩, ⟨none, 0, 0⟩, 2, ()) H')
  (q0 : ∀ s r ol H' sp sr, setE se B ts fs = 0 -> 1 ≤ k -> k ≤ 5 -> OrdT B ts ol -> NewO TF H s H' (allS B ts ol fs (effs B ts fs ol k) (effs B ts fs ol k).length).1 sp -> NewO TSt H r H' (allS B ts ol fs (effs B ts fs ol k) (effs B ts fs ol k).length).2.2 sr -> (∀ d, s.p = some ⟨d, 0, none⟩ -> r.p ≠ some ⟨d, 0, none⟩) -> Q (s, r, 0, ()) H') :
  CALL P [T_sl, T_sl, TN'] n_layer_All [.pointer (some ⟨b, 0, none⟩), a1.v, a2.v, .int .i64 k] H Q := by
 apply c_layer_All
 unfold S_layer_All
 refine effects_c h okB gv.s gv.f gv.fl gv.okt gv.okf gv.len (fun H' e f => ifB_t (by simpa using e) (q1 H' e f)) (fun H' e hk f => ifB_t rfl (q2 H' e hk f)) fun x1 ol H1 sp1 e _ hk1 hk5 ot n1 => ifB_f rfl ?_
 obtain ⟨e1, e2, e3, e4⟩ := setE_ok (e := e)
 have gv1 := gv.new n1.2.2
 refine setup2_c (h.new n1.2.2) okB gv1.s gv1.f gv1.fl gv1.okt gv1.okf gv1.len (fun _ _ e' _ => absurd e e') fun cs so ol2 H1' _ _ pl f1' => ?_
 have := pl.ot.uniq ot; subst this
 have n1 := n1.new f1'
 generalize H1.length = m1 at pl
 generalize (b : Nat) = b0 at pl
 have hel := effs_len ot fs k
 have hlv : ∀ s ∈ effs B ts fs ol2 k, s.Thing - 1 ∈ ol2 := fun s hs => (mem_effs hs).1
 have fin := q0
 generalize hL : effs B ts fs ol2 k = L at n1 hel hlv
 refine pclone_c (gv.f.frs n1.2.2 (by simp)) (by omega) fun x2 H2 sp2 n2 => ?_
 have n12 := n1.new n2.2.2
 have pl2 := pl.new n2.2.2
 refine JOIN_inv (fun (y : (Sl × Sl × Unit) × Unit) H' => ∃ sp sr, NewO TF H y.1.1 H' (allS B ts ol2 fs L L.length).1 sp ∧ NewO TSt H y.1.2.1 H' (allS B ts ol2 fs L L.length).2.2 sr ∧ ∀ d, y.1.1.p = some ⟨d, 0, none⟩ -> y.1.2.1.p ≠ some ⟨d, 0, none⟩) (fun j hj => ?_) (fun y H' hh => by obtain ⟨sp, sr, h1, h2, h3⟩ := hh; exact fin _ _ ol2 _ sp sr e hk1 hk5 ot (by rw [hL]; exact h1) (by rw [hL]; exact h2) h3)
 refine loop_of (fun (y : (Sl × Sl × Sl × Unit) × Unit) H' => ∃ (n : Nat) (sl so : List Sg) (sf : List Ft), n ≤ L.length ∧ Frs [] H2 H' ∧ NewO TSt H y.1.1 H' (allS B ts ol2 fs L n).2.1 sl ∧ NewO TF H y.1.2.1 H' (allS B ts ol2 fs L n).1 sf ∧ NewO TSt H2 y.1.2.2.1 H' (allS B ts ol2 fs L n).2.2 so ∧ (∀ d, y.1.1.p = some ⟨d, 0, none⟩ -> y.1.2.2.1.p ≠ some ⟨d, 0, none⟩) ∧ (∀ d, y.1.2.1.p = some ⟨d, 0, none⟩ -> y.1.2.2.1.p ≠ some ⟨d, 0, none⟩)) (fun y => y.1.1.len) ?_
  ⟨0, sp1, [], sp2, Nat.zero_le _, .refl _ _, n12, n2.older n1.2.2, NewO.nil' TSt H2, by simp, by simp⟩
 have f02 := n12.2.2
 rintro G ⟨⟨left, out, steps, _⟩, _⟩ H4 ⟨n, sl, so', sf, hn, f24, nl, nf, ns, dl, df⟩ hG
 simp only at nl nf ns dl df
 dsimp only at hG ⊢
 obtain ⟨i1, i2, i3, i4⟩ := allS_inv B ts ol2 fs L n hn
 have elen : left.len = (allS B ts ol2 fs L n).2.1.length := nl.1.1
 have step := allS_succ (B := B) (ts := ts) (ol := ol2) fs L n
 refine ifD (fun hpos => ?_) (fun hz => hj _ _ ?_)
 ·have f4 := nl.2.2
  have hnl : n < L.length := by omega
  obtain ⟨ni, hni, hil⟩ := stepN_rng (B := B) (ts := ts) (ol := ol2) (fs := fs) hnl
  rw [hni] at step
  unfold stepN at hni
  generalize hcf : (allS B ts ol2 fs L n).1 = cf at nf i1 step hni
  generalize hcl : (allS B ts ol2 fs L n).2.1 = cl at nl i2 i3 step elen hil hni
  generalize hcs : (allS B ts ol2 fs L n).2.2 = cs' at ns i4 step
  have lv : ∀ s ∈ cl, s.Thing - 1 ∈ ol2 := fun s hs => hlv s (i3 s hs)
  have pl4 := pl2.new f24
  refine pnext_c pl4 nf.1.slf (by omega) nl.1.slf (by omega) lv fun H5 f5 => ?_
  rw [if_neg (by omega), hni]
  have hx : cl[ni]? = some cl[ni] := List.getElem?_eq_getElem hil
  have hxm := lv _ (List.getElem_mem hil)
  generalize cl[ni] = s at hx hxm
  rw [sgI_at rfl hx, Int.toNat_natCast] at step
  have nl5 := nl.new f5
  have nf5 := nf.new f5
  refine idx_ldF (T := TSt) hTSt nl5.1.slf rfl hx rfl (papply_c (pl4.new f5) nf5.1.slf (by omega) hxm fun x11 H6 sp11 n11 => ?_)
  have nl6 := nl5.new n11.2.2
  refine idx_ldF (T := TSt) hTSt nl6.1.slf rfl hx rfl ?_
  have ns6 := (ns.new f5).new n11.2.2
  refine app_c tySt rfl (fun _ => by simp) (m := 1) [s] rfl rfl (by show 2 * (_ + 1) * 4096 ≤ _; omega) ns6.1 fun x15 H7 sp15 k1 k2 k3 => ?_
  have ns7 : NewO TSt H2 x15 H7 (cs' ++ [s]) sp15 := ns6.app k1 k2 k3
  have f27 : Frs [] H2 H7 := ns7.2.2
  have f47 : Frs [] H H7 := f02.trans f27
  have l7 : Ow TSt H7 left cl sl := nl6.1.after k3 dl
  have o7 : Ow TF H7 x11 (applyF B ts cf ol2 s) sp11 := n11.1.after k3 fun d hd e => by
   have h1 := n11.2.1 d hd
   have h2 := (ns.new f5).1.lt e; omega
  refine pclonest_c l7.slf (by omega) fun x17 H8 sp17 n17 => ?_
  rw [i64w (by omega) (by omega)]
  refine pdel_c n17 rfl hil (by omega) fun x19 H9 sp19 n19 => ?_
  have f79 := n19.2.2
  have hel2 : (cl.eraseIdx ni).length = cl.length - 1 := by rw [List.length_eraseIdx, if_pos hil]
  refine hG _ _ ⟨n + 1, sp19, sp15, sp11, hnl, f27.trans f79, ?_, ?_, ?_, fun d hd e => ?_, fun d hd e => ?_⟩ ?_
  ·rw [step]; dsimp only
   exact n19.older f47
  ·rw [step]; dsimp only
   exact ⟨o7.frs f79 (by simp [Sl.off]), fun d hd => by have := n11.2.1 d hd; have := nl5.2.2.1; omega, f47.trans f79⟩
  ·rw [step]; dsimp only
   exact ns7.new f79
  ·have := n19.2.1 d hd
   have := ns7.1.lt e; omega
  ·dsimp only at hd e
   have h1 := n11.2.1 d hd
   have h3 := n11.1.lt hd
   rcases k2 with q | ⟨q, _⟩
   ·have h2 := (ns.new f5).1.lt (q ▸ e); omega
   ·rw [q] at e; cases e; omega
  ·dsimp only
   have := n19.1.1
   omega
 ·have : n = L.length := by omega
  subst this
  exact ⟨sf, so', nf, ns.older f02, df⟩
end
end Go.Proofs.YtolekmhhkopooaaGreatDoor.Zq
end
section
namespace Go.Proofs.YtolekmhhkopooaaGreatDoor.Zq
open Go Zv
namespace KInts
abbrev T : Tag := T_int .i64
abbrev X := T.α
theorem hT (x : X) : (T.cells x).length = T.n := rfl
theorem same_iff (x y : Int) : (x != y) = false ↔ x = y := by
 simp
theorem same_c {H : Heap} {a b : Sl} {l m : List X} (ha : SlF T H a l) (hb : SlF T H b m) (hl : l.length ≤ 4611686018427387904) {Q : Bool × Unit -> Heap -> Prop} (hq : ∀ r : Bool, (r = true ↔ l = m) -> Q (r, ()) H) : CALL P [T_bool] n_kit_SameInts [a.v, b.v] H Q := by
 apply c_kit_SameInts
 unfold S_kit_SameInts
 exact same_g (T := T) hT same_iff rfl ha hb hl hq
def z : X := (0 : Int)
theorem tyS : TyS E T 35 z := ⟨⟨_, _, _, rfl, rfl, rfl, rfl, by decide, by decide, rfl⟩, by decide, hT, fun _ => rfl⟩
theorem tyL : TyS E T_sl 60 ⟨none, 0, 0⟩ := ⟨⟨_, _, _, rfl, rfl, rfl, rfl, by decide, by decide, rfl⟩, by decide, fun _ => rfl, fun _ => rfl⟩
def mkf (i k : Int) : X := (IntKind.wrap .i64 ((IntKind.wrap .i64 ((IntKind.wrap .i64 ((-1000003) * i)) - k)) - 5) : Int)
theorem mark_c (i k : Int) (H : Heap) (Q : X × Unit -> Heap -> Prop) (hq : Q (mkf i k, ()) H) : CALL P [T] n_kit_markInts [.int .i64 i, .int .i64 k] H Q := by
 apply c_kit_markInts
 unfold S_kit_markInts
 exact hq
theorem apart_c {H : Heap} {a : Sl} {ls : List Sl} (h : Apt T H a ls) {Q : Bool × Unit -> Heap -> Prop} (hq : ∀ H', H.length ≤ H'.length -> (∀ d, d < H.length -> (∀ s ∈ ls, s.p ≠ some ⟨d, 0, none⟩) -> H'[d]? = H[d]?) -> Q (true, ()) H') : CALL P [T_bool] n_kit_ApartInts [a.v] H Q := by
 apply c_kit_ApartInts
 unfold S_kit_ApartInts
 refine apart1 tyS tyL rfl (fun _ => by simp) h.lst h.own h.few fun s' H1 sp n1 => ?_
 obtain ⟨f, hf⟩ := h.rws n1.2.2
 refine apart2 (T := T) (mk := mkf) (C := fun i k H Q => CALL P [T] n_kit_markInts [.int .i64 i, .int .i64 k] H Q) hT (fun _ => rfl) mark_c n1.1 (by simpa using h.few) hf (dst_full h.dst) (fun v hv c hp hs => ?_) rfl fun H2 how hl hfr hrw => ?_
 ·obtain ⟨s, hs', rfl⟩ := List.mem_map.1 hv
  obtain ⟨l, lsp, hown⟩ := h.own s hs'
  obtain ⟨_, _, _, ⟨q, _⟩ | ⟨d, q, q2⟩⟩ := hown
  ·rw [show (full s).p = s.p from rfl, q] at hp; cases hp
  ·rw [show (full s).p = s.p from rfl, q] at hp; cases hp
   have := n1.2.1 d hs
   have := get_lt q2
   omega
 ·refine apart3 (T := T) (mk := mkf) (C := fun i k H Q => CALL P [T] n_kit_markInts [.int .i64 i, .int .i64 k] H Q) hT mark_c same_iff how.slf (by simpa using h.few) hrw (fun v hv => by obtain ⟨s, _, rfl⟩ := List.mem_map.1 hv; rfl) rfl ?_
  refine hq H2 (by rw [hl]; exact n1.2.2.1) fun d hd hs => ?_
  rw [hfr d (Nat.lt_of_lt_of_le hd n1.2.2.1) (fun v hv => by obtain ⟨s, hs', rfl⟩ := List.mem_map.1 hv; exact hs s hs'), n1.2.2.2 d hd (by simp)]
end KInts
end Go.Proofs.YtolekmhhkopooaaGreatDoor.Zq
end
section
namespace Go.Proofs.YtolekmhhkopooaaGreatDoor.Zq
open Go Zv
namespace KThings
abbrev T : Tag := T_G_api_Thing
abbrev X := T.α
theorem hT (x : X) : (T.cells x).length = T.n := rfl
theorem same_iff (x y : G_api_Thing) : (!((x.Card == y.Card) && ((x.Owner == y.Owner) && ((x.Place == y.Place) && ((x.Stamp == y.Stamp) && ((x.Hurt == y.Hurt) && (((x.Marks.1 == y.Marks.1) && ((x.Marks.2.1 == y.Marks.2.1) && ((x.Marks.2.2.1 == y.Marks.2.2.1) && ((x.Marks.2.2.2 == y.Marks.2.2.2) && true)))) && ((x.Done == y.Done) && ((x.Fresh == y.Fresh) && true))))))))) = false ↔ x = y := by
 cases x; cases y; simp [Prod.ext_iff]
theorem same_c {H : Heap} {a b : Sl} {l m : List X} (ha : SlF T H a l) (hb : SlF T H b m) (hl : l.length ≤ 4611686018427387904) {Q : Bool × Unit -> Heap -> Prop} (hq : ∀ r : Bool, (r = true ↔ l = m) -> Q (r, ()) H) : CALL P [T_bool] n_kit_SameThings [a.v, b.v] H Q := by
 apply c_kit_SameThings
 unfold S_kit_SameThings
 exact same_g (T := T) hT same_iff rfl ha hb hl hq
def w : X := (G_api_Thing.mk (-77) 0 0 0 0 (0, 0, 0, 0) 0 false : G_api_Thing)
def z : X := (G_api_Thing.mk 0 0 0 0 0 (0, 0, 0, 0) 0 false : G_api_Thing)
theorem tyS : TyS E T 26 z := ⟨⟨_, _, _, rfl, rfl, rfl, rfl, by decide, by decide, rfl⟩, by decide, hT, fun _ => rfl⟩
theorem copy_c {H : Heap} {a : Sl} {l : List X} (ha : SlF T H a l) (hl : l.length ≤ 1048600) {Q : Sl × Unit -> Heap -> Prop} (hq : ∀ s' H' sp, NewO T H s' H' l sp -> Q (s', ()) H') : CALL P [T_sl] n_kit_CopyThings [a.v] H Q := by
 apply c_kit_CopyThings
 unfold S_kit_CopyThings
 exact copy_g tyS rfl (fun _ => by simp) ha hl hq
theorem lent_c {H : Heap} {a : Sl} {l : List X} (ha : SlF T H a l) (hl : l.length ≤ 1048600) {Q : Sl × Unit -> Heap -> Prop} (hq : ∀ s' H' sp, NewO T H s' H' (l ++ [w, w]) sp -> (∃ d, s'.p = some ⟨d, 0, none⟩) -> Q (s', ()) H') : CALL P [T_sl] n_kit_LentThings [a.v] H Q := by
 apply c_kit_LentThings
 unfold S_kit_LentThings
 exact lent_g tyS rfl (fun _ => by simp) ha hl [w, w] rfl rfl hq
theorem kept_c {H : Heap} {a b : Sl} {l m : List X} (ha : SlF T H a l) (hb : SlF T H b m) (hl : l.length ≤ 1048600) (hm : m.length ≤ 1048600) {Q : Bool × Unit -> Heap -> Prop} (hq : ∀ (r : Bool) H', (r = true ↔ l = m ++ [w, w]) -> Frs [] H H' -> Q (r, ()) H') : CALL P [T_bool] n_kit_KeptThings [a.v, b.v] H Q := by
 apply c_kit_KeptThings
 unfold S_kit_KeptThings
 refine copy_c hb hm fun s1 H1 sp1 n1 => ?_
 refine app_c tyS rfl (fun _ => by simp) (m := 2) [w, w] rfl rfl (by show 2 * (m.length + 2) * 4096 ≤ _; omega) n1.1 fun s2 H2 sp2 k1 k2 k3 => ?_
 have n2 := n1.app k1 k2 k3
 exact same_c (ha.frs n2.2.2 (by simp)) k1.slf (by omega) fun r hr => hq r H2 hr n2.2.2
end KThings
end Go.Proofs.YtolekmhhkopooaaGreatDoor.Zq
end
section
namespace Go.Proofs.YtolekmhhkopooaaGreatDoor.Zq
open Go Zv
namespace KStandings
abbrev T : Tag := T_G_api_Standing
abbrev X := T.α
theorem hT (x : X) : (T.cells x).length = T.n := rfl
theorem same_iff (x y : G_api_Standing) : (!((x.Thing == y.Thing) && ((x.Place == y.Place) && (((x.What.When == y.What.When) && ((x.What.Verb == y.What.Verb) && ((x.What.Whom == y.What.Whom) && ((x.What.Count == y.What.Count) && ((x.What.Suit == y.What.Suit) && ((x.What.Trait == y.What.Trait) && ((x.What.Mark == y.What.Mark) && ((x.What.Name.toList == y.What.Name.toList) && true)))))))) && true)))) = false ↔ x = y := by
 obtain ⟨_, _, ⟨_, _, _, _, _, _, _, _⟩⟩ := x; obtain ⟨_, _, ⟨_, _, _, _, _, _, _, _⟩⟩ := y; simp [ba_iff]
theorem same_c {H : Heap} {a b : Sl} {l m : List X} (ha : SlF T H a l) (hb : SlF T H b m) (hl : l.length ≤ 4611686018427387904) {Q : Bool × Unit -> Heap -> Prop} (hq : ∀ r : Bool, (r = true ↔ l = m) -> Q (r, ()) H) : CALL P [T_bool] n_kit_SameStandings [a.v, b.v] H Q := by
 apply c_kit_SameStandings
 unfold S_kit_SameStandings
 exact same_g (T := T) hT same_iff rfl ha hb hl hq
def w : X := (G_api_Standing.mk (-77) 0 (G_api_Part.mk 0 0 0 0 0 0 0 (ByteArray.mk #[])) : G_api_Standing)
def z : X := (G_api_Standing.mk 0 0 (G_api_Part.mk 0 0 0 0 0 0 0 (ByteArray.mk #[])) : G_api_Standing)
theorem tyS : TyS E T 66 z := ⟨⟨_, _, _, rfl, rfl, rfl, rfl, by decide, by decide, rfl⟩, by decide, hT, fun _ => rfl⟩
theorem copy_c {H : Heap} {a : Sl} {l : List X} (ha : SlF T H a l) (hl : l.length ≤ 1048600) {Q : Sl × Unit -> Heap -> Prop} (hq : ∀ s' H' sp, NewO T H s' H' l sp -> Q (s', ()) H') : CALL P [T_sl] n_kit_CopyStandings [a.v] H Q := by
 apply c_kit_CopyStandings
 unfold S_kit_CopyStandings
 exact copy_g tyS rfl (fun _ => by simp) ha hl hq
theorem lent_c {H : Heap} {a : Sl} {l : List X} (ha : SlF T H a l) (hl : l.length ≤ 1048600) {Q : Sl × Unit -> Heap -> Prop} (hq : ∀ s' H' sp, NewO T H s' H' (l ++ [w, w]) sp -> (∃ d, s'.p = some ⟨d, 0, none⟩) -> Q (s', ()) H') : CALL P [T_sl] n_kit_LentStandings [a.v] H Q := by
 apply c_kit_LentStandings
 unfold S_kit_LentStandings
 exact lent_g tyS rfl (fun _ => by simp) ha hl [w, w] rfl rfl hq
theorem kept_c {H : Heap} {a b : Sl} {l m : List X} (ha : SlF T H a l) (hb : SlF T H b m) (hl : l.length ≤ 1048600) (hm : m.length ≤ 1048600) {Q : Bool × Unit -> Heap -> Prop} (hq : ∀ (r : Bool) H', (r = true ↔ l = m ++ [w, w]) -> Frs [] H H' -> Q (r, ()) H') : CALL P [T_bool] n_kit_KeptStandings [a.v, b.v] H Q := by
 apply c_kit_KeptStandings
 unfold S_kit_KeptStandings
 refine copy_c hb hm fun s1 H1 sp1 n1 => ?_
 refine app_c tyS rfl (fun _ => by simp) (m := 2) [w, w] rfl rfl (by show 2 * (m.length + 2) * 4096 ≤ _; omega) n1.1 fun s2 H2 sp2 k1 k2 k3 => ?_
 have n2 := n1.app k1 k2 k3
 exact same_c (ha.frs n2.2.2 (by simp)) k1.slf (by omega) fun r hr => hq r H2 hr n2.2.2
theorem tyL : TyS E T_sl 105 ⟨none, 0, 0⟩ := ⟨⟨_, _, _, rfl, rfl, rfl, rfl, by decide, by decide, rfl⟩, by decide, fun _ => rfl, fun _ => rfl⟩
def mkf (i k : Int) : X := ((G_api_Standing.mk (IntKind.wrap .i64 ((IntKind.wrap .i64 (0 - i)) - 1)) k (G_api_Part.mk 0 0 0 0 0 0 0 (ByteArray.mk #[]))) : G_api_Standing)
theorem mark_c (i k : Int) (H : Heap) (Q : X × Unit -> Heap -> Prop) (hq : Q (mkf i k, ()) H) : CALL P [T] n_kit_markStandings [.int .i64 i, .int .i64 k] H Q := by
 apply c_kit_markStandings
 unfold S_kit_markStandings
 exact hq
theorem apart_c {H : Heap} {a : Sl} {ls : List Sl} (h : Apt T H a ls) {Q : Bool × Unit -> Heap -> Prop} (hq : ∀ H', H.length ≤ H'.length -> (∀ d, d < H.length -> (∀ s ∈ ls, s.p ≠ some ⟨d, 0, none⟩) -> H'[d]? = H[d]?) -> Q (true, ()) H') : CALL P [T_bool] n_kit_ApartStandings [a.v] H Q := by
 apply c_kit_ApartStandings
 unfold S_kit_ApartStandings
 refine apart1 tyS tyL rfl (fun _ => by simp) h.lst h.own h.few fun s' H1 sp n1 => ?_
 obtain ⟨f, hf⟩ := h.rws n1.2.2
 refine apart2 (T := T) (mk := mkf) (C := fun i k H Q => CALL P [T] n_kit_markStandings [.int .i64 i, .int .i64 k] H Q) hT (fun _ => rfl) mark_c n1.1 (by simpa using h.few) hf (dst_full h.dst) (fun v hv c hp hs => ?_) rfl fun H2 how hl hfr hrw => ?_
 ·obtain ⟨s, hs', rfl⟩ := List.mem_map.1 hv
  obtain ⟨l, lsp, hown⟩ := h.own s hs'
  obtain ⟨_, _, _, ⟨q, _⟩ | ⟨d, q, q2⟩⟩ := hown
  ·rw [show (full s).p = s.p from rfl, q] at hp; cases hp
  ·rw [show (full s).p = s.p from rfl, q] at hp; cases hp
   have := n1.2.1 d hs
   have := get_lt q2
   omega
 ·refine apart3 (T := T) (mk := mkf) (C := fun i k H Q => CALL P [T] n_kit_markStandings [.int .i64 i, .int .i64 k] H Q) hT mark_c same_iff how.slf (by simpa using h.few) hrw (fun v hv => by obtain ⟨s, _, rfl⟩ := List.mem_map.1 hv; rfl) rfl ?_
  refine hq H2 (by rw [hl]; exact n1.2.2.1) fun d hd hs => ?_
  rw [hfr d (Nat.lt_of_lt_of_le hd n1.2.2.1) (fun v hv => by obtain ⟨s, hs', rfl⟩ := List.mem_map.1 hv; exact hs s hs'), n1.2.2.2 d hd (by simp)]
end KStandings
end Go.Proofs.YtolekmhhkopooaaGreatDoor.Zq
end
