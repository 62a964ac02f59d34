/- Part 8 of the proof of ViewCalls: what its row stands on (lemmas about the model, the evaluator, contracts of functions), put together and cut to what is used. -/
import Derived.Test.YtijnknjopjmiiaaGreatDoorKViewCalls7
section
namespace Go.Proofs.YtijnknjopjmiiaaGreatDoor.Zq
open Zv
section
variable{H:Heap}{b m:Nat}{se:Bool}{B:List Cd}{ms:List au}
structure iU(B:List Cd)(ts:List Tg)(ol:List Int):Prop where
 few:ol.length≤16
 nd:ol.Nodup
 srt:∀(i j:Nat) a b,i<j->ol[i]? =some a->ol[j]? =some b->bH ts a.toNat<bH ts b.toNat
 at':∀i∈ol,∃(k:Nat) (t:Tg) (c:Cd),i=k∧ts[k]? =some t∧t.Place=4∧1≤t.Card∧B[(t.Card-1).toNat]? =some c∧1≤t.Stamp∧c.g.Kind≠2∧c.ps.length≤4
 all:∀(k:Nat) t,ts[k]? =some t->t.Place=4->(k:Int)∈ol
 len:ts.length≤2048
theorem rD.p4(h:rD B){c:Cd}(hc:c∈B):c.ps.length≤4:=by
 have:=h.ok c hc
 unfold BH at this
 by_cases hf:Ep c=0
 ·exact um hf
 ·rw[if_neg hf]at this; exact absurd this hf
theorem acA.ajH{ts:List Tg}{fs:List Ft}{ol:List Int}(h:acA ts ol)(U0:Yg B ts fs)(hfe:fs.length=ts.length)(okB:rD B)(hlen:ts.length≤2048):iU B ts ol:=by
 obtain⟨hp,hs⟩:=h
 have nd:ol.Nodup:=hp.symm.nodup (GY _)
 have at':∀i∈ol,∃(k:Nat) (t:Tg) (c:Cd),i=k∧ts[k]? =some t∧t.Place=4∧1≤t.Card∧B[(t.Card-1).toNat]? =some c∧1≤t.Stamp∧c.g.Kind≠2∧c.ps.length≤4:=fun i hi=>by
  obtain⟨k,t,h1,rfl,h3,h4⟩:=uQ.1 (hp.mem_iff.1 hi)
  have hk:k<fs.length:=by omega
  obtain⟨c,w1,w2,_,_,_,w⟩:=U0.all k t _ h3 (List.getElem?_eq_getElem hk)
  exact⟨k,t,c,rfl,h3,h4,w1,w2,(w h4).2.1,(w h4).1,okB.p4 (List.mem_of_getElem? w2)⟩
 refine⟨by rw[hp.length_eq]; exact U0.few,nd,fun i j a b' hij ha hb=> ?_,at',fun k t h1 h2=>hp.mem_iff.2 (uQ.2 ⟨k,t,(List.getElem?_eq_some_iff.1 h1).1,rfl,h1,h2⟩),hlen⟩
 have h1:=hs i j a b' hij ha hb
 obtain⟨k,t,_,e1,e2,e3,_⟩:=at' a (List.mem_of_getElem? ha)
 obtain⟨k',t',_,e1',e2',e3',_⟩:=at' b' (List.mem_of_getElem? hb)
 have ea:bH ts a.toNat=t.Stamp:=by subst e1; simp[bH,e2]
 have eb:bH ts b'.toNat=t'.Stamp:=by subst e1'; simp[bH,e2']
 rw[ea,eb]at h1 ⊢
 have hab:k≠k':=fun q=>by
  have hi:=(List.getElem?_eq_some_iff.1 ha)
  have hj:=(List.getElem?_eq_some_iff.1 hb)
  have:=List.pairwise_iff_getElem.1 nd i j hi.1 hj.1 hij
  exact this (by rw[hi.2,hj.2,e1,e1',q])
 have:=U0.dst k k' t t' hab e2 e2' e3 e3'
 omega
structure Plc(m:Nat)(H:Heap)(a1 cs so:Sl)(B:List Cd)(ts:List Tg)(ol:List Int):Prop where
 hs:dB gX H a1 ts
 c:∃cl,dB TC H cs cl∧∀(i:Nat) t c,ts[i]? =some t->t.Place=4->1≤t.Card->B[(t.Card-1).toNat]? =some c->∃g,cl[i]? =some g∧CR m H g c
 o:dB dX H so ol
 ot:iU B ts ol
theorem Plc.new{H':Heap}{a1 cs so:Sl}{ts:List Tg}{ol:List Int}(h:Plc m H a1 cs so B ts ol)(f:bK [] H H'):Plc m H' a1 cs so B ts ol:=by
 obtain⟨h1,⟨cl,h2,h3⟩,h4,h5⟩:=h
 exact⟨h1.bP f (by simp),⟨cl,h2.bP f (by simp),fun i t c w1 w2 w3 w4=>by obtain⟨g,q1,q2⟩:=h3 i t c w1 w2 w3 w4; exact⟨g,q1,q2.bP f (by simp)⟩⟩,h4.bP f (by simp),h5⟩
theorem Plc.card{a1 cs so:Sl}{ts:List Tg}{ol:List Int}(h:Plc m H a1 cs so B ts ol):∃cl,dB TC H cs cl∧∀i∈ol,∃(k:Nat) (t:Tg) (c:Cd) (g:aA),i=k∧ts[k]? =some t∧cl[k]? =some g∧CR m H g c∧cpI B ts i=c.ps∧ckI B ts i=c.g.Kind∧g.Kind=c.g.Kind∧c.ps.length≤4:=by
 obtain⟨h1,⟨cl,h2,h3⟩,h4,h5⟩:=h
 refine⟨cl,h2,fun i hi=> ?_⟩
 obtain⟨k,t,c,e1,e2,e3,e4,e5,e6,e7,e8⟩:=h5.at' i hi
 obtain⟨g,q1,q2⟩:=h3 k t c e2 e3 e4 e5
 subst e1
 have hk:g.Kind=c.g.Kind:=by rw[←q2.e]; rfl
 have hcd:cdI B ts (k:Int)=some c:=by unfold cdI; rw[Int.toNat_natCast,e2]; exact e5
 exact⟨k,t,c,g,rfl,e2,q1,q2,by unfold cpI; rw[hcd]; rfl,by unfold ckI; rw[hcd]; rfl,hk,e8⟩
theorem Je(h:BP m H b se B ms)(okB:rD B){a1 a2:Sl}{ts:List Tg}{fs:List aB}(hs:dB gX H a1 ts)(hf:dB TF H a2 fs)(fla:Flat H a1)(okt:∀t∈ts,t.Stamp≤9223372036854775807)(okf:∀f∈fs,0≤f.Traits)(bts:ts.length≤1048600){Q:aK×Int×Unit->Heap->Prop}
  (q1:∀p H',dn se B ts fs≠0->bK [] H H'->Q (p,dn se B ts fs,()) H') (q0:∀cs so ol H',dn se B ts fs=0->Yg B ts fs->Plc H.length H' a1 cs so B ts ol->bK [] H H'->Q (⟨some ⟨b,0,none⟩,a1,cs,so⟩,0,()) H'):
  CALL P [aJ,dX] iO [.pointer (some ⟨b,0,none⟩),a1.v,a2.v] H Q:=by
 refine ag5 h okB hs hf fla okt okf bts q1 fun cs so cl ol H' e U0 pl=> ?_
 have hfe:fs.length=ts.length:=by
  refine Classical.byContradiction fun q=> ?_
  unfold dn at e
  split at e
  ·cases e
  ·rw[if_pos (.inr q)]at e; cases e
 have hlen:ts.length≤2048:=by
  refine Classical.byContradiction fun q=> ?_
  unfold dn at e
  rw[if_pos (by omega)]at e; cases e
 exact q0 cs so ol H' e U0 ⟨hs.bP pl.f (by simp),⟨cl,pl.c,pl.card⟩,pl.o,pl.ord.ajH U0 hfe okB hlen⟩ pl.f
theorem QX{s:Sl}{l:List Pt}(h:dB TP H s l){i:Int}{n:Nat}{x:Pt}(hi:i=n)(hx:l[n]? =some x){K:Pt->Prop}(hK:K x):bQ s.p s.len i 8 fun b o=>LD TP H b o K:=aZ (T:=TP) hTP h hi hx rfl hK
theorem QY{s:Sl}{gs:List aA}(h:dB TC H s gs){i:Int}{n:Nat}{g:aA}(hi:i=n)(hx:gs[n]? =some g){K:Sl->Prop}(hk:K g.Parts):bQ s.p s.len i 9 fun b o=>LD aH H b (o+8) K:=by
 subst hi; exact KY h hx hk
theorem aiN{a1 a2 cs so:Sl}{bp:Option Addr}{ts:List Tg}{fs:List Ft}{ol:List Int}(pl:Plc m H a1 cs so B ts ol)(hf:dB TF H a2 fs)(hfe:fs.length=ts.length){k:Int}{Q:Sl×Unit->Heap->Prop}
  (hq:∀s H' sp,aW eU H s H' (sD B ts fs ol k) sp->Q (s,()) H'):CALL P [aH] jM [aJ.enc ⟨bp,a1,cs,so⟩,a2.v,.int .i64 k] H Q:=by
 apply BK
 unfold jS
 have hol:=pl.o.1
 obtain⟨cl,hcl,cd⟩:=pl.card
 refine aO (fun y H'=>∃sp,aW eU H y.1.1 H' (sD B ts fs ol k) sp) (fun j hj=> ?_) (fun y H' h=>by obtain⟨sp,h⟩:=h; exact hq _ _ _ h)
 refine aY (fun(y:(Sl×Int×Unit)×Unit) H'=>∃(n:Nat) (sp:List Sg),y.1.2.1=n∧n≤ol.length∧aW eU H y.1.1 H' ((ol.take n).flatMap (gY B ts fs k)) sp) (fun y=>ol.length-y.1.2.1.toNat) ?_ ⟨0,[],rfl,Nat.zero_le _,by simpa using aW.nil' eU H⟩
 rintro G ⟨⟨out,i,_⟩,_⟩ H1 ⟨n,sp,hi,hn,no⟩ hG
 simp only at hi no; subst hi
 dsimp only at hG ⊢
 have f1:=no.2.2
 refine cu (fun hlt=> ?_) (fun hge=>hj _ _ ⟨sp,?_⟩)
 ·have hlt:n<ol.length:=by omega
  have hx:ol[n]? =some ol[n]:=List.getElem?_eq_getElem hlt
  have hm:ol[n]∈ol:=List.getElem_mem hlt
  generalize ol[n]=x at hx hm
  obtain⟨kx,t,c,g,ek,et,eg,cr,ecp,eck,egk,e4⟩:=cd x hm
  have hkl:kx<fs.length:=by rw[hfe]; exact(List.getElem?_eq_some_iff.1 et).1
  have hfx:fs[kx]? =some fs[kx]:=List.getElem?_eq_getElem hkl
  generalize fs[kx]=f at hfx
  have eft:Oj fs x=f:=yM ek hfx
  have tk:=A8 (gY B ts fs k) hx
  have hpre:((ol.take n).flatMap (gY B ts fs k)).length≤64:=by
   have:=uU (f:=gY B ts fs k) (c:=4) (l:=ol.take n) fun y hy=>by
    obtain⟨_,_,c',_,_,_,_,_,ecp',_,_,e4'⟩:=cd y (List.mem_of_mem_take hy)
    unfold gY
    split
    ·simp
    ·have:=QW (y+1) k (cpI B ts y)
     rw[ecp']at this ⊢; omega
   have h16:=pl.ot.few
   rw[List.length_take]at this
   omega
  refine aO (fun y H'=>∃sp,aW eU H y.1.1 H' ((ol.take (n+1)).flatMap (gY B ts fs k)) sp) (fun j2 hj2=> ?_) ?_
  ·refine aZ (T:=dX) uP (pl.o.bP f1 (by simp)) rfl hx rfl (uS (hf.bP f1 (by simp)) ek hfx (afe (bG (fun hM=> ?_) (fun hM=> ?_))))
   ·refine hj2 _ _ ⟨sp,?_⟩
    have:gY B ts fs k x=[]:=by unfold gY; rw[eft,if_pos hM]
    rw[tk,this,List.append_nil]; exact no
   ·have e1:gY B ts fs k x=ady (x+1) k c.ps:=by
     unfold gY; rw[eft,if_neg (by have hM:abh f.Traits 6=false:=hM; rw[hM]; decide),ecp]
    rw[e1]at tk
    refine QY (hcl.bP f1 (by simp)) ek eg ?_
    have hps:=cr.p
    have hpl:=hps.1
    refine aO (fun y H'=>∃sp,aW eU H y.1.1 H' ((ol.take (n+1)).flatMap (gY B ts fs k)) sp) (fun j3 hj3=> ?_) (fun y H' h=>hj2 _ _ h)
    refine aY (fun(y:(Sl×Int×Unit)×Unit) H'=>∃(i:Nat) (sp:List Sg),y.1.2.1=i∧i≤c.ps.length∧aW eU H y.1.1 H' ((ol.take n).flatMap (gY B ts fs k)++(c.ps.zipIdx.take i).flatMap (kN (x+1) k)) sp) (fun y=>c.ps.length-y.1.2.1.toNat) ?_ ⟨0,sp,rfl,Nat.zero_le _,by simpa using no⟩
    rintro G2 ⟨⟨out2,i2,_⟩,_⟩ H2 ⟨i,sp2,hi,hin,no2⟩ hG2
    simp only at hi no2; subst hi
    dsimp only at hG2 ⊢
    have f2:=no2.2.2
    refine cu (fun hlt2=> ?_) (fun hge2=>hj3 _ _ ⟨sp2,?_⟩)
    ·have hlt2:i<c.ps.length:=by omega
     have hy:c.ps[i]? =some c.ps[i]:=List.getElem?_eq_getElem hlt2
     have hz:c.ps.zipIdx[i]? =some (c.ps[i],i):=by rw[List.getElem?_zipIdx,hy]; simp
     generalize c.ps[i]=p at hy hz
     have tk2:=A8 (kN (x+1) k) hz
     have hpre2:((c.ps.zipIdx.take i).flatMap (kN (x+1) k)).length≤4:=by
      have:=uU (f:=kN (x+1) k) (c:=1) (l:=c.ps.zipIdx.take i) fun y _=>La _ _ y
      rw[List.length_take,List.length_zipIdx]at this
      omega
     refine QX (hps.bP f2 (by simp)) rfl hy (JD (p.When=5∧XJ p.Verb=k) (fun j4 hj4=>eP (fun e5=>aiK (hj4 _ (by simp[e5]))) (fun e5=>hj4 _ (by simp[e5]))) ?_)
     refine aO (fun y H'=>∃sp,aW eU H y.1.1 H' ((ol.take n).flatMap (gY B ts fs k)++(c.ps.zipIdx.take (i+1)).flatMap (kN (x+1) k)) sp) (fun j5 hj5=>cu (fun hc=> ?_) (fun hc=>hj5 _ _ ⟨sp2,?_⟩)) ?_
     ·have e2:kN (x+1) k (p,i)=[⟨x+1,i,p⟩]:=by unfold kN; rw[if_pos hc]
      have hkx:x+1≤9223372036854775807∧0≤x:=by
       have h1:=pl.ot.len
       omega
      rw[bT (by omega) (by omega)]
      refine qF BO rfl (fun _=>by simp) (m:=1) [(⟨x+1,i,p⟩:Sg)] rfl rfl (by rw[List.length_append]; show 2*(_+1)*4096≤_; omega) no2.1 fun s4 H5 sp5 k1 k2 k3=> ?_
      refine hj5 _ _ ⟨sp5,?_⟩
      rw[tk2,e2,←List.append_assoc]
      exact no2.app k1 k2 k3
     ·have e2:kN (x+1) k (p,i)=[]:=by unfold kN; rw[if_neg hc]
      rw[tk2,e2,List.append_nil]; exact no2
     ·rintro⟨⟨out3,_⟩,_⟩ H3 ⟨sp3,no3⟩
      rw[bT (by omega) (by omega)]
      exact hG2 _ _ ⟨i+1,sp3,by simp,hlt2,no3⟩ (by simp; omega)
    ·have:i=c.ps.length:=by omega
     subst this
     have e3:c.ps.zipIdx.take c.ps.length=c.ps.zipIdx:=by rw[←List.length_zipIdx (l:=c.ps) (i:=0),List.take_length]
     rw[e3]at no2
     rw[tk]; exact no2
  ·rintro⟨⟨out3,_⟩,_⟩ H3 ⟨sp3,no3⟩
   have:=pl.ot.few
   rw[bT (by omega) (by omega)]
   exact hG _ _ ⟨n+1,sp3,by simp,hlt,no3⟩ (by simp; omega)
 ·have:n=ol.length:=by omega
  subst this
  rw[List.take_length]at no; exact no
theorem adz(h:BP m H b se B ms)(okB:rD B){a1 a2:Sl}{ts:List Tg}{fs:List aB}(hs:dB gX H a1 ts)(hf:dB TF H a2 fs)(fla:Flat H a1)(okt:∀t∈ts,t.Stamp≤9223372036854775807)(okf:∀f∈fs,0≤f.Traits)(bts:ts.length≤1048600){k:Int}{Q:Sl×Int×Unit->Heap->Prop}
  (q1:∀H',dn se B ts fs≠0->bK [] H H'->Q (⟨none,0,0⟩,dn se B ts fs,()) H') (q2:∀H',dn se B ts fs=0->(k<1∨5<k)->bK [] H H'->Q (⟨none,0,0⟩,2,()) H')
  (q0:∀s ol H' sp,dn se B ts fs=0->Yg B ts fs->1≤k->k≤5->iU B ts ol->aW eU H s H' (sD B ts fs ol k) sp->Q (s,0,()) H'):
  CALL P [aH,dX] qQ [.pointer (some ⟨b,0,none⟩),a1.v,a2.v,.int .i64 k] H Q:=by
 apply MW
 unfold rJ
 refine Je h okB hs hf fla okt okf bts (fun p H' e f=>dI (by simpa using e) (q1 H' e f)) fun cs so ol H' e U0 pl f=>bC rfl ?_
 have hfe:fs.length=ts.length:=by
  refine Classical.byContradiction fun q=> ?_
  unfold dn at e
  split at e
  ·cases e
  ·rw[if_pos (.inr q)]at e; cases e
 refine hJ (k<1∨5<k) (fun j hj=>cu (fun h=>hj _ (by simp; omega)) (fun h=>hj _ (by simp; omega))) (fun hk=>q2 _ e hk f) (fun hk=> ?_)
 exact aiN pl (hf.bP f (by simp)) hfe fun s H2 sp no=>q0 s ol H2 sp e U0 (by omega) (by omega) pl.ot (no.older f)
end
end Go.Proofs.YtijnknjopjmiiaaGreatDoor.Zq
end
section
namespace Go.Proofs.YtijnknjopjmiiaaGreatDoor.Zq
open Zv
section
variable{H:Heap}{b m:Nat}{se:Bool}{B:List Cd}{ms:List au}
structure Gv(H:Heap)(a1 a2:Sl)(ts:List Tg)(fs:List Ft):Prop where
 s:dB gX H a1 ts
 f:dB TF H a2 fs
 fl:Flat H a1
 okt:∀t∈ts,t.Stamp≤9223372036854775807
 okf:∀f∈fs,0≤f.Traits
 len:ts.length≤1048600
variable{a1 a2:Sl}{ts:List Tg}{fs:List Ft}
theorem Gv.new{H':Heap}(h:Gv H a1 a2 ts fs)(f:bK [] H H'):Gv H' a1 a2 ts fs:=⟨h.s.bP f (by simp),h.f.bP f (by simp),h.fl.bP f,h.okt,h.okf,h.len⟩
theorem iM{e:dn se B ts fs=0}:se=true∧fs.length=ts.length∧ts.length≤2048∧Yg B ts fs:=by
 unfold dn at e
 split at e
 ·cases e
 ·rename_i h1
  split at e
  ·cases e
  ·rename_i h2
   split at e
   ·rename_i h3
    refine⟨?_,Classical.byContradiction fun q=>h2 (.inr q),by omega,h3⟩
    cases hs:se with
    |true=>rfl
    |false=>exact absurd (.inl hs) h2
   ·cases e
theorem aiO:Jq E dX 27 (0:Int):=tyI
theorem ajI(H:Heap)(c:List Value)(z:Nat):(mk H c z false)[H.length]? =some (.row c z false false true)∧bK [] H (mk H c z false)∧(mk H c z false).length=H.length+1:=⟨by simp[mk],bK.app _ _ _,by simp[mk]⟩
end
end Go.Proofs.YtijnknjopjmiiaaGreatDoor.Zq
end
section
namespace Go.Proofs.YtijnknjopjmiiaaGreatDoor.Zq
open Zv
section
variable{H:Heap}{b m:Nat}{se:Bool}{B:List Cd}{ms:List au}{a1 a2:Sl}{ts:List Tg}{fs:List Ft}
theorem jr{T T1:Tag}(hT:∀x,(T.cells x).length=T.n){s:Sl}{l:List T.α}(h:dB T H s l){i:Int}{n:Nat}{x:T.α}(hi:i=n)(hx:l[n]? =some x){sz:Nat}(hz:sz=T.n)(pre post:List Value){v:T1.α}{of:Nat}
  (hcut:T.cells x=pre++(T1.cells v++post)) (hpre:pre.length=of) (hn:(T1.cells v).length=T1.n) {K:T1.α->Prop} (hK:K v):bQ s.p s.len i sz fun b o=>LD T1 H b (o+of) K:=by
 have hl:=(List.getElem?_eq_some_iff.1 hx).1
 obtain⟨h1,⟨_,h2,_⟩|⟨_,_,_,h2,_⟩|⟨b,A,B,z,o,ro,h3,h4⟩⟩:=h
 ·subst h2; simp at hl
 ·subst h2; simp at hl
 ·subst hi; subst hz
  unfold bQ NIL
  rw[h3]
  refine⟨⟨by omega,by omega⟩,?_⟩
  refine dV (T:=T1) v (A++(fl T (l.take n)++pre)) (post++(fl T (l.drop (n+1))++B)) h4 ?_ ?_ hn hK
  ·rw[iZ (T:=T) l n x hx,hcut]; simp[List.append_assoc]
  ·rw[List.length_append,List.length_append,dD hT,List.length_take,Nat.min_eq_left (by omega),Int.toNat_natCast,hpre]
   omega
theorem kS{s:Sl}{l:List Tg}(h:dB gX H s l){i:Int}{n:Nat}{x:Tg}(hi:i=n)(hx:l[n]? =some x){K:Int->Prop}(hK:K x.Place):bQ s.p s.len i 11 fun b o=>LD (aj .u8) H b (o+2) K:=
 jr (T:=gX) (T1:=aj .u8) GX h hi hx rfl ((gX.cells x).take 2) ((gX.cells x).drop 3) rfl rfl rfl hK
theorem Vz{s:Sl}{l:List Tg}(h:dB gX H s l){i:Int}{n:Nat}{x:Tg}(hi:i=n)(hx:l[n]? =some x){K:Int->Prop}(hK:K x.Card):bQ s.p s.len i 11 fun b o=>LD dX H b (o+0) K:=
 jr (T:=gX) (T1:=dX) GX h hi hx rfl [] ((gX.cells x).drop 1) rfl rfl rfl hK
theorem D6{s:Sl}{l:List Ft}(h:dB TF H s l){i:Int}{n:Nat}{x:Ft}(hi:i=n)(hx:l[n]? =some x){K:Int->Prop}(hK:K x.Holder):bQ s.p s.len i 5 fun b o=>LD dX H b (o+0) K:=
 jr (T:=TF) (T1:=dX) KZ h hi hx rfl [] ((TF.cells x).drop 1) rfl rfl rfl hK
theorem VA{s:Sl}{l:List Pt}(h:dB TP H s l){i:Int}{n:Nat}{x:Pt}(hi:i=n)(hx:l[n]? =some x){K:Int->Prop}(hK:K x.When):bQ s.p s.len i 8 fun b o=>LD (aj .u8) H b (o+0) K:=
 jr (T:=TP) (T1:=aj .u8) hTP h hi hx rfl [] ((TP.cells x).drop 1) rfl rfl rfl hK
theorem afh{s:Sl}{l:List Pt}(h:dB TP H s l){i:Int}{n:Nat}{x:Pt}(hi:i=n)(hx:l[n]? =some x){K:Int->Prop}(hK:K x.Verb):bQ s.p s.len i 8 fun b o=>LD (aj .u8) H b (o+1) K:=
 jr (T:=TP) (T1:=aj .u8) hTP h hi hx rfl ((TP.cells x).take 1) ((TP.cells x).drop 2) rfl rfl rfl hK
theorem afi(h:BD m H b se B ms)(okB:rD B){n:Int}{Q:aA×Int×Unit->Heap->Prop}(q6:(se=false∨n<1∨(B.length:Int)<n)->Q (zC,6,()) H)
  (q0:∀c g H',se=true->1≤n->B[(n-1).toNat]? =some c->CR H.length H' g c->bK [] H H'->Q (g,0,()) H'):CALL P [TC,dX] fJ [.pointer (some ⟨b,0,none⟩),.int .i64 n] H Q:=by
 apply NS
 unfold rZ
 refine qy h (bC rfl ?_)
 have few:=h.few
 obtain⟨⟨s,gs,ns,w,hs,lo,hl,hc⟩,_,lt,ml⟩:=id h
 have hsl:=hs.1
 refine hJ (se=false∨n<1∨(B.length:Int)<n) (fun j hj=>w.FD rfl (bG (fun e=>hj _ ?_) (fun e=>cu (fun h1=>hj _ ?_) (fun h1=>w.NW rfl (hj _ ?_))))) q6 (fun hN=> ?_)
 ·simp only[true_iff]; exact .inl (by simpa using e)
 ·simp only[true_iff]; exact .inr (.inl h1)
 ·have:¬se=false:=by simpa using e
  simp only[decide_eq_true_eq]; constructor
  ·exact fun q=>.inr (.inr (by omega))
  ·rintro(q|q|q)
   ·exact absurd q this
   ·exact absurd q h1
   ·omega
 ·have hse:se=true:=by cases hs:se with|true=>rfl|false=>exact absurd (.inl hs) hN
  have h1:¬n<1:=fun q=>hN (.inr (.inl q))
  have h2:¬(B.length:Int)<n:=fun q=>hN (.inr (.inr q))
  have hx:B[(n-1).toNat]? =some (B[(n-1).toNat]'(by omega)):=List.getElem?_eq_getElem (by omega)
  generalize (B[(n-1).toNat]'(by omega))=c at hx
  obtain⟨g,hg,cr⟩:=hc _ c hx
  have hp4:=okB.p4 (List.mem_of_getElem? hx)
  rw[bT (x:=n-1) (by omega) (by omega)]
  exact w.NW rfl (aZ (T:=TC) hTC hs (n:=(n-1).toNat) (by omega) hg rfl (acv cr.p (by omega) fun s H' hs lo f=>q0 c _ H' hse (by omega) hx ⟨by rw[←cr.e]; rfl,hs,lo⟩ f))
theorem adA(h:BD m H b se B ms)(okB:rD B){t:Tg}{Q:aA×Int×Unit->Heap->Prop}(q6:(se=false∨t.Card<1∨(B.length:Int)<t.Card)->Q (zC,6,()) H)
  (q0:∀c g H',se=true->1≤t.Card->B[(t.Card-1).toNat]? =some c->CR H.length H' g c->bK [] H H'->Q (g,0,()) H'):CALL P [TC,dX] zV [.pointer (some ⟨b,0,none⟩),gX.enc t] H Q:=by
 apply Xm
 unfold AA
 exact qy h (bC rfl (afi h okB q6 q0))
theorem adB{n:Nat}{t:Tg}(hx:ts[n]? =some t):(jo ts (n+1)).length=(jo ts n).length+if t.Place=4 then 1 else 0:=by
 simp only[jo,hx,Option.map_some,Option.some.injEq,List.length_append]
 split<;>rfl
theorem aiP(h:BD m H b se B ms)(okB:rD B)(hs:dB gX H a1 ts)(hf:dB TF H a2 fs){Q:Bool×Unit->Heap->Prop}(hq:∀r H',(r=true↔dn se B ts fs=0)->bK [] H H'->Q (r,()) H'):
  CALL P [ah] oV [.pointer (some ⟨b,0,none⟩),a1.v,a2.v] H Q:=by
 apply KR
 unfold pU
 have hsl:=hs.1
 have hfl:=hf.1
 refine hJ (se=false∨2048<ts.length∨fs.length≠ts.length) (fun j hj=>KX h (bG (fun e=>hj _ ?_) (fun e=>cu (fun e1=>hj _ ?_) (fun e1=>hj _ ?_)))) (fun hb=>hq _ _ ⟨fun e=>(by cases e),fun e=> ?_⟩ (.refl _ _)) (fun hg=> ?_)
 ·simp only[true_iff]; exact .inl (by simpa using e)
 ·simp only[true_iff]; exact .inr (.inl (by omega))
 ·have:¬se=false:=by simpa using e
  simp only[bne_iff_ne,ne_eq]
  constructor
  ·intro q; exact .inr (.inr (by omega))
  ·rintro(q|q|q)
   ·exact absurd q this
   ·omega
   ·omega
 ·obtain⟨e1,e2,e3,_⟩:=iM (e:=e)
  rcases hb with q|q|q
  ·rw[e1]at q; cases q
  ·omega
  ·exact absurd e2 q
 have hse:se=true:=by cases hs:se with|true=>rfl|false=>exact absurd (.inl hs) hg
 have hlen:¬2048<ts.length:=fun q=>hg (.inr (.inl q))
 have hfe:fs.length=ts.length:=Classical.byContradiction fun q=>hg (.inr (.inr q))
 have bad:∀H',¬Yg B ts fs->bK [] H H'->Q (false,()) H':=fun H' hn f=>hq _ _ ⟨fun q=>(by cases q),fun e=>absurd (iM (e:=e)).2.2.2 hn⟩ f
 refine aO (fun _ H'=>bK [] H H'∧Yg B ts fs) (fun j hj=> ?_) (fun _ H' hh=>hq _ _ ⟨fun _=>(abg hlen (by intro q; rcases q with q|q; exact absurd q (by rw[hse]; decide); exact q hfe)).1 hh.2,fun _=>rfl⟩ hh.1)
 refine aY (fun(y:(Int×Int×Unit)×Unit) H'=>∃n:Nat,y.1.2.1=n∧n≤ts.length∧y.1.1=((jo ts n).length:Int)∧bK [] H H'∧(∀(i:Nat) t f,i<n->ts[i]? =some t->fs[i]? =some f->QU B t f)∧(jo ts n).length≤16∧(∀(i j:Nat) t u,i<j->j<n->ts[i]? =some t->ts[j]? =some u->t.Place=4->u.Place=4->t.Stamp≠u.Stamp)) (fun y=>ts.length-y.1.2.1.toNat) ?_
  ⟨0,rfl,Nat.zero_le _,rfl,.refl _ _,fun i t f hi=>by omega,by simp[jo],fun i j t u _ hj=>by omega⟩
 rintro G ⟨⟨many,i,_⟩,_⟩ H1 ⟨n,hi,hn,hm,f1,ok,few,dst⟩ hG
 simp only at hi hm; subst hi; subst hm
 dsimp only at hG ⊢
 refine cu (fun hlt=> ?_) (fun hge=>hj _ _ ?_)
 ·have hlt:n<ts.length:=by omega
  have hx:ts[n]? =some ts[n]:=List.getElem?_eq_getElem hlt
  have hy:fs[n]? =some (fs[n]'(by omega)):=List.getElem?_eq_getElem (by omega)
  have _hmf:fs[n]'(by omega)∈fs:=List.getElem_mem (by omega)
  generalize ts[n]=t at hx
  generalize (fs[n]'(by omega))=f at hy _hmf
  have tl:=adB hx
  have notog:¬QU B t f->¬Yg B ts fs:=fun q k=>q (k.all n t f hx hy)
  have h1:=h.new f1
  have hs1:=hs.bP f1 (by simp)
  have hf1:=hf.bP f1 (by simp)
  refine aO (fun(y:(Int×Unit)×Unit) H'=>bK [] H H'∧y.1.1=((jo ts (n+1)).length:Int)∧QU B t f∧(jo ts (n+1)).length≤16∧∀(i:Nat) u,i<n->ts[i]? =some u->u.Place=4->t.Place=4->u.Stamp≠t.Stamp) (fun j2 hj2=> ?_) ?_
  ·refine aZ (T:=gX) GX hs1 rfl hx rfl (afi h1 okB (fun q=> ?_) (fun c g H9 _ hc1 hcx cr f9=> ?_))
   ·refine aX (dI rfl (dI rfl (bad _ (notog ?_) f1)))
    rintro⟨c,k1,k2,_⟩
    have:=(List.getElem?_eq_some_iff.1 k2).1
    rcases q with q|q|q
    ·rw[hse]at q; cases q
    ·omega
    ·omega
   have okiff:QU B t f↔(t.Owner=0∨t.Owner=1)∧1≤t.Place∧t.Place≤5∧(t.Place=4->c.g.Kind≠2∧1≤t.Stamp∧(f.Holder=0∨f.Holder=1)∧f.Traits<256):=by
    constructor
    ·rintro⟨c',k1,k2,k3⟩
     rw[hcx]at k2; cases k2; exact k3
    ·exact fun q=>⟨c,hc1,hcx,q⟩
   have f09:bK [] H H9:=f1.trans f9
   have hs9:=hs1.bP f9 (by simp)
   have hf9:=hf1.bP f9 (by simp)
   refine hJ (¬(t.Owner=0∨t.Owner=1)∨t.Place<1∨5<t.Place) (fun j3 hj3=>bC rfl (cu (fun e1=>hj3 _ (by simp; omega)) (fun e1=>cu (fun e2=>hj3 _ (by simp; omega)) (fun e2=>cu (fun e3=>hj3 _ (by simp; omega)) (fun e3=>hj3 _ (by simp; omega)))))) (fun q=>bad _ (notog fun k=> ?_) f09) (fun hA=> ?_)
   ·have:=okiff.1 k; omega
   refine yO (fun hp4=> ?_) (fun hp4=> ?_)
   ·rw[if_neg hp4]at tl
    exact hj2 _ _ ⟨f09,by rw[tl]; rfl,okiff.2 ⟨by omega,by omega,by omega,fun q=>absurd q hp4⟩,by omega,fun i u _ _ _ q=>absurd q hp4⟩
   ·rw[if_pos hp4]at tl
    have hkd:g.Kind=c.g.Kind:=by rw[←cr.e]; rfl
    rw[bT (by omega) (by omega)]
    refine hJ (16<(jo ts (n+1)).length∨c.g.Kind=2∨t.Stamp<1∨¬(f.Holder=0∨f.Holder=1)∨¬f.Traits<256) (fun j3 hj3=> ?_) (fun q=>bad _ (fun k=> ?_) f09) (fun hB=> ?_)
    ·rw[hkd]
     refine cu (fun e=>hj3 _ (by simp; omega)) (fun e=>eP (fun e1=>hj3 _ (by simp; omega)) (fun e1=>cu (fun e2=>hj3 _ (by simp; omega)) (fun e2=>D6 hf9 rfl hy (cu (fun e3=>hj3 _ (by simp; omega)) (fun e3=>D6 hf9 rfl hy (cu (fun e4=>hj3 _ (by simp; omega)) (fun e4=>uS hf9 rfl hy (Vt (hj3 _ (by simp; omega))))))))))
    ·rcases q with q|q
     ·have:=k.few
      have:=Vx (ts:=ts) (n:=n+1) (k:=ts.length-(n+1))
      rw[show n+1+(ts.length-(n+1))=ts.length by omega]at this
      omega
     ·have:=(okiff.1 (k.all n t f hx hy)).2.2.2 hp4; omega
    have okn:QU B t f:=okiff.2 ⟨by omega,by omega,by omega,fun _=>⟨by omega,by omega,by omega,by omega⟩⟩
    refine aO (fun _ H'=>H'=H9∧∀(i:Nat) u,i<n->ts[i]? =some u->u.Place=4->u.Stamp≠t.Stamp) (fun j4 hj4=> ?_) ?_
    ·refine aY (fun(y:(Int×Unit)×Unit) H'=>H'=H9∧∃k:Nat,y.1.1=k∧k≤n∧∀(i:Nat) u,i<k->ts[i]? =some u->u.Place=4->u.Stamp≠t.Stamp) (fun y=>n-y.1.1.toNat) ?_ ⟨rfl,0,rfl,Nat.zero_le _,fun i u hi=>by omega⟩
     rintro G2 ⟨⟨i2,_⟩,_⟩ H' ⟨rfl,k,hk,hkn,no⟩ hG2
     simp only at hk; subst hk
     dsimp only at hG2 ⊢
     refine cu (fun hlt2=> ?_) (fun hge2=>hj4 _ _ ⟨rfl,fun i u w1 w2 w3=>no i u (by omega) w2 w3⟩)
     have hz:ts[k]? =some (ts[k]'(by omega)):=List.getElem?_eq_getElem (by omega)
     generalize (ts[k]'(by omega))=u at hz
     refine hJ (u.Place=4∧u.Stamp=t.Stamp) (fun j5 hj5=>kS hs9 rfl hz (eP (fun e=>fP hs9 rfl hz (hj5 _ (by simp[e]))) (fun e=>hj5 _ (by simp[e])))) (fun q=>bad _ (fun w=> ?_) f09) (fun q=> ?_)
     ·exact w.dst k n u t (by omega) hz hx q.1 hp4 q.2
     ·rw[bT (by omega) (by omega)]
      refine hG2 _ _ ⟨rfl,k+1,by simp,by omega,fun i v w1 w2 w3=> ?_⟩ (by simp; omega)
      by_cases e:i=k
      ·subst e; rw[hz]at w2; cases w2; exact fun w=>q ⟨w3,w⟩
      ·exact no i v (by omega) w2 w3
    ·rintro _ H' ⟨rfl,no⟩
     exact hj2 _ _ ⟨f09,by rw[tl]; rfl,okn,by omega,fun i u w1 w2 w3 _=>no i u w1 w2 w3⟩
  ·rintro⟨⟨mm,_⟩,_⟩ H2 ⟨f2,hmm,okn,few2,no⟩
   simp only at hmm; subst hmm
   dsimp only
   rw[bT (by omega) (by omega)]
   refine hG _ _ ⟨n+1,by simp,hlt,rfl,f2,fun i t' f' w1 w2 w3=> ?_,few2,fun i j t' u' w1 w2 w3 w4 w5 w6=> ?_⟩ (by simp; omega)
   ·by_cases e:i=n
    ·subst e; rw[hx]at w2; cases w2; rw[hy]at w3; cases w3; exact okn
    ·exact ok i t' f' (by omega) w2 w3
   ·by_cases e:j=n
    ·subst e; rw[hx]at w4; cases w4; exact no i t' w1 w3 w5 w6
    ·exact dst i j t' u' w1 (by omega) w3 w4 w5 w6
 ·have:n=ts.length:=by omega
  subst this
  refine⟨f1,fun i t f w1 w2=>ok i t f (List.getElem?_eq_some_iff.1 w1).1 w1 w2,few,fun i j t u hij w1 w2 w3 w4=> ?_⟩
  rcases Nat.lt_or_gt_of_ne hij with q|q
  ·exact dst i j t u q (List.getElem?_eq_some_iff.1 w2).1 w1 w2 w3 w4
  ·exact fun e=>dst j i u t q (List.getElem?_eq_some_iff.1 w1).1 w2 w1 w4 w3 e.symm
theorem QZ(h:BD m H b se B ms)(okB:rD B)(hs:dB gX H a1 ts)(hf:dB TF H a2 fs){Q:Int×Unit->Heap->Prop}(hq:∀H',bK [] H H'->Q (dn se B ts fs,()) H'):
  CALL P [dX] lQ [.pointer (some ⟨b,0,none⟩),a1.v,a2.v] H Q:=by
 apply Ui
 unfold yj
 have hsl:=hs.1
 refine qy h (bC rfl (cu (fun e=> ?_) (fun e=>aiP h okB hs hf fun r H' hr f=>bG (fun e1=> ?_) (fun e1=> ?_))))
 ·have e1:dn se B ts fs=3:=by unfold dn; rw[if_pos (by omega)]
  have:=hq H (.refl _ _); rwa [e1]at this
 ·have e1:(!r)=true:=e1
  have e2:dn se B ts fs=2:=by
   have h0:¬dn se B ts fs=0:=fun q=>by rw[hr.2 q]at e1; cases e1
   unfold dn at h0 ⊢
   rw[if_neg (by omega)]at h0 ⊢
   split
   ·rfl
   ·rename_i w; rw[if_neg w]at h0
    split
    ·rename_i w2; rw[if_pos w2]at h0; exact absurd rfl h0
    ·rfl
  have:=hq H' f; rwa [e2]at this
 ·have e2:dn se B ts fs=0:=hr.1 (by have e1:(!r)=false:=e1; simpa using e1)
  have:=hq H' f; rwa [e2]at this
end
end Go.Proofs.YtijnknjopjmiiaaGreatDoor.Zq
end
section
namespace Go.Proofs.YtijnknjopjmiiaaGreatDoor.Zq
open Zv
section
variable{H:Heap}{b m:Nat}{B:List Cd}{ms:List au}{a1 a2:Sl}{ts:List Tg}{fs:List Ft}{ol:List Int}
structure Rt(m:Nat)(H:Heap)(b:Nat)(B:List Cd)(ms:List au)(a1:Sl)(ts:List Tg)(ol:List Int):Prop where
 bk:BD m H b true B ms
 ok:rD B
 s:dB gX H a1 ts
 ot:iU B ts ol
theorem Rt.new{H':Heap}(h:Rt m H b B ms a1 ts ol)(f:bK [] H H'):Rt m H' b B ms a1 ts ol:=⟨h.bk.new f,h.ok,h.s.bP f (by simp),h.ot⟩
theorem jv{x:Int}{k:Nat}{t:Tg}(e:x=k)(h:ts[k]? =some t):bH ts x.toNat=t.Stamp:=by subst e; simp[bH,h]
theorem aad(hs:dB gX H a1 ts)(ot:iU B ts ol){Q:Sl×Unit->Heap->Prop}(hq:∀s H' sp,aW dX H s H' (ol.map (· +1)) sp->Q (s,()) H'):CALL P [aH] qx [a1.v] H Q:=by
 apply UL
 unfold yJ
 have hsl:=hs.1
 have hlen:=ot.len
 have few:=ot.few
 refine aO (fun _ _=>False) (fun j hj=> ?_) (fun _ _ h=>h.elim)
 refine aY (fun(y:(Sl×Int×Unit)×Unit) H'=>∃(k:Nat) (sp:List Int),k≤ol.length∧aW dX H y.1.1 H' ((ol.take k).map (· +1)) sp∧(k=0->y.1.2.1=0)∧(∀x,1≤k->ol[k-1]? =some x->y.1.2.1=bH ts x.toNat)) (fun y=>ol.length-y.1.1.len) ?_ ⟨0,[],Nat.zero_le _,by simpa using aW.nil' dX H,fun _=>rfl,fun x h=>by omega⟩
 rintro G ⟨⟨out,last,_⟩,_⟩ H1 ⟨k,sp,hk,no,l0,l1⟩ hG
 simp only at no l0 l1
 dsimp only at hG ⊢
 have hol:out.len=k:=by have:=no.1.1; simp at this; omega
 have hs1:=hs.bP no.2.2 (by simp)
 have gt:∀(p:Nat) x,k≤p->ol[p]? =some x->last<bH ts x.toNat:=fun p x hp hx=>by
  obtain⟨kx,t,c,e1,e2,e3,e4,e5,e6,_⟩:=ot.at' x (List.mem_of_getElem? hx)
  rw[jv e1 e2]
  by_cases h0:k=0
  ·rw[l0 h0]; omega
  ·have hz:ol[k-1]? =some (ol[k-1]'(by omega)):=List.getElem?_eq_getElem (by omega)
   have:=ot.srt (k-1) p _ x (by omega) hz hx
   rw[l1 _ (by omega) hz,←jv e1 e2]; exact this
 have le:∀(p:Nat) x,p<k->ol[p]? =some x->bH ts x.toNat≤last:=fun p x hp hx=>by
  have hz:ol[k-1]? =some (ol[k-1]'(by omega)):=List.getElem?_eq_getElem (by omega)
  rw[l1 _ (by omega) hz]
  by_cases e:p=k-1
  ·subst e; rw[hx]at hz; cases hz; exact Int.le_refl _
  ·have:=ot.srt p (k-1) x _ (by omega) hx hz; omega
 refine aO (fun(y:(Sl×Int×Unit)×Unit) H'=>∃sp,k<ol.length∧aW dX H y.1.1 H' ((ol.take (k+1)).map (· +1)) sp∧∀x,ol[k]? =some x->y.1.2.1=bH ts x.toNat) (fun j2 hj2=> ?_) ?_
 ·refine aO (fun(y:(Int×Unit)×Unit) H'=>H'=H1∧((y.1.1= -1∧∀(j:Nat) t,ts[j]? =some t->t.Place=4->t.Stamp≤last)∨∃(bn:Nat) (t:Tg),y.1.1=bn∧ts[bn]? =some t∧t.Place=4∧last<t.Stamp∧∀(j:Nat) u,ts[j]? =some u->u.Place=4->last<u.Stamp->t.Stamp≤u.Stamp)) (fun j3 hj3=> ?_) ?_
  ·refine aY (fun(y:(Int×Int×Unit)×Unit) H'=>H'=H1∧∃n:Nat,y.1.2.1=n∧n≤ts.length∧((y.1.1= -1∧∀(j:Nat) t,j<n->ts[j]? =some t->t.Place=4->t.Stamp≤last)∨∃(bn:Nat) (t:Tg),y.1.1=bn∧ts[bn]? =some t∧t.Place=4∧last<t.Stamp∧∀(j:Nat) u,j<n->ts[j]? =some u->u.Place=4->last<u.Stamp->t.Stamp≤u.Stamp)) (fun y=>ts.length-y.1.2.1.toNat) ?_
    ⟨rfl,0,rfl,Nat.zero_le _,.inl ⟨rfl,fun j t h=>by omega⟩⟩
   rintro G2 ⟨⟨best,i,_⟩,_⟩ H' ⟨rfl,n,hi,hn,inv⟩ hG2
   simp only at hi inv; subst hi
   dsimp only at hG2 ⊢
   refine cu (fun hlt=> ?_) (fun hge=>hj3 _ _ ⟨rfl,?_⟩)
   ·have hlt:n<ts.length:=by omega
    have hx:ts[n]? =some ts[n]:=List.getElem?_eq_getElem hlt
    generalize ts[n]=t at hx
    have step:∀r:Bool,(r=true↔(t.Place=4∧last<t.Stamp∧(best= -1∨∃(bn:Nat) (v:Tg),best=bn∧ts[bn]? =some v∧t.Stamp<v.Stamp)))->JOIN (fun(j25:(Int×Unit)×(Unit)->Heap->Prop)=>aN r (j25 (((n:Int),()),(())) H') (j25 ((best,()),(())) H')) fun(y26:(Int×Unit)×(Unit)) H7=>G2 ((y26.1.1,IntKind.wrap .i64 ((n:Int)+1),()),(())) H7:=fun r hr=>by
     refine bG (fun e=> ?_) (fun e=> ?_)
     ·obtain⟨w1,w2,w3⟩:=hr.1 e
      dsimp only
      rw[bT (by omega) (by omega)]
      refine hG2 _ _ ⟨rfl,n+1,by simp,hlt,.inr ⟨n,t,rfl,hx,w1,w2,fun j u h1 h2 h3 h4=> ?_⟩⟩ (by simp; omega)
      by_cases ej:j=n
      ·subst ej; rw[hx]at h2; cases h2; exact Int.le_refl _
      ·rcases inv with⟨i1,i2⟩|⟨bn,v,i1,i2,i3,i4,i5⟩
       ·have:=i2 j u (by omega) h2 h3; omega
       ·rcases w3 with w|⟨bn',v',q1,q2,q3⟩
        ·omega
        ·have:bn'=bn:=by omega
         subst this; rw[i2]at q2; cases q2
         have:=i5 j u (by omega) h2 h3 h4; omega
     ·have hnr:¬(t.Place=4∧last<t.Stamp∧(best= -1∨∃(bn:Nat) (v:Tg),best=bn∧ts[bn]? =some v∧t.Stamp<v.Stamp)):=fun q=>by
       have e:r=false:=e
       rw[hr.2 q]at e; cases e
      dsimp only
      rw[bT (by omega) (by omega)]
      refine hG2 _ _ ⟨rfl,n+1,by simp,hlt,?_⟩ (by simp; omega)
      rcases inv with⟨i1,i2⟩|⟨bn,v,i1,i2,i3,i4,i5⟩
      ·refine .inl ⟨i1,fun j u h1 h2 h3=> ?_⟩
       by_cases ej:j=n
       ·subst ej; rw[hx]at h2; cases h2
        exact Classical.byContradiction fun q=>hnr ⟨h3,by omega,.inl i1⟩
       ·exact i2 j u (by omega) h2 h3
      ·refine .inr ⟨bn,v,i1,i2,i3,i4,fun j u h1 h2 h3 h4=> ?_⟩
       by_cases ej:j=n
       ·subst ej; rw[hx]at h2; cases h2
        exact Classical.byContradiction fun q=>hnr ⟨h3,h4,.inr ⟨bn,v,i1,i2,by omega⟩⟩
       ·exact i5 j u (by omega) h2 h3 h4
    refine aO (fun(y:(Bool×Unit)×Unit) H2=>H2=H'∧(y.1.1=true↔(t.Place=4∧last<t.Stamp∧(best= -1∨∃(bn:Nat) (v:Tg),best=bn∧ts[bn]? =some v∧t.Stamp<v.Stamp)))) (fun j4 hj4=> ?_) ?_
    ·refine kS hs1 rfl hx (eP (fun e1=>fP hs1 rfl hx (cu (fun e2=> ?_) (fun e2=>hj4 _ _ ⟨rfl,by simp; omega⟩))) (fun e1=>hj4 _ _ ⟨rfl,by simp[e1]⟩))
     rcases inv with⟨i1,i2⟩|⟨bn,v,i1,i2,i3,i4,i5⟩
     ·exact dI (by simp; omega) (hj4 _ _ ⟨rfl,by simp[i1,e1]; omega⟩)
     ·refine bC (by simp; omega) (fP hs1 rfl hx (fP hs1 i1 i2 (hj4 _ _ ⟨rfl,?_⟩)))
      simp only[decide_eq_true_eq]
      constructor
      ·intro q; exact⟨e1,by omega,.inr ⟨bn,v,i1,i2,q⟩⟩
      ·rintro⟨_,_,q|⟨bn',v',q1,q2,q3⟩⟩
       ·omega
       ·have:bn'=bn:=by omega
        subst this; rw[i2]at q2; cases q2; exact q3
    ·rintro⟨⟨r,_⟩,_⟩ H2 ⟨rfl,hr⟩
     exact step r hr
   ·have:n=ts.length:=by omega
    subst this
    rcases inv with⟨i1,i2⟩|⟨bn,v,i1,i2,i3,i4,i5⟩
    ·exact .inl ⟨i1,fun j t h=>i2 j t (List.getElem?_eq_some_iff.1 h).1 h⟩
    ·exact .inr ⟨bn,v,i1,i2,i3,i4,fun j u h=>i5 j u (List.getElem?_eq_some_iff.1 h).1 h⟩
  ·rintro⟨⟨best,_⟩,_⟩ H' ⟨rfl,inv⟩
   dsimp only at inv ⊢
   rcases inv with⟨i1,i2⟩|⟨bn,v,i1,i2,i3,i4,i5⟩
   ·refine dI (by simp; omega) ?_
    have hkl:k=ol.length:=by
     refine Classical.byContradiction fun q=> ?_
     have hz:ol[k]? =some (ol[k]'(by omega)):=List.getElem?_eq_getElem (by omega)
     have h1:=gt k _ (Nat.le_refl _) hz
     obtain⟨kx,t,c,e1,e2,e3,_⟩:=ot.at' _ (List.mem_of_getElem? hz)
     rw[jv e1 e2]at h1
     have:=i2 kx t e2 e3; omega
    subst hkl
    rw[List.take_length]at no
    exact hq _ _ _ no
   ·have hm:=ot.all bn v i2 i3
    obtain⟨p,hp⟩:=List.mem_iff_getElem?.1 hm
    have sv:bH ts ((bn:Int)).toNat=v.Stamp:=jv rfl i2
    have hpk:p=k:=by
     rcases Nat.lt_trichotomy p k with w|w|w
     ·have:=le p _ w hp; omega
     ·exact w
     ·have hpl:=(List.getElem?_eq_some_iff.1 hp).1
      have hz:ol[k]? =some (ol[k]'(by omega)):=List.getElem?_eq_getElem (by omega)
      have h1:=gt k _ (Nat.le_refl _) hz
      have h2:=ot.srt k p _ _ w hz hp
      obtain⟨kx,t,c,e1,e2,e3,_⟩:=ot.at' _ (List.mem_of_getElem? hz)
      rw[jv e1 e2]at h1 h2
      have:=i5 kx t e2 e3 h1; omega
    subst hpk
    have hpl:=(List.getElem?_eq_some_iff.1 hp).1
    have hbl:=(List.getElem?_eq_some_iff.1 i2).1
    subst i1
    refine bC (by simp) ?_
    rw[bT (by omega) (by omega)]
    refine qF aiO rfl (fun _=>by simp) (m:=1) [(bn:Int)+1] rfl rfl (by simp only[List.length_map,List.length_take,List.length_cons,List.length_nil]; omega) no.1 fun s4 H5 sp5 k1 k2 k3=> ?_
    have no5:=no.app k1 k2 k3
    refine fP (hs.bP no5.2.2 (by simp)) rfl i2 (hj2 _ _ ⟨sp5,hpl,?_,fun x hx=> ?_⟩)
    ·rw[List.take_add_one,hp]; simpa using no5
    ·rw[hp]at hx; cases hx; exact sv.symm
 ·rintro⟨⟨out2,last2,_⟩,_⟩ H2 ⟨sp2,hkl,no2,hl2⟩
  have hol2:out2.len=k+1:=by have:=no2.1.1; simp at this; omega
  exact hG _ _ ⟨k+1,sp2,hkl,no2,fun h=>by omega,fun x _ hx=>hl2 x hx⟩ (by simp only; omega)
theorem Rt.card(h:Rt m H b B ms a1 ts ol){x:Int}(hx:x∈ol):∃(k:Nat) (t:Tg) (c:Cd),x=k∧ts[k]? =some t∧t.Place=4∧1≤t.Card∧B[(t.Card-1).toNat]? =some c∧cpI B ts x=c.ps∧ckI B ts x=c.g.Kind∧c.ps.length≤4∧k<2048:=by
 obtain⟨k,t,c,e1,e2,e3,e4,e5,e6,e7,e8⟩:=h.ot.at' x hx
 have:=h.ot.len
 have hk:=(List.getElem?_eq_some_iff.1 e2).1
 have hcd:cdI B ts x=some c:=by subst e1; unfold cdI; rw[Int.toNat_natCast,e2]; exact e5
 exact⟨k,t,c,e1,e2,e3,e4,e5,by unfold cpI; rw[hcd]; rfl,by unfold ckI; rw[hcd]; rfl,e8,by omega⟩
theorem abm(h:Rt m H b B ms a1 ts ol){t:Tg}{c:Cd}(h1:1≤t.Card)(hc:B[(t.Card-1).toNat]? =some c){Q:aA×Int×Unit->Heap->Prop}(hq:∀g H',CR H.length H' g c->bK [] H H'->Q (g,0,()) H'):CALL P [TC,dX] fJ [.pointer (some ⟨b,0,none⟩),.int .i64 t.Card] H Q:=by
 refine afi h.bk h.ok (fun q=> ?_) fun c' g H' _ _ hc' cr f=> ?_
 ·have:=(List.getElem?_eq_some_iff.1 hc).1
  rcases q with q|q|q
  ·cases q
  ·omega
  ·omega
 ·rw[hc]at hc'; cases hc'; exact hq g H' cr f
theorem aha(h:Rt m H b B ms a1 ts ol){x:Int}(hx:x∈ol){k:Nat}{t:Tg}(hk:x=k)(ht:ts[k]? =some t){Q:Bool×Unit->Heap->Prop}(hq:∀H',bK [] H H'->Q (ckI B ts x==1,()) H'):CALL P [ah] zZ [.pointer (some ⟨b,0,none⟩),gX.enc t] H Q:=by
 apply Xz
 unfold AV
 obtain⟨k',t',c,e1,e2,e3,e4,e5,e6,e7,e8,e9⟩:=h.card hx
 have:k'=k:=by omega
 subst this; rw[ht]at e2; cases e2
 refine abm h e4 e5 fun g H' cr f=>aX (dI (by simpa using e3) ?_)
 have hg:g.Kind=c.g.Kind:=by rw[←cr.e]; rfl
 have:=hq H' f
 rw[e7,←hg]at this; exact this
theorem afj(h:Rt m H b B ms a1 ts ol)(hf:dB TF H a2 fs)(hfe:fs.length=ts.length){s:Sg}(hs:s.Thing-1∈ol){x:Int}(hx:x∈ol){Q:Bool×Unit->Heap->Prop}(hq:∀H',bK [] H H'->Q (DX B ts fs s x,()) H'):
  CALL P [ah] xw [.pointer (some ⟨b,0,none⟩),a1.v,a2.v,eU.enc s,.int .i64 (x+1)] H Q:=by
 apply UU
 unfold yL
 obtain⟨k,t,c,e1,e2,e3,e4,e5,e6,e7,e8,e9⟩:=h.card hx
 obtain⟨k',t',c',e1',e2',e3',e4',e5',e6',e7',e8',e9'⟩:=h.card hs
 have hk:fs[k]? =some (fs[k]'(by have:=(List.getElem?_eq_some_iff.1 e2).1; omega)):=List.getElem?_eq_getElem _
 have hk':fs[k']? =some (fs[k']'(by have:=(List.getElem?_eq_some_iff.1 e2').1; omega)):=List.getElem?_eq_getElem _
 generalize (fs[k]'_)=f at hk
 generalize (fs[k']'_)=f' at hk'
 have ef:Oj fs x=f:=yM e1 hk
 have ef':Oj fs (s.Thing-1)=f':=yM e1' hk'
 have w1:IntKind.wrap .i64 (x+1-1)=(k:Int):=by rw[bT (by omega) (by omega)]; omega
 have w2:IntKind.wrap .i64 (s.Thing-1)=(k':Int):=by rw[bT (by omega) (by omega)]; omega
 unfold DX at hq
 refine eP (fun q=> ?_) (fun q4=> ?_)
 ·rw[if_pos q]at hq
  have:=hq H (.refl _ _)
  have e:(x==s.Thing-1)=(x+1==s.Thing):=by rw[Bool.eq_iff_iff]; simp; omega
  rwa [e]at this
 rw[if_neg q4,ef,ef']at hq
 rw[w1,w2]
 refine aZ (T:=gX) GX h.s rfl e2 rfl (aha h hx e1 e2 fun H1 f1=>bG (fun q=> ?_) (fun q=> ?_))
 ·have:ckI B ts x≠1:=by simpa using q
  rw[if_pos this]at hq; exact hq _ f1
 have:¬ckI B ts x≠1:=by simpa using q
 rw[if_neg this]at hq
 have hf1:=hf.bP f1 (by simp)
 refine aZ (T:=TF) KZ hf1 rfl hk rfl (D6 hf1 rfl hk' (eP (fun q=> ?_) (fun q5=> ?_)))
 ·rw[if_pos q]at hq; exact hq _ f1
 rw[if_neg q5]at hq
 refine eP (fun q=> ?_) (fun q8=> ?_)
 ·rw[if_neg (by omega),if_neg (by omega),if_pos q]at hq
  have e:(x !=s.Thing-1)=(x+1 !=s.Thing):=by rw[Bool.eq_iff_iff]; simp; omega
  rw[e]at hq
  refine aX (eP (fun q1=> ?_) (fun q1=> ?_))
  ·have:(f.Holder==f'.Holder)=true:=by simpa using q1
   rw[this,Bool.true_and]at hq; exact hq _ f1
  ·have:(f.Holder==f'.Holder)=false:=by simpa using q1
   rw[this,Bool.false_and]at hq; exact hq _ f1
 refine eP (fun q=> ?_) (fun q6=> ?_)
 ·rw[if_pos q]at hq; exact hq _ f1
 rw[if_neg q6]at hq
 refine eP (fun q=> ?_) (fun q7=> ?_)
 ·rw[if_pos q]at hq; exact hq _ f1
 rw[if_neg q7,if_neg q8]at hq
 refine eP (fun q=> ?_) (fun q9=> ?_)
 ·rw[if_pos q]at hq; exact hq _ f1
 rw[if_neg q9]at hq
 refine eP (fun q=> ?_) (fun q10=> ?_)
 ·rw[if_pos q]at hq; exact aff (hq _ f1)
 rw[if_neg q10]at hq; exact hq _ f1
theorem XL(h:Rt m H b B ms a1 ts ol)(hf:dB TF H a2 fs)(hfe:fs.length=ts.length){s:Sg}(hs:s.Thing-1∈ol){Q:Sl×Unit->Heap->Prop}(hq:∀r H' sp,aW dX H r H' (fB B ts fs ol s) sp->Q (r,()) H'):
  CALL P [aH] jJ [.pointer (some ⟨b,0,none⟩),a1.v,a2.v,eU.enc s] H Q:=by
 apply Uo
 unfold yu
 refine aad h.s h.ot fun x1 H1 sp1 n1=> ?_
 have h1:=h.new n1.2.2
 have hf1:=hf.bP n1.2.2 (by simp)
 have ho:=n1.1.jH
 have hol:x1.len=ol.length:=by have:=ho.1; simpa using this
 have few:=h.ot.few
 refine aO (fun y H'=>∃sp,aW dX H1 y.1.1 H' (fB B ts fs ol s) sp) (fun j hj=> ?_) (fun y H' hh=>by obtain⟨sp,hh⟩:=hh; exact hq _ _ _ (hh.older n1.2.2))
 refine aY (fun(y:(Sl×Int×Unit)×Unit) H'=>∃(n:Nat) (sp:List Int),y.1.2.1=n∧n≤ol.length∧aW dX H1 y.1.1 H' ((ol.take n).flatMap (fZ B ts fs s)) sp) (fun y=>ol.length-y.1.2.1.toNat) ?_ ⟨0,[],rfl,Nat.zero_le _,by simpa using aW.nil' dX H1⟩
 rintro G ⟨⟨out,i,_⟩,_⟩ H2 ⟨n,sp,hi,hn,no⟩ hG
 simp only at hi no; subst hi
 dsimp only at hG ⊢
 have f2:=no.2.2
 refine cu (fun hlt=> ?_) (fun hge=>hj _ _ ⟨sp,?_⟩)
 ·have hlt:n<ol.length:=by omega
  have hx:ol[n]? =some ol[n]:=List.getElem?_eq_getElem hlt
  have hm:ol[n]∈ol:=List.getElem_mem hlt
  generalize ol[n]=x at hx hm
  have hx1:(ol.map (· +1))[n]? =some (x+1):=by rw[List.getElem?_map,hx]; rfl
  have tk:=A8 (fZ B ts fs s) hx
  have ho2:=ho.bP f2 (by simp)
  refine aZ (T:=dX) uP ho2 rfl hx1 rfl (afj (h1.new f2) (hf1.bP f2 (by simp)) hfe hs hm fun H3 f3=> ?_)
  have no3:=no.new f3
  have hpre:((ol.take n).flatMap (fZ B ts fs s)).length≤16:=by
   have:=uU (f:=fZ B ts fs s) (c:=1) (l:=ol.take n) fun y _=>DY B ts fs s y
   rw[List.length_take]at this; omega
  refine aO (fun y H'=>∃sp,aW dX H1 y.1.1 H' ((ol.take (n+1)).flatMap (fZ B ts fs s)) sp) (fun j2 hj2=>bG (fun e=> ?_) (fun e=> ?_)) ?_
  ·have e2:fZ B ts fs s x=[x+1]:=by unfold fZ; exact if_pos e
   refine aZ (T:=dX) uP (ho2.bP f3 (by simp)) rfl hx1 rfl (qF aiO rfl (fun _=>by simp) (m:=1) [x+1] rfl rfl (by show 2*(_+1)*4096≤_; omega) no3.1 fun s4 H5 sp5 k1 k2 k3=> ?_)
   exact hj2 _ _ ⟨sp5,by rw[tk,e2]; exact no3.app k1 k2 k3⟩
  ·have e2:fZ B ts fs s x=[]:=by
    unfold fZ
    have e:DX B ts fs s x=false:=e
    rw[e]; rfl
   exact hj2 _ _ ⟨sp,by rw[tk,e2,List.append_nil]; exact no3⟩
  ·rintro⟨⟨out3,_⟩,_⟩ H4 ⟨sp3,no4⟩
   dsimp only
   rw[bT (by omega) (by omega)]
   exact hG _ _ ⟨n+1,sp3,by simp,hlt,no4⟩ (by simp; omega)
 ·have:n=ol.length:=by omega
  subst this
  rw[List.take_length]at no; exact no
theorem ahb{f:Ft}{p:Pt}{hd:Int}{Q:Ft×Unit->Heap->Prop}(hq:Q (uT f p hd,()) H):CALL P [TF] zQ [TF.enc f,TP.enc p,.int .i64 hd] H Q:=by
 apply WY
 unfold Aq
 unfold uT at hq
 refine aX (eP (fun q=>by rw[if_pos q]at hq; exact hq) (fun q1=> ?_))
 rw[if_neg q1]at hq
 refine aX (eP (fun q=>by rw[if_pos q]at hq; exact hq) (fun q2=> ?_))
 rw[if_neg q2]at hq
 refine aX (eP (fun q=>by rw[if_pos q]at hq; exact ag7 hq) (fun q3=> ?_))
 rw[if_neg q3]at hq
 refine aX (eP (fun q=>by rw[if_pos q]at hq; exact ag9 hq) (fun q4=> ?_))
 rw[if_neg q4]at hq
 refine aX (eP (fun q=>by rw[if_pos q]at hq; exact hq) (fun q5=> ?_))
 rw[if_neg q5]at hq
 refine aX (eP (fun q=>by rw[if_pos q]at hq; exact hq) (fun q6=> ?_))
 rw[if_neg q6]at hq; exact hq
end
end Go.Proofs.YtijnknjopjmiiaaGreatDoor.Zq
end
section
namespace Go.Proofs.YtijnknjopjmiiaaGreatDoor.Zq
open Zv
section
variable{H:Heap}{b m:Nat}{B:List Cd}{ms:List au}{a1 a2:Sl}{ts:List Tg}{fs:List Ft}{ol:List Int}
theorem aW.ptr{T:Tag}{H0 H:Heap}{s:Sl}{l sp:List T.α}(h:aW T H0 s H l sp):∀c,s.p=some ⟨c,0,none⟩->H0.length≤c∧c<H.length:=fun c hc=>⟨h.2.1 c hc,h.1.lt hc⟩
theorem Q5(h:Rt m H b B ms a1 ts ol)(hf:dB TF H a2 fs)(hfe:fs.length=ts.length){s:Sg}(hs:s.Thing-1∈ol){Q:Sl×Unit->Heap->Prop}(hq:∀r H' sp,aW TF H r H' (jq B ts fs ol s) sp->Q (r,()) H'):
  CALL P [aH] lM [.pointer (some ⟨b,0,none⟩),a1.v,a2.v,eU.enc s] H Q:=by
 apply TD
 unfold xU
 have hlen:=h.ot.len
 refine F8 tyF rfl (fun _=>by simp) hf (by omega) fun x1 H1 sp1 n1=> ?_
 have h1:=h.new n1.2.2
 refine XL h1 (hf.bP n1.2.2 (by simp)) hfe hs fun x2 H2 sp2 n2=> ?_
 obtain⟨k',t',c',e1',e2',e3',e4',e5',e6',e7',e8',e9'⟩:=h.card hs
 have hk':fs[k']? =some (fs[k']'(by have:=(List.getElem?_eq_some_iff.1 e2').1; omega)):=List.getElem?_eq_getElem _
 generalize (fs[k']'_)=f' at hk'
 have ef':Oj fs (s.Thing-1)=f':=yM e1' hk'
 have w2:IntKind.wrap .i64 (s.Thing-1)=(k':Int):=by rw[bT (by omega) (by omega)]; omega
 rw[w2]
 have f02:=n1.2.2.trans n2.2.2
 refine D6 (hf.bP f02 (by simp)) rfl hk' ?_
 have hl2:x2.len=(fB B ts fs ol s).length:=n2.1.1
 have hmem:∀x∈fB B ts fs ol s,∃k:Nat,x=(k:Int)+1∧k<fs.length:=fun x hx=>by
  obtain⟨k,t,c,e1,e2,_⟩:=h.card (GZ.1 hx).1
  have:=(List.getElem?_eq_some_iff.1 e2).1
  exact⟨k,by omega,by omega⟩
 have hal:=pW B ts fs ol s
 have few:=h.ot.few
 generalize hL:fB B ts fs ol s=L at hl2 hmem n2 hal
 have eap:jq B ts fs ol s=L.foldl (vM s f'.Holder) fs:=by unfold jq; rw[hL,ef']
 refine aO (fun _ H'=>aW TF H x1 H' (L.foldl (vM s f'.Holder) fs) sp1) (fun j hj=> ?_) (fun _ H' hh=>hq _ _ sp1 (by rw[eap]; exact hh))
 refine aY (fun(y:(Int×Unit)×Unit) H'=>∃n:Nat,y.1.1=n∧n≤L.length∧aW TF H x1 H' ((L.take n).foldl (vM s f'.Holder) fs) sp1∧Ow dX H' x2 L sp2) (fun y=>L.length-y.1.1.toNat) ?_ ⟨0,rfl,Nat.zero_le _,by simpa using n1.new n2.2.2,n2.1⟩
 rintro G ⟨⟨i,_⟩,_⟩ H4 ⟨n,hi,hn,no,o2⟩ hG
 simp only at hi; subst hi
 dsimp only at hG ⊢
 refine cu (fun hlt=> ?_) (fun hge=>hj _ _ ?_)
 ·have hlt:n<L.length:=by omega
  have hx:L[n]? =some L[n]:=List.getElem?_eq_getElem hlt
  obtain⟨k,ek,hk⟩:=hmem L[n] (List.getElem_mem hlt)
  generalize L[n]=x at hx ek
  have tk:=Vy (vM s f'.Holder) fs hx
  have hcl:=sQ s f'.Holder (L.take n) fs
  generalize hcur:(L.take n).foldl (vM s f'.Holder) fs=cur at no tk hcl
  have hky:cur[k]? =some (cur[k]'(by omega)):=List.getElem?_eq_getElem (by omega)
  generalize (cur[k]'(by omega))=g at hky
  have eg:Oj cur (x-1)=g:=yM (by omega) hky
  have w3:IntKind.wrap .i64 (x-1)=(k:Int):=by rw[bT (by omega) (by omega)]; omega
  refine XH (T:=dX) uP o2.jH rfl hx rfl fun b10 o11 rd=>rd _ o2.jH _ (aZ (T:=dX) uP o2.jH rfl hx rfl ?_)
  rw[w3]
  refine aZ (T:=TF) KZ no.1.jH rfl hky rfl (ahb (rd _ o2.jH _ ⟨rfl,?_⟩))
  refine no.1.put (n:=k) KZ (fun x=>rfl) rfl (by omega) (uT g s.What f'.Holder) rfl fun c0 H6 hc0 o6 f6 l6=> ?_
  obtain⟨p1,p2⟩:=no.ptr _ hc0
  obtain⟨p3,p4⟩:=n1.ptr _ hc0
  have ep:vM s f'.Holder cur x=cur.set k (uT g s.What f'.Holder):=by
   unfold vM
   rw[eg,show(x-1).toNat=k by omega]
  rw[bT (by omega) (by omega)]
  refine hG _ _ ⟨n+1,by simp,hlt,by rw[tk,ep]; exact⟨o6,no.2.1,no.2.2.then f6 fun d hd=>by simp at hd; subst hd; exact .inr p1⟩,o2.bP f6 fun d hd e=> ?_⟩ (by simp; omega)
  simp at hd; subst hd
  have:=n2.2.1 _ e; omega
 ·have:n=L.length:=by omega
  subst this
  rw[List.take_length]at no; exact no
end
end Go.Proofs.YtijnknjopjmiiaaGreatDoor.Zq
end
section
namespace Go.Proofs.YtijnknjopjmiiaaGreatDoor.Zq
open Zv
section
variable{H:Heap}{b m:Nat}{se:Bool}{B:List Cd}{ms:List au}{a1 a2 a3:Sl}{ts:List Tg}{fs:List Ft}{ol:List Int}{l:List Sg}
theorem yZ{α:Type}{x y:List α}(hl:x.length=y.length)(h:∀(i:Nat) a c,i<x.length->x[i]? =some a->y[i]? =some c->a=c):x=y:=by
 apply List.ext_getElem hl
 intro i h1 h2
 exact h i _ _ h1 (List.getElem?_eq_getElem h1) (List.getElem?_eq_getElem h2)
theorem ahc{s r:Sl}{x y:List Int}(hx:dB dX H s x)(hy:dB dX H r y)(hl:x.length≤1048600){Q:Bool×Unit->Heap->Prop}(hq:Q (decide (x=y),()) H):CALL P [ah] zW [s.v,r.v] H Q:=by
 apply Xp
 unfold AB
 have h1:=hx.1
 have h2:=hy.1
 have no:¬x=y->Q (false,()) H:=fun q=>by have:=hq; rwa [decide_eq_false q]at this
 refine yO (fun e=>no fun q=>by subst q; omega) (fun e=> ?_)
 have hll:x.length=y.length:=by omega
 refine aO (fun _ H'=>H'=H∧x=y) (fun j hj=> ?_) (fun _ H' hh=>by obtain⟨rfl,e⟩:=hh; rwa [decide_eq_true e]at hq)
 refine aY (fun(t:(Int×Unit)×Unit) H'=>H'=H∧∃n:Nat,t.1.1=n∧n≤x.length∧∀(i:Nat) a c,i<n->x[i]? =some a->y[i]? =some c->a=c) (fun t=>x.length-t.1.1.toNat) ?_ ⟨rfl,0,rfl,Nat.zero_le _,fun i a c h=>by omega⟩
 rintro G ⟨⟨i,_⟩,_⟩ H' ⟨rfl,n,hi,hn,inv⟩ hG
 simp only at hi; subst hi
 dsimp only at hG ⊢
 refine cu (fun hlt=> ?_) (fun hge=>hj _ _ ⟨rfl,yZ hll fun i a c w=>inv i a c (by omega)⟩)
 have hlt:n<x.length:=by omega
 have ha:x[n]? =some x[n]:=List.getElem?_eq_getElem hlt
 have hc:y[n]? =some (y[n]'(by omega)):=List.getElem?_eq_getElem (by omega)
 generalize x[n]=a at ha
 generalize (y[n]'(by omega))=c at hc
 refine aZ (T:=dX) uP hx rfl ha rfl (aZ (T:=dX) uP hy rfl hc rfl (yO (fun q=>no fun w=> ?_) (fun q=> ?_)))
 ·subst w; rw[ha]at hc; cases hc; exact q rfl
 ·rw[bT (by omega) (by omega)]
  refine hG _ _ ⟨rfl,n+1,by simp,hlt,fun i a' c' w1 w2 w3=> ?_⟩ (by simp; omega)
  by_cases e:i=n
  ·subst e; rw[ha]at w2; rw[hc]at w3; cases w2; cases w3; exact q
  ·exact inv i a' c' (by omega) w2 w3
theorem aiQ(h:Rt m H b B ms a1 ts ol)(hf:dB TF H a2 fs)(hfe:fs.length=ts.length){s o:Sg}(hs:s.Thing-1∈ol)(ho:o.Thing-1∈ol){Q:Bool×Unit->Heap->Prop}(hq:∀H',bK [] H H'->Q (lT B ts fs ol s o,()) H'):
  CALL P [ah] qX [.pointer (some ⟨b,0,none⟩),a1.v,a2.v,eU.enc s,eU.enc o] H Q:=by
 apply Nz
 unfold rV
 have few:=h.ot.few
 have hal:=pW B ts fs ol s
 refine XL h hf hfe hs fun x1 H1 sp1 n1=>⟨rfl,rfl,?_⟩
 refine Q5 (h.new n1.2.2) (hf.bP n1.2.2 (by simp)) hfe ho fun x2 H2 sp2 n2=>⟨rfl,?_⟩
 have f02:=n1.2.2.trans n2.2.2
 refine XL (h.new f02) n2.1.jH (by rw[G5]; exact hfe) hs fun x3 H3 sp3 n3=> ?_
 refine ahc ((n1.new n2.2.2).new n3.2.2).1.jH n3.1.jH (by omega) ?_
 have:=hq H3 (f02.trans n3.2.2)
 unfold lT at this
 simpa using this
theorem VB(h:Rt m H b B ms a1 ts ol){s o:Sg}(hs:s.Thing-1∈ol)(ho:o.Thing-1∈ol){Q:Bool×Unit->Heap->Prop}(hq:Q (mV ts s o,()) H):CALL P [ah] qw [a1.v,eU.enc s,eU.enc o] H Q:=by
 apply Ul
 unfold yt
 obtain⟨k,t,c,e1,e2,_,_,_,_,_,_,k1⟩:=h.card hs
 obtain⟨k',t',c',e1',e2',_,_,_,_,_,_,k1'⟩:=h.card ho
 have w1:IntKind.wrap .i64 (s.Thing-1)=(k:Int):=by rw[bT (by omega) (by omega)]; omega
 have w2:IntKind.wrap .i64 (o.Thing-1)=(k':Int):=by rw[bT (by omega) (by omega)]; omega
 rw[w1,w2]
 unfold mV at hq
 rw[jv e1 e2,jv e1' e2']at hq
 refine fP h.s rfl e2 (fP h.s rfl e2' (aX (cu (fun q=> ?_) (fun q=>eP (fun q2=> ?_) (fun q2=> ?_)))))
 ·rw[decide_eq_true q,Bool.true_or]at hq; exact hq
 ·rw[decide_eq_false q,decide_eq_true q2,Bool.false_or,Bool.true_and]at hq; exact hq
 ·rw[decide_eq_false q,decide_eq_false q2]at hq; exact hq
theorem Q7{i k j:Nat}(hj:j<k)(h:(j !=i&&lT B ts fs ol (yX l (i:Int)) (yX l (j:Int)))=true):DZ B ts fs ol l i k=true:=List.any_eq_true.2 ⟨j,List.mem_range.2 hj,h⟩
theorem ahe(h:Rt m H b B ms a1 ts ol)(hf:dB TF H a2 fs)(hfe:fs.length=ts.length)(hl:dB eU H a3 l)(hll:l.length≤1048600)(lv:∀s∈l,s.Thing-1∈ol){Q:Int×Unit->Heap->Prop}(hq:∀H',bK [] H H'->Q (yY B ts fs ol l,()) H'):
  CALL P [dX] zN [.pointer (some ⟨b,0,none⟩),a1.v,a2.v,a3.v] H Q:=by
 apply WS
 unfold Am
 have h3:=hl.1
 refine aO (fun(y:(Int×Int×Unit)×Unit) H'=>bK [] H H'∧y.1.1=(nx B ts fs ol l l.length).1∧y.1.2.1=(nx B ts fs ol l l.length).2) (fun j hj=> ?_) ?_
 ·refine aY (fun(y:(Int×Int×Int×Unit)×Unit) H'=>∃n:Nat,y.1.2.2.1=n∧n≤l.length∧bK [] H H'∧y.1.1=(nx B ts fs ol l n).1∧y.1.2.1=(nx B ts fs ol l n).2) (fun y=>l.length-y.1.2.2.1.toNat) ?_ ⟨0,rfl,Nat.zero_le _,.refl _ _,rfl,rfl⟩
  rintro G ⟨⟨free,first,i,_⟩,_⟩ H1 ⟨n,hi,hn,f1,hfr,hfi⟩ hG
  simp only at hi hfr hfi; subst hi
  dsimp only at hG ⊢
  refine cu (fun hlt=> ?_) (fun hge=>hj _ _ ?_)
  ·have hlt:n<l.length:=by omega
   obtain⟨r1,r2,r3,r4⟩:=XK B ts fs ol l n
   rw[←hfr]at r1 r2
   rw[←hfi]at r3 r4
   have enx:nx B ts fs ol l (n+1)=(if(!DZ B ts fs ol l n l.length&&(decide (free<0)||mV ts (yX l n) (yX l free)))=true then(n:Int)else free,if mV ts (yX l n) (yX l first)=true then(n:Int)else first):=by
    rw[hfr,hfi]; rfl
   have hx:l[n]? =some l[n]:=List.getElem?_eq_getElem hlt
   have hxm:=lv _ (List.getElem_mem hlt)
   generalize l[n]=s at hx hxm
   have es:yX l (n:Int)=s:=yN rfl hx
   obtain⟨fn,hfn⟩:∃fn:Nat,first=fn:=⟨first.toNat,by omega⟩
   have hfnl:fn<l.length:=by omega
   have hy:l[fn]? =some l[fn]:=List.getElem?_eq_getElem hfnl
   have hym:=lv _ (List.getElem_mem hfnl)
   generalize l[fn]=o at hy hym
   have eo:yX l first=o:=yN hfn hy
   have h1:=h.new f1
   have hf1:=hf.bP f1 (by simp)
   have hl1:=hl.bP f1 (by simp)
   rw[es,eo]at enx
   refine aZ (T:=eU) AZ hl1 rfl hx rfl (aZ (T:=eU) AZ hl1 hfn hy rfl (VB h1 hxm hym ?_))
   refine aO (fun(y:(Int×Unit)×Unit) H'=>H'=H1∧y.1.1=(if mV ts s o=true then(n:Int)else first)) (fun j2 hj2=>bG (fun e=>hj2 _ _ ⟨rfl,(if_pos e).symm⟩) (fun e=>hj2 _ _ ⟨rfl,(if_neg (by have e:mV ts s o=false:=e; rw[e]; decide)).symm⟩)) ?_
   rintro⟨⟨first2,_⟩,_⟩ H' ⟨rfl,hf2⟩
   simp only at hf2
   dsimp only
   refine aO (fun(y:(Bool×Unit)×Unit) H'=>bK [] H H'∧y.1.1=DZ B ts fs ol l n l.length) (fun j3 hj3=> ?_) ?_
   ·refine aY (fun(y:(Bool×Int×Unit)×Unit) H'=>∃k:Nat,y.1.2.1=k∧k≤l.length∧bK [] H H'∧(y.1.1=true->DZ B ts fs ol l n l.length=true)∧(y.1.1=false->∀j:Nat,j<k->(j !=n&&lT B ts fs ol (yX l (n:Int)) (yX l (j:Int)))=false)) (fun y=>l.length-y.1.2.1.toNat) ?_ ⟨0,rfl,Nat.zero_le _,f1,fun e=>(by cases e),fun _ j h=>by omega⟩
    rintro G2 ⟨⟨hg,i2,_⟩,_⟩ H4 ⟨k,hk,hkl,f4,ht,hff⟩ hG2
    simp only at hk ht hff; subst hk
    dsimp only at hG2 ⊢
    refine hJ ((k:Int)<a3.len∧hg=false) (fun j4 hj4=>cu (fun e=>hj4 _ (by simp; omega)) (fun e=>hj4 _ (by simp; omega))) (fun q=> ?_) (fun q=>hj3 _ _ ⟨f4,?_⟩)
    ·obtain⟨q1,q2⟩:=q
     have hkl2:k<l.length:=by omega
     have hz:l[k]? =some l[k]:=List.getElem?_eq_getElem hkl2
     have hzm:=lv _ (List.getElem_mem hkl2)
     generalize l[k]=u at hz hzm
     have eu:yX l (k:Int)=u:=yN rfl hz
     have hl4:=hl.bP f4 (by simp)
     refine aO (fun(y:(Bool×Unit)×Unit) H'=>bK [] H H'∧y.1.1=(k !=n&&lT B ts fs ol s u)) (fun j5 hj5=>yO (fun e=> ?_) (fun e=>hj5 _ _ ⟨f4,?_⟩)) ?_
     ·refine aZ (T:=eU) AZ hl4 rfl hx rfl (aZ (T:=eU) AZ hl4 rfl hz rfl (aiQ (h.new f4) (hf.bP f4 (by simp)) hfe hxm hzm fun H5 f5=>hj5 _ _ ⟨f4.trans f5,?_⟩))
      have:(k !=n)=true:=by simp; omega
      rw[this,Bool.true_and]
     ·have:(k !=n)=false:=by simp; omega
      rw[this,Bool.false_and]
     ·rintro⟨⟨r,_⟩,_⟩ H5 ⟨f5,hr⟩
      simp only at hr
      dsimp only
      rw[bT (by omega) (by omega)]
      refine hG2 _ _ ⟨k+1,by simp,hkl2,f5,fun e=> ?_,fun e j w=> ?_⟩ (by simp; omega)
      ·exact Q7 hkl2 (by rw[es,eu,←hr]; exact e)
      ·by_cases ej:j=k
       ·subst ej; rw[es,eu,←hr]; exact e
       ·exact hff q2 j (by omega)
    ·cases hh:hg with
     |true=>exact(ht hh).symm
     |false=>
      have hkk:k=l.length:=by
       have:¬(k:Int)<a3.len:=fun w=>q ⟨w,hh⟩
       omega
      symm
      refine Bool.eq_false_iff.2 fun w=> ?_
      obtain⟨j,hj,hd⟩:=List.any_eq_true.1 w
      have:=hff hh j (by have:=List.mem_range.1 hj; omega)
      rw[this]at hd; cases hd
   ·rintro⟨⟨hg,_⟩,_⟩ H4 ⟨f4,hhg⟩
    simp only at hhg
    dsimp only
    have hl4:=hl.bP f4 (by simp)
    refine aO (fun(y:(Bool×Unit)×Unit) H'=>H'=H4∧y.1.1=(!hg&&(decide (free<0)||mV ts s (yX l free)))) (fun j5 hj5=>bG (fun e=> ?_) (fun e=> ?_)) ?_
    ·have e:(!hg)=true:=e
     rw[e,Bool.true_and]at hj5
     refine cu (fun e2=>hj5 _ _ ⟨rfl,by rw[decide_eq_true e2]; rfl⟩) (fun e2=> ?_)
     rw[decide_eq_false e2,Bool.false_or]at hj5
     obtain⟨gn,hgn⟩:∃gn:Nat,free=gn:=⟨free.toNat,by omega⟩
     have hgl:gn<l.length:=by omega
     have hz:l[gn]? =some l[gn]:=List.getElem?_eq_getElem hgl
     have hzm:=lv _ (List.getElem_mem hgl)
     generalize l[gn]=u at hz hzm
     rw[yN hgn hz]at hj5
     exact aZ (T:=eU) AZ hl4 rfl hx rfl (aZ (T:=eU) AZ hl4 hgn hz rfl (VB (h.new f4) hxm hzm (hj5 _ _ ⟨rfl,rfl⟩)))
    ·have e:(!hg)=false:=e
     rw[e,Bool.false_and]at hj5
     exact hj5 _ _ ⟨rfl,rfl⟩
    ·rintro⟨⟨r,_⟩,_⟩ H5 ⟨rfl,hr⟩
     simp only at hr
     dsimp only
     rw[hhg]at hr
     rw[←hr,←hf2]at enx
     refine aO (fun(y:(Int×Unit)×Unit) H'=>H'=H5∧y.1.1=(if r=true then(n:Int)else free)) (fun j6 hj6=>bG (fun e=>hj6 _ _ ⟨rfl,(if_pos e).symm⟩) (fun e=>hj6 _ _ ⟨rfl,(if_neg (by have e:r=false:=e; rw[e]; decide)).symm⟩)) ?_
     rintro⟨⟨fr2,_⟩,_⟩ H6 ⟨rfl,hfr2⟩
     simp only at hfr2
     dsimp only
     rw[bT (by omega) (by omega)]
     exact hG _ _ ⟨n+1,by simp,hlt,f4,by rw[enx,hfr2],by rw[enx]⟩ (by simp; omega)
  ·have:n=l.length:=by omega
   subst this; exact⟨f1,hfr,hfi⟩
 ·rintro⟨⟨free,first,_⟩,_⟩ H1 ⟨f1,e1,e2⟩
  simp only at e1 e2
  dsimp only
  have:=hq H1 f1
  unfold yY at this
  rw[←e1,←e2]at this
  exact cu (fun q=>by rwa [if_pos q]at this) (fun q=>by rwa [if_neg q]at this)
end
end Go.Proofs.YtijnknjopjmiiaaGreatDoor.Zq
end
section
namespace Go.Proofs.YtijnknjopjmiiaaGreatDoor.Zq
open Zv
section
variable{H:Heap}{b m:Nat}{se:Bool}{B:List Cd}{ms:List au}{a1 a2 a3:Sl}{ts:List Tg}{fs:List Ft}{ol:List Int}{l:List Sg}
theorem abn(ts:List Tg):∃ol,acA ts ol:=by
 refine⟨(jo ts ts.length).mergeSort fun a c=>decide (bH ts a.toNat≤bH ts c.toNat),List.mergeSort_perm _ _,fun i j a c hij ha hc=> ?_⟩
 have hp:=List.pairwise_mergeSort (le:=fun a c:Int=>decide (bH ts a.toNat≤bH ts c.toNat)) (fun a b c h1 h2=>by simp at h1 h2 ⊢; omega) (fun a c=>by simp; omega) (jo ts ts.length)
 have hi:=List.getElem?_eq_some_iff.1 ha
 have hj:=List.getElem?_eq_some_iff.1 hc
 have:=List.pairwise_iff_getElem.1 hp i j hi.1 hj.1 hij
 rw[hi.2,hj.2]at this
 simpa using this
theorem aae{f:Int->Int}:∀{l1 l2:List Int},l1.Pairwise (fun a c=>f a<f c)->l2.Pairwise (fun a c=>f a<f c)->(∀x,x∈l1↔x∈l2)->l1=l2
 |[],[],_,_,_=>rfl
 |[],c::r,_,_,h=>by have:=(h c).2 (by simp); cases this
 |a::r,[],_,_,h=>by have:=(h a).1 (by simp); cases this
 |a::r,c::q,h1,h2,h=>by
  rw[List.pairwise_cons]at h1 h2
  have e:a=c:=by
   refine Classical.byContradiction fun n=> ?_
   rcases List.mem_cons.1 ((h a).1 (by simp))with w|w
   ·exact n w
   ·rcases List.mem_cons.1 ((h c).2 (by simp))with w2|w2
    ·exact n w2.symm
    ·have:=h1.1 c w2; have:=h2.1 a w; omega
  subst e
  congr 1
  refine aae h1.2 h2.2 fun x=>⟨fun hx=> ?_,fun hx=> ?_⟩
  ·rcases List.mem_cons.1 ((h x).1 (by simp[hx]))with w|w
   ·subst w; have:=h1.1 x hx; omega
   ·exact w
  ·rcases List.mem_cons.1 ((h x).2 (by simp[hx]))with w|w
   ·subst w; have:=h2.1 x hx; omega
   ·exact w
theorem iU.uniq{l1 l2:List Int}(h1:iU B ts l1)(h2:iU B ts l2):l1=l2:=by
 have pw:∀{l:List Int},iU B ts l->l.Pairwise (fun a c=>bH ts a.toNat<bH ts c.toNat):=fun h=>List.pairwise_iff_getElem.2 fun i j hi hj hij=>h.srt i j _ _ hij (List.getElem?_eq_getElem hi) (List.getElem?_eq_getElem hj)
 refine aae (f:=fun a=>bH ts a.toNat) (pw h1) (pw h2) fun x=>⟨fun hx=> ?_,fun hx=> ?_⟩
 ·obtain⟨k,t,c,e1,e2,e3,_⟩:=h1.at' x hx; subst e1; exact h2.all k t e2 e3
 ·obtain⟨k,t,c,e1,e2,e3,_⟩:=h2.at' x hx; subst e1; exact h1.all k t e2 e3
theorem D7{B:List Cd}(okB:rD B)(e:dn se B ts fs=0):∃ol,iU B ts ol:=by
 obtain⟨e1,e2,e3,e4⟩:=iM (e:=e)
 obtain⟨ol,ho⟩:=abn ts
 exact⟨ol,ho.ajH e4 e2 okB e3⟩
theorem dB.after{T:Tag}{H1 H2:Heap}{out s:Sl}{l:List T.α}(h:dB T H1 s l)(a:After out H1 H2)(ap:∀d off,s.p=some ⟨d,off,none⟩->out.p≠some ⟨d,0,none⟩):dB T H2 s l:=by
 by_cases hq:∃d,out.p=some ⟨d,0,none⟩
 ·obtain⟨d0,hd0⟩:=hq
  exact h.bP (a.bP (B:=[d0]) fun d hd=>by rw[hd0]at hd; cases hd; simp) fun x hx off e=>by simp at hx; subst hx; exact ap _ _ e hd0
 ·exact h.bP (a.bP (B:=[]) fun d hd=>absurd ⟨d,hd⟩ hq) (by simp)
theorem aiR(h:Rt m H b B ms a1 ts ol)(hf:dB TF H a2 fs)(hfe:fs.length=ts.length){k:Int}{Q:Sl×Unit->Heap->Prop}(hq:∀s H' sp,aW eU H s H' (sD B ts fs ol k) sp->Q (s,()) H'):
  CALL P [aH] qW [.pointer (some ⟨b,0,none⟩),a1.v,a2.v,.int .i64 k] H Q:=by
 apply Nv
 unfold rU
 refine aad h.s h.ot fun x1 H1 sp1 n1=> ?_
 have h1:=h.new n1.2.2
 have hf1:=hf.bP n1.2.2 (by simp)
 have ho:=n1.1.jH
 have hol:x1.len=ol.length:=by have:=ho.1; simpa using this
 have few:=h.ot.few
 refine aO (fun y H'=>∃sp,aW eU H1 y.1.1 H' (sD B ts fs ol k) sp) (fun j hj=> ?_) (fun y H' hh=>by obtain⟨sp,hh⟩:=hh; exact hq _ _ _ (hh.older n1.2.2))
 refine aY (fun(y:(Sl×Int×Unit)×Unit) H'=>∃(n:Nat) (sp:List Sg),y.1.2.1=n∧n≤ol.length∧aW eU H1 y.1.1 H' ((ol.take n).flatMap (gY B ts fs k)) sp) (fun y=>ol.length-y.1.2.1.toNat) ?_ ⟨0,[],rfl,Nat.zero_le _,by simpa using aW.nil' eU H1⟩
 rintro G ⟨⟨out,i,_⟩,_⟩ H2 ⟨n,sp,hi,hn,no⟩ hG
 simp only at hi no; subst hi
 dsimp only at hG ⊢
 have f2:=no.2.2
 refine cu (fun hlt=> ?_) (fun hge=>hj _ _ ⟨sp,?_⟩)
 ·have hlt:n<ol.length:=by omega
  have hx:ol[n]? =some ol[n]:=List.getElem?_eq_getElem hlt
  have hm:ol[n]∈ol:=List.getElem_mem hlt
  generalize ol[n]=x at hx hm
  have hx1:(ol.map (· +1))[n]? =some (x+1):=by rw[List.getElem?_map,hx]; rfl
  obtain⟨kx,t,c,ek,et,e3,e4,e5,ecp,eck,e8,k1⟩:=h.card hm
  have hfx:fs[kx]? =some (fs[kx]'(by have:=(List.getElem?_eq_some_iff.1 et).1; omega)):=List.getElem?_eq_getElem _
  generalize (fs[kx]'_)=f at hfx
  have eft:Oj fs x=f:=yM ek hfx
  have tk:=A8 (gY B ts fs k) hx
  have hpre:((ol.take n).flatMap (gY B ts fs k)).length≤64:=by
   have:=uU (f:=gY B ts fs k) (c:=4) (l:=ol.take n) fun y hy=>by
    obtain⟨_,_,c',_,_,_,_,_,ecp',_,e4',_⟩:=h.card (List.mem_of_mem_take hy)
    unfold gY
    split
    ·simp
    ·have:=QW (y+1) k (cpI B ts y)
     rw[ecp']at this ⊢; omega
   rw[List.length_take]at this
   omega
  have w1:IntKind.wrap .i64 (x+1-1)=(kx:Int):=by rw[bT (by omega) (by omega)]; omega
  have ho2:=ho.bP f2 (by simp)
  refine aO (fun y H'=>∃sp,aW eU H1 y.1.1 H' ((ol.take (n+1)).flatMap (gY B ts fs k)) sp) (fun j2 hj2=> ?_) ?_
  ·refine aZ (T:=dX) uP ho2 rfl hx1 rfl ?_
   rw[w1]
   refine uS (hf1.bP f2 (by simp)) rfl hfx (aff (bG (fun hM=> ?_) (fun hM=> ?_)))
   ·refine hj2 _ _ ⟨sp,?_⟩
    have:gY B ts fs k x=[]:=by unfold gY; rw[eft,if_pos hM]
    rw[tk,this,List.append_nil]; exact no
   ·have e1:gY B ts fs k x=ady (x+1) k c.ps:=by
     unfold gY; rw[eft,if_neg (by have hM:abh f.Traits 6=false:=hM; rw[hM]; decide),ecp]
    rw[e1]at tk
    refine aZ (T:=dX) uP ho2 rfl hx1 rfl ?_
    rw[w1]
    refine Vz ((h1.new f2).s) rfl et (abm (h1.new f2) e4 e5 fun g H6 cr f6=> ?_)
    have no6:=no.new f6
    have hpl:=cr.p.1
    have hap:∀d off,g.Parts.p=some ⟨d,off,none⟩->out.p≠some ⟨d,0,none⟩:=fun d off e e2=>by
     have:=cr.lo d (by rw[e]; simp[bl])
     have:=no.1.lt e2; omega
    refine aO (fun y H'=>∃sp,aW eU H1 y.1.1 H' ((ol.take (n+1)).flatMap (gY B ts fs k)) sp) (fun j3 hj3=> ?_) (fun y H' h=>hj2 _ _ h)
    refine aY (fun(y:(Sl×Int×Unit)×Unit) H'=>∃(i:Nat) (sp:List Sg),y.1.2.1=i∧i≤c.ps.length∧aW eU H1 y.1.1 H' ((ol.take n).flatMap (gY B ts fs k)++(c.ps.zipIdx.take i).flatMap (kN (x+1) k)) sp∧dB TP H' g.Parts c.ps∧∀d off,g.Parts.p=some ⟨d,off,none⟩->y.1.1.p≠some ⟨d,0,none⟩) (fun y=>c.ps.length-y.1.2.1.toNat) ?_ ⟨0,sp,rfl,Nat.zero_le _,by simpa using no6,cr.p,hap⟩
    rintro G2 ⟨⟨out2,i2,_⟩,_⟩ H7 ⟨i,sp2,hi,hin,no2,hps,hap2⟩ hG2
    simp only at hi no2 hap2; subst hi
    dsimp only at hG2 ⊢
    refine cu (fun hlt2=> ?_) (fun hge2=>hj3 _ _ ⟨sp2,?_⟩)
    ·have hlt2:i<c.ps.length:=by omega
     have hy:c.ps[i]? =some c.ps[i]:=List.getElem?_eq_getElem hlt2
     have hz:c.ps.zipIdx[i]? =some (c.ps[i],i):=by rw[List.getElem?_zipIdx,hy]; simp
     generalize c.ps[i]=p at hy hz
     have tk2:=A8 (kN (x+1) k) hz
     have hpre2:((c.ps.zipIdx.take i).flatMap (kN (x+1) k)).length≤4:=by
      have:=uU (f:=kN (x+1) k) (c:=1) (l:=c.ps.zipIdx.take i) fun y _=>La _ _ y
      rw[List.length_take,List.length_zipIdx]at this
      omega
     refine JD (p.When=5∧XJ p.Verb=k) (fun j4 hj4=>VA hps rfl hy (eP (fun e5=>afh hps rfl hy (aiL (hj4 _ (by simp[e5])))) (fun e5=>hj4 _ (by simp[e5])))) ?_
     refine aO (fun y H'=>∃sp,aW eU H1 y.1.1 H' ((ol.take n).flatMap (gY B ts fs k)++(c.ps.zipIdx.take (i+1)).flatMap (kN (x+1) k)) sp∧dB TP H' g.Parts c.ps∧∀d off,g.Parts.p=some ⟨d,off,none⟩->y.1.1.p≠some ⟨d,0,none⟩) (fun j5 hj5=>cu (fun hc=> ?_) (fun hc=>hj5 _ _ ⟨sp2,?_,hps,hap2⟩)) ?_
     ·have e2:kN (x+1) k (p,i)=[⟨x+1,i,p⟩]:=by unfold kN; rw[if_pos hc]
      refine aZ (T:=dX) uP (ho.bP no2.2.2 (by simp)) rfl hx1 rfl (aZ (T:=TP) hTP hps rfl hy rfl ?_)
      refine qF BO rfl (fun _=>by simp) (m:=1) [(⟨x+1,i,p⟩:Sg)] rfl rfl (by rw[List.length_append]; show 2*(_+1)*4096≤_; omega) no2.1 fun s4 H8 sp5 k1 k2 k3=> ?_
      refine hj5 _ _ ⟨sp5,?_,hps.after k3 hap2,fun d off e=> ?_⟩
      ·rw[tk2,e2,←List.append_assoc]; exact no2.app k1 k2 k3
      ·rcases k2 with q|⟨q,_⟩
       ·dsimp only; rw[q]; exact hap2 d off e
       ·dsimp only; rw[q]; intro w
        have:=QT hps e
        cases w; omega
     ·have e2:kN (x+1) k (p,i)=[]:=by unfold kN; rw[if_neg hc]
      rw[tk2,e2,List.append_nil]; exact no2
     ·rintro⟨⟨out3,_⟩,_⟩ H8 ⟨sp3,no3,hps3,hap3⟩
      dsimp only
      rw[bT (by omega) (by omega)]
      exact hG2 _ _ ⟨i+1,sp3,by simp,hlt2,no3,hps3,hap3⟩ (by simp; omega)
    ·have:i=c.ps.length:=by omega
     subst this
     have e3:c.ps.zipIdx.take c.ps.length=c.ps.zipIdx:=by rw[←List.length_zipIdx (l:=c.ps) (i:=0),List.take_length]
     rw[e3]at no2
     rw[tk]; exact no2
  ·rintro⟨⟨out3,_⟩,_⟩ H3 ⟨sp3,no3⟩
   dsimp only
   rw[bT (by omega) (by omega)]
   exact hG _ _ ⟨n+1,sp3,by simp,hlt,no3⟩ (by simp; omega)
 ·have:n=ol.length:=by omega
  subst this
  rw[List.take_length]at no; exact no
theorem Q8(h:BD m H b se B ms)(okB:rD B)(hs:dB gX H a1 ts)(hf:dB TF H a2 fs){k:Int}{Q:Sl×Int×Unit->Heap->Prop}
  (q1:∀H',dn se B ts fs≠0->bK [] H H'->Q (⟨none,0,0⟩,dn se B ts fs,()) H') (q2:∀H',dn se B ts fs=0->(k<1∨5<k)->bK [] H H'->Q (⟨none,0,0⟩,2,()) H')
  (q0:∀s ol H' sp,dn se B ts fs=0->1≤k->k≤5->iU B ts ol->aW eU H s H' (sD B ts fs ol k) sp->Q (s,0,()) H'):
  CALL P [aH,dX] lV [.pointer (some ⟨b,0,none⟩),a1.v,a2.v,.int .i64 k] H Q:=by
 apply MR
 unfold rH
 refine QZ h okB hs hf fun H1 f1=>yO (fun e=>q1 H1 e f1) (fun e=> ?_)
 obtain⟨e1,e2,e3,e4⟩:=iM (e:=e)
 obtain⟨ol,ot⟩:=D7 okB e
 subst e1
 refine hJ (k<1∨5<k) (fun j hj=>cu (fun h=>hj _ (by simp; omega)) (fun h=>hj _ (by simp; omega))) (fun hk=>q2 _ e hk f1) (fun hk=> ?_)
 exact aiR ⟨h.new f1,okB,hs.bP f1 (by simp),ot⟩ (hf.bP f1 (by simp)) e2 fun s H2 sp no=>q0 s ol H2 sp e (by omega) (by omega) ot (no.older f1)
end
end Go.Proofs.YtijnknjopjmiiaaGreatDoor.Zq
end
section
namespace Go.Proofs.YtijnknjopjmiiaaGreatDoor.Zq
open Zv
section
variable{H:Heap}{b m:Nat}{se:Bool}{B:List Cd}{ms:List au}{a1 a2 a3:Sl}{ts:List Tg}{fs:List Ft}{ol:List Int}{l:List Sg}
theorem ZR.take{E:Env}{T:Tag}{ts:TypeId}{z:T.α}(ty:Jq E T ts z){H:Heap}{s:Sl}{l:List T.α}(h:ZR T H s l){i:Int}{n:Nat}(hi:i=n)(hn:n≤l.length)(hp:s.p≠none){k:Sl->Prop}(hk:ZR T H ⟨s.p,n,s.cap⟩ (l.take n)->k ⟨s.p,n,s.cap⟩):dW aH (dH E ts s.v none (some (.int .i64 i)) none H) k:=by
 obtain⟨⟨ti,e,te,e1,e2,e3,e4,e5,e6,e7⟩,hn0,hT,hone⟩:=ty
 subst hi
 obtain⟨p,m,c⟩:=s
 obtain⟨g1,g2,g0,⟨g3,g4,g5⟩|⟨d,r,g3,g4,g5,g6⟩⟩:=h
 ·exact absurd g3 hp
 ·simp only at g1 g2 g3 g5 g6 g0; subst g3
  refine⟨⟨some ⟨d,0,none⟩,n,c⟩,?_,hk ⟨by simp; omega,by simp only; omega,by simp only; omega,.inr ⟨d,r,rfl,g4,by simp only; omega,by simp only; rw[←g6,List.take_take,Nat.min_eq_left (by omega)]⟩⟩⟩
  unfold dH
  have hex:Zq.exact H d 0 c=true:=by unfold Zq.exact; rw[g4]; rfl
  simp only[e1,e2,e3,Option.bind_some,Sl.v,dQ,Option.isSome_none,Bool.false_and,Bool.false_eq_true,if_false,hex,or_true,if_true]
  rw[if_pos (by omega)]
  simp only[Option.bind_some,Int.toNat_natCast]
  rw[if_pos (by omega)]
  simp[Tag.enc,RJ]
theorem Ow.pne{T:Tag}{H:Heap}{s:Sl}{l sp:List T.α}(h:Ow T H s l sp)(hl:0<l.length):∃d,s.p=some ⟨d,0,none⟩:=by
 obtain⟨_,_,_,⟨_,h4,_⟩|⟨c,h4,_⟩⟩:=h
 ·subst h4; simp at hl
 ·exact⟨c,h4⟩
theorem uV{B:List Cd}{ts:List Tg}{ol:List Int}(ot:iU B ts ol)(fs:List Ft)(k:Int):(sD B ts fs ol k).length≤64:=by
 have:=uU (f:=gY B ts fs k) (c:=4) (l:=ol) fun y hy=>by
  obtain⟨k',t,c,e1,e2,e3,e4,e5,e6,e7,e8⟩:=ot.at' y hy
  unfold gY
  split
  ·simp
  ·have:=QW (y+1) k (cpI B ts y)
   have hc:cpI B ts y=c.ps:=by subst e1; unfold cpI cdI; rw[Int.toNat_natCast,e2]; show((B[(t.Card-1).toNat]?).map (·.ps)).getD []=_; rw[e5]; rfl
   rw[hc]at this ⊢; omega
 have:=ot.few
 unfold sD; omega
theorem afk(h:BD m H b se B ms)(okB:rD B)(hs:dB gX H a1 ts)(hf:dB TF H a2 fs){k:Int}{Q:Sl×Sl×Int×Unit->Heap->Prop}
  (q1:∀H',dn se B ts fs≠0->bK [] H H'->Q (⟨none,0,0⟩,⟨none,0,0⟩,dn se B ts fs,()) H') (q2:∀H',dn se B ts fs=0->(k<1∨5<k)->bK [] H H'->Q (⟨none,0,0⟩,⟨none,0,0⟩,2,()) H')
  (q0:∀s r ol H' sp sr,dn se B ts fs=0->1≤k->k≤5->iU B ts ol->aW TF H s H' (eG B ts ol fs (sD B ts fs ol k) (sD B ts fs ol k).length).1 sp->aW eU H r H' (eG B ts ol fs (sD B ts fs ol k) (sD B ts fs ol k).length).2.2 sr->(∀d,s.p=some ⟨d,0,none⟩->r.p≠some ⟨d,0,none⟩)->Q (s,r,0,()) H'):
  CALL P [aH,aH,dX] wo [.pointer (some ⟨b,0,none⟩),a1.v,a2.v,.int .i64 k] H Q:=by
 apply Ze
 unfold Dq
 refine Q8 h okB hs hf (fun H' e f=>dI (by simpa using e) (q1 H' e f)) (fun H' e hk f=>dI rfl (q2 H' e hk f)) fun x1 ol H1 sp1 e hk1 hk5 ot n1=>bC rfl ?_
 obtain⟨e1,e2,e3,e4⟩:=iM (e:=e)
 subst e1
 have hel:=uV ot fs k
 have hlv:∀s∈sD B ts fs ol k,s.Thing-1∈ol:=fun s hs=>(D5 hs).1
 have fin:=q0
 generalize hL:sD B ts fs ol k=L at n1 hel hlv
 refine F8 tyF rfl (fun _=>by simp) (hf.bP n1.2.2 (by simp)) (by omega) fun x2 H2 sp2 n2=> ?_
 have n12:=n1.new n2.2.2
 refine aO (fun(y:(Sl×Sl×Unit)×Unit) H'=>∃sp sr,aW TF H y.1.1 H' (eG B ts ol fs L L.length).1 sp∧aW eU H y.1.2.1 H' (eG B ts ol fs L L.length).2.2 sr∧∀d,y.1.1.p=some ⟨d,0,none⟩->y.1.2.1.p≠some ⟨d,0,none⟩) (fun j hj=> ?_) (fun y H' hh=>by obtain⟨sp,sr,h1,h2,h3⟩:=hh; exact fin _ _ ol _ sp sr e hk1 hk5 ot (by rw[hL]; exact h1) (by rw[hL]; exact h2) h3)
 refine aY (fun(y:(Sl×Sl×Sl×Unit)×Unit) H'=>∃(n:Nat) (sl so:List Sg) (sf:List Ft),n≤L.length∧aW eU H y.1.1 H' (eG B ts ol fs L n).2.1 sl∧aW TF H y.1.2.1 H' (eG B ts ol fs L n).1 sf∧aW eU H y.1.2.2.1 H' (eG B ts ol fs L n).2.2 so∧(∀d,y.1.1.p=some ⟨d,0,none⟩->y.1.2.2.1.p≠some ⟨d,0,none⟩)∧(∀d,y.1.2.1.p=some ⟨d,0,none⟩->y.1.2.2.1.p≠some ⟨d,0,none⟩)) (fun y=>y.1.1.len) ?_
  ⟨0,sp1,[],sp2,Nat.zero_le _,n12,n2.older n1.2.2,(aW.nil' eU H2).older n12.2.2,by simp,by simp⟩
 rintro G ⟨⟨left,out,steps,_⟩,_⟩ H4 ⟨n,sl,so,sf,hn,nl,nf,ns,dl,df⟩ hG
 simp only at nl nf ns dl df
 dsimp only at hG ⊢
 obtain⟨i1,i2,i3,i4⟩:=lU B ts ol fs L n hn
 have elen:left.len=(eG B ts ol fs L n).2.1.length:=nl.1.1
 have step:eG B ts ol fs L (n+1)=(jq B ts (eG B ts ol fs L n).1 ol (yX (eG B ts ol fs L n).2.1 (yY B ts (eG B ts ol fs L n).1 ol (eG B ts ol fs L n).2.1)),(eG B ts ol fs L n).2.1.eraseIdx (yY B ts (eG B ts ol fs L n).1 ol (eG B ts ol fs L n).2.1).toNat,(eG B ts ol fs L n).2.2++[yX (eG B ts ol fs L n).2.1 (yY B ts (eG B ts ol fs L n).1 ol (eG B ts ol fs L n).2.1)]):=rfl
 refine cu (fun hpos=> ?_) (fun hz=>hj _ _ ?_)
 ·have f4:=nl.2.2
  have hnl:n<L.length:=by omega
  obtain⟨g1,g2⟩:=Ej B ts (eG B ts ol fs L n).1 ol (l:=(eG B ts ol fs L n).2.1) (by omega)
  generalize hcf:(eG B ts ol fs L n).1=cf at nf i1 step g1 g2
  generalize hcl:(eG B ts ol fs L n).2.1=cl at nl i2 i3 step elen g1 g2
  generalize hcs:(eG B ts ol fs L n).2.2=cs at ns i4 step
  have lv:∀s∈cl,s.Thing-1∈ol:=fun s hs=>hlv s (i3 s hs)
  have rt4:Rt m H4 b B ms a1 ts ol:=⟨h.new f4,okB,hs.bP f4 (by simp),ot⟩
  refine ahe rt4 nf.1.jH (by omega) nl.1.jH (by omega) lv fun H5 f5=> ?_
  generalize yY B ts cf ol cl=i at step g1 g2
  obtain⟨ni,hni⟩:∃ni:Nat,i=ni:=⟨i.toNat,by omega⟩
  subst hni
  have hil:ni<cl.length:=by omega
  have hx:cl[ni]? =some cl[ni]:=List.getElem?_eq_getElem hil
  have hxm:=lv _ (List.getElem_mem hil)
  generalize cl[ni]=s at hx hxm
  rw[yN rfl hx,Int.toNat_natCast]at step
  have nl5:=nl.new f5
  have nf5:=nf.new f5
  refine aZ (T:=eU) AZ nl5.1.jH rfl hx rfl (Q5 (rt4.new f5) nf5.1.jH (by omega) hxm fun x11 H6 sp11 n11=> ?_)
  have nl6:=nl5.new n11.2.2
  refine aZ (T:=eU) AZ nl6.1.jH rfl hx rfl ?_
  have ns6:=(ns.new f5).new n11.2.2
  refine qF BO rfl (fun _=>by simp) (m:=1) [s] rfl rfl (by show 2*(_+1)*4096≤_; omega) ns6.1 fun x15 H7 sp15 k1 k2 k3=> ?_
  have ns7:aW eU H x15 H7 (cs++[s]) sp15:=ns6.app k1 k2 k3
  have f47:bK [] H H7:=ns7.2.2
  have l7:Ow eU H7 left cl sl:=nl6.1.after k3 dl
  have o7:Ow TF H7 x11 (jq B ts cf ol s) sp11:=n11.1.after k3 fun d hd e=>by
   have h1:=n11.2.1 d hd
   have h2:=(ns.new f5).1.lt e; omega
  obtain⟨dL,hdL⟩:=l7.pne (by omega)
  have hpn:left.p≠none:=by rw[hdL]; simp
  refine l7.j.take BO rfl (by omega) hpn fun o16=> ?_
  refine F8 BO rfl (fun _=>by simp) o16.jH (by rw[List.length_take]; omega) fun x17 H8 sp17 n17=> ?_
  have l8:Ow eU H8 left cl sl:=l7.bP n17.2.2 (by simp[Sl.off])
  rw[bT (by omega) (by omega)]
  refine l8.j.drop BO (n:=ni+1) rfl (by omega) hpn fun x18 h18=> ?_
  refine JO BO rfl (fun _=>by simp) h18 (by rw[List.length_take,List.length_drop]; omega) n17.1 fun x19 H9 sp19 k1' k2' k3'=> ?_
  have n19:aW eU H7 x19 H9 (cl.take ni++cl.drop (ni+1)) sp19:=n17.app k1' k2' k3'
  have f79:=n19.2.2
  refine hG _ _ ⟨n+1,sp19,sp15,sp11,hnl,?_,?_,?_,fun d hd e=> ?_,fun d hd e=> ?_⟩ ?_
  ·rw[step]; dsimp only; rw[List.eraseIdx_eq_take_drop_succ]
   exact n19.older f47
  ·rw[step]; dsimp only
   exact⟨o7.bP f79 (by simp[Sl.off]),fun d hd=>by have:=n11.2.1 d hd; have:=nl5.2.2.1; omega,f47.trans f79⟩
  ·rw[step]; dsimp only
   exact ns7.new f79
  ·have:=n19.2.1 d hd
   have:=ns7.1.lt e; omega
  ·dsimp only at hd e
   have h1:=n11.2.1 d hd
   have h3:=n11.1.lt hd
   rcases k2 with q|⟨q,_⟩
   ·have h2:=(ns.new f5).1.lt (q▸e); omega
   ·rw[q]at e; cases e; omega
  ·dsimp only
   have:=n19.1.1
   rw[List.length_append,List.length_take,List.length_drop]at this
   omega
 ·have:n=L.length:=by omega
  subst this
  exact⟨sf,so,nf,ns,df⟩
end
end Go.Proofs.YtijnknjopjmiiaaGreatDoor.Zq
end
section
namespace Go.Proofs.YtijnknjopjmiiaaGreatDoor.Zq
open Zv
section
variable{se:Bool}{B:List Cd}{ts:List Tg}{fs:List Ft}{ol:List Int}
theorem afl(t:Int):0≤Fh t∧Fh t≤128:=by
 unfold Fh
 split
 ·rename_i h
  have:t=1∨t=2∨t=3∨t=4∨t=5∨t=6∨t=7∨t=8:=by omega
  rcases this with rfl|rfl|rfl|rfl|rfl|rfl|rfl|rfl<;>decide
 ·omega
theorem abo{s:Int}(h0:0≤s)(h1:s<256):(BitVec.ofInt (IntKind.bits .u16) s).toNat=s.toNat:=by
 show(BitVec.ofInt 16 s).toNat=_
 rw[BitVec.toNat_ofInt]
 omega
theorem adC{s:Int}(t:Int)(h0:0≤s)(h1:s<256):0≤LY s t∧LY s t<256:=by
 obtain⟨b0,b1⟩:=afl t
 unfold LY
 refine⟨acB _,?_⟩
 have e:(BitVec.ofInt (IntKind.bits .u16) s ||| BitVec.ofInt (IntKind.bits .u16) (Fh t)).toNat<2 ^ 8:=by
  rw[BitVec.toNat_or,abo h0 h1,abo b0 (by omega)]
  exact Nat.or_lt_two_pow (by omega) (by omega)
 generalize (BitVec.ofInt (IntKind.bits .u16) s ||| BitVec.ofInt (IntKind.bits .u16) (Fh t)).toNat=x at e
 show(x:Int)%65536<256
 omega
theorem adD{s:Int}(t:Int)(h0:0≤s)(h1:s<256):0≤LZ s t∧LZ s t<256:=by
 unfold LZ
 refine⟨acB _,?_⟩
 have e:(BitVec.ofInt (IntKind.bits .u16) s &&& ~~~BitVec.ofInt (IntKind.bits .u16) (Fh t)).toNat<256:=by
  rw[BitVec.toNat_and,abo h0 h1]
  exact Nat.lt_of_le_of_lt Nat.and_le_left (by omega)
 generalize (BitVec.ofInt (IntKind.bits .u16) s &&& ~~~BitVec.ofInt (IntKind.bits .u16) (Fh t)).toNat=x at e
 show(x:Int)%65536<256
 omega
theorem afm{f:Ft}(p:Pt)(h:Int)(h0:0≤f.Traits):0≤(uT f p h).Traits:=by
 unfold uT
 split
 ·exact h0
 split
 ·exact h0
 split
 ·exact acB _
 split
 ·exact acB _
 split
 ·exact h0
 split
 ·exact h0
 ·exact h0
theorem afn{f:Ft}(p:Pt){h:Int}(hh:h=0∨h=1)(h0:0≤f.Traits)(h1:f.Traits<256)(hd:f.Holder=0∨f.Holder=1):((uT f p h).Holder=0∨(uT f p h).Holder=1)∧(uT f p h).Traits<256:=by
 unfold uT
 split
 ·exact⟨hh,h1⟩
 split
 ·exact⟨hd,h1⟩
 split
 ·exact⟨hd,(adC _ h0 h1).2⟩
 split
 ·exact⟨hd,(adD _ h0 h1).2⟩
 split
 ·exact⟨hd,h1⟩
 split
 ·exact⟨hd,h1⟩
 ·exact⟨hd,h1⟩
structure UZ(ts:List Tg)(out:List Ft):Prop where
 len:out.length=ts.length
 nn:∀f∈out,0≤f.Traits
 ok:∀(i:Nat) t f,ts[i]? =some t->out[i]? =some f->t.Place=4->(f.Holder=0∨f.Holder=1)∧f.Traits<256
theorem Yg.j(U0:Yg B ts fs)(hfe:fs.length=ts.length)(nn:∀f∈fs,0≤f.Traits):UZ ts fs:=
 ⟨hfe,nn,fun i t f h1 h2 h3=>by obtain⟨c,_,_,_,_,_,w⟩:=U0.all i t f h1 h2; exact⟨(w h3).2.2.1,(w h3).2.2.2⟩⟩
theorem UZ.U0{out:List Ft}(j:UZ ts out)(U0:Yg B ts fs)(hfe:fs.length=ts.length):Yg B ts out:=by
 refine⟨fun i t f h1 h2=> ?_,U0.few,U0.dst⟩
 have hi:=(List.getElem?_eq_some_iff.1 h1).1
 obtain⟨c,w1,w2,w3,w4,w5,w⟩:=U0.all i t _ h1 (List.getElem?_eq_getElem (by omega))
 exact⟨c,w1,w2,w3,w4,w5,fun h4=>⟨(w h4).1,(w h4).2.1,(j.ok i t f h1 h2 h4).1,(j.ok i t f h1 h2 h4).2⟩⟩
theorem UZ.put{out:List Ft}(j:UZ ts out)(s:Sg){h:Int}(hh:h=0∨h=1){n:Int}{k:Nat}{t:Tg}(hk:n=(k:Int)+1)(ht:ts[k]? =some t)(hp:t.Place=4):UZ ts (vM s h out n):=by
 have hkl:=(List.getElem?_eq_some_iff.1 ht).1
 have hl:=j.len
 have hx:out[k]? =some (out[k]'(by omega)):=List.getElem?_eq_getElem (by omega)
 have hm:out[k]'(by omega)∈out:=List.getElem_mem (by omega)
 generalize (out[k]'(by omega))=f at hx hm
 have ef:Oj out (n-1)=f:=yM (by omega) hx
 have e:vM s h out n=out.set k (uT f s.What h):=by unfold vM; rw[ef,show(n-1).toNat=k by omega]
 rw[e]
 obtain⟨o1,o2⟩:=j.ok k t f ht hx hp
 refine⟨by simpa using hl,fun g hg=> ?_,fun i u g h1 h2 h3=> ?_⟩
 ·rcases List.mem_or_eq_of_mem_set hg with w|rfl
  ·exact j.nn g w
  ·exact afm _ _ (j.nn f hm)
 ·by_cases ei:i=k
  ·subst ei
   rw[List.getElem?_set_self (by omega)]at h2
   cases h2
   exact afn _ hh (j.nn f hm) o2 o1
  ·rw[List.getElem?_set_ne (fun q=>ei q.symm)]at h2
   exact j.ok i u g h1 h2 h3
theorem UZ.apply(ot:iU B ts ol)(j:UZ ts fs){s:Sg}(hs:s.Thing-1∈ol):UZ ts (jq B ts fs ol s):=by
 obtain⟨k,t,c,e1,e2,e3,_⟩:=ot.at' _ hs
 have hkl:=(List.getElem?_eq_some_iff.1 e2).1
 have hl:=j.len
 have hx:fs[k]? =some (fs[k]'(by omega)):=List.getElem?_eq_getElem (by omega)
 have hh:=(j.ok k t _ e2 hx e3).1
 rw[←yM e1 hx]at hh
 unfold jq
 generalize (Oj fs (s.Thing-1)).Holder=h at hh
 have:∀(L:List Int) (out:List Ft),(∀x∈L,x-1∈ol)->UZ ts out->UZ ts (L.foldl (vM s h) out):=by
  intro L
  induction L with
  |nil=>intro out _ j; exact j
  |cons x r ih=>
   intro out hL j
   obtain⟨k,t,c,e1,e2,e3,_⟩:=ot.at' _ (hL x (by simp))
   exact ih _ (fun y hy=>hL y (by simp[hy])) (j.put s hh (k:=k) (by omega) e2 e3)
 exact this _ fs (fun x hx=>(GZ.1 hx).1) j
theorem UZ.all(ot:iU B ts ol)(j:UZ ts fs){l:List Sg}(lv:∀s∈l,s.Thing-1∈ol):∀n,n≤l.length->UZ ts (eG B ts ol fs l n).1
 |0,_=>j
 |n+1,hn=>by
  obtain⟨i1,i2,i3,i4⟩:=lU B ts ol fs l n (by omega)
  have hr:=Ej B ts (eG B ts ol fs l n).1 ol (l:=(eG B ts ol fs l n).2.1) (by omega)
  have ih:=UZ.all ot j lv n (by omega)
  unfold eG
  refine ih.apply ot (lv _ (i3 _ ?_))
  unfold yX
  rw[List.getElem?_eq_getElem (by omega)]
  exact List.getElem_mem _
theorem UZ.dn{out:List Ft}(j:UZ ts out)(e:dn se B ts fs=0):dn se B ts out=0:=by
 obtain⟨e1,e2,e3,e4⟩:=iM (e:=e)
 refine(abg (by omega) (fun q=> ?_)).1 (j.U0 e4 e2)
 rcases q with q|q
 ·rw[e1]at q; cases q
 ·exact q j.len
end
end Go.Proofs.YtijnknjopjmiiaaGreatDoor.Zq
end
section
namespace Go.Proofs.YtijnknjopjmiiaaGreatDoor.Zq
open Zv
section
variable{B:List Cd}{ts:List Tg}{fs:List Ft}{ol:List Int}
theorem iU.pw(ot:iU B ts ol):ol.Pairwise fun a c=>bH ts a.toNat<bH ts c.toNat:=
 List.pairwise_iff_getElem.2 fun i j hi hj h=>ot.srt i j _ _ h (List.getElem?_eq_getElem hi) (List.getElem?_eq_getElem hj)
end
end Go.Proofs.YtijnknjopjmiiaaGreatDoor.Zq
end
section
namespace Go.Proofs.YtijnknjopjmiiaaGreatDoor.Zq
open Zv
section
theorem aiS{T:Tag}{H:Heap}{s:Sl}{l sp:List T.α}(h:Ow T H s l sp){i:Int}{n:Nat}(hi:i=n)(hn:n<l.length){sz:Nat}(hz:sz=T.n){K:Nat->Nat->Prop}(hk:∀c o,s.p=some ⟨c,0,none⟩->o=n*T.n->K c o):bQ s.p s.len i sz K:=by
 obtain⟨g1,g2,g0,⟨_,g3,_⟩|⟨c,g3,g4⟩⟩:=id h
 ·subst g3; simp at hn
 ·subst hi; subst hz
  unfold bQ NIL
  rw[g3]
  exact⟨⟨by omega,by omega⟩,hk c _ g3 (by rw[Int.toNat_natCast]; simp)⟩
theorem acD{T T1:Tag}(hT:∀x,(T.cells x).length=T.n){H:Heap}{s:Sl}{l sp:List T.α}(h:Ow T H s l sp){c:Nat}(hc:s.p=some ⟨c,0,none⟩){n:Nat}{x:T.α}(hx:l[n]? =some x)(pre post:List Value)(of:Nat){v:T1.α}{o:Nat}(ho:o=n*T.n)
  (e1:T.cells x=pre++(T1.cells v++post)) (hp:pre.length=of) (hn:(T1.cells v).length=T1.n) {K:T1.α->Prop} (hK:K v):LD T1 H c (o+of) K:=by
 obtain⟨g1,g2,g0,⟨g3,_⟩|⟨c',g3,g4⟩⟩:=id h
 ·rw[hc]at g3; cases g3
 ·rw[hc]at g3; cases g3
  have hl:=(List.getElem?_eq_some_iff.1 hx).1
  have hx1:(l++sp)[n]? =some x:=by rw[List.getElem?_append_left hl,hx]
  refine dV (T:=T1) v (fl T ((l++sp).take n)++pre) (post++fl T ((l++sp).drop (n+1))) g4 ?_ ?_ hn hK
  ·rw[iZ _ _ _ hx1,e1]; simp[List.append_assoc]
  ·rw[List.length_append,dD hT,List.length_take,Nat.min_eq_left (by rw[List.length_append]; omega),hp,ho]
theorem L6{T:Tag}(hT:∀x,(T.cells x).length=T.n){H:Heap}{s:Sl}{l sp:List T.α}(h:Ow T H s l sp){c:Nat}(hc:s.p=some ⟨c,0,none⟩){n:Nat}{x x':T.α}(hx:l[n]? =some x)(pre post old vs:List Value)(of:Nat){o:Nat}(ho:o=n*T.n)
  (e1:T.cells x=pre++(old++post)) (e2:T.cells x'=pre++(vs++post)) (hp:pre.length=of) (hl:old.length=vs.length) (hv:vs.all cell1=true) {K:Heap->Prop}
  (hK:∀H',Ow T H' s (l.set n x') sp->bK [c] H H'->H'.length=H.length->K H'):ST H c (o+of) vs K:=by
 obtain⟨g1,g2,g0,⟨g3,_⟩|⟨c',g3,g4⟩⟩:=id h
 ·rw[hc]at g3; cases g3
 ·rw[hc]at g3; cases g3
  have hn:=(List.getElem?_eq_some_iff.1 hx).1
  have hx1:(l++sp)[n]? =some x:=by rw[List.getElem?_append_left hn,hx]
  refine qE (fl T ((l++sp).take n)++pre) old (post++fl T ((l++sp).drop (n+1))) g4 ?_ ?_ hl hv ?_
  ·rw[iZ _ _ _ hx1,e1]; simp[List.append_assoc]
  ·rw[List.length_append,dD hT,List.length_take,Nat.min_eq_left (by rw[List.length_append]; omega),hp,ho]
  ·refine hK _ ⟨by simpa using g1,by simpa using g2,g0,.inr ⟨c,hc,?_⟩⟩ (bK.set _ _ (by simp)) (by simp)
   rw[fV (cZ g4)]
   have hx2:(l.set n x'++sp)[n]? =some x':=by rw[List.getElem?_append_left (by simpa using hn),List.getElem?_set_self hn]
   rw[iZ _ _ _ hx2,e2]
   have e3:(l.set n x'++sp).take n=(l++sp).take n:=by
    rw[List.take_append_of_le_length (by simp; omega),List.take_append_of_le_length (by omega),List.take_set_of_le (Nat.le_refl _)]
   have e4:(l.set n x'++sp).drop (n+1)=(l++sp).drop (n+1):=by
    rw[←List.set_append_left n x' hn,List.drop_set_of_lt (by omega)]
   rw[e3,e4]; simp[List.append_assoc]
theorem ahf{T:Tag}(hT:∀x,(T.cells x).length=T.n){H:Heap}{s:Sl}{l:List T.α}(h:dB T H s l){i:Int}{n:Nat}{x:T.α}(hi:i=n)(hx:l[n]? =some x){sz:Nat}(hz:sz=T.n){K:Nat->Nat->Prop}
  (hk:∀b o,(∀H2,dB T H2 s l->∀(T1:Tag) (pre post:List Value) (v:T1.α) (of:Nat) (k:T1.α->Prop),T.cells x=pre++(T1.cells v++post)->pre.length=of->(T1.cells v).length=T1.n->k v->LD T1 H2 b (o+of) k)->K b o):bQ s.p s.len i sz K:=by
 have t:=aZ hT h hi hx (k:=fun _=>True) hz trivial
 have hl:=(List.getElem?_eq_some_iff.1 hx).1
 obtain⟨h1,⟨_,h2,_⟩|⟨_,_,_,h2,_⟩|⟨b,A,B,z,o,ro,h3,h4⟩⟩:=id h
 ·subst h2; simp at hl
 ·subst h2; simp at hl
 ·unfold bQ NIL at t ⊢
  rw[h3]at t ⊢
  refine⟨t.1,hk _ _ fun H2 h2 T1 pre post v of k e1 e2 e3 hk=> ?_⟩
  have t2:=jr hT h2 hi hx hz pre post (T1:=T1) e1 e2 e3 (K:=k) hk
  unfold bQ NIL at t2
  rw[h3]at t2
  exact t2.2
theorem afo{α:Type}{l:List α}{n:Nat}{x:α}(h:l[n]? =some x):l.set n x=l:=by
 apply List.ext_getElem?
 intro i
 by_cases e:i=n
 ·subst e; rw[List.getElem?_set_self (List.getElem?_eq_some_iff.1 h).1,h]
 ·rw[List.getElem?_set_ne (fun q=>e q.symm)]
theorem acE{E:Env}{T:Tag}{ts:TypeId}{z:T.α}(ty:Jq E T ts z){tj:TI}(h2:E.ty ts=some tj)(h4:∀k,tj.k≠ .int k){H:Heap}{s:Sl}{l:List T.α}(hf:dB T H s l)(hl:l.length≤1048600){n:Nat}(hn:n=T.n){Q:Sl×Unit->Heap->Prop}(hq:∀r H' sp,aW T H r H' l sp->Q (r,()) H'):
  aN s.p.isNone (Q ((Sl.mk none 0 0),()) H) (NEW H [] n fun H1=>vk aH (lenV ((Sl.mk (some ⟨H.length,0,none⟩) 0 0)).v+(lX s.v).getD 0) (dF E [ts,ts] ((Sl.mk (some ⟨H.length,0,none⟩) 0 0)).v s.v H1) fun(x1:Sl) H2=>Q (x1,()) H2):=by
 subst hn
 refine bG (fun e=> ?_) (fun e=> ?_)
 ·obtain⟨h1,⟨_,h2,_⟩|⟨_,_,h3,_⟩|⟨_,_,_,_,_,_,h3,_⟩⟩:=hf
  ·subst h2; exact hq _ _ [] (aW.nil' T H)
  ·rw[h3]at e; cases e
  ·rw[h3]at e; cases e
 ·unfold NEW
  have r1:(mk H [] T.n false)[H.length]? =some (.row [] T.n false false true):=by simp[mk]
  have f1:bK [] H (mk H [] T.n false):=bK.app _ _ _
  generalize mk H [] T.n false=H1 at r1 f1
  have o1:Ow T H1 ⟨some ⟨H.length,0,none⟩,0,0⟩ [] []:=⟨rfl,rfl,by simp,.inr ⟨_,rfl,r1⟩⟩
  have n1:aW T H ⟨some ⟨H.length,0,none⟩,0,0⟩ H1 [] []:=⟨o1,fun d hd=>by simp at hd; subst hd; exact Nat.le_refl _,f1⟩
  refine JO ty h2 h4 (hf.bP f1 (by simp)) (by simp only[List.length_nil]; omega) o1 fun s8 H8 sp8 k1 k2 k3=> ?_
  have:=n1.app k1 k2 k3
  rw[List.nil_append]at this
  exact hq _ _ sp8 this
variable{H:Heap}{b m:Nat}{se:Bool}{B:List Cd}{ms:List au}{a1 a2 a3 cs so:Sl}{bp:Option Addr}{ts:List Tg}{fs:List Ft}{ol:List Int}{l:List Sg}
theorem aaf(hf:dB TF H a2 fs)(hl:fs.length≤1048600){Q:Sl×Unit->Heap->Prop}(hq:∀r H' sp,aW TF H r H' fs sp->Q (r,()) H'):CALL P [aH] dh [a2.v] H Q:=by
 apply kL
 unfold dS
 exact acE tyF rfl (fun _=>by simp) hf hl rfl hq
theorem abp(hf:dB eU H a2 l)(hl:l.length≤1048600){Q:Sl×Unit->Heap->Prop}(hq:∀r H' sp,aW eU H r H' l sp->Q (r,()) H'):CALL P [aH] dO [a2.v] H Q:=by
 apply jR
 unfold dP
 exact acE BO rfl (fun _=>by simp) hf hl rfl hq
theorem ajJ{s r:Sl}{x y:List Int}(hx:dB dX H s x)(hy:dB dX H r y)(hl:x.length≤1048600){Q:Bool×Unit->Heap->Prop}(hq:Q (decide (x=y),()) H):CALL P [ah] ji [s.v,r.v] H Q:=by
 apply AU
 unfold jm
 have h1:=hx.1
 have h2:=hy.1
 have no:¬x=y->Q (false,()) H:=fun q=>by have:=hq; rwa [decide_eq_false q]at this
 refine yO (fun e=>no fun q=>by subst q; omega) (fun e=> ?_)
 have hll:x.length=y.length:=by omega
 refine aO (fun _ H'=>H'=H∧x=y) (fun j hj=> ?_) (fun _ H' hh=>by obtain⟨rfl,e⟩:=hh; rwa [decide_eq_true e]at hq)
 refine aY (fun(t:(Int×Unit)×Unit) H'=>H'=H∧∃n:Nat,t.1.1=n∧n≤x.length∧∀(i:Nat) a c,i<n->x[i]? =some a->y[i]? =some c->a=c) (fun t=>x.length-t.1.1.toNat) ?_ ⟨rfl,0,rfl,Nat.zero_le _,fun i a c h=>by omega⟩
 rintro G ⟨⟨i,_⟩,_⟩ H' ⟨rfl,n,hi,hn,inv⟩ hG
 simp only at hi; subst hi
 dsimp only at hG ⊢
 refine cu (fun hlt=> ?_) (fun hge=>hj _ _ ⟨rfl,yZ hll fun i a c w=>inv i a c (by omega)⟩)
 have hlt:n<x.length:=by omega
 have ha:x[n]? =some x[n]:=List.getElem?_eq_getElem hlt
 have hc:y[n]? =some (y[n]'(by omega)):=List.getElem?_eq_getElem (by omega)
 generalize x[n]=a at ha
 generalize (y[n]'(by omega))=c at hc
 refine aZ (T:=dX) uP hx rfl ha rfl (aZ (T:=dX) uP hy rfl hc rfl (yO (fun q=>no fun w=> ?_) (fun q=> ?_)))
 ·subst w; rw[ha]at hc; cases hc; exact q rfl
 ·rw[bT (by omega) (by omega)]
  refine hG _ _ ⟨rfl,n+1,by simp,hlt,fun i a' c' w1 w2 w3=> ?_⟩ (by simp; omega)
  by_cases e:i=n
  ·subst e; rw[ha]at w2; rw[hc]at w3; cases w2; cases w3; exact q
  ·exact inv i a' c' (by omega) w2 w3
theorem Plc.at4(pl:Plc m H a1 cs so B ts ol)(hfe:fs.length=ts.length):∃cl,dB TC H cs cl∧∀x∈ol,∃(k:Nat) (t:Tg) (c:Cd) (g:aA) (f:Ft),x=k∧k<2048∧ts[k]? =some t∧t.Place=4∧1≤t.Stamp∧cl[k]? =some g∧CR m H g c∧cpI B ts x=c.ps∧ckI B ts x=c.g.Kind∧g.Kind=c.g.Kind∧c.ps.length≤4∧fs[k]? =some f∧Oj fs x=f:=by
 obtain⟨cl,hcl,cd⟩:=pl.card
 refine⟨cl,hcl,fun x hx=> ?_⟩
 obtain⟨k,t,c,g,ek,et,eg,cr,ecp,eck,egk,e4⟩:=cd x hx
 obtain⟨k',t',_,e1',e2',e3',_,_,e6',_⟩:=pl.ot.at' x hx
 have:k'=k:=by omega
 subst this; rw[et]at e2'; cases e2'
 have hkl:=(List.getElem?_eq_some_iff.1 et).1
 have hlen:=pl.ot.len
 have hfx:fs[k']? =some (fs[k']'(by omega)):=List.getElem?_eq_getElem (by omega)
 exact⟨k',t,c,g,_,ek,by omega,et,e3',e6',eg,cr,ecp,eck,egk,e4,hfx,yM ek hfx⟩
theorem afp(pl:Plc m H a1 cs so B ts ol)(hf:dB TF H a2 fs)(hfe:fs.length=ts.length){s:Sg}(hs:s.Thing-1∈ol){x:Int}(hx:x∈ol){Q:Bool×Unit->Heap->Prop}(hq:Q (DX B ts fs s x,()) H):
  CALL P [ah] kV [aJ.enc ⟨bp,a1,cs,so⟩,a2.v,eU.enc s,.int .i64 x] H Q:=by
 apply EW
 unfold lF
 obtain⟨cl,hcl,cd⟩:=pl.at4 hfe
 obtain⟨k,t,c,g,f,ek,k2,et,ep,est,eg,cr,ecp,eck,egk,e4,hfx,ef⟩:=cd x hx
 obtain⟨k',t',c',g',f',ek',k2',et',ep',est',eg',cr',ecp',eck',egk',e4',hfx',ef'⟩:=cd _ hs
 rw[bT (by omega) (by omega)]
 unfold DX at hq
 refine eP (fun q=> ?_) (fun q4=> ?_)
 ·rw[if_pos q]at hq; exact hq
 rw[if_neg q4,ef,ef',eck,←egk]at hq
 refine aZ (T:=TF) KZ hf ek hfx rfl ?_
 refine ahf (T:=TF) KZ hf ek' hfx' rfl fun b o rd=>rd H hf dX [] ((TF.cells f').drop 1) f'.Holder 0 _ rfl rfl rfl ⟨rfl,rd H hf dX [] ((TF.cells f').drop 1) f'.Holder 0 _ rfl rfl rfl ⟨rfl,?_⟩⟩
 refine jr (T:=TC) (T1:=aj .u8) hTC hcl ek eg rfl ((TC.cells g).take 2) ((TC.cells g).drop 3) rfl rfl rfl (yO (fun q=> ?_) (fun q=> ?_))
 ·rw[if_pos q]at hq; exact hq
 rw[if_neg (fun w=>w q)]at hq
 refine eP (fun q=>by rw[if_pos q]at hq; exact hq) (fun q5=> ?_)
 rw[if_neg q5]at hq
 refine eP (fun q=>by rw[if_pos q]at hq; exact hq) (fun q6=> ?_)
 rw[if_neg q6]at hq
 refine eP (fun q=>by rw[if_pos q]at hq; exact hq) (fun q7=> ?_)
 rw[if_neg q7]at hq
 refine eP (fun q=> ?_) (fun q8=> ?_)
 ·rw[if_pos q]at hq
  refine aX (bG (fun e=> ?_) (fun e=> ?_))
  ·have e:(f.Holder==f'.Holder)=true:=e
   rw[e,Bool.true_and]at hq; exact hq
  ·have e:(f.Holder==f'.Holder)=false:=e
   rw[e,Bool.false_and]at hq; exact hq
 rw[if_neg q8]at hq
 refine eP (fun q=>by rw[if_pos q]at hq; exact hq) (fun q9=> ?_)
 rw[if_neg q9]at hq
 refine eP (fun q=> ?_) (fun q10=> ?_)
 ·rw[if_pos q]at hq; exact afe hq
 ·rw[if_neg q10]at hq; exact hq
end
end Go.Proofs.YtijnknjopjmiiaaGreatDoor.Zq
end
section
namespace Go.Proofs.YtijnknjopjmiiaaGreatDoor.Zq
open Zv
section
variable{H:Heap}{b m:Nat}{se:Bool}{B:List Cd}{ms:List au}{a1 a2 a3 cs so:Sl}{bp:Option Addr}{ts:List Tg}{fs:List Ft}{ol:List Int}{l:List Sg}
theorem XM(pl:Plc m H a1 cs so B ts ol)(hf:dB TF H a2 fs)(hfe:fs.length=ts.length){s:Sg}(hs:s.Thing-1∈ol){Q:Sl×Unit->Heap->Prop}(hq:∀r H' sp,aW dX H r H' (fB B ts fs ol s) sp->Q (r,()) H'):
  CALL P [aH] fE [aJ.enc ⟨bp,a1,cs,so⟩,a2.v,eU.enc s] H Q:=by
 apply EN
 unfold lC
 have hol:=pl.o.1
 have few:=pl.ot.few
 have hlen:=pl.ot.len
 obtain⟨cl,hcl,cd⟩:=pl.at4 hfe
 refine aO (fun y H'=>∃sp,aW dX H y.1.1 H' (fB B ts fs ol s) sp) (fun j hj=> ?_) (fun y H' h=>by obtain⟨sp,h⟩:=h; exact hq _ _ _ h)
 refine aY (fun(y:(Sl×Int×Unit)×Unit) H'=>∃(n:Nat) (sp:List Int),y.1.2.1=n∧n≤ol.length∧aW dX H y.1.1 H' ((ol.take n).flatMap (fZ B ts fs s)) sp) (fun y=>ol.length-y.1.2.1.toNat) ?_ ⟨0,[],rfl,Nat.zero_le _,by simpa using aW.nil' dX H⟩
 rintro G ⟨⟨out,i,_⟩,_⟩ H1 ⟨n,sp,hi,hn,no⟩ hG
 simp only at hi no; subst hi
 dsimp only at hG ⊢
 have f1:=no.2.2
 refine cu (fun hlt=> ?_) (fun hge=>hj _ _ ⟨sp,?_⟩)
 ·have hlt:n<ol.length:=by omega
  have hx:ol[n]? =some ol[n]:=List.getElem?_eq_getElem hlt
  have hm:ol[n]∈ol:=List.getElem_mem hlt
  generalize ol[n]=x at hx hm
  obtain⟨kx,_,_,_,_,ek,k2,_⟩:=cd x hm
  have tk:=A8 (fZ B ts fs s) hx
  have hpre:((ol.take n).flatMap (fZ B ts fs s)).length≤16:=by
   have:=uU (f:=fZ B ts fs s) (c:=1) (l:=ol.take n) fun y _=>DY B ts fs s y
   rw[List.length_take]at this
   omega
  refine aZ (T:=dX) uP (pl.o.bP f1 (by simp)) rfl hx rfl (afp (pl.new f1) (hf.bP f1 (by simp)) hfe hs hm ?_)
  refine aO (fun y H'=>∃sp,aW dX H y.1.1 H' ((ol.take (n+1)).flatMap (fZ B ts fs s)) sp) (fun j2 hj2=>bG (fun e=> ?_) (fun e=> ?_)) ?_
  ·have e1:fZ B ts fs s x=[x+1]:=if_pos e
   rw[bT (by omega) (by omega)]
   refine qF aiO rfl (fun _=>by simp) (m:=1) [x+1] rfl rfl (by show 2*(_+1)*4096≤_; omega) no.1 fun s4 H5 sp5 k1 k2 k3=> ?_
   exact hj2 _ _ ⟨sp5,by rw[tk,e1]; exact no.app k1 k2 k3⟩
  ·have e1:fZ B ts fs s x=[]:=if_neg (by have e:DX B ts fs s x=false:=e; rw[e]; decide)
   exact hj2 _ _ ⟨sp,by rw[tk,e1,List.append_nil]; exact no⟩
  ·rintro⟨⟨out3,_⟩,_⟩ H3 ⟨sp3,no3⟩
   rw[bT (by omega) (by omega)]
   exact hG _ _ ⟨n+1,sp3,by simp,hlt,no3⟩ (by simp; omega)
 ·have:n=ol.length:=by omega
  subst this
  rw[List.take_length]at no; exact no
theorem Q9(pl:Plc m H a1 cs so B ts ol)(hf:dB TF H a2 fs)(hfe:fs.length=ts.length){s:Sg}(hs:s.Thing-1∈ol){Q:Sl×Unit->Heap->Prop}(hq:∀r H' sp,aW TF H r H' (jq B ts fs ol s) sp->Q (r,()) H'):
  CALL P [aH] gI [aJ.enc ⟨bp,a1,cs,so⟩,a2.v,eU.enc s] H Q:=by
 apply ES
 unfold lD
 have hlen:=pl.ot.len
 refine aaf hf (by omega) fun x1 H1 sp1 n1=> ?_
 refine XM (pl.new n1.2.2) (hf.bP n1.2.2 (by simp)) hfe hs fun x2 H2 sp2 n2=> ?_
 obtain⟨cl,hcl,cd⟩:=pl.at4 hfe
 obtain⟨k',t',c',g',f',ek',k2',et',ep',est',eg',cr',ecp',eck',egk',e4',hfx',ef'⟩:=cd _ hs
 have hl2:x2.len=(fB B ts fs ol s).length:=n2.1.1
 have hmem:∀x∈fB B ts fs ol s,∃k:Nat,x=(k:Int)+1∧k<fs.length:=fun x hx=>by
  obtain⟨k,t,c,g,f,e1,_,e2,_⟩:=cd _ (GZ.1 hx).1
  have:=(List.getElem?_eq_some_iff.1 e2).1
  exact⟨k,by omega,by omega⟩
 have hal:=pW B ts fs ol s
 have few:=pl.ot.few
 generalize hL:fB B ts fs ol s=L at hl2 hmem n2 hal
 have eap:jq B ts fs ol s=L.foldl (vM s f'.Holder) fs:=by unfold jq; rw[hL,ef']
 refine aO (fun _ H'=>aW TF H x1 H' (L.foldl (vM s f'.Holder) fs) sp1) (fun j hj=> ?_) (fun _ H' hh=>hq _ _ sp1 (by rw[eap]; exact hh))
 refine aY (fun(y:(Int×Unit)×Unit) H'=>∃n:Nat,y.1.1=n∧n≤L.length∧aW TF H x1 H' ((L.take n).foldl (vM s f'.Holder) fs) sp1∧Ow dX H' x2 L sp2) (fun y=>L.length-y.1.1.toNat) ?_ ⟨0,rfl,Nat.zero_le _,by simpa using n1.new n2.2.2,n2.1⟩
 rintro G ⟨⟨i,_⟩,_⟩ H4 ⟨n,hi,hn,no,o2⟩ hG
 simp only at hi; subst hi
 dsimp only at hG ⊢
 refine cu (fun hlt=> ?_) (fun hge=>hj _ _ ?_)
 ·have hlt:n<L.length:=by omega
  have hx:L[n]? =some L[n]:=List.getElem?_eq_getElem hlt
  obtain⟨k,ek,hk⟩:=hmem L[n] (List.getElem_mem hlt)
  generalize L[n]=x at hx ek
  have tk:=Vy (vM s f'.Holder) fs hx
  have hcl:=sQ s f'.Holder (L.take n) fs
  generalize hcur:(L.take n).foldl (vM s f'.Holder) fs=cur at no tk hcl
  have hky:cur[k]? =some (cur[k]'(by omega)):=List.getElem?_eq_getElem (by omega)
  generalize (cur[k]'(by omega))=g at hky
  have eg:Oj cur (x-1)=g:=yM (by omega) hky
  have w3:IntKind.wrap .i64 (x-1)=(k:Int):=by rw[bT (by omega) (by omega)]; omega
  have w4:IntKind.wrap .i64 (s.Thing-1)=(k':Int):=by rw[bT (by omega) (by omega)]; omega
  refine aZ (T:=dX) uP o2.jH rfl hx rfl ?_
  rw[w3,w4]
  refine aiS no.1 rfl (by omega) rfl fun c0 o hc0 ho=> ?_
  have ep:vM s f'.Holder cur x=cur.set k (uT g s.What f'.Holder):=by
   unfold vM
   rw[eg,show(x-1).toNat=k by omega]
  refine aO (fun _ H'=>Ow TF H' x1 (cur.set k (uT g s.What f'.Holder)) sp1∧bK [c0] H4 H'∧H'.length=H4.length) (fun j12 hj12=> ?_) ?_
  ·have hkl:k<cur.length:=(List.getElem?_eq_some_iff.1 hky).1
   unfold uT at hj12
   refine eP (fun e=> ?_) (fun e10=> ?_)
   ·rw[if_pos e]at hj12
    exact D6 (hf.bP no.2.2 (by simp)) rfl hfx' (L6 (T:=TF) KZ no.1 hc0 hky [] ((TF.cells g).drop 1) ((TF.cells g).take 1) [.int .i64 f'.Holder] 0 ho rfl (x':=⟨f'.Holder,g.Suit,g.Traits,g.Power,g.Health⟩) rfl rfl rfl rfl fun H6 o6 f6 l6=>hj12 _ _ ⟨o6,f6,l6⟩)
   rw[if_neg e10]at hj12
   refine aO _ (fun j17 hj17=> ?_) (fun _ H' hh=>hj12 _ H' hh)
   refine eP (fun e=> ?_) (fun e11=> ?_)
   ·rw[if_pos e]at hj17
    exact L6 (T:=TF) KZ no.1 hc0 hky ((TF.cells g).take 1) ((TF.cells g).drop 2) [.int .u8 g.Suit] [.int .u8 s.What.Suit] 1 ho rfl (x':=⟨g.Holder,s.What.Suit,g.Traits,g.Power,g.Health⟩) rfl rfl rfl rfl fun H6 o6 f6 l6=>hj17 _ _ ⟨o6,f6,l6⟩
   rw[if_neg e11]at hj17
   refine aO _ (fun j19 hj19=> ?_) (fun _ H' hh=>hj17 _ H' hh)
   refine eP (fun e=> ?_) (fun e12=> ?_)
   ·rw[if_pos e]at hj19
    exact acD (T:=TF) (T1:=aj .u16) KZ no.1 hc0 hky ((TF.cells g).take 2) ((TF.cells g).drop 3) 2 (v:=g.Traits) ho rfl rfl rfl (ag6 (L6 (T:=TF) KZ no.1 hc0 hky ((TF.cells g).take 2) ((TF.cells g).drop 3) [.int .u16 g.Traits] [.int .u16 (LY g.Traits s.What.Trait)] 2 ho rfl (x':=⟨g.Holder,g.Suit,LY g.Traits s.What.Trait,g.Power,g.Health⟩) rfl rfl rfl rfl fun H6 o6 f6 l6=>hj19 _ _ ⟨o6,f6,l6⟩))
   rw[if_neg e12]at hj19
   refine aO _ (fun j23 hj23=> ?_) (fun _ H' hh=>hj19 _ H' hh)
   refine eP (fun e=> ?_) (fun e13=> ?_)
   ·rw[if_pos e]at hj23
    exact acD (T:=TF) (T1:=aj .u16) KZ no.1 hc0 hky ((TF.cells g).take 2) ((TF.cells g).drop 3) 2 (v:=g.Traits) ho rfl rfl rfl (ag8 (L6 (T:=TF) KZ no.1 hc0 hky ((TF.cells g).take 2) ((TF.cells g).drop 3) [.int .u16 g.Traits] [.int .u16 (LZ g.Traits s.What.Trait)] 2 ho rfl (x':=⟨g.Holder,g.Suit,LZ g.Traits s.What.Trait,g.Power,g.Health⟩) rfl rfl rfl rfl fun H6 o6 f6 l6=>hj23 _ _ ⟨o6,f6,l6⟩))
   rw[if_neg e13]at hj23
   refine aO _ (fun j27 hj27=> ?_) (fun _ H' hh=>hj23 _ H' hh)
   refine eP (fun e=> ?_) (fun e14=> ?_)
   ·rw[if_pos e]at hj27
    refine L6 (T:=TF) KZ no.1 hc0 hky ((TF.cells g).take 3) ((TF.cells g).drop 4) [.int .i64 g.Power] [.int .i64 s.What.Count] 3 ho rfl (x':=⟨g.Holder,g.Suit,g.Traits,s.What.Count,g.Health⟩) rfl rfl rfl rfl fun H6 o6 f6 l6=>⟨rfl,?_⟩
    refine L6 (T:=TF) KZ o6 hc0 (List.getElem?_set_self hkl) ((TF.cells (⟨g.Holder,g.Suit,g.Traits,s.What.Count,g.Health⟩:Ft)).take 4) [] [.int .i64 g.Health] [.int .i64 s.What.Count] 4 ho rfl (x':=⟨g.Holder,g.Suit,g.Traits,s.What.Count,s.What.Count⟩) rfl rfl rfl rfl fun H7 o7 f7 l7=>hj27 _ _ ⟨?_,f6.trans f7,by omega⟩
    rw[List.set_set]at o7; exact o7
   rw[if_neg e14]at hj27
   refine aO _ (fun j29 hj29=> ?_) (fun _ H' hh=>hj27 _ H' hh)
   refine eP (fun e=> ?_) (fun e15=> ?_)
   ·rw[if_pos e]at hj29
    refine acD (T:=TF) (T1:=dX) KZ no.1 hc0 hky ((TF.cells g).take 3) ((TF.cells g).drop 4) 3 (v:=g.Power) ho rfl rfl rfl ?_
    refine L6 (T:=TF) KZ no.1 hc0 hky ((TF.cells g).take 3) ((TF.cells g).drop 4) [.int .i64 g.Power] [.int .i64 (IntKind.wrap .i64 (g.Power+s.What.Count))] 3 ho rfl (x':=⟨g.Holder,g.Suit,g.Traits,IntKind.wrap .i64 (g.Power+s.What.Count),g.Health⟩) rfl rfl rfl rfl fun H6 o6 f6 l6=> ?_
    refine acD (T:=TF) (T1:=dX) KZ o6 hc0 (List.getElem?_set_self hkl) ((TF.cells (⟨g.Holder,g.Suit,g.Traits,IntKind.wrap .i64 (g.Power+s.What.Count),g.Health⟩:Ft)).take 4) [] 4 (v:=g.Health) ho rfl rfl rfl ?_
    refine L6 (T:=TF) KZ o6 hc0 (List.getElem?_set_self hkl) ((TF.cells (⟨g.Holder,g.Suit,g.Traits,IntKind.wrap .i64 (g.Power+s.What.Count),g.Health⟩:Ft)).take 4) [] [.int .i64 g.Health] [.int .i64 (IntKind.wrap .i64 (g.Health+s.What.Count))] 4 ho rfl (x':=⟨g.Holder,g.Suit,g.Traits,IntKind.wrap .i64 (g.Power+s.What.Count),IntKind.wrap .i64 (g.Health+s.What.Count)⟩) rfl rfl rfl rfl fun H7 o7 f7 l7=>hj29 _ _ ⟨?_,f6.trans f7,by omega⟩
    rw[List.set_set]at o7; exact o7
   rw[if_neg e15,afo hky]at hj29
   exact hj29 _ _ ⟨no.1,.refl _ _,rfl⟩
  ·rintro _ H6 ⟨o6,f6,l6⟩
   obtain⟨p1,p2⟩:=no.ptr _ hc0
   obtain⟨p3,p4⟩:=n1.ptr _ hc0
   rw[bT (by omega) (by omega)]
   refine hG _ _ ⟨n+1,by simp,hlt,by rw[tk,ep]; exact⟨o6,no.2.1,no.2.2.then f6 fun d hd=>by simp at hd; subst hd; exact .inr p1⟩,o2.bP f6 fun d hd e=> ?_⟩ (by simp; omega)
   simp at hd; subst hd
   have:=n2.2.1 _ e; omega
 ·have:n=L.length:=by omega
  subst this
  rw[List.take_length]at no; exact no
theorem afq(pl:Plc m H a1 cs so B ts ol){s o:Sg}(hs:s.Thing-1∈ol)(ho:o.Thing-1∈ol){Q:Bool×Unit->Heap->Prop}(hq:Q (mV ts s o,()) H):CALL P [ah] iW [aJ.enc ⟨bp,a1,cs,so⟩,eU.enc s,eU.enc o] H Q:=by
 apply Fa
 unfold lH
 obtain⟨k,t,c,e1,e2,_⟩:=pl.ot.at' _ hs
 obtain⟨k',t',c',e1',e2',_⟩:=pl.ot.at' _ ho
 have hlen:=pl.ot.len
 have hk:=(List.getElem?_eq_some_iff.1 e2).1
 have hk':=(List.getElem?_eq_some_iff.1 e2').1
 have w1:IntKind.wrap .i64 (s.Thing-1)=(k:Int):=by rw[bT (by omega) (by omega)]; omega
 have w2:IntKind.wrap .i64 (o.Thing-1)=(k':Int):=by rw[bT (by omega) (by omega)]; omega
 rw[w1,w2]
 unfold mV at hq
 rw[jv e1 e2,jv e1' e2']at hq
 refine fP pl.hs rfl e2 (fP pl.hs rfl e2' (aX (cu (fun q=> ?_) (fun q=>eP (fun q2=> ?_) (fun q2=> ?_)))))
 ·rw[decide_eq_true q,Bool.true_or]at hq; exact hq
 ·rw[decide_eq_false q,decide_eq_true q2,Bool.false_or,Bool.true_and]at hq; exact hq
 ·rw[decide_eq_false q,decide_eq_false q2]at hq; exact hq
theorem aiT(pl:Plc m H a1 cs so B ts ol)(hf:dB TF H a2 fs)(hfe:fs.length=ts.length){s o:Sg}(hs:s.Thing-1∈ol)(ho:o.Thing-1∈ol){Q:Bool×Unit->Heap->Prop}(hq:∀H',bK [] H H'->Q (lT B ts fs ol s o,()) H'):
  CALL P [ah] jO [aJ.enc ⟨bp,a1,cs,so⟩,a2.v,eU.enc s,eU.enc o] H Q:=by
 apply BN
 unfold jT
 have few:=pl.ot.few
 have hal:=pW B ts fs ol s
 refine XM pl hf hfe hs fun x1 H1 sp1 n1=>⟨rfl,rfl,rfl,rfl,?_⟩
 refine Q9 (pl.new n1.2.2) (hf.bP n1.2.2 (by simp)) hfe ho fun x2 H2 sp2 n2=>⟨rfl,rfl,?_⟩
 have f02:=n1.2.2.trans n2.2.2
 refine XM (pl.new f02) n2.1.jH (by rw[G5]; exact hfe) hs fun x3 H3 sp3 n3=> ?_
 refine ajJ ((n1.new n2.2.2).new n3.2.2).1.jH n3.1.jH (by omega) ?_
 have:=hq H3 (f02.trans n3.2.2)
 unfold lT at this
 simpa using this
def D8(B:List Cd)(ts:List Tg)(s:Sg):Prop:=1≤s.Thing∧(∃t,ts[(s.Thing-1).toNat]? =some t∧t.Place=4)∧0≤s.Place∧(cpI B ts (s.Thing-1))[s.Place.toNat]? =some s.What∧s.What.When=5
theorem D8.mem(ot:iU B ts ol){s:Sg}(h:D8 B ts s):s.Thing-1∈ol:=by
 obtain⟨h1,⟨t,h2,h3⟩,_⟩:=h
 have:=ot.all _ t h2 h3
 rwa [show(((s.Thing-1).toNat:Nat):Int)=s.Thing-1 by omega]at this
theorem aiU{x y:ByteArray}(h:x.toList=y.toList):x=y:=by
 obtain⟨⟨x⟩⟩:=x
 obtain⟨⟨y⟩⟩:=y
 rw[ByteArray.toList_mk,ByteArray.toList_mk]at h
 rw[h]
theorem abq{x y:ByteArray}:x.toList=y.toList↔x=y:=⟨aiU,by rintro rfl; rfl⟩
theorem ajK(x y:Pt):((x.When==y.When)&&((x.Verb==y.Verb)&&((x.Whom==y.Whom)&&((x.Count==y.Count)&&((x.Suit==y.Suit)&&((x.Trait==y.Trait)&&((x.Mark==y.Mark)&&((x.Name.toList==y.Name.toList)&&true))))))))=true↔x=y:=by
 simp only[Bool.and_eq_true,and_true,beq_iff_eq,abq]
 obtain⟨x1,x2,x3,x4,x5,x6,x7,x8⟩:=x
 obtain⟨y1,y2,y3,y4,y5,y6,y7,y8⟩:=y
 simp
theorem ahg{x y:Pt}{Q:Bool×Unit->Heap->Prop}(hq:∀r,(r=true↔x=y)->Q (r,()) H):CALL P [ah] wY [TP.enc x,TP.enc y] H Q:=by
 apply Uf
 unfold yh
 exact hq _ (ajK x y)
theorem afr(pl:Plc m H a1 cs so B ts ol){s:Sg}{Q:Bool×Unit->Heap->Prop}(hq:∀r,(r=true↔D8 B ts s)->Q (r,()) H):CALL P [ah] jU [aJ.enc ⟨bp,a1,cs,so⟩,eU.enc s] H Q:=by
 apply IZ
 unfold nZ
 have hlen:=pl.ot.len
 have hsl:=pl.hs.1
 obtain⟨cl,hcl,cd⟩:=pl.card
 by_cases h1:s.Thing<1
 ·exact aX (dI (by simpa using h1) (dI rfl (hq _ ⟨fun q=>(by cases q),fun q=>by have:=q.1; omega⟩)))
 by_cases h2:(ts.length:Int)<s.Thing
 ·refine aX (bC (by simpa using h1) (dI (by simp; omega) (dI rfl (hq _ ⟨fun q=>(by cases q),fun q=> ?_⟩))))
  obtain⟨_,⟨t,q,_⟩,_⟩:=q
  have:=(List.getElem?_eq_some_iff.1 q).1; omega
 have hw:IntKind.wrap .i64 (s.Thing-1)=((s.Thing-1).toNat:Int):=by rw[bT (by omega) (by omega)]; omega
 rw[hw]
 have ht:ts[(s.Thing-1).toNat]? =some (ts[(s.Thing-1).toNat]'(by omega)):=List.getElem?_eq_getElem (by omega)
 generalize (ts[(s.Thing-1).toNat]'(by omega))=t at ht
 refine aX (bC (by simpa using h1) (bC (by simp; omega) (kS pl.hs rfl ht (yO (fun q=> ?_) (fun q=> ?_)))))
 ·refine hq _ ⟨fun q=>(by cases q),fun w=> ?_⟩
  obtain⟨_,⟨t',w1,w2⟩,_⟩:=w
  rw[ht]at w1; cases w1; exact absurd w2 q
 ·have hm:=pl.ot.all _ t ht q
  obtain⟨k,t',c,g,ek,et,eg,cr,ecp,eck,egk,e4⟩:=cd _ hm
  have:k=(s.Thing-1).toNat:=by omega
  subst this
  rw[show(((s.Thing-1).toNat:Nat):Int)=s.Thing-1 by omega]at ecp
  have hps:=cr.p
  have hpl:=hps.1
  have key:D8 B ts s↔0≤s.Place∧c.ps[s.Place.toNat]? =some s.What∧s.What.When=5:=by
   unfold D8
   rw[ecp]
   exact⟨fun w=>w.2.2,fun w=>⟨by omega,⟨t,ht,q⟩,w⟩⟩
  refine QY hcl rfl eg (aX (cu (fun p0=> ?_) (fun p0=>hq _ ⟨fun q=>(by cases q),fun w=>absurd (key.1 w).1 p0⟩)))
  refine cu (fun p1=> ?_) (fun p1=>hq _ ⟨fun q=>(by cases q),fun w=> ?_⟩)
  ·have hp:c.ps[s.Place.toNat]? =some (c.ps[s.Place.toNat]'(by omega)):=List.getElem?_eq_getElem (by omega)
   generalize (c.ps[s.Place.toNat]'(by omega))=p at hp
   have pn:s.Place=(s.Place.toNat:Int):=by omega
   refine VA hps pn hp (eP (fun w5=> ?_) (fun w5=>hq _ ⟨fun q=>(by cases q),fun w=> ?_⟩))
   ·refine QX hps pn hp (ahg fun r hr=>hq r ?_)
    rw[hr,key,hp]
    constructor
    ·rintro rfl; exact⟨by omega,rfl,w5⟩
    ·rintro⟨_,w,_⟩; simpa using w
   ·obtain⟨_,w1,w2⟩:=key.1 w
    rw[hp]at w1; simp at w1; subst w1; exact absurd w2 w5
  ·have:=(List.getElem?_eq_some_iff.1 (key.1 w).2.1).1; omega
end
end Go.Proofs.YtijnknjopjmiiaaGreatDoor.Zq
end
section
namespace Go.Proofs.YtijnknjopjmiiaaGreatDoor.Zq
open Zv
section
variable{H:Heap}{b m:Nat}{se:Bool}{B:List Cd}{ms:List au}{a1 a2 a3 cs so:Sl}{bp:Option Addr}{ts:List Tg}{fs:List Ft}{ol:List Int}{l:List Sg}
theorem ahh(pl:Plc m H a1 cs so B ts ol)(hf:dB TF H a2 fs)(hfe:fs.length=ts.length)(hl:dB eU H a3 l)(hll:l.length≤1048600)(lv:∀s∈l,s.Thing-1∈ol){Q:Int×Unit->Heap->Prop}(hq:∀H',bK [] H H'->Q (if l.length=0 then -1 else yY B ts fs ol l,()) H'):
  CALL P [dX] mF [aJ.enc ⟨bp,a1,cs,so⟩,a2.v,a3.v] H Q:=by
 apply GU
 unfold mQ
 have h3:=hl.1
 refine aO (fun(y:(Int×Int×Unit)×Unit) H'=>bK [] H H'∧y.1.1=(nx B ts fs ol l l.length).1∧y.1.2.1=if l.length=0 then -1 else(nx B ts fs ol l l.length).2) (fun j hj=> ?_) ?_
 ·refine aY (fun(y:(Int×Int×Int×Unit)×Unit) H'=>∃n:Nat,y.1.2.2.1=n∧n≤l.length∧bK [] H H'∧y.1.1=(nx B ts fs ol l n).1∧y.1.2.1=if n=0 then -1 else(nx B ts fs ol l n).2) (fun y=>l.length-y.1.2.2.1.toNat) ?_ ⟨0,rfl,Nat.zero_le _,.refl _ _,rfl,rfl⟩
  rintro G ⟨⟨free,first,i,_⟩,_⟩ H1 ⟨n,hi,hn,f1,hfr,hfi⟩ hG
  simp only at hi hfr hfi; subst hi
  dsimp only at hG ⊢
  refine cu (fun hlt=> ?_) (fun hge=>hj _ _ ?_)
  ·have hlt:n<l.length:=by omega
   obtain⟨r1,r2,r3,r4⟩:=XK B ts fs ol l n
   have hx:l[n]? =some l[n]:=List.getElem?_eq_getElem hlt
   have hxm:=lv _ (List.getElem_mem hlt)
   generalize l[n]=s at hx hxm
   have es:yX l (n:Int)=s:=yN rfl hx
   have enx:nx B ts fs ol l (n+1)=(if(!DZ B ts fs ol l n l.length&&(decide (free<0)||mV ts s (yX l free)))=true then(n:Int)else free,if mV ts s (yX l (nx B ts fs ol l n).2)=true then(n:Int)else(nx B ts fs ol l n).2):=by
    rw[hfr]
    show(_,_)=_
    rw[es]
   rw[←hfr]at r1 r2
   have h1:=pl.new f1
   have hf1:=hf.bP f1 (by simp)
   have hl1:=hl.bP f1 (by simp)
   refine aO (fun(y:(Int×Int×Unit)×Unit) H'=>bK [] H H'∧y.1.1=(nx B ts fs ol l (n+1)).1∧y.1.2.1=(nx B ts fs ol l (n+1)).2) (fun j5 hj5=> ?_) ?_
   ·refine aZ (T:=eU) AZ hl1 rfl hx rfl ?_
    refine aO (fun(y:(Bool×Unit)×Unit) H'=>H'=H1∧(if y.1.1=true then(n:Int)else first)=(nx B ts fs ol l (n+1)).2) (fun j10 hj10=> ?_) ?_
    ·by_cases h0:n=0
     ·rw[if_pos h0]at hfi
      subst h0
      refine dI (by simp; omega) (hj10 _ _ ⟨rfl,?_⟩)
      rw[enx]
      show((0:Nat):Int)=if _ then((0:Nat):Int)else 0
      split<;>rfl
     ·rw[if_neg h0]at hfi
      rw[←hfi]at r3 r4 enx
      refine bC (by simp; omega) ?_
      obtain⟨fn,hfn⟩:∃fn:Nat,first=fn:=⟨first.toNat,by omega⟩
      have hfnl:fn<l.length:=by omega
      have hy:l[fn]? =some l[fn]:=List.getElem?_eq_getElem hfnl
      have hym:=lv _ (List.getElem_mem hfnl)
      generalize l[fn]=o at hy hym
      have eo:yX l first=o:=yN hfn hy
      refine aZ (T:=eU) AZ hl1 hfn hy rfl (afq h1 hxm hym (hj10 _ _ ⟨rfl,?_⟩))
      rw[enx,eo]
    ·rintro⟨⟨r,_⟩,_⟩ H' ⟨rfl,hr⟩
     dsimp only at hr ⊢
     refine aO (fun(y:(Int×Unit)×Unit) H2=>H2=H'∧y.1.1=(nx B ts fs ol l (n+1)).2) (fun j16 hj16=>bG (fun e=>hj16 _ _ ⟨rfl,by rw[←hr,if_pos e]⟩) (fun e=>hj16 _ _ ⟨rfl,by rw[←hr,if_neg (by have e:r=false:=e; rw[e]; decide)]⟩)) ?_
     rintro⟨⟨first2,_⟩,_⟩ H2 ⟨rfl,hf2⟩
     dsimp only at hf2 ⊢
     refine aO (fun _ H'=>bK [] H H'∧DZ B ts fs ol l n l.length=false) (fun j18 hj18=> ?_) ?_
     ·refine aY (fun(y:(Int×Unit)×Unit) H'=>∃k:Nat,y.1.1=k∧k≤l.length∧bK [] H H'∧∀j:Nat,j<k->(j !=n&&lT B ts fs ol (yX l (n:Int)) (yX l (j:Int)))=false) (fun y=>l.length-y.1.1.toNat) ?_ ⟨0,rfl,Nat.zero_le _,f1,fun j h=>by omega⟩
      rintro G2 ⟨⟨i2,_⟩,_⟩ H4 ⟨k,hk,hkl,f4,hff⟩ hG2
      simp only at hk; subst hk
      dsimp only at hG2 ⊢
      refine cu (fun hlt2=> ?_) (fun hge2=>hj18 _ _ ⟨f4,?_⟩)
      ·have hkl2:k<l.length:=by omega
       have hz:l[k]? =some l[k]:=List.getElem?_eq_getElem hkl2
       have hzm:=lv _ (List.getElem_mem hkl2)
       generalize l[k]=u at hz hzm
       have eu:yX l (k:Int)=u:=yN rfl hz
       refine aZ (T:=eU) AZ (hl.bP f4 (by simp)) rfl hz rfl ?_
       refine aO (fun(y:(Bool×Unit)×Unit) H'=>bK [] H H'∧y.1.1=(k !=n&&lT B ts fs ol s u)) (fun j5 hj5=>yO (fun e=> ?_) (fun e=>hj5 _ _ ⟨f4,?_⟩)) ?_
       ·refine aiT (pl.new f4) (hf.bP f4 (by simp)) hfe hxm hzm fun H5 f5=>hj5 _ _ ⟨f4.trans f5,?_⟩
        have:(k !=n)=true:=by simp; omega
        rw[this,Bool.true_and]
       ·have:(k !=n)=false:=by simp; omega
        rw[this,Bool.false_and]
       ·rintro⟨⟨r,_⟩,_⟩ H5 ⟨f5,hr⟩
        simp only at hr
        dsimp only
        refine bG (fun e=>hj5 _ _ ⟨f5,?_,hf2⟩) (fun e=> ?_)
        ·have hh:DZ B ts fs ol l n l.length=true:=Q7 hkl2 (by rw[es,eu,←hr]; exact e)
         rw[enx,hh]; rfl
        ·rw[bT (by omega) (by omega)]
         refine hG2 _ _ ⟨k+1,by simp,hkl2,f5,fun j w=> ?_⟩ (by simp; omega)
         by_cases ej:j=k
         ·subst ej; rw[es,eu,←hr]; exact e
         ·exact hff j (by omega)
      ·refine Bool.eq_false_iff.2 fun w=> ?_
       obtain⟨j,hj,hd⟩:=List.any_eq_true.1 w
       have:=hff j (by have:=List.mem_range.1 hj; omega)
       rw[this]at hd; cases hd
     ·rintro _ H4 ⟨f4,hh⟩
      have hl4:=hl.bP f4 (by simp)
      have e1:(nx B ts fs ol l (n+1)).1=if(decide (free<0)||mV ts s (yX l free))=true then(n:Int)else free:=by
       rw[enx,hh]; rfl
      refine aO (fun(y:(Bool×Unit)×Unit) H'=>H'=H4∧y.1.1=(decide (free<0)||mV ts s (yX l free))) (fun j5 hj5=>cu (fun e2=>hj5 _ _ ⟨rfl,by rw[decide_eq_true e2]; rfl⟩) (fun e2=> ?_)) ?_
      ·rw[decide_eq_false e2,Bool.false_or]at hj5
       obtain⟨gn,hgn⟩:∃gn:Nat,free=gn:=⟨free.toNat,by omega⟩
       have hgl:gn<l.length:=by omega
       have hz:l[gn]? =some l[gn]:=List.getElem?_eq_getElem hgl
       have hzm:=lv _ (List.getElem_mem hgl)
       generalize l[gn]=u at hz hzm
       rw[yN hgn hz]at hj5
       exact aZ (T:=eU) AZ hl4 hgn hz rfl (afq (pl.new f4) hxm hzm (hj5 _ _ ⟨rfl,rfl⟩))
      ·rintro⟨⟨r,_⟩,_⟩ H5 ⟨rfl,hr⟩
       simp only at hr
       dsimp only
       rw[←hr]at e1
       refine aO (fun(y:(Int×Unit)×Unit) H2=>H2=H5∧y.1.1=(nx B ts fs ol l (n+1)).1) (fun j16 hj16=>bG (fun e=>hj16 _ _ ⟨rfl,by rw[e1,if_pos e]⟩) (fun e=>hj16 _ _ ⟨rfl,by rw[e1,if_neg (by have e:r=false:=e; rw[e]; decide)]⟩)) ?_
       rintro⟨⟨fr2,_⟩,_⟩ H6 ⟨rfl,hr2⟩
       exact hj5 _ _ ⟨f4,hr2,hf2⟩
   ·rintro⟨⟨fr2,fi2,_⟩,_⟩ H4 ⟨f4,e1,e2⟩
    dsimp only at e1 e2 ⊢
    rw[bT (by omega) (by omega)]
    exact hG _ _ ⟨n+1,by simp,hlt,f4,e1,by rw[if_neg (by omega)]; exact e2⟩ (by simp; omega)
  ·have:n=l.length:=by omega
   subst this
   exact⟨f1,hfr,hfi⟩
 ·rintro⟨⟨free,first,_⟩,_⟩ H1 ⟨f1,hfr,hfi⟩
  dsimp only at hfr hfi ⊢
  have fin:=hq H1 f1
  by_cases h0:l.length=0
  ·rw[if_pos h0]at fin hfi
   rw[h0]at hfr
   have:free= -1:=hfr
   refine bC (by simp; omega) ?_
   rw[hfi]; exact fin
  ·rw[if_neg h0]at fin hfi
   unfold yY at fin
   rw[←hfr,←hfi]at fin
   refine cu (fun e=> ?_) (fun e=> ?_)
   ·rw[if_neg (by omega)]at fin; exact fin
   ·rw[if_pos (by omega)]at fin; exact fin
variable{s o:Sg}
theorem adE(h:BP m H b se B ms)(okB:rD B)(gv:Gv H a1 a2 ts fs){Q:Sl×Int×Unit->Heap->Prop}(q1:∀H',dn se B ts fs≠0->bK [] H H'->Q (⟨none,0,0⟩,dn se B ts fs,()) H')(q2:∀H',dn se B ts fs=0->¬D8 B ts s->bK [] H H'->Q (⟨none,0,0⟩,2,()) H')
  (q0:∀r ol H' sp,dn se B ts fs=0->iU B ts ol->D8 B ts s->aW dX H r H' (fB B ts fs ol s) sp->Q (r,0,()) H'):CALL P [aH,dX] wP [.pointer (some ⟨b,0,none⟩),a1.v,a2.v,eU.enc s] H Q:=by
 apply Sz
 unfold xG
 refine Je h okB gv.s gv.f gv.fl gv.okt gv.okf gv.len (fun p H' e f=>dI (by simpa using e) (q1 H' e f)) fun cs so ol H' e U0 pl f=>bC rfl ?_
 obtain⟨_,hfe,_,_⟩:=iM (e:=e)
 refine afr pl fun r hr=>bG (fun w=>q2 _ e (fun q=> ?_) f) (fun w=> ?_)
 ·have w:(!r)=true:=w
  rw[hr.2 q]at w; cases w
 ·have w:(!r)=false:=w
  have hm:=hr.1 (by simpa using w)
  exact XM pl (gv.f.bP f (by simp)) hfe (hm.mem pl.ot) fun x H2 sp no=>q0 x ol H2 sp e pl.ot hm (no.older f)
theorem adF(h:BP m H b se B ms)(okB:rD B)(gv:Gv H a1 a2 ts fs){Q:Sl×Int×Unit->Heap->Prop}(q1:∀H',dn se B ts fs≠0->bK [] H H'->Q (⟨none,0,0⟩,dn se B ts fs,()) H')(q2:∀H',dn se B ts fs=0->¬D8 B ts s->bK [] H H'->Q (⟨none,0,0⟩,2,()) H')
  (q0:∀r ol H' sp,dn se B ts fs=0->iU B ts ol->D8 B ts s->aW TF H r H' (jq B ts fs ol s) sp->Q (r,0,()) H'):CALL P [aH,dX] wQ [.pointer (some ⟨b,0,none⟩),a1.v,a2.v,eU.enc s] H Q:=by
 apply SC
 unfold xH
 refine Je h okB gv.s gv.f gv.fl gv.okt gv.okf gv.len (fun p H' e f=>dI (by simpa using e) (q1 H' e f)) fun cs so ol H' e U0 pl f=>bC rfl ?_
 obtain⟨_,hfe,_,_⟩:=iM (e:=e)
 refine afr pl fun r hr=>bG (fun w=>q2 _ e (fun q=> ?_) f) (fun w=> ?_)
 ·have w:(!r)=true:=w
  rw[hr.2 q]at w; cases w
 ·have w:(!r)=false:=w
  have hm:=hr.1 (by simpa using w)
  exact Q9 pl (gv.f.bP f (by simp)) hfe (hm.mem pl.ot) fun x H2 sp no=>q0 x ol H2 sp e pl.ot hm (no.older f)
end
end Go.Proofs.YtijnknjopjmiiaaGreatDoor.Zq
end
section
namespace Go.Proofs.YtijnknjopjmiiaaGreatDoor.Zq
open Zv
section
variable{se:Bool}{B:List Cd}{ts us:List Tg}{ol:List Int}
theorem ahi{l:List Sg}{i:Int}(h:i.toNat<l.length):yX l i∈l:=by unfold yX; rw[List.getElem?_eq_getElem h]; exact List.getElem_mem _
end
end Go.Proofs.YtijnknjopjmiiaaGreatDoor.Zq
end
section
namespace Go.Proofs.YtijnknjopjmiiaaGreatDoor.Zq
open Zv
section
variable{B:List Cd}{ts:List Tg}{ol:List Int}
def FH(B:List Cd)(ts:List Tg)(ol:List Int)(fs:List Ft)(l:List Sg)(n:Nat):Int:=yY B ts (eG B ts ol fs l n).1 ol (eG B ts ol fs l n).2.1
theorem Lc(fs:List Ft)(l:List Sg):∀m,m≤l.length->∀i,i<m->(eG B ts ol fs l m).2.2[i]? =some (yX (eG B ts ol fs l i).2.1 (FH B ts ol fs l i))
 |0,_,i,h=>by omega
 |m+1,hm,i,h=>by
  obtain⟨i1,i2,i3,i4⟩:=lU B ts ol fs l m (by omega)
  have e:(eG B ts ol fs l (m+1)).2.2=(eG B ts ol fs l m).2.2++[yX (eG B ts ol fs l m).2.1 (FH B ts ol fs l m)]:=rfl
  rw[e]
  by_cases q:i=m
  ·subst q
   rw[List.getElem?_append_right (by omega),i4,Nat.sub_self]; rfl
  ·rw[List.getElem?_append_left (by omega)]
   exact Lc fs l m (by omega) i (by omega)
theorem VD{fs:List Ft}{l:List Sg}{n:Nat}(h:n<l.length):∃k:Nat,FH B ts ol fs l n=k∧k<(eG B ts ol fs l n).2.1.length:=by
 obtain⟨i1,i2,i3,i4⟩:=lU B ts ol fs l n (by omega)
 have hr:=Ej B ts (eG B ts ol fs l n).1 ol (l:=(eG B ts ol fs l n).2.1) (by omega)
 refine⟨(FH B ts ol fs l n).toNat,?_,?_⟩<;>unfold FH<;>omega
theorem adG(fs:List Ft)(l:List Sg)(n:Nat):eG B ts ol fs l (n+1)=(jq B ts (eG B ts ol fs l n).1 ol (yX (eG B ts ol fs l n).2.1 (FH B ts ol fs l n)),(eG B ts ol fs l n).2.1.eraseIdx (FH B ts ol fs l n).toNat,(eG B ts ol fs l n).2.2++[yX (eG B ts ol fs l n).2.1 (FH B ts ol fs l n)]):=rfl
end
end Go.Proofs.YtijnknjopjmiiaaGreatDoor.Zq
end
section
namespace Go.Proofs.YtijnknjopjmiiaaGreatDoor.Zq
open Zv
section
variable{E:Env}{T:Tag}{ts tx:TypeId}{z:T.α}
theorem ahj(ty:Jq E T ts z){tj:TI}(h2:E.ty tx=some tj)(h4:∀k,tj.k≠ .int k){H:Heap}{s x:Sl}{l sp xs:List T.α}(hx:dB T H x xs)(h:Ow T H s l sp){c:Nat}(hc0:s.p=some ⟨c,0,none⟩)(hfit:xs.length≤sp.length){k:Sl->Heap->Prop}
  (hk:∀H',Ow T H' ⟨s.p,l.length+xs.length,s.cap⟩ (l++xs) (sp.drop xs.length)->bK [c] H H'->H'.length=H.length->k ⟨s.p,l.length+xs.length,s.cap⟩ H'):vk aH (lenV s.v+(lX x.v).getD 0) (dF E [ts,tx] s.v x.v H) k:=by
 have hx1:x.len=xs.length:=hx.1
 have hfo:iH x.v x.len T.n H=some (fl T xs):=by
  obtain⟨p,n,c⟩:=x
  obtain⟨_,⟨h3,h5,h6⟩|⟨b,off,h3,h5,h6⟩|⟨b,A,B,sz,o,ro,h3,h5⟩⟩:=hx
  ·simp only at h3 h6 hx1; subst h3; subst h5; subst h6; subst hx1; simp[iH,Sl.v,fl]
  ·simp only at h3 h6 hx1; subst h3; subst h5; subst h6; subst hx1; simp[iH,Sl.v,fl]
  ·simp only at h3 hx1; subst h3; subst hx1
   simp only[iH,Sl.v]
   unfold Zq.rd
   rw[h5]
   simp only
   rw[if_pos (by simp[dD ty.len]),List.drop_left,List.take_left' (by rw[dD ty.len])]
 obtain⟨⟨ti,e,te,e1,e2,e3,e4,e5,e6,e7⟩,hn,hT,hone⟩:=ty
 intro y hy
 have e8:dF E [ts,tx] s.v x.v H y=dR E [ts,tx] s.v x.len (fl T xs) H y:=by
  unfold dF
  simp only[e1,e2,e3,e4]
  have:lX x.v=some x.len:=rfl
  rw[this]
  simp only[hfo]
 rw[e8,hx1]
 obtain⟨p,n,cp⟩:=s
 obtain⟨g1,g2,g0,g3⟩:=h
 simp only at g1 g2 g0 g3 hc0 hk; subst g1; subst g2; subst hc0
 obtain⟨q,_⟩|⟨c',q,hc⟩:=g3
 ·cases q
 cases q
 have hlt:=cZ hc
 have hxl:(fl T xs).length=xs.length*T.n:=dD hT xs
 have hne:te.size≠0:=by omega
 have hif:¬(te.size=0∨(fl T xs).length≠xs.length*te.size):=by rw[e4]; omega
 have apx:∀(s2:Value),yP E [ts,tx] s2 xs.length (fl T xs) H=(if te.size=0∨(fl T xs).length≠xs.length*te.size then none else
    match s2 with
    | .slice none 0 0=>
     if xs.length=0 then some (.slice none 0 0,H)
     else if 2*xs.length*te.bytes≤281474976710656∧te.bytes≠0∧(fl T xs).all cell1=true then some (.slice (some ⟨H.length,0,none⟩) xs.length xs.length,mk H (fl T xs) te.size true)else none
    | .slice (some ⟨b,off,none⟩) len cap=>
     if xs.length=0 then(if len≤cap then some (s2,H)else none)
     else if len+xs.length≤cap then(wr H b (off+len*te.size) (fl T xs)).bind fun H'=>some (.slice (some ⟨b,off,none⟩) (len+xs.length) cap,H')
     else if 2*(len+xs.length)*te.bytes≤281474976710656∧te.bytes≠0∧(fl T xs).all cell1=true then
      (rd H b off (len*te.size)).bind fun old=>
       if exact H b off cap then
        some (.slice (some ⟨H.length,0,none⟩) (len+xs.length) (len+xs.length),mk H (old++fl T xs) te.size true)
       else
        match H[b]? with
        |some (.row _ sz _ false true)=>if sz=te.size then some (.slice (some ⟨H.length,0,none⟩) (len+xs.length) (len+xs.length),mk (kill H b) (old++fl T xs) te.size true)else none
        |_=>none
     else none
    | .slice (some ⟨b,off,some 0⟩) 0 0=>if xs.length=0 then some (.slice (some ⟨b,off,some 0⟩) 0 0,H)else none
    |_=>none):=fun s2=>by
  unfold yP
  simp only[e1,h2,e2,e3,Option.bind_some]
  rfl
 by_cases hx0:xs=[]
 ·subst hx0
  have v0:dR E [ts,tx] (.slice (some ⟨c,0,none⟩) l.length (l.length+sp.length)) ([]:List T.α).length (fl T []) H y=some (.slice (some ⟨c,0,none⟩) l.length (l.length+sp.length),H):=by
   unfold dR
   simp only
   rw[if_neg (fun q=>q.1 rfl),apx,if_neg hif]
   simp
  exact⟨⟨some ⟨c,0,none⟩,l.length,l.length+sp.length⟩,H,v0,hk _ ⟨by simp,by simp,g0,.inr ⟨c,rfl,by simpa using hc⟩⟩ (.refl _ _) rfl⟩
 ·have hxl0:xs.length≠0:=by simpa using hx0
  have hw:wr H c (0+l.length*te.size) (fl T xs)=some (H.set c (.row (fl T (l++xs++sp.drop xs.length)) T.n false false true)):=by
   unfold wr
   rw[hc]
   simp only
   have hsz:(fl T (l++sp)).length=(l.length+sp.length)*T.n:=by rw[dD hT]; simp
   rw[if_pos (by rw[hsz,hxl,e4,Nat.zero_add,←Nat.add_mul]; exact Nat.mul_le_mul_right _ (by omega)),if_pos (V7 hone xs)]
   congr 3
   unfold patch
   rw[hxl,e4,Nat.zero_add,←Nat.add_mul,Oe hT,V9 hT,List.take_left,jf,jf]
   congr 2
   rw[←List.drop_drop,List.drop_left]
  have v0:dR E [ts,tx] (.slice (some ⟨c,0,none⟩) l.length (l.length+sp.length)) xs.length (fl T xs) H y=some (.slice (some ⟨c,0,none⟩) (l.length+xs.length) (l.length+sp.length),H.set c (.row (fl T (l++xs++sp.drop xs.length)) T.n false false true)):=by
   unfold dR
   simp only
   rw[if_neg (fun q=>by omega),apx,if_neg hif]
   simp only
   rw[if_neg hxl0,if_pos (by omega),hw]
   rfl
  exact⟨⟨some ⟨c,0,none⟩,l.length+xs.length,l.length+sp.length⟩,_,v0,hk _ ⟨by simp,by simp; omega,g0,.inr ⟨c,rfl,by rw[fV hlt]⟩⟩ (bK.set _ _ (by simp)) (by simp)⟩
theorem ahk(ty:Jq E T ts z){H:Heap}{s:Sl}{l sp:List T.α}(h:Ow T H s l sp){c:Nat}(hc:s.p=some ⟨c,0,none⟩){a b d:Int}{i j m:Nat}(ha:a=i)(hb:b=j)(hd:d=m)(hij:i≤j)(hjm:j≤m)(hm:m≤s.cap){k:Sl->Prop}(hk:∀x,k x):dW aH (dH E ts s.v (some (.int .i64 a)) (some (.int .i64 b)) (some (.int .i64 d)) H) k:=by
 obtain⟨⟨ti,e,te,e1,e2,e3,e4,e5,e6,e7⟩,hn0,hT,hone⟩:=ty
 subst ha; subst hb; subst hd
 obtain⟨p,n,cp⟩:=s
 simp only at hc hm; subst hc
 refine⟨⟨some ⟨c,if m=i then 0 else 0+i*te.size,none⟩,j-i,m-i⟩,?_,hk _⟩
 unfold dH
 simp only[e1,e2,e3,Option.bind_some,Sl.v,dQ,Option.isSome_some,Option.isNone_some,Bool.and_false,Bool.false_eq_true,if_false,true_or,if_true]
 rw[if_pos (by omega)]
 simp only[Option.bind_some,Int.toNat_natCast]
 rw[if_pos (by omega)]
 simp only[Option.bind_some]
 rw[if_pos (by omega)]
 simp only[Option.bind_some]
 rw[if_pos (by omega)]
 simp[Tag.enc,RJ]
theorem afs(ty:Jq E T ts z){H:Heap}{s:Sl}{l sp:List T.α}(h:Ow T H s l sp){c:Nat}(hc:s.p=some ⟨c,0,none⟩){a b:Int}{q:Nat}(ha:a=l.length)(hb:b=((l.length+q:Nat):Int))(hq:q≤sp.length)(hq0:0<q){K:Heap->Prop}
  (hk:∀H',Ow T H' s l (List.replicate q z++sp.drop q)->bK [c] H H'->H'.length=H.length->K H'):
  dW aH (dH E ts s.v (some (.int .i64 a)) (some (.int .i64 b)) none H) fun x=>agq (zi E [ts] x.v H) K:=by
 obtain⟨⟨ti,e,te,e1,e2,e3,e4,e5,e6,e7⟩,hn0,hT,hone⟩:=ty
 subst ha; subst hb
 obtain⟨p,n,cp⟩:=s
 obtain⟨g1,g2,g0,g3⟩:=h
 simp only at g1 g2 g0 g3 hc; subst hc; subst g1; subst g2
 obtain⟨w,_⟩|⟨c',w,hr⟩:=g3
 ·cases w
 cases w
 have hlt:=cZ hr
 have hex:Zq.exact H c 0 (l.length+sp.length)=true:=by unfold Zq.exact; rw[hr]; rfl
 refine⟨⟨some ⟨c,0+l.length*te.size,none⟩,q,l.length+sp.length-l.length⟩,?_,?_⟩
 ·unfold dH
  simp only[e1,e2,e3,Option.bind_some,Sl.v,dQ,Option.isSome_none,Bool.false_and,Bool.false_eq_true,if_false,hex,or_true,if_true]
  rw[if_pos (by omega)]
  simp only[Option.bind_some,Int.toNat_natCast]
  rw[if_pos (by omega)]
  simp only[Option.bind_some]
  rw[if_pos (by omega),if_neg (by omega)]
  simp[Tag.enc,RJ]
 ·have hrep:rep q te.zero=fl T (List.replicate q z):=by rw[e7,V8]
  have hw:wr H c (0+l.length*te.size) (rep q te.zero)=some (H.set c (.row (fl T (l++List.replicate q z++sp.drop q)) T.n false false true)):=by
   unfold wr
   rw[hr]
   simp only
   have hsz:(fl T (l++sp)).length=(l.length+sp.length)*T.n:=by rw[dD hT]; simp
   have hxl:(fl T (List.replicate q z)).length=q*T.n:=by rw[dD hT]; simp
   rw[hrep,if_pos (by rw[hsz,hxl,e4,Nat.zero_add,←Nat.add_mul]; exact Nat.mul_le_mul_right _ (by omega)),if_pos (V7 hone _)]
   congr 3
   unfold patch
   rw[hxl,e4,Nat.zero_add,←Nat.add_mul,Oe hT,V9 hT,List.take_left,jf,jf]
   congr 2
   rw[←List.drop_drop,List.drop_left]
  refine⟨_,?_,hk _ ⟨by simp,by simp; omega,g0,.inr ⟨c,rfl,by rw[fV hlt]⟩⟩ (bK.set _ _ (by simp)) (by simp)⟩
  rw[List.append_assoc]at hw
  unfold zi
  simp only[e1,e2,e3,Option.bind_some,Sl.v]
  rw[if_neg (by omega),hw]
end
section
variable{H:Heap}{b m:Nat}{se:Bool}{B:List Cd}{ms:List au}{a1 a2 a3 cs so:Sl}{bp:Option Addr}{ts:List Tg}{fs:List Ft}{ol:List Int}{l:List Sg}
theorem aiV{H0:Heap}{s:Sl}{sp:List Sg}(h:aW eU H0 s H l sp){n:Int}{i:Nat}(hn:n=i)(hi:i<l.length)(hl:l.length≤1048600){Q:Sl×Unit->Heap->Prop}(hq:∀r H' sp',aW eU H0 r H' (l.eraseIdx i) sp'->Q (r,()) H'):
  CALL P [aH] dJ [s.v,.int .i64 n,.int .i64 (n+1)] H Q:=by
 apply jF
 unfold dK
 obtain⟨c,hc⟩:=h.1.pne (by omega)
 have g1:=h.1.1
 have g2:=h.1.2.1
 have hpn:s.p≠none:=by rw[hc]; simp
 refine ahk BO h.1 hc (i:=i) (j:=i+1) (m:=l.length) hn (by omega) (by omega) (by omega) (by omega) (by omega) fun _=> ?_
 refine bC (by simp; omega) ?_
 refine adp BO h.1 hn (by omega) ?_
 refine h.1.j.drop BO (n:=i+1) (by omega) (by omega) hpn fun x3 h3=> ?_
 have o2:Ow eU H ⟨s.p,i,s.cap⟩ (l.take i) (l.drop i++sp):=by
  obtain⟨w1,w2,w0,⟨w3,_⟩|⟨c',w3,w4⟩⟩:=h.1
  ·rw[hc]at w3; cases w3
  ·refine⟨by simp; omega,by simp; omega,w0,.inr ⟨c',w3,?_⟩⟩
   rw[←List.append_assoc,List.take_append_drop]; exact w4
 refine ahj BO rfl (fun _=>by simp) h3 o2 hc (by simp; omega) fun H1 o4 f4 l4=> ?_
 have hel:(l.take i++l.drop (i+1)).length=l.length-1:=by simp; omega
 have hlen4:(l.take i).length+(l.drop (i+1)).length=l.length-1:=by simp; omega
 rw[hlen4]at o4 ⊢
 refine afs BO o4 hc (q:=1) (by rw[hel]) (by rw[hel,g1]; omega) (by simp; omega) (by omega) fun H2 o5 f5 l5=> ?_
 have e1:=List.eraseIdx_eq_take_drop_succ l i
 simp only[e1]at hq
 exact hq _ H2 _ ⟨o5,fun d hd=>h.2.1 d hd,(h.2.2.then f4 fun d hd=>by simp at hd; subst hd; exact .inr (h.2.1 _ hc)).then f5 fun d hd=>by simp at hd; subst hd; exact .inr (h.2.1 _ hc)⟩
theorem abr(h:BP m H b se B ms)(okB:rD B)(gv:Gv H a1 a2 ts fs){k:Int}{Q:Sl×Sl×Int×Unit->Heap->Prop}
  (q1:∀H',dn se B ts fs≠0->bK [] H H'->Q (⟨none,0,0⟩,⟨none,0,0⟩,dn se B ts fs,()) H') (q2:∀H',dn se B ts fs=0->(k<1∨5<k)->bK [] H H'->Q (⟨none,0,0⟩,⟨none,0,0⟩,2,()) H')
  (q0:∀s r ol H' sp sr,dn se B ts fs=0->1≤k->k≤5->iU B ts ol->aW TF H s H' (eG B ts ol fs (sD B ts fs ol k) (sD B ts fs ol k).length).1 sp->aW eU H r H' (eG B ts ol fs (sD B ts fs ol k) (sD B ts fs ol k).length).2.2 sr->(∀d,s.p=some ⟨d,0,none⟩->r.p≠some ⟨d,0,none⟩)->Q (s,r,0,()) H'):
  CALL P [aH,aH,dX] qH [.pointer (some ⟨b,0,none⟩),a1.v,a2.v,.int .i64 k] H Q:=by
 apply Zh
 unfold Dt
 refine adz h okB gv.s gv.f gv.fl gv.okt gv.okf gv.len (fun H' e f=>dI (by simpa using e) (q1 H' e f)) (fun H' e hk f=>dI rfl (q2 H' e hk f)) fun x1 ol H1 sp1 e _ hk1 hk5 ot n1=>bC rfl ?_
 obtain⟨e1,e2,e3,e4⟩:=iM (e:=e)
 have gv1:=gv.new n1.2.2
 refine Je (h.new n1.2.2) okB gv1.s gv1.f gv1.fl gv1.okt gv1.okf gv1.len (fun _ _ e' _=>absurd e e') fun cs so ol2 H1' _ _ pl f1'=> ?_
 have:=pl.ot.uniq ot; subst this
 have n1:=n1.new f1'
 generalize H1.length=m1 at pl
 generalize (b:Nat)=b0 at pl
 have hel:=uV ot fs k
 have hlv:∀s∈sD B ts fs ol2 k,s.Thing-1∈ol2:=fun s hs=>(D5 hs).1
 have fin:=q0
 generalize hL:sD B ts fs ol2 k=L at n1 hel hlv
 refine aaf (gv.f.bP n1.2.2 (by simp)) (by omega) fun x2 H2 sp2 n2=> ?_
 have n12:=n1.new n2.2.2
 have pl2:=pl.new n2.2.2
 refine aO (fun(y:(Sl×Sl×Unit)×Unit) H'=>∃sp sr,aW TF H y.1.1 H' (eG B ts ol2 fs L L.length).1 sp∧aW eU H y.1.2.1 H' (eG B ts ol2 fs L L.length).2.2 sr∧∀d,y.1.1.p=some ⟨d,0,none⟩->y.1.2.1.p≠some ⟨d,0,none⟩) (fun j hj=> ?_) (fun y H' hh=>by obtain⟨sp,sr,h1,h2,h3⟩:=hh; exact fin _ _ ol2 _ sp sr e hk1 hk5 ot (by rw[hL]; exact h1) (by rw[hL]; exact h2) h3)
 refine aY (fun(y:(Sl×Sl×Sl×Unit)×Unit) H'=>∃(n:Nat) (sl so:List Sg) (sf:List Ft),n≤L.length∧bK [] H2 H'∧aW eU H y.1.1 H' (eG B ts ol2 fs L n).2.1 sl∧aW TF H y.1.2.1 H' (eG B ts ol2 fs L n).1 sf∧aW eU H2 y.1.2.2.1 H' (eG B ts ol2 fs L n).2.2 so∧(∀d,y.1.1.p=some ⟨d,0,none⟩->y.1.2.2.1.p≠some ⟨d,0,none⟩)∧(∀d,y.1.2.1.p=some ⟨d,0,none⟩->y.1.2.2.1.p≠some ⟨d,0,none⟩)) (fun y=>y.1.1.len) ?_
  ⟨0,sp1,[],sp2,Nat.zero_le _,.refl _ _,n12,n2.older n1.2.2,aW.nil' eU H2,by simp,by simp⟩
 have f02:=n12.2.2
 rintro G ⟨⟨left,out,steps,_⟩,_⟩ H4 ⟨n,sl,so',sf,hn,f24,nl,nf,ns,dl,df⟩ hG
 simp only at nl nf ns dl df
 dsimp only at hG ⊢
 obtain⟨i1,i2,i3,i4⟩:=lU B ts ol2 fs L n hn
 have elen:left.len=(eG B ts ol2 fs L n).2.1.length:=nl.1.1
 have step:=adG (B:=B) (ts:=ts) (ol:=ol2) fs L n
 refine cu (fun hpos=> ?_) (fun hz=>hj _ _ ?_)
 ·have f4:=nl.2.2
  have hnl:n<L.length:=by omega
  obtain⟨ni,hni,hil⟩:=VD (B:=B) (ts:=ts) (ol:=ol2) (fs:=fs) hnl
  rw[hni]at step
  unfold FH at hni
  generalize hcf:(eG B ts ol2 fs L n).1=cf at nf i1 step hni
  generalize hcl:(eG B ts ol2 fs L n).2.1=cl at nl i2 i3 step elen hil hni
  generalize hcs:(eG B ts ol2 fs L n).2.2=cs' at ns i4 step
  have lv:∀s∈cl,s.Thing-1∈ol2:=fun s hs=>hlv s (i3 s hs)
  have pl4:=pl2.new f24
  refine ahh pl4 nf.1.jH (by omega) nl.1.jH (by omega) lv fun H5 f5=> ?_
  rw[if_neg (by omega),hni]
  have hx:cl[ni]? =some cl[ni]:=List.getElem?_eq_getElem hil
  have hxm:=lv _ (List.getElem_mem hil)
  generalize cl[ni]=s at hx hxm
  rw[yN rfl hx,Int.toNat_natCast]at step
  have nl5:=nl.new f5
  have nf5:=nf.new f5
  refine aZ (T:=eU) AZ nl5.1.jH rfl hx rfl (Q9 (pl4.new f5) nf5.1.jH (by omega) hxm fun x11 H6 sp11 n11=> ?_)
  have nl6:=nl5.new n11.2.2
  refine aZ (T:=eU) AZ nl6.1.jH rfl hx rfl ?_
  have ns6:=(ns.new f5).new n11.2.2
  refine qF BO rfl (fun _=>by simp) (m:=1) [s] rfl rfl (by show 2*(_+1)*4096≤_; omega) ns6.1 fun x15 H7 sp15 k1 k2 k3=> ?_
  have ns7:aW eU H2 x15 H7 (cs'++[s]) sp15:=ns6.app k1 k2 k3
  have f27:bK [] H2 H7:=ns7.2.2
  have f47:bK [] H H7:=f02.trans f27
  have l7:Ow eU H7 left cl sl:=nl6.1.after k3 dl
  have o7:Ow TF H7 x11 (jq B ts cf ol2 s) sp11:=n11.1.after k3 fun d hd e=>by
   have h1:=n11.2.1 d hd
   have h2:=(ns.new f5).1.lt e; omega
  refine abp l7.jH (by omega) fun x17 H8 sp17 n17=> ?_
  rw[bT (by omega) (by omega)]
  refine aiV n17 rfl hil (by omega) fun x19 H9 sp19 n19=> ?_
  have f79:=n19.2.2
  have hel2:(cl.eraseIdx ni).length=cl.length-1:=by rw[List.length_eraseIdx,if_pos hil]
  refine hG _ _ ⟨n+1,sp19,sp15,sp11,hnl,f27.trans f79,?_,?_,?_,fun d hd e=> ?_,fun d hd e=> ?_⟩ ?_
  ·rw[step]; dsimp only
   exact n19.older f47
  ·rw[step]; dsimp only
   exact⟨o7.bP f79 (by simp[Sl.off]),fun d hd=>by have:=n11.2.1 d hd; have:=nl5.2.2.1; omega,f47.trans f79⟩
  ·rw[step]; dsimp only
   exact ns7.new f79
  ·have:=n19.2.1 d hd
   have:=ns7.1.lt e; omega
  ·dsimp only at hd e
   have h1:=n11.2.1 d hd
   have h3:=n11.1.lt hd
   rcases k2 with q|⟨q,_⟩
   ·have h2:=(ns.new f5).1.lt (q▸e); omega
   ·rw[q]at e; cases e; omega
  ·dsimp only
   have:=n19.1.1
   omega
 ·have:n=L.length:=by omega
  subst this
  exact⟨sf,so',nf,ns.older f02,df⟩
end
end Go.Proofs.YtijnknjopjmiiaaGreatDoor.Zq
end
section
namespace Go.Proofs.YtijnknjopjmiiaaGreatDoor.Zq
open Zv
section
variable{H:Heap}{b m:Nat}{se:Bool}{B:List Cd}{ms:List au}{a1 a2 a3:Sl}{ts:List Tg}{fs:List Ft}{ol:List Int}{l:List Sg}
abbrev zF:Ft:=⟨0,0,0,0,0⟩
def cdT(B:List Cd)(t:Tg):Option Cd:=if 1≤t.Card then B[(t.Card-1).toNat]? else none
def prT(B:List Cd)(t:Tg):Ft:=match cdT B t with|some c=>⟨t.Owner,c.g.Suit,c.g.Traits,c.g.Power,c.g.Health⟩|none=>zF
def VE(B:List Cd)(t:Tg):Ft:=if t.Place=4 then prT B t else zF
def Jf(B:List Cd)(t:Tg):Prop:=(∃c,cdT B t=some c)∧(t.Owner=0∨t.Owner=1)
theorem aag{t:Tg}{c:Cd}(h1:1≤t.Card)(h2:B[(t.Card-1).toNat]? =some c):cdT B t=some c:=by unfold cdT; rw[if_pos h1]; exact h2
theorem aah{t:Tg}(h:t.Card<1∨(B.length:Int)<t.Card):cdT B t=none:=by
 unfold cdT
 split
 ·rw[List.getElem?_eq_none_iff]; omega
 ·rfl
theorem ahl(h:BD m H b true B ms)(okB:rD B){t:Tg}{Q:Ft×Int×Unit->Heap->Prop}(q1:∀f e H',e≠0->¬Jf B t->bK [] H H'->Q (f,e,()) H')(q0:∀H',Jf B t->bK [] H H'->Q (prT B t,0,()) H'):CALL P [TF,dX] qV [.pointer (some ⟨b,0,none⟩),gX.enc t] H Q:=by
 apply Nr
 unfold rQ
 refine adA h okB (fun q=>dI rfl (q1 _ _ _ (by decide) (fun k=> ?_) (.refl _ _))) (fun c g H' _ h1 hc cr f=>bC rfl ?_)
 ·obtain⟨⟨c,k⟩,_⟩:=k
  rw[aah (by rcases q with q|q; exact(by cases q); exact q)]at k; cases k
 ·have hcd:=aag h1 hc
  refine hJ (t.Owner≠0∧t.Owner≠1) (fun j hj=>yO (fun e=>hj _ (by simp; omega)) (fun e=>hj _ (by simp; omega))) (fun q=>q1 _ _ _ (by decide) (fun k=>by have:=k.2; omega) f) (fun q=> ?_)
  have:=q0 H' ⟨⟨c,hcd⟩,by omega⟩ f
  unfold prT at this
  rw[hcd]at this
  have e:c.g=bare g:=cr.e.symm
  simp only[e]at this
  exact this
theorem ahm(h:BD m H b true B ms)(okB:rD B)(hs:dB gX H a1 ts)(hlen:ts.length≤2048){Q:Sl×Bool×Unit->Heap->Prop}(q1:∀s H',¬(∀t∈ts,Jf B t)->bK [] H H'->Q (s,false,()) H')(q0:∀s H' sp,(∀t∈ts,Jf B t)->aW TF H s H' (ts.map (VE B)) sp->Q (s,true,()) H'):CALL P [aH,ah] qP [.pointer (some ⟨b,0,none⟩),a1.v] H Q:=by
 apply MO
 unfold rG
 have hsl:=hs.1
 refine JQ tyF (n:=ts.length) (m:=ts.length) (by rw[hsl]) (by rw[hsl]) (Nat.le_refl _) (by omega) fun s1 e1 n1=> ?_
 have p1:s1.p=some ⟨H.length,0,none⟩:=by rw[e1]
 have n1':aW TF H s1 (mk H (fl TF (List.replicate ts.length zF)) TF.n false) (List.replicate ts.length zF) []:=by simpa using n1
 generalize mk H (fl TF (List.replicate ts.length zF)) TF.n false=H1 at n1'
 refine aO (fun _ H'=>(∀t∈ts,Jf B t)∧aW TF H s1 H' (ts.map (VE B)) []) (fun j hj=> ?_) (fun _ H' hh=>q0 _ _ _ hh.1 hh.2)
 refine aY (fun(y:(Int×Unit)×Unit) H'=>∃(n:Nat) (cur:List Ft),y.1.1=n∧n≤ts.length∧aW TF H s1 H' cur []∧cur.length=ts.length∧(∀(i:Nat) t,i<n->ts[i]? =some t->cur[i]? =some (VE B t)∧Jf B t)∧(∀i:Nat,n≤i->i<ts.length->cur[i]? =some zF)) (fun y=>ts.length-y.1.1.toNat) ?_
  ⟨0,_,rfl,Nat.zero_le _,n1',by simp,fun i t h=>by omega,fun i _ hi=>by rw[List.getElem?_replicate,if_pos hi]⟩
 rintro G ⟨⟨i,_⟩,_⟩ H2 ⟨n,cur,hi,hn,no,hcl,h1,h2⟩ hG
 simp only at hi; subst hi
 dsimp only at hG ⊢
 have f2:=no.2.2
 refine cu (fun hlt=> ?_) (fun hge=>hj _ _ ?_)
 ·have hlt:n<ts.length:=by omega
  have hx:ts[n]? =some ts[n]:=List.getElem?_eq_getElem hlt
  have hm:ts[n]∈ts:=List.getElem_mem hlt
  generalize ts[n]=t at hx hm
  have hs2:=hs.bP f2 (by simp)
  refine aZ (T:=gX) GX hs2 rfl hx rfl ?_
  refine ahl (h.new f2) okB (fun f e H3 he nk f3=> ?_) fun H3 hok f3=>bC rfl ?_
  ·exact dI (by simpa using he) (q1 _ _ (fun k=>nk (k t hm)) (f2.trans f3))
  have no3:=no.new f3
  refine kS (hs2.bP f3 (by simp)) rfl hx ?_
  refine aO (fun _ H'=>∃cur',aW TF H s1 H' cur' []∧cur'.length=ts.length∧(∀(i:Nat) u,i<n+1->ts[i]? =some u->cur'[i]? =some (VE B u)∧Jf B u)∧(∀i:Nat,n+1≤i->i<ts.length->cur'[i]? =some zF)) (fun j2 hj2=>eP (fun e4=> ?_) (fun e4=>hj2 _ _ ⟨cur,no3,hcl,fun i u w1 w2=> ?_,fun i w1 w2=>h2 i (by omega) w2⟩)) ?_
  ·refine no3.1.put (n:=n) KZ (fun x=>rfl) rfl (by omega) (prT B t) rfl fun c0 H6 hc0 o6 f6 l6=> ?_
   rw[p1]at hc0; cases hc0
   have ep:VE B t=prT B t:=by unfold VE; rw[if_pos e4]
   refine hj2 _ _ ⟨cur.set n (prT B t),⟨o6,no3.2.1,no3.2.2.then f6 fun d hd=>by simp at hd; subst hd; exact .inr (Nat.le_refl _)⟩,by simpa using hcl,fun i u w1 w2=> ?_,fun i w1 w2=> ?_⟩
   ·by_cases ei:i=n
    ·subst ei; rw[hx]at w2; cases w2
     rw[List.getElem?_set_self (by omega),ep]; exact⟨rfl,hok⟩
    ·rw[List.getElem?_set_ne (fun q=>ei q.symm)]; exact h1 i u (by omega) w2
   ·rw[List.getElem?_set_ne (by omega)]; exact h2 i (by omega) w2
  ·by_cases ei:i=n
   ·subst ei; rw[hx]at w2; cases w2
    have ep:VE B t=zF:=by unfold VE; rw[if_neg e4]
    rw[ep]; exact⟨h2 i (Nat.le_refl _) hlt,hok⟩
   ·exact h1 i u (by omega) w2
  ·rintro _ H4 ⟨cur',no4,c1,c2,c3⟩
   rw[bT (by omega) (by omega)]
   exact hG _ _ ⟨n+1,cur',by simp,hlt,no4,c1,c2,c3⟩ (by simp; omega)
 ·have:n=ts.length:=by omega
  subst this
  have ec:cur=ts.map (VE B):=by
   refine yZ (by simpa using hcl) fun i a c w1 w2 w3=> ?_
   have hit:ts[i]? =some (ts[i]'(by omega)):=List.getElem?_eq_getElem (by omega)
   have:=(h1 i _ (by omega) hit).1
   rw[List.getElem?_map,hit]at w3
   rw[this]at w2
   simp at w3
   cases w2; exact w3
  subst ec
  refine⟨fun t ht=> ?_,no⟩
  obtain⟨i,hi⟩:=List.mem_iff_getElem?.1 ht
  exact(h1 i t (List.getElem?_eq_some_iff.1 hi).1 hi).2
def Rf(k:Int×Int×Int×Int):Nat->Int
 |0=>k.1
 |1=>k.2.1
 |2=>k.2.2.1
 |_=>k.2.2.2
def uX(k:Int×Int×Int×Int):Prop:=∀n:Nat,n<4->0≤Rf k n∧Rf k n≤99
def aai(ms:List au)(k:Int×Int×Int×Int)(f:Ft)(n:Nat):Ft:=
 match ms[n+1]? with
 |some x=>if x.Mark=0 then f else{ f with Power:=IntKind.wrap .i64 (f.Power+IntKind.wrap .i64 (Rf k n*x.Power)),Health:=IntKind.wrap .i64 (f.Health+IntKind.wrap .i64 (Rf k n*x.Health)) }
 |none=>f
def uY(ms:List au)(k:Int×Int×Int×Int)(f:Ft):Nat->Ft
 |0=>f
 |n+1=>aai ms k (uY ms k f n) n
def aaj(ms:List au)(k:Int×Int×Int×Int)(f:Ft):Ft:=if(uY ms k f 4).Power<0 then{ uY ms k f 4 with Power:=0 }else uY ms k f 4
theorem RW.afu{s:Sl}{ns:List ByteArray}(h:RW H b se s ns ms){i:Nat}{x:au}(hx:ms[i]? =some x){o:Nat}(ho:o=12+i*4){K:au->Prop}(hk:K x):LD TM H b o K:=by
 obtain⟨sz,r⟩:=h.row
 obtain⟨e1,e2⟩:=h.QI hx
 exact dV (T:=TM) x _ _ r e1 (by rw[e2,ho]) rfl hk
theorem adH(h:BD m H b se B ms){n:Nat}(hn:n<4){Q:au×Bool×Unit->Heap->Prop}(hq:∀x y,ms[n+1]? =some x->(x.Mark≠0->y=x)->Q (y,decide (x.Mark≠0),()) H):CALL P [TM,ah] kW [.pointer (some ⟨b,0,none⟩),.int .u8 ((n:Int)+1)] H Q:=by
 apply EZ
 unfold lG
 obtain⟨⟨s,gs,ns,w,hsl,slo,hc⟩,few,lt,ml⟩:=id h
 have hm5:=w.m
 have hx:ms[n+1]? =some (ms[n+1]'(by omega)):=List.getElem?_eq_getElem (by omega)
 generalize (ms[n+1]'(by omega))=x at hx
 have hin:∀{K:Prop},K->oD 5 ((n:Int)+1) K:=fun k=>⟨⟨by omega,by omega⟩,k⟩
 refine hJ (x.Mark=0) (fun j hj=>qy h (bC rfl (bC (by simp; omega) (bC (by simp; omega) (hin (w.Ei hx (by omega) (hj _ (by simp)))))))) (fun e=> ?_) (fun e=>hin (w.afu hx (by omega) ?_))
 ·have:=hq x ⟨0,ByteArray.mk #[],0,0⟩ hx (fun q=>absurd e q)
  rwa [decide_eq_false (by simpa using e)]at this
 ·have:=hq x x hx (fun _=>rfl)
  rwa [decide_eq_true e]at this
theorem ahn(h:BD m H b se B ms){f:Ft}{k:Int×Int×Int×Int}{Q:Ft×Int×Unit->Heap->Prop}(q1:∀H',¬uX k->bK [] H H'->Q (zF,2,()) H')(q0:∀H',uX k->bK [] H H'->Q (aaj ms k f,0,()) H'):CALL P [TF,dX] tX [.pointer (some ⟨b,0,none⟩),TF.enc f,cO.enc k] H Q:=by
 apply P8
 unfold uD
 unfold NEW
 obtain⟨r1,f1,l1⟩:=ajI H [(.int .i64 k.1),(.int .i64 k.2.1),(.int .i64 k.2.2.1),(.int .i64 k.2.2.2)] 4
 generalize mk H [(.int .i64 k.1),(.int .i64 k.2.1),(.int .i64 k.2.2.1),(.int .i64 k.2.2.2)] 4 false=H1 at r1 f1 l1
 have ld:∀(n:Nat) {K:Int->Prop},n<4->K (Rf k n)->LD dX H1 H.length (0+(n:Int).toNat*1) K:=fun n K hn hk=>by
  have:n=0∨n=1∨n=2∨n=3:=by omega
  rcases this with rfl|rfl|rfl|rfl
  ·exact dV (T:=dX) k.1 [] [(.int .i64 k.2.1),(.int .i64 k.2.2.1),(.int .i64 k.2.2.2)] r1 rfl rfl rfl hk
  ·exact dV (T:=dX) k.2.1 [(.int .i64 k.1)] [(.int .i64 k.2.2.1),(.int .i64 k.2.2.2)] r1 rfl rfl rfl hk
  ·exact dV (T:=dX) k.2.2.1 [(.int .i64 k.1),(.int .i64 k.2.1)] [(.int .i64 k.2.2.2)] r1 rfl rfl rfl hk
  ·exact dV (T:=dX) k.2.2.2 [(.int .i64 k.1),(.int .i64 k.2.1),(.int .i64 k.2.2.1)] [] r1 rfl rfl rfl hk
 have hin:∀{n:Nat} {K:Prop},n<4->K->oD 4 (n:Int) K:=fun hn k=>⟨⟨by omega,by omega⟩,k⟩
 have h1:=h.new f1
 refine qy h1 (bC rfl ?_)
 refine aO (fun _ H'=>H'=H1∧uX k) (fun j hj=> ?_) ?_
 ·refine aY (fun(y:(Int×Unit)×(Ft×Unit)) H'=>H'=H1∧∃n:Nat,y.1.1=n∧n≤4∧∀i:Nat,i<n->0≤Rf k i∧Rf k i≤99) (fun y=>4-y.1.1.toNat) ?_ ⟨rfl,0,rfl,by omega,fun i h=>by omega⟩
  rintro G ⟨⟨i,_⟩,g,_⟩ H' ⟨rfl,n,hi,hn,inv⟩ hG
  simp only at hi; subst hi
  dsimp only at hG ⊢
  refine cu (fun hlt=> ?_) (fun hge=>hj _ _ ⟨rfl,fun i w=>inv i (by omega)⟩)
  have hlt:n<4:=by omega
  refine hJ (¬(0≤Rf k n∧Rf k n≤99)) (fun j2 hj2=>hin hlt (ld n hlt (cu (fun e=>hj2 _ (by simp; omega)) (fun e=>hin hlt (ld n hlt (hj2 _ (by simp; omega))))))) (fun q=>q1 _ (fun w=>q (w n hlt)) f1) (fun q=> ?_)
  rw[bT (by omega) (by omega)]
  refine hG _ _ ⟨rfl,n+1,by simp,hlt,fun i w=> ?_⟩ (by simp; omega)
  by_cases e:i=n
  ·subst e; exact Classical.byContradiction q
  ·exact inv i (by omega)
 rintro _ H' ⟨rfl,hok⟩
 refine aO (fun(y:Unit×(Ft×Unit)) H''=>H''=H'∧y.2.1=uY ms k f 4) (fun j hj=> ?_) ?_
 ·refine aY (fun(y:(Int×Unit)×(Ft×Unit)) H''=>H''=H'∧∃n:Nat,y.1.1=n∧n≤4∧y.2.1=uY ms k f n) (fun y=>4-y.1.1.toNat) ?_ ⟨rfl,0,rfl,by omega,rfl⟩
  rintro G ⟨⟨i,_⟩,g,_⟩ H'' ⟨rfl,n,hi,hn,inv⟩ hG
  simp only at hi inv; subst hi
  dsimp only at hG ⊢
  refine cu (fun hlt=> ?_) (fun hge=>hj _ _ ⟨rfl,by have:n=4:=(by omega); subst this; exact inv⟩)
  have hlt:n<4:=by omega
  have ew:IntKind.wrap .u8 (IntKind.wrap .i64 ((n:Int)+1))=(n:Int)+1:=by
   rw[bT (by omega) (by omega)]
   show((n:Int)+1)%256=_; omega
  rw[ew]
  refine adH h1 hlt fun x y hx hy=> ?_
  have est:uY ms k f (n+1)=if x.Mark=0 then g else{ g with Power:=IntKind.wrap .i64 (g.Power+IntKind.wrap .i64 (Rf k n*x.Power)),Health:=IntKind.wrap .i64 (g.Health+IntKind.wrap .i64 (Rf k n*x.Health)) }:=by
   show aai ms k (uY ms k f n) n=_
   unfold aai
   rw[hx,←inv]
  refine aO (fun(y:Unit×(Ft×Unit)) H2=>H2=H''∧y.2.1=uY ms k f (n+1)) (fun j2 hj2=>cu (fun e=> ?_) (fun e=>hj2 _ _ ⟨rfl,by rw[est,if_pos (by simpa using e)]⟩)) ?_
  ·have:=hy e; subst this
   exact hin hlt (ld n hlt (hin hlt (ld n hlt (hj2 _ _ ⟨rfl,by rw[est,if_neg e]⟩))))
  ·rintro⟨_,g2,_⟩ H2 ⟨rfl,hg2⟩
   dsimp only
   rw[bT (by omega) (by omega)]
   exact hG _ _ ⟨rfl,n+1,by simp,hlt,hg2⟩ (by simp; omega)
 rintro⟨_,g,_⟩ H'' ⟨rfl,hg⟩
 simp only at hg; subst hg
 dsimp only
 have:=q0 _ hok f1
 unfold aaj at this
 exact aX (cu (fun e=>by rwa [if_pos e]at this) (fun e=>by rwa [if_neg e]at this))
end
end Go.Proofs.YtijnknjopjmiiaaGreatDoor.Zq
end
section
namespace Go.Proofs.YtijnknjopjmiiaaGreatDoor.Zq
open Zv
section
variable{H:Heap}{b m:Nat}{se:Bool}{B:List Cd}{ms:List au}{a1 a2 a3:Sl}{ts:List Tg}{fs:List Ft}{ol:List Int}{l:List Sg}
def sF(ts:List Tg):Prop:=∀t∈ts,t.Place=4->uX t.Marks
def Ol(B:List Cd)(ts:List Tg):List Ft:=ts.map (VE B)
open Classical in
noncomputable def bD(se:Bool)(B:List Cd)(ts:List Tg):Int:=
 if 2048<ts.length then 3 else if se=false then 2 else if ¬∀t∈ts,Jf B t then 2 else if dn se B ts (Ol B ts)≠0 then dn se B ts (Ol B ts)else if ¬sF ts then 2 else 0
open Classical in
noncomputable def mkT(ms:List au)(t:Tg)(f:Ft):Ft:=if t.Place=4∧uX t.Marks then aaj ms t.Marks f else zF
noncomputable def Jg(ms:List au)(ts:List Tg)(fs:List Ft):List Ft:=List.zipWith (mkT ms) ts fs
def mZ(B:List Cd)(ts:List Tg)(ol:List Int):Nat->List Ft
 |0=>Ol B ts
 |n+1=>(eG B ts ol (mZ B ts ol n) (sD B ts (mZ B ts ol n) ol ((n:Int)+1)) (sD B ts (mZ B ts ol n) ol ((n:Int)+1)).length).1
theorem afv(og:Jr B)(t:Tg):0≤(VE B t).Traits:=by
 unfold VE
 split
 ·unfold prT
  split
  ·rename_i c hc
   unfold cdT at hc
   split at hc
   ·exact(og c (List.mem_of_getElem? hc)).1.t.1
   ·cases hc
  ·exact Int.le_refl _
 ·exact Int.le_refl _
theorem Ba(og:Jr B)(e:dn se B ts (Ol B ts)=0)(ot:iU B ts ol):∀n,UZ ts (mZ B ts ol n)
 |0=>by
  obtain⟨e1,e2,e3,e4⟩:=iM (e:=e)
  exact e4.j e2 fun f hf=>by
   obtain⟨t,_,rfl⟩:=List.mem_map.1 hf
   exact afv og t
 |n+1=>UZ.all ot (Ba og e ot n) (fun s hs=>(D5 hs).1) _ (Nat.le_refl _)
theorem aak{s:Sl}{l:List Tg}(h:dB gX H s l){i:Int}{n:Nat}{x:Tg}(hi:i=n)(hx:l[n]? =some x){k:Nat}(hk:k<4){K:Int->Prop}(hK:K (Rf x.Marks k)):bQ s.p s.len i 11 fun b o=>oD 4 (k:Int) (LD dX H b (o+5+(k:Int).toNat*1) K):=by
 have:k=0∨k=1∨k=2∨k=3:=by omega
 have key:bQ s.p s.len i 11 fun b o=>LD dX H b (o+(5+k)) K:=by
  rcases this with rfl|rfl|rfl|rfl
  ·exact jr (T:=gX) (T1:=dX) GX h hi hx rfl ((gX.cells x).take 5) ((gX.cells x).drop 6) rfl rfl rfl hK
  ·exact jr (T:=gX) (T1:=dX) GX h hi hx rfl ((gX.cells x).take 6) ((gX.cells x).drop 7) rfl rfl rfl hK
  ·exact jr (T:=gX) (T1:=dX) GX h hi hx rfl ((gX.cells x).take 7) ((gX.cells x).drop 8) rfl rfl rfl hK
  ·exact jr (T:=gX) (T1:=dX) GX h hi hx rfl ((gX.cells x).take 8) ((gX.cells x).drop 9) rfl rfl rfl hK
 unfold bQ NIL at key ⊢
 revert key
 cases s.p with
 |none=>exact id
 |some a=>
  obtain⟨b,off,o⟩:=a
  cases o with
  |some _=>exact id
  |none=>
   intro key
   refine⟨key.1,⟨by omega,by omega⟩,?_⟩
   have:=key.2
   simp only[Int.toNat_natCast,Nat.mul_one]
   rwa [show off+i.toNat*11+5+k=off+i.toNat*11+(5+k) by omega]
theorem adI{s:Sl}{l:List Tg}(h:dB gX H s l){i:Int}{n:Nat}{x:Tg}(hi:i=n)(hx:l[n]? =some x){K:Int×Int×Int×Int->Prop}(hK:K x.Marks):bQ s.p s.len i 11 fun b o=>LD cO H b (o+5) K:=
 jr (T:=gX) (T1:=cO) GX h hi hx rfl ((gX.cells x).take 5) ((gX.cells x).drop 9) rfl rfl rfl hK
theorem aho(h:BD m H b se B ms)(hs:dB gX H a1 ts)(hf:dB TF H a2 fs)(hfe:fs.length=ts.length)(hlen:ts.length≤2048){Q:Sl×Unit->Heap->Prop}(hq:∀s H' sp,aW TF H s H' (Jg ms ts fs) sp->Q (s,()) H'):CALL P [aH] tN [.pointer (some ⟨b,0,none⟩),a1.v,a2.v] H Q:=by
 apply PX
 unfold uy
 have hsl:=hs.1
 have hfl:=hf.1
 refine JQ tyF (n:=ts.length) (m:=ts.length) (by rw[hfl,hfe]) (by rw[hfl,hfe]) (Nat.le_refl _) (by omega) fun s1 e1 n1=> ?_
 have p1:s1.p=some ⟨H.length,0,none⟩:=by rw[e1]
 have n1':aW TF H s1 (mk H (fl TF (List.replicate ts.length zF)) TF.n false) (List.replicate ts.length zF) []:=by simpa using n1
 generalize mk H (fl TF (List.replicate ts.length zF)) TF.n false=H1 at n1'
 refine aO (fun _ H'=>aW TF H s1 H' (Jg ms ts fs) []) (fun j hj=> ?_) (fun _ H' hh=>hq _ _ _ hh)
 refine aY (fun(y:(Int×Unit)×Unit) H'=>∃(n:Nat) (cur:List Ft),y.1.1=n∧n≤ts.length∧aW TF H s1 H' cur []∧cur.length=ts.length∧(∀(i:Nat) t f,i<n->ts[i]? =some t->fs[i]? =some f->cur[i]? =some (mkT ms t f))∧(∀i:Nat,n≤i->i<ts.length->cur[i]? =some zF)) (fun y=>ts.length-y.1.1.toNat) ?_
  ⟨0,_,rfl,Nat.zero_le _,n1',by simp,fun i t f h=>by omega,fun i _ hi=>by rw[List.getElem?_replicate,if_pos hi]⟩
 rintro G ⟨⟨i,_⟩,_⟩ H2 ⟨n,cur,hi,hn,no,hcl,h1,h2⟩ hG
 simp only at hi; subst hi
 dsimp only at hG ⊢
 have f2:=no.2.2
 refine cu (fun hlt=> ?_) (fun hge=>hj _ _ ?_)
 ·have hlt:n<ts.length:=by omega
  have hx:ts[n]? =some ts[n]:=List.getElem?_eq_getElem hlt
  have hy:fs[n]? =some (fs[n]'(by omega)):=List.getElem?_eq_getElem (by omega)
  generalize ts[n]=t at hx
  generalize (fs[n]'(by omega))=f at hy
  have hs2:=hs.bP f2 (by simp)
  have hf2:=hf.bP f2 (by simp)
  refine kS hs2 rfl hx ?_
  refine aO (fun _ H'=>∃cur',aW TF H s1 H' cur' []∧cur'.length=ts.length∧(∀(i:Nat) t f,i<n+1->ts[i]? =some t->fs[i]? =some f->cur'[i]? =some (mkT ms t f))∧(∀i:Nat,n+1≤i->i<ts.length->cur'[i]? =some zF)) (fun j2 hj2=>eP (fun e4=> ?_) (fun e4=>hj2 _ _ ⟨cur,no,hcl,fun i u g w1 w2 w3=> ?_,fun i w1 w2=>h2 i (by omega) w2⟩)) ?_
  ·have put:∀(g:Ft) H3,bK [] H2 H3->g=mkT ms t f->bQ s1.p s1.len (n:Int) 5 fun b18 o19=>ST H3 b18 o19 (TF.cells g) fun H6=>j2 ((),()) H6:=fun g H3 f3 eg=>by
    have no3:=no.new f3
    refine no3.1.put (n:=n) KZ (fun x=>rfl) rfl (by omega) g rfl fun c0 H6 hc0 o6 f6 l6=> ?_
    rw[p1]at hc0; cases hc0
    refine hj2 _ _ ⟨cur.set n g,⟨o6,no3.2.1,no3.2.2.then f6 fun d hd=>by simp at hd; subst hd; exact .inr (Nat.le_refl _)⟩,by simpa using hcl,fun i u g' w1 w2 w3=> ?_,fun i w1 w2=> ?_⟩
    ·by_cases ei:i=n
     ·subst ei; rw[hx]at w2; cases w2; rw[hy]at w3; cases w3
      rw[List.getElem?_set_self (by omega),eg]
     ·rw[List.getElem?_set_ne (fun q=>ei q.symm)]; exact h1 i u g' (by omega) w2 w3
    ·rw[List.getElem?_set_ne (by omega)]; exact h2 i (by omega) w2
   refine aZ (T:=TF) KZ hf2 rfl hy rfl (adI hs2 rfl hx (ahn (h.new f2) (fun H3 nk f3=>put _ H3 f3 ?_) (fun H3 ok f3=>put _ H3 f3 ?_)))
   ·unfold mkT; rw[if_neg (fun q=>nk q.2)]
   ·unfold mkT; rw[if_pos ⟨e4,ok⟩]
  ·by_cases ei:i=n
   ·subst ei; rw[hx]at w2; cases w2
    have ep:mkT ms t g=zF:=by unfold mkT; rw[if_neg (fun q=>e4 q.1)]
    rw[ep]; exact h2 i (Nat.le_refl _) hlt
   ·exact h1 i u g (by omega) w2 w3
  ·rintro _ H4 ⟨cur',no4,c1,c2,c3⟩
   rw[bT (by omega) (by omega)]
   exact hG _ _ ⟨n+1,cur',by simp,hlt,no4,c1,c2,c3⟩ (by simp; omega)
 ·have:n=ts.length:=by omega
  subst this
  have ec:cur=Jg ms ts fs:=by
   refine yZ (by unfold Jg; rw[List.length_zipWith]; omega) fun i a c w1 w2 w3=> ?_
   have hit:ts[i]? =some (ts[i]'(by omega)):=List.getElem?_eq_getElem (by omega)
   have hif:fs[i]? =some (fs[i]'(by omega)):=List.getElem?_eq_getElem (by omega)
   have:=h1 i _ _ (by omega) hit hif
   unfold Jg at w3
   rw[List.getElem?_zipWith,hit,hif]at w3
   rw[this]at w2
   simp at w3
   cases w2; exact w3
  subst ec; exact no
theorem Rh(h:BD m H b se B ms)(okB:rD B)(hs:dB gX H a1 ts){Q:Sl×Int×Unit->Heap->Prop}(q1:∀s H',bD se B ts≠0->bK [] H H'->Q (s,bD se B ts,()) H')
  (q0:∀s H' sp,bD se B ts=0->se=true->ts.length≤2048->dn se B ts (Ol B ts)=0->sF ts->aW TF H s H' (Ol B ts) sp->Q (s,0,()) H'):CALL P [aH,dX] ql [.pointer (some ⟨b,0,none⟩),a1.v] H Q:=by
 apply SH
 unfold xI
 have hsl:=hs.1
 have bad:∀(r:Int) s H',r≠0->bD se B ts=r->bK [] H H'->Q (s,r,()) H':=fun r s H' hr he f=>by have:=q1 s H' (by rw[he]; exact hr) f; rwa [he]at this
 refine qy h (bC rfl (cu (fun q=>bad 3 _ _ (by decide) (by unfold bD; rw[if_pos (by omega)]) (.refl _ _)) (fun hlen=>KX h (bG (fun q=>bad 2 _ _ (by decide) ?_ (.refl _ _)) (fun q=> ?_)))))
 ·unfold bD; rw[if_neg (by omega),if_pos (by simpa using q)]
 have hse:se=true:=by simpa using q
 subst hse
 refine ahm h okB hs (by omega) (fun s H' nk f=>dI rfl (bad 2 _ _ (by decide) ?_ f)) fun s3 H3 sp3 hok n3=>bC rfl ?_
 ·unfold bD; rw[if_neg (by omega),if_neg (by decide),if_pos nk]
 have e0:bD true B ts=if dn true B ts (Ol B ts)≠0 then dn true B ts (Ol B ts)else bD true B ts:=by
  unfold bD
  rw[if_neg (by omega),if_neg (by decide),if_neg (fun k=>k hok)]
  split
  ·rfl
  ·rfl
 refine Q8 (h.new n3.2.2) okB (hs.bP n3.2.2 (by simp)) n3.1.jH (fun H4 e f=>dI (by simpa using e) (bad _ _ _ e ?_ (n3.2.2.trans f))) (fun H4 e hk f=>by omega) fun s4 ol H4 sp4 e _ _ ot n4=>bC rfl ?_
 ·rw[e0]; exact if_pos e
 have n34:=n3.new n4.2.2
 have e1:¬sF ts->bD true B ts=2:=fun nk=>by
  unfold bD
  rw[if_neg (by omega),if_neg (by decide),if_neg (fun k=>k hok),if_neg (fun k=>k e),if_pos nk]
 have e2:sF ts->bD true B ts=0:=fun k=>by
  unfold bD
  rw[if_neg (by omega),if_neg (by decide),if_neg (fun k=>k hok),if_neg (fun k=>k e),if_neg (fun q=>q k)]
 refine aO (fun _ H'=>H'=H4∧sF ts) (fun j hj=> ?_) (fun _ H' hh=>by obtain⟨rfl,hk⟩:=hh; exact q0 _ _ sp3 (e2 hk) rfl (by omega) e hk n34)
 have hs4:=hs.bP n34.2.2 (by simp)
 refine aY (fun(y:(Int×Unit)×Unit) H'=>H'=H4∧∃n:Nat,y.1.1=n∧n≤ts.length∧∀(i:Nat) t,i<n->ts[i]? =some t->t.Place=4->uX t.Marks) (fun y=>ts.length-y.1.1.toNat) ?_ ⟨rfl,0,rfl,Nat.zero_le _,fun i t h=>by omega⟩
 rintro G ⟨⟨i,_⟩,_⟩ H' ⟨rfl,n,hi,hn,inv⟩ hG
 simp only at hi; subst hi
 dsimp only at hG ⊢
 refine cu (fun hlt=> ?_) (fun hge=>hj _ _ ⟨rfl,fun t ht=> ?_⟩)
 ·have hlt:n<ts.length:=by omega
  have hx:ts[n]? =some ts[n]:=List.getElem?_eq_getElem hlt
  have hmt:ts[n]∈ts:=List.getElem_mem hlt
  generalize ts[n]=t at hx hmt
  refine aO (fun _ H2=>H2=H'∧(t.Place=4->uX t.Marks)) (fun j2 hj2=>aO (fun _ H2=>H2=H'∧(t.Place=4->uX t.Marks)) (fun j3 hj3=> ?_) (fun _ H2 hh=>hj2 _ _ hh)) ?_
  ·refine aY (fun(y:(Int×Unit)×Unit) H2=>H2=H'∧∃k:Nat,y.1.1=k∧k≤4∧∀i:Nat,i<k->t.Place=4->0≤Rf t.Marks i∧Rf t.Marks i≤99) (fun y=>4-y.1.1.toNat) ?_ ⟨rfl,0,rfl,by omega,fun i h=>by omega⟩
   rintro G2 ⟨⟨i2,_⟩,_⟩ H2 ⟨rfl,k,hk,hk4,inv2⟩ hG2
   simp only at hk; subst hk
   dsimp only at hG2 ⊢
   refine cu (fun hlt2=> ?_) (fun hge2=>hj3 _ _ ⟨rfl,fun h4 i w=>inv2 i (by omega) h4⟩)
   have hlt2:k<4:=by omega
   refine hJ (t.Place=4∧¬(0≤Rf t.Marks k∧Rf t.Marks k≤99)) (fun j4 hj4=>kS hs4 rfl hx (eP (fun e4=>aak hs4 rfl hx hlt2 (cu (fun w=>hj4 _ (by simp; omega)) (fun w=>aak hs4 rfl hx hlt2 (hj4 _ (by simp; omega))))) (fun e4=>hj4 _ (by simp[e4])))) (fun w=>bad 2 _ _ (by decide) (e1 fun q=>w.2 (q t hmt w.1 k hlt2)) n34.2.2) (fun w=> ?_)
   rw[bT (by omega) (by omega)]
   refine hG2 _ _ ⟨rfl,k+1,by simp,hlt2,fun i wi h4=> ?_⟩ (by simp; omega)
   by_cases ei:i=k
   ·subst ei; exact Classical.byContradiction fun q=>w ⟨h4,q⟩
   ·exact inv2 i (by omega) h4
  ·rintro _ H2 ⟨rfl,hk⟩
   rw[bT (by omega) (by omega)]
   refine hG _ _ ⟨rfl,n+1,by simp,hlt,fun i u w1 w2 w3=> ?_⟩ (by simp; omega)
   by_cases ei:i=n
   ·subst ei; rw[hx]at w2; cases w2; exact hk w3
   ·exact inv i u (by omega) w2 w3
 ·obtain⟨i,hit⟩:=List.mem_iff_getElem?.1 ht
  exact inv i t (by have:=(List.getElem?_eq_some_iff.1 hit).1; omega) hit
open Classical in
noncomputable def uZ(se:Bool)(B:List Cd)(ts:List Tg)(k:Int):Int:=if bD se B ts≠0 then bD se B ts else if k<0∨6<k then 2 else 0
noncomputable def afw(B:List Cd)(ms:List au)(ts:List Tg)(ol:List Int)(k:Int):List Ft:=if k=6 then Jg ms ts (mZ B ts ol 5)else mZ B ts ol k.toNat
theorem afx(h:BD m H b se B ms)(okB:rD B)(og:Jr B)(hs:dB gX H a1 ts){k:Int}{Q:Sl×Int×Unit->Heap->Prop}(q1:∀H',uZ se B ts k≠0->bK [] H H'->Q (⟨none,0,0⟩,uZ se B ts k,()) H')
  (q0:∀s ol H' sp,uZ se B ts k=0->dn se B ts (Ol B ts)=0->sF ts->iU B ts ol->aW TF H s H' (afw B ms ts ol k) sp->Q (s,0,()) H'):CALL P [aH,dX] jY [.pointer (some ⟨b,0,none⟩),a1.v,.int .i64 k] H Q:=by
 apply PG
 unfold uo
 have hsl:=hs.1
 refine Rh h okB hs (fun s H' e f=>dI (by simpa using e) ?_) fun s1 H1 sp1 es e1 elen e0 hmk n1=>bC rfl ?_
 ·have eb:uZ se B ts k=bD se B ts:=by unfold uZ; rw[if_pos e]
  have:=q1 H' (by rw[eb]; exact e) f
  rwa [eb]at this
 obtain⟨ol,ot⟩:=D7 okB e0
 subst e1
 refine hJ (k<0∨6<k) (fun j hj=>cu (fun q=>hj _ (by simp; omega)) (fun q=>hj _ (by simp; omega))) (fun q=> ?_) (fun hk=> ?_)
 ·have eb:uZ true B ts k=2:=by unfold uZ; rw[if_neg (fun w=>w es),if_pos q]
  have:=q1 H1 (by rw[eb]; decide) n1.2.2
  rwa [eb]at this
 have eb:uZ true B ts k=0:=by unfold uZ; rw[if_neg (fun w=>w es),if_neg hk]
 refine aO (fun(y:(Sl×Unit)×Unit) H'=>∃sp,aW TF H y.1.1 H' (mZ B ts ol (min k.toNat 5)) sp) (fun j hj=> ?_) ?_
 ·refine aY (fun(y:(Sl×Int×Unit)×Unit) H'=>∃(n:Nat) (sp:List Ft),y.1.2.1=(n:Int)+1∧n≤min k.toNat 5∧aW TF H y.1.1 H' (mZ B ts ol n) sp) (fun y=>7-y.1.2.1.toNat) ?_ ⟨0,sp1,rfl,Nat.zero_le _,n1⟩
  rintro G ⟨⟨s,i,_⟩,_⟩ H2 ⟨n,sp,hi,hn,no⟩ hG
  simp only at hi no; subst hi
  dsimp only at hG ⊢
  refine hJ ((n:Int)+1≤k∧(n:Int)+1≤5) (fun j2 hj2=>cu (fun q=>hj2 _ (by simp; omega)) (fun q=>hj2 _ (by simp; omega))) (fun q=> ?_) (fun q=>hj _ _ ⟨sp,?_⟩)
  ·have f2:=no.2.2
   have ej:dn true B ts (mZ B ts ol n)=0:=(Ba og e0 ot n).dn e0
   refine afk (h.new f2) okB (hs.bP f2 (by simp)) no.1.jH (fun H' e f=>absurd ej e) (fun H' e hk f=>by omega) fun s2 r2 ol2 H3 sp2 sr2 _ _ _ ot2 n2 n3 _=> ?_
   have:=ot2.uniq ot
   subst this
   rw[bT (by omega) (by omega)]
   exact hG _ _ ⟨n+1,sp2,by simp,by omega,n2.older f2⟩ (by simp; omega)
  ·have:n=min k.toNat 5:=by omega
   subst this; exact no
 ·rintro⟨⟨s,_⟩,_⟩ H3 ⟨sp,no⟩
  dsimp only at no ⊢
  refine aO (fun(y:(Sl×Unit)×Unit) H'=>∃sp,aW TF H y.1.1 H' (afw B ms ts ol k) sp) (fun j hj=>eP (fun e6=> ?_) (fun e6=>hj _ _ ⟨sp,?_⟩)) (fun y H' hh=>by obtain⟨sp,hh⟩:=hh; exact q0 _ ol _ sp eb e0 hmk ot hh)
  ·subst e6
   have f3:=no.2.2
   refine aho (h.new f3) (hs.bP f3 (by simp)) no.1.jH (Ba og e0 ot _).len elen fun s4 H4 sp4 n4=>hj _ _ ⟨sp4,?_⟩
   exact n4.older f3
  ·unfold afw
   rw[if_neg e6]
   have:min k.toNat 5=k.toNat:=by omega
   rwa [this]at no
end
end Go.Proofs.YtijnknjopjmiiaaGreatDoor.Zq
end
section
namespace Go.Proofs.YtijnknjopjmiiaaGreatDoor.Zq
open Zv
section
def Ld(T:Tag)(x:T.α):Prop:=∀v∈T.cells x,zH v
def RowOf(T:Tag)(H:Heap)(s:Sl):Prop:=∀d off,s.p=some ⟨d,off,none⟩->∃(l:List T.α) (sz:Nat) (o r v:Bool),H[d]? =some (.row (fl T l) sz o r v)
def SlX(T:Tag)(R:T.α->Prop)(H:Heap)(s:Sl):Prop:=∃l:List T.α,dB T H s l∧l.length≤1048576∧RowOf T H s∧∀x∈l,R x
theorem gJ.XO{P:Program}{H:Heap}{T:Tag}{R:T.α->Prop}{d:Nat}{t e:TypeId}{cs:List Value}(ht:P.underlying t=some (.slice e))(he:∀a,gJ 1048576 P H d e a->∃x:T.α,a=T.cells x∧R x)(h:gJ 1048576 P H (d+1) t cs):
  ∃s:Sl,cs=[s.v]∧SlX T R H s:=by
 simp only[gJ,ht]at h
 rcases h.2 with rfl|⟨b,off,rfl⟩|⟨b,len,cap,acss,rfl,h1,h2,hB,h3,h4,h5,h6⟩
 ·exact⟨⟨none,0,0⟩,rfl,[],⟨rfl,.inl ⟨rfl,rfl,rfl⟩⟩,by simp,(fun d off e=>nomatch e),by simp⟩
 ·exact⟨⟨some ⟨b,off,some 0⟩,0,0⟩,rfl,[],⟨rfl,.inr (.inl ⟨b,off,rfl,rfl,rfl⟩)⟩,by simp,(fun d off e=>nomatch e),by simp⟩
 ·have:∃l:List T.α,l.length=acss.length∧acss.flatten=fl T l∧∀x∈l,R x:=by
   clear h5 h3
   induction acss with
   |nil=>exact⟨[],rfl,rfl,by simp⟩
   |cons a r ih=>
    obtain⟨x,hx,hr⟩:=he a (h6 a (by simp))
    obtain⟨l,q1,q2,q3⟩:=ih fun y hy=>h6 y (by simp[hy])
    exact⟨x::l,by simp[q1],by simp[fl,hx,q2],fun y hy=>by rcases List.mem_cons.1 hy with rfl|hy; exact hr; exact q3 y hy⟩
  obtain⟨l,q1,q2,q3⟩:=this
  refine⟨⟨some ⟨b,0,none⟩,len,cap⟩,rfl,l.take len,⟨by simp; omega,.inr (.inr ⟨b,[],fl T (l.drop len),P.cellsOf e,false,true,rfl,?_⟩)⟩,by simp; omega,fun d off hd=> ?_,fun x hx=>q3 x (List.mem_of_mem_take hx)⟩
  ·rw[h5,q2,List.nil_append,←jf,List.take_append_drop]
  ·simp at hd
   obtain⟨rfl,_⟩:=hd
   exact⟨l,_,_,_,_,by rw[h5,q2]⟩
theorem RowOf.flat{T:Tag}{H:Heap}{s:Sl}(h:RowOf T H s)(hT:∀x,∀v∈T.cells x,aac v):Flat H s:=fun d off e=>by
 obtain⟨l,sz,o,r,v,hl⟩:=h d off e
 refine⟨_,sz,o,r,v,hl,fun w hw=> ?_⟩
 obtain⟨x,_,hx⟩:=List.mem_flatMap.1 hw
 exact hT x w hx
end
end Go.Proofs.YtijnknjopjmiiaaGreatDoor.Zq
end
section
namespace Go.Proofs.YtijnknjopjmiiaaGreatDoor.Zq
open Zv
section
variable{H:Heap}
theorem afy{k:IntKind}{n:Int}(h:zH (.int k n)):k.min≤n∧n≤k.max:=by
 have:(decide (k.min≤n)&&decide (n≤k.max))=true:=h
 simpa using this
theorem aal{n:Int}(h:zH (.int .u8 n)):0≤n∧n≤255:=afy h
theorem aiX{n:Int}(h:zH (.int .u16 n)):0≤n∧n≤65535:=afy h
theorem aiY{n:Int}(h:zH (.int .i64 n)): -9223372036854775808≤n∧n≤9223372036854775807:=afy h
theorem afz{s:ByteArray}(h:zH (.string s)):s.size≤9223372036854775807:=h
theorem aky{p:Pt}(h:Ld TP p):OkP p:=
 ⟨afz (h _ (by simp)),aal (h (.int .u8 p.Suit) (by simp)),aal (h (.int .u8 p.Trait) (by simp)),aal (h (.int .u8 p.Mark) (by simp))⟩
theorem akz{g:aA}(h:Ld TC g∧SlX TP (fun x=>Ld TP x) H g.Parts):InC H g:=by
 obtain⟨h1,l,h2,h3,_,h4⟩:=h
 exact⟨⟨afz (h1 _ (by simp)),aal (h1 (.int .u8 g.Suit) (by simp)),aal (h1 (.int .u8 g.Kind) (by simp)),aiX (h1 (.int .u16 g.Traits) (by simp))⟩,l,h2,h3,fun p hp=>aky (h4 p hp)⟩
theorem afA:∀x:Tg,∀v∈gX.cells x,aac v:=fun x v hv=>by
 simp at hv
 rcases hv with rfl|rfl|rfl|rfl|rfl|rfl|rfl|rfl|rfl|rfl|rfl<;>trivial
end
end Go.Proofs.YtijnknjopjmiiaaGreatDoor.Zq
end
section
namespace Go.Proofs.YtijnknjopjmiiaaGreatDoor.Zq
open Zv
section
variable{H:Heap}{b m:Nat}{se:Bool}{B:List Cd}{ms:List au}{a1 a2 a3:Sl}{ts:List Tg}{fs:List Ft}{ol:List Int}{l:List Sg}
theorem BW.afu{n:Int}{cs:List aA}{ns:List ByteArray}(h:BW H b se n cs ns ms){i:Nat}{x:au}(hx:ms[i]? =some x){o:Nat}(ho:o=588+i*4){K:au->Prop}(hk:K x):LD TM H b o K:=by
 obtain⟨sz,r⟩:=h.row
 obtain⟨e1,e2⟩:=h.QI hx
 exact dV (T:=TM) x _ _ r e1 (by rw[e2,ho]) rfl hk
theorem adJ(h:BP m H b se B ms){n:Nat}(hn:n<4){Q:au×Bool×Unit->Heap->Prop}(hq:∀x,ms[n+1]? =some x->Q (x,x.Mark !=0,()) H):CALL P [TM,ah] mD [.pointer (some ⟨b,0,none⟩),.int .u8 ((n:Int)+1)] H Q:=by
 apply GH
 unfold mO
 have h':=id h
 obtain⟨⟨cs,ns,w,_⟩,_⟩:=h'
 have hm5:=w.m
 have hx:ms[n+1]? =some (ms[n+1]'(by omega)):=List.getElem?_eq_getElem (by omega)
 generalize (ms[n+1]'(by omega))=x at hx
 refine aX (Jc h (bC rfl (bC (by simp; omega) (bC (by simp; omega) ?_))))
 have hi:∀{K:Prop},K->oD 5 ((n:Int)+1) K:=fun k=>⟨⟨by omega,by omega⟩,k⟩
 have ho:0+588+((n:Int)+1).toNat*4=588+(n+1)*4:=by omega
 exact hi (w.afu hx ho (hi (w.Ei hx ho (w.Ei hx ho ⟨rfl,hq x hx⟩))))
theorem afB(k:Int×Int×Int×Int){n:Nat}(hn:n<4){K:Int->Prop}(hK:K (Rf k n)):dW (aj .i64) (dZ E 44 (.agg #[(.int .i64 k.1),(.int .i64 k.2.1),(.int .i64 k.2.2.1),(.int .i64 k.2.2.2)]) (.int .i64 (n:Int))) K:=by
 have:n=0∨n=1∨n=2∨n=3:=by omega
 rcases this with rfl|rfl|rfl|rfl<;>exact⟨_,rfl,hK⟩
theorem ajL(h:BP m H b se B ms){f:Ft}{k:Int×Int×Int×Int}{Q:Ft×Int×Unit->Heap->Prop}(q1:¬uX k->Q (zF,2,()) H)(q0:uX k->Q (aaj ms k f,0,()) H):CALL P [TF,dX] tK [.pointer (some ⟨b,0,none⟩),TF.enc f,cO.enc k] H Q:=by
 apply PN
 unfold uq
 refine acw h fun i e he=>bC (by simpa using he) ?_
 refine aO (fun _ H'=>H'=H∧uX k) (fun j hj=> ?_) ?_
 ·refine aY (fun(y:(Int×Unit)×(Ft×Unit)) H'=>H'=H∧∃n:Nat,y.1.1=n∧n≤4∧∀i:Nat,i<n->0≤Rf k i∧Rf k i≤99) (fun y=>4-y.1.1.toNat) ?_ ⟨rfl,0,rfl,by omega,fun i h=>by omega⟩
  rintro G ⟨⟨i,_⟩,⟨g,_⟩⟩ H' ⟨rfl,n,hi,hn,inv⟩ hG
  simp only at hi; subst hi
  dsimp only at hG ⊢
  refine cu (fun hlt=> ?_) (fun hge=>hj _ _ ⟨rfl,fun i w=>inv i (by omega)⟩)
  have hlt:n<4:=by omega
  refine afB k hlt (hJ (Rf k n<0∨99<Rf k n) (fun j7 hj7=>cu (fun e=>hj7 _ (by simp; omega)) (fun e=>hj7 _ (by simp; omega))) (fun c=>q1 fun w=>by have:=w n hlt; omega) (fun c=> ?_))
  rw[bT (by omega) (by omega)]
  refine hG _ _ ⟨rfl,n+1,by simp,hlt,fun i w=> ?_⟩ (by simp; omega)
  by_cases ei:i=n
  ·subst ei; omega
  ·exact inv i (by omega)
 ·rintro _ H' ⟨rfl,hok⟩
  refine aO (fun(y:Unit×(Ft×Unit)) H2=>H2=H'∧y.2.1=uY ms k f 4) (fun j hj=> ?_) ?_
  ·refine aY (fun(y:(Int×Unit)×(Ft×Unit)) H2=>H2=H'∧∃n:Nat,y.1.1=n∧n≤4∧y.2.1=uY ms k f n) (fun y=>4-y.1.1.toNat) ?_ ⟨rfl,0,rfl,by omega,rfl⟩
   rintro G ⟨⟨i,_⟩,⟨g,_⟩⟩ H2 ⟨rfl,n,hi,hn,inv⟩ hG
   simp only at hi inv; subst hi
   dsimp only at hG ⊢
   refine cu (fun hlt=> ?_) (fun hge=>hj _ _ ⟨rfl,?_⟩)
   ·have hlt:n<4:=by omega
    refine afB k hlt ?_
    have e1:IntKind.wrap .i64 ((n:Int)+1)=(n:Int)+1:=bT (by omega) (by omega)
    have e2:IntKind.wrap .u8 ((n:Int)+1)=(n:Int)+1:=by
     show((n:Int)+1)%256=_
     omega
    rw[e1,e2]
    refine adJ h hlt fun x hx=> ?_
    have est:uY ms k f (n+1)=if x.Mark=0 then g else{ g with Power:=IntKind.wrap .i64 (g.Power+IntKind.wrap .i64 (Rf k n*x.Power)),Health:=IntKind.wrap .i64 (g.Health+IntKind.wrap .i64 (Rf k n*x.Health)) }:=by
     show aai ms k (uY ms k f n) n=_
     unfold aai
     rw[hx,←inv]
    refine aO (fun(y:Unit×(Ft×Unit)) H3=>H3=H2∧y.2.1=uY ms k f (n+1)) (fun j2 hj2=>yO (fun e=>hj2 _ _ ⟨rfl,by rw[est,if_neg e]⟩) (fun e=>hj2 _ _ ⟨rfl,by rw[est,if_pos e]⟩)) ?_
    rintro⟨_,g2,_⟩ H3 ⟨rfl,hg2⟩
    exact hG _ _ ⟨rfl,n+1,by simp,hlt,hg2⟩ (by simp; omega)
   ·have:n=4:=by omega
    subst this; exact inv
  ·rintro⟨_,g,_⟩ H2 ⟨rfl,hg⟩
   simp only at hg; subst hg
   have:=q0 hok
   unfold aaj at this
   dsimp only
   by_cases e:(uY ms k f 4).Power<0
   ·rw[if_pos e]at this
    rw[if_pos (by omega)]; exact this
   ·rw[if_neg e]at this
    rw[if_neg (by omega)]; exact this
theorem ajM(h:BP m H b se B ms)(okB:rD B){t:Tg}{Q:Ft×Int×Unit->Heap->Prop}(q1:∀f e H',e≠0->e≠1->(se=true->¬Jf B t)->bK [] H H'->Q (f,e,()) H')(q0:∀H',se=true->Jf B t->bK [] H H'->Q (prT B t,0,()) H'):CALL P [TF,dX] qO [.pointer (some ⟨b,0,none⟩),gX.enc t] H Q:=by
 apply MG
 unfold rE
 refine acy h okB (fun q=>dI rfl (q1 _ _ _ (by decide) (by decide) (fun hs k=> ?_) (.refl _ _))) (fun c g H' hse h1 hc cr f=>bC rfl ?_)
 ·obtain⟨⟨c,k⟩,_⟩:=k
  rw[aah (by rcases q with q|q; exact(by rw[hs]at q; cases q); exact q)]at k; cases k
 ·have hcd:=aag h1 hc
  refine hJ (t.Owner≠0∧t.Owner≠1) (fun j hj=>yO (fun e=>hj _ (by simp; omega)) (fun e=>hj _ (by simp; omega))) (fun q=>q1 _ _ _ (by decide) (by decide) (fun _ k=>by have:=k.2; omega) f) (fun q=> ?_)
  have:=q0 H' hse ⟨⟨c,hcd⟩,by omega⟩ f
  unfold prT at this
  rw[hcd]at this
  have e:c.g=bare g:=cr.e.symm
  simp only[e]at this
  exact this
theorem ajN{s:Sl}{l:List Int}(hs:dB dX H s l)(h0:0<l.length)(hl:l.length≤1048600){Q:Int×Unit->Heap->Prop}(hq:∀r,r∈l->(∀x∈l,r≤x)->Q (r,()) H):CALL P [dX] ku [s.v] H Q:=by
 apply Dy
 unfold kG
 have h1:=hs.1
 have hz:l[0]? =some (l[0]'h0):=List.getElem?_eq_getElem h0
 have hzm:=List.getElem_mem h0
 generalize (l[0]'h0)=z at hz hzm
 refine aX (bC (by simp; omega) ?_)
 refine aZ (T:=dX) uP hs (n:=0) rfl hz rfl ?_
 refine aO (fun(y:(Int×Unit)×Unit) H'=>H'=H∧y.1.1∈l∧∀x∈l,y.1.1≤x) (fun j hj=> ?_) (fun y H' hh=>by obtain⟨rfl,e1,e2⟩:=hh; exact hq _ e1 e2)
 have first:∀(i:Nat) x,i<1->l[i]? =some x->z≤x:=fun i x h hx=>by
  have:i=0:=by omega
  subst this; rw[hz]at hx; cases hx; exact Int.le_refl _
 refine aY (fun(y:(Int×Int×Unit)×Unit) H'=>H'=H∧∃n:Nat,y.1.2.1=n∧n≤l.length∧y.1.1∈l∧∀(i:Nat) x,i<n->l[i]? =some x->y.1.1≤x) (fun y=>l.length-y.1.2.1.toNat) ?_ ⟨rfl,1,rfl,h0,hzm,first⟩
 rintro G ⟨⟨v,i,_⟩,_⟩ H' ⟨rfl,n,hi,hn,hv,inv⟩ hG
 simp only at hi hv inv; subst hi
 dsimp only at hG ⊢
 refine cu (fun hlt=> ?_) (fun hge=>hj _ _ ⟨rfl,hv,fun x hx=> ?_⟩)
 ·have hlt:n<l.length:=by omega
  have hx:l[n]? =some l[n]:=List.getElem?_eq_getElem hlt
  have hxm:=List.getElem_mem hlt
  generalize l[n]=x at hx hxm
  refine aZ (T:=dX) uP hs rfl hx rfl ?_
  rw[bT (by omega) (by omega)]
  refine hG _ _ ⟨rfl,n+1,by simp,hlt,?_,fun i u w hu=> ?_⟩ (by simp; omega)
  ·dsimp only; split
   ·exact hxm
   ·exact hv
  ·dsimp only
   by_cases ei:i=n
   ·subst ei; rw[hx]at hu; cases hu
    split<;>omega
   ·have:=inv i u (by omega) hu
    split<;>omega
 ·obtain⟨i,hi⟩:=List.mem_iff_getElem?.1 hx
  exact inv i x (by have:=(List.getElem?_eq_some_iff.1 hi).1; omega) hi
theorem ajO{s:Sl}{l:List Int}(hs:dB dX H s l)(h0:0<l.length)(hl:l.length≤1048600){Q:Int×Unit->Heap->Prop}(hq:∀r,r∈l->(∀x∈l,x≤r)->Q (r,()) H):CALL P [dX] kC [s.v] H Q:=by
 apply DF
 unfold kH
 have h1:=hs.1
 have hz:l[0]? =some (l[0]'h0):=List.getElem?_eq_getElem h0
 have hzm:=List.getElem_mem h0
 generalize (l[0]'h0)=z at hz hzm
 refine aX (bC (by simp; omega) ?_)
 refine aZ (T:=dX) uP hs (n:=0) rfl hz rfl ?_
 refine aO (fun(y:(Int×Unit)×Unit) H'=>H'=H∧y.1.1∈l∧∀x∈l,x≤y.1.1) (fun j hj=> ?_) (fun y H' hh=>by obtain⟨rfl,e1,e2⟩:=hh; exact hq _ e1 e2)
 have first:∀(i:Nat) x,i<1->l[i]? =some x->x≤z:=fun i x h hx=>by
  have:i=0:=by omega
  subst this; rw[hz]at hx; cases hx; exact Int.le_refl _
 refine aY (fun(y:(Int×Int×Unit)×Unit) H'=>H'=H∧∃n:Nat,y.1.2.1=n∧n≤l.length∧y.1.1∈l∧∀(i:Nat) x,i<n->l[i]? =some x->x≤y.1.1) (fun y=>l.length-y.1.2.1.toNat) ?_ ⟨rfl,1,rfl,h0,hzm,first⟩
 rintro G ⟨⟨v,i,_⟩,_⟩ H' ⟨rfl,n,hi,hn,hv,inv⟩ hG
 simp only at hi hv inv; subst hi
 dsimp only at hG ⊢
 refine cu (fun hlt=> ?_) (fun hge=>hj _ _ ⟨rfl,hv,fun x hx=> ?_⟩)
 ·have hlt:n<l.length:=by omega
  have hx:l[n]? =some l[n]:=List.getElem?_eq_getElem hlt
  have hxm:=List.getElem_mem hlt
  generalize l[n]=x at hx hxm
  refine aZ (T:=dX) uP hs rfl hx rfl ?_
  rw[bT (by omega) (by omega)]
  refine hG _ _ ⟨rfl,n+1,by simp,hlt,?_,fun i u w hu=> ?_⟩ (by simp; omega)
  ·dsimp only; split
   ·exact hxm
   ·exact hv
  ·dsimp only
   by_cases ei:i=n
   ·subst ei; rw[hx]at hu; cases hu
    split<;>omega
   ·have:=inv i u (by omega) hu
    split<;>omega
 ·obtain⟨i,hi⟩:=List.mem_iff_getElem?.1 hx
  exact inv i x (by have:=(List.getElem?_eq_some_iff.1 hi).1; omega) hi
end
end Go.Proofs.YtijnknjopjmiiaaGreatDoor.Zq
end
