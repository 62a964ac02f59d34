/- Part 6 of the proof of ViewTable: what its row stands on (lemmas about the model, the evaluator, contracts of functions), put together and cut to what is used. -/
import Derived.Test.YtijnknjopjmiiaaGreatDoorKViewTable5
section
namespace Go.Proofs.YtijnknjopjmiiaaGreatDoor.Zq
open Zv
section
variable{H:Heap}{b m:Nat}{se:Bool}{B:List Cd}{ms:List ak}
structure Gv(H:Heap)(a1 a2:Sl)(ts:List Tg)(fs:List Ft):Prop where
 s:eY jZ H a1 ts
 f:eY TF H a2 fs
 fl:Flat H a1
 okt:∀t∈ts,t.Stamp≤9223372036854775807
 okf:∀f∈fs,0≤f.Traits
 len:ts.length≤1048600
variable{a1 a2:Sl}{ts:List Tg}{fs:List Ft}
theorem Gv.new{H':Heap}(h:Gv H a1 a2 ts fs)(f:bP [] H H'):Gv H' a1 a2 ts fs:=⟨h.s.cO f (by simp),h.f.cO f (by simp),h.fl.cO f,h.okt,h.okf,h.len⟩
theorem xg{e:fJ se B ts fs=0}:se=true∧fs.length=ts.length∧ts.length≤2048∧Ux B ts fs:=by
 unfold fJ at e
 split at e
 ·cases e
 ·rename_i h1
  split at e
  ·cases e
  ·rename_i h2
   split at e
   ·rename_i h3
    refine⟨?_,Classical.byContradiction fun q=>h2 (.inr q),by omega,h3⟩
    cases hs:se with
    |true=>rfl
    |false=>exact absurd (.inl hs) h2
   ·cases e
theorem adJ:Oz E fA 27 (0:Int):=tyI
theorem afi(H:Heap)(c:List Value)(z:Nat):(mk H c z false)[H.length]? =some (.row c z false false true)∧bP [] H (mk H c z false)∧(mk H c z false).length=H.length+1:=⟨by simp[mk],bP.app _ _ _,by simp[mk]⟩
end
end Go.Proofs.YtijnknjopjmiiaaGreatDoor.Zq
end
section
namespace Go.Proofs.YtijnknjopjmiiaaGreatDoor.Zq
open Zv
section
variable{H:Heap}{b m:Nat}{se:Bool}{B:List Cd}{ms:List ak}{a1 a2:Sl}{ts:List Tg}{fs:List Ft}
theorem iQ{T T1:Tag}(hT:∀x,(T.cells x).length=T.n){s:Sl}{l:List T.α}(h:eY T H s l){i:Int}{n:Nat}{x:T.α}(hi:i=n)(hx:l[n]? =some x){sz:Nat}(hz:sz=T.n)(pre post:List Value){v:T1.α}{of:Nat}
  (hcut:T.cells x=pre++(T1.cells v++post)) (hpre:pre.length=of) (hn:(T1.cells v).length=T1.n) {K:T1.α->Prop} (hK:K v):dw s.p s.len i sz fun b o=>LD T1 H b (o+of) K:=by
 have hl:=(List.getElem?_eq_some_iff.1 hx).1
 obtain⟨h1,⟨_,h2,_⟩|⟨_,_,_,h2,_⟩|⟨b,A,B,z,o,ro,h3,h4⟩⟩:=h
 ·subst h2; simp at hl
 ·subst h2; simp at hl
 ·subst hi; subst hz
  unfold dw NIL
  rw[h3]
  refine⟨⟨by omega,by omega⟩,?_⟩
  refine dO (T:=T1) v (A++(fl T (l.take n)++pre)) (post++(fl T (l.drop (n+1))++B)) h4 ?_ ?_ hn hK
  ·rw[iF (T:=T) l n x hx,hcut]; simp[List.append_assoc]
  ·rw[List.length_append,List.length_append,bW hT,List.length_take,Nat.min_eq_left (by omega),Int.toNat_natCast,hpre]
   omega
theorem OJ{s:Sl}{l:List Tg}(h:eY jZ H s l){i:Int}{n:Nat}{x:Tg}(hi:i=n)(hx:l[n]? =some x){K:Int->Prop}(hK:K x.Place):dw s.p s.len i 11 fun b o=>LD (au .u8) H b (o+2) K:=
 iQ (T:=jZ) (T1:=au .u8) zu h hi hx rfl ((jZ.cells x).take 2) ((jZ.cells x).drop 3) rfl rfl rfl hK
theorem Yr{s:Sl}{l:List Tg}(h:eY jZ H s l){i:Int}{n:Nat}{x:Tg}(hi:i=n)(hx:l[n]? =some x){K:Int->Prop}(hK:K x.Card):dw s.p s.len i 11 fun b o=>LD fA H b (o+0) K:=
 iQ (T:=jZ) (T1:=fA) zu h hi hx rfl [] ((jZ.cells x).drop 1) rfl rfl rfl hK
theorem aag{s:Sl}{l:List Ft}(h:eY TF H s l){i:Int}{n:Nat}{x:Ft}(hi:i=n)(hx:l[n]? =some x){K:Int->Prop}(hK:K x.Holder):dw s.p s.len i 5 fun b o=>LD fA H b (o+0) K:=
 iQ (T:=TF) (T1:=fA) Le h hi hx rfl [] ((TF.cells x).drop 1) rfl rfl rfl hK
end
end Go.Proofs.YtijnknjopjmiiaaGreatDoor.Zq
end
section
namespace Go.Proofs.YtijnknjopjmiiaaGreatDoor.Zq
open Zv
section
variable{H:Heap}{b m:Nat}{B:List Cd}{ms:List ak}{a1 a2:Sl}{ts:List Tg}{fs:List Ft}{ol:List Int}
theorem iw{x:Int}{k:Nat}{t:Tg}(e:x=k)(h:ts[k]? =some t):aY ts x.toNat=t.Stamp:=by subst e; simp[aY,h]
end
end Go.Proofs.YtijnknjopjmiiaaGreatDoor.Zq
end
section
namespace Go.Proofs.YtijnknjopjmiiaaGreatDoor.Zq
open Zv
section
variable{H:Heap}{b m:Nat}{B:List Cd}{ms:List ak}{a1 a2:Sl}{ts:List Tg}{fs:List Ft}{ol:List Int}
theorem bJ.ptr{T:Tag}{H0 H:Heap}{s:Sl}{l sp:List T.α}(h:bJ T H0 s H l sp):∀c,s.p=some ⟨c,0,none⟩->H0.length≤c∧c<H.length:=fun c hc=>⟨h.2.1 c hc,h.1.lt hc⟩
end
end Go.Proofs.YtijnknjopjmiiaaGreatDoor.Zq
end
section
namespace Go.Proofs.YtijnknjopjmiiaaGreatDoor.Zq
open Zv
section
variable{H:Heap}{b m:Nat}{se:Bool}{B:List Cd}{ms:List ak}{a1 a2 a3:Sl}{ts:List Tg}{fs:List Ft}{ol:List Int}{l:List Sg}
theorem Lr{α:Type}{x y:List α}(hl:x.length=y.length)(h:∀(i:Nat) a c,i<x.length->x[i]? =some a->y[i]? =some c->a=c):x=y:=by
 apply List.ext_getElem hl
 intro i h1 h2
 exact h i _ _ h1 (List.getElem?_eq_getElem h1) (List.getElem?_eq_getElem h2)
theorem VT{i k j:Nat}(hj:j<k)(h:(j !=i&&mG B ts fs ol (AZ l (i:Int)) (AZ l (j:Int)))=true):zy B ts fs ol l i k=true:=List.any_eq_true.2 ⟨j,List.mem_range.2 hj,h⟩
end
end Go.Proofs.YtijnknjopjmiiaaGreatDoor.Zq
end
section
namespace Go.Proofs.YtijnknjopjmiiaaGreatDoor.Zq
open Zv
section
variable{H:Heap}{b m:Nat}{se:Bool}{B:List Cd}{ms:List ak}{a1 a2 a3:Sl}{ts:List Tg}{fs:List Ft}{ol:List Int}{l:List Sg}
theorem VU(ts:List Tg):∃ol,Xq ts ol:=by
 refine⟨(kZ ts ts.length).mergeSort fun a c=>decide (aY ts a.toNat≤aY ts c.toNat),List.mergeSort_perm _ _,fun i j a c hij ha hc=> ?_⟩
 have hp:=List.pairwise_mergeSort (le:=fun a c:Int=>decide (aY ts a.toNat≤aY ts c.toNat)) (fun a b c h1 h2=>by simp at h1 h2 ⊢; omega) (fun a c=>by simp; omega) (kZ ts ts.length)
 have hi:=List.getElem?_eq_some_iff.1 ha
 have hj:=List.getElem?_eq_some_iff.1 hc
 have:=List.pairwise_iff_getElem.1 hp i j hi.1 hj.1 hij
 rw[hi.2,hj.2]at this
 simpa using this
theorem UC{f:Int->Int}:∀{l1 l2:List Int},l1.Pairwise (fun a c=>f a<f c)->l2.Pairwise (fun a c=>f a<f c)->(∀x,x∈l1↔x∈l2)->l1=l2
 |[],[],_,_,_=>rfl
 |[],c::r,_,_,h=>by have:=(h c).2 (by simp); cases this
 |a::r,[],_,_,h=>by have:=(h a).1 (by simp); cases this
 |a::r,c::q,h1,h2,h=>by
  rw[List.pairwise_cons]at h1 h2
  have e:a=c:=by
   refine Classical.byContradiction fun n=> ?_
   rcases List.mem_cons.1 ((h a).1 (by simp))with w|w
   ·exact n w
   ·rcases List.mem_cons.1 ((h c).2 (by simp))with w2|w2
    ·exact n w2.symm
    ·have:=h1.1 c w2; have:=h2.1 a w; omega
  subst e
  congr 1
  refine UC h1.2 h2.2 fun x=>⟨fun hx=> ?_,fun hx=> ?_⟩
  ·rcases List.mem_cons.1 ((h x).1 (by simp[hx]))with w|w
   ·subst w; have:=h1.1 x hx; omega
   ·exact w
  ·rcases List.mem_cons.1 ((h x).2 (by simp[hx]))with w|w
   ·subst w; have:=h2.1 x hx; omega
   ·exact w
theorem fM.uniq{l1 l2:List Int}(h1:fM B ts l1)(h2:fM B ts l2):l1=l2:=by
 have pw:∀{l:List Int},fM B ts l->l.Pairwise (fun a c=>aY ts a.toNat<aY ts c.toNat):=fun h=>List.pairwise_iff_getElem.2 fun i j hi hj hij=>h.srt i j _ _ hij (List.getElem?_eq_getElem hi) (List.getElem?_eq_getElem hj)
 refine UC (f:=fun a=>aY ts a.toNat) (pw h1) (pw h2) fun x=>⟨fun hx=> ?_,fun hx=> ?_⟩
 ·obtain⟨k,t,c,e1,e2,e3,_⟩:=h1.at' x hx; subst e1; exact h2.all k t e2 e3
 ·obtain⟨k,t,c,e1,e2,e3,_⟩:=h2.at' x hx; subst e1; exact h1.all k t e2 e3
theorem aah{B:List Cd}(okB:G5 B)(e:fJ se B ts fs=0):∃ol,fM B ts ol:=by
 obtain⟨e1,e2,e3,e4⟩:=xg (e:=e)
 obtain⟨ol,ho⟩:=VU ts
 exact⟨ol,ho.aex e4 e2 okB e3⟩
theorem eY.after{T:Tag}{H1 H2:Heap}{out s:Sl}{l:List T.α}(h:eY T H1 s l)(a:After out H1 H2)(ap:∀d off,s.p=some ⟨d,off,none⟩->out.p≠some ⟨d,0,none⟩):eY T H2 s l:=by
 by_cases hq:∃d,out.p=some ⟨d,0,none⟩
 ·obtain⟨d0,hd0⟩:=hq
  exact h.cO (a.cO (B:=[d0]) fun d hd=>by rw[hd0]at hd; cases hd; simp) fun x hx off e=>by simp at hx; subst hx; exact ap _ _ e hd0
 ·exact h.cO (a.cO (B:=[]) fun d hd=>absurd ⟨d,hd⟩ hq) (by simp)
end
end Go.Proofs.YtijnknjopjmiiaaGreatDoor.Zq
end
section
namespace Go.Proofs.YtijnknjopjmiiaaGreatDoor.Zq
open Zv
section
variable{H:Heap}{b m:Nat}{se:Bool}{B:List Cd}{ms:List ak}{a1 a2 a3:Sl}{ts:List Tg}{fs:List Ft}{ol:List Int}{l:List Sg}
theorem Uh.take{E:Env}{T:Tag}{ts:TypeId}{z:T.α}(ty:Oz E T ts z){H:Heap}{s:Sl}{l:List T.α}(h:Uh T H s l){i:Int}{n:Nat}(hi:i=n)(hn:n≤l.length)(hp:s.p≠none){k:Sl->Prop}(hk:Uh T H ⟨s.p,n,s.cap⟩ (l.take n)->k ⟨s.p,n,s.cap⟩):dW aJ (dS E ts s.v none (some (.int .i64 i)) none H) k:=by
 obtain⟨⟨ti,e,te,e1,e2,e3,e4,e5,e6,e7⟩,hn0,hT,hone⟩:=ty
 subst hi
 obtain⟨p,m,c⟩:=s
 obtain⟨g1,g2,g0,⟨g3,g4,g5⟩|⟨d,r,g3,g4,g5,g6⟩⟩:=h
 ·exact absurd g3 hp
 ·simp only at g1 g2 g3 g5 g6 g0; subst g3
  refine⟨⟨some ⟨d,0,none⟩,n,c⟩,?_,hk ⟨by simp; omega,by simp only; omega,by simp only; omega,.inr ⟨d,r,rfl,g4,by simp only; omega,by simp only; rw[←g6,List.take_take,Nat.min_eq_left (by omega)]⟩⟩⟩
  unfold dS
  have hex:Zq.exact H d 0 c=true:=by unfold Zq.exact; rw[g4]; rfl
  simp only[e1,e2,e3,Option.bind_some,Sl.v,dn,Option.isSome_none,Bool.false_and,Bool.false_eq_true,if_false,hex,or_true,if_true]
  rw[if_pos (by omega)]
  simp only[Option.bind_some,Int.toNat_natCast]
  rw[if_pos (by omega)]
  simp[Tag.enc,Pm]
theorem Ow.pne{T:Tag}{H:Heap}{s:Sl}{l sp:List T.α}(h:Ow T H s l sp)(hl:0<l.length):∃d,s.p=some ⟨d,0,none⟩:=by
 obtain⟨_,_,_,⟨_,h4,_⟩|⟨c,h4,_⟩⟩:=h
 ·subst h4; simp at hl
 ·exact⟨c,h4⟩
theorem UD{B:List Cd}{ts:List Tg}{ol:List Int}(ot:fM B ts ol)(fs:List Ft)(k:Int):(rH B ts fs ol k).length≤64:=by
 have:=CU (f:=mM B ts fs k) (c:=4) (l:=ol) fun y hy=>by
  obtain⟨k',t,c,e1,e2,e3,e4,e5,e6,e7,e8⟩:=ot.at' y hy
  unfold mM
  split
  ·simp
  ·have:=Uz (y+1) k (cpI B ts y)
   have hc:cpI B ts y=c.ps:=by subst e1; unfold cpI cdI; rw[Int.toNat_natCast,e2]; show((B[(t.Card-1).toNat]?).map (·.ps)).getD []=_; rw[e5]; rfl
   rw[hc]at this ⊢; omega
 have:=ot.few
 unfold rH; omega
end
end Go.Proofs.YtijnknjopjmiiaaGreatDoor.Zq
end
section
namespace Go.Proofs.YtijnknjopjmiiaaGreatDoor.Zq
open Zv
section
variable{se:Bool}{B:List Cd}{ts:List Tg}{fs:List Ft}{ol:List Int}
theorem aai(t:Int):0≤F8 t∧F8 t≤128:=by
 unfold F8
 split
 ·rename_i h
  have:t=1∨t=2∨t=3∨t=4∨t=5∨t=6∨t=7∨t=8:=by omega
  rcases this with rfl|rfl|rfl|rfl|rfl|rfl|rfl|rfl<;>decide
 ·omega
theorem VW{s:Int}(h0:0≤s)(h1:s<256):(BitVec.ofInt (IntKind.bits .u16) s).toNat=s.toNat:=by
 show(BitVec.ofInt 16 s).toNat=_
 rw[BitVec.toNat_ofInt]
 omega
theorem Yt{s:Int}(t:Int)(h0:0≤s)(h1:s<256):0≤Lj s t∧Lj s t<256:=by
 obtain⟨b0,b1⟩:=aai t
 unfold Lj
 refine⟨Xr _,?_⟩
 have e:(BitVec.ofInt (IntKind.bits .u16) s ||| BitVec.ofInt (IntKind.bits .u16) (F8 t)).toNat<2 ^ 8:=by
  rw[BitVec.toNat_or,VW h0 h1,VW b0 (by omega)]
  exact Nat.or_lt_two_pow (by omega) (by omega)
 generalize (BitVec.ofInt (IntKind.bits .u16) s ||| BitVec.ofInt (IntKind.bits .u16) (F8 t)).toNat=x at e
 show(x:Int)%65536<256
 omega
theorem Yu{s:Int}(t:Int)(h0:0≤s)(h1:s<256):0≤Ll s t∧Ll s t<256:=by
 unfold Ll
 refine⟨Xr _,?_⟩
 have e:(BitVec.ofInt (IntKind.bits .u16) s &&& ~~~BitVec.ofInt (IntKind.bits .u16) (F8 t)).toNat<256:=by
  rw[BitVec.toNat_and,VW h0 h1]
  exact Nat.lt_of_le_of_lt Nat.and_le_left (by omega)
 generalize (BitVec.ofInt (IntKind.bits .u16) s &&& ~~~BitVec.ofInt (IntKind.bits .u16) (F8 t)).toNat=x at e
 show(x:Int)%65536<256
 omega
theorem aaj{f:Ft}(p:Pt)(h:Int)(h0:0≤f.Traits):0≤(sF f p h).Traits:=by
 unfold sF
 split
 ·exact h0
 split
 ·exact h0
 split
 ·exact Xr _
 split
 ·exact Xr _
 split
 ·exact h0
 split
 ·exact h0
 ·exact h0
theorem aak{f:Ft}(p:Pt){h:Int}(hh:h=0∨h=1)(h0:0≤f.Traits)(h1:f.Traits<256)(hd:f.Holder=0∨f.Holder=1):((sF f p h).Holder=0∨(sF f p h).Holder=1)∧(sF f p h).Traits<256:=by
 unfold sF
 split
 ·exact⟨hh,h1⟩
 split
 ·exact⟨hd,h1⟩
 split
 ·exact⟨hd,(Yt _ h0 h1).2⟩
 split
 ·exact⟨hd,(Yu _ h0 h1).2⟩
 split
 ·exact⟨hd,h1⟩
 split
 ·exact⟨hd,h1⟩
 ·exact⟨hd,h1⟩
structure QK(ts:List Tg)(out:List Ft):Prop where
 len:out.length=ts.length
 nn:∀f∈out,0≤f.Traits
 ok:∀(i:Nat) t f,ts[i]? =some t->out[i]? =some f->t.Place=4->(f.Holder=0∨f.Holder=1)∧f.Traits<256
theorem Ux.j(N8:Ux B ts fs)(hfe:fs.length=ts.length)(nn:∀f∈fs,0≤f.Traits):QK ts fs:=
 ⟨hfe,nn,fun i t f h1 h2 h3=>by obtain⟨c,_,_,_,_,_,w⟩:=N8.all i t f h1 h2; exact⟨(w h3).2.2.1,(w h3).2.2.2⟩⟩
theorem QK.N8{out:List Ft}(j:QK ts out)(N8:Ux B ts fs)(hfe:fs.length=ts.length):Ux B ts out:=by
 refine⟨fun i t f h1 h2=> ?_,N8.few,N8.dst⟩
 have hi:=(List.getElem?_eq_some_iff.1 h1).1
 obtain⟨c,w1,w2,w3,w4,w5,w⟩:=N8.all i t _ h1 (List.getElem?_eq_getElem (by omega))
 exact⟨c,w1,w2,w3,w4,w5,fun h4=>⟨(w h4).1,(w h4).2.1,(j.ok i t f h1 h2 h4).1,(j.ok i t f h1 h2 h4).2⟩⟩
theorem QK.put{out:List Ft}(j:QK ts out)(s:Sg){h:Int}(hh:h=0∨h=1){n:Int}{k:Nat}{t:Tg}(hk:n=(k:Int)+1)(ht:ts[k]? =some t)(hp:t.Place=4):QK ts (vk s h out n):=by
 have hkl:=(List.getElem?_eq_some_iff.1 ht).1
 have hl:=j.len
 have hx:out[k]? =some (out[k]'(by omega)):=List.getElem?_eq_getElem (by omega)
 have hm:out[k]'(by omega)∈out:=List.getElem_mem (by omega)
 generalize (out[k]'(by omega))=f at hx hm
 have ef:L6 out (n-1)=f:=zx (by omega) hx
 have e:vk s h out n=out.set k (sF f s.What h):=by unfold vk; rw[ef,show(n-1).toNat=k by omega]
 rw[e]
 obtain⟨o1,o2⟩:=j.ok k t f ht hx hp
 refine⟨by simpa using hl,fun g hg=> ?_,fun i u g h1 h2 h3=> ?_⟩
 ·rcases List.mem_or_eq_of_mem_set hg with w|rfl
  ·exact j.nn g w
  ·exact aaj _ _ (j.nn f hm)
 ·by_cases ei:i=k
  ·subst ei
   rw[List.getElem?_set_self (by omega)]at h2
   cases h2
   exact aak _ hh (j.nn f hm) o2 o1
  ·rw[List.getElem?_set_ne (fun q=>ei q.symm)]at h2
   exact j.ok i u g h1 h2 h3
theorem QK.apply(ot:fM B ts ol)(j:QK ts fs){s:Sg}(hs:s.Thing-1∈ol):QK ts (nM B ts fs ol s):=by
 obtain⟨k,t,c,e1,e2,e3,_⟩:=ot.at' _ hs
 have hkl:=(List.getElem?_eq_some_iff.1 e2).1
 have hl:=j.len
 have hx:fs[k]? =some (fs[k]'(by omega)):=List.getElem?_eq_getElem (by omega)
 have hh:=(j.ok k t _ e2 hx e3).1
 rw[←zx e1 hx]at hh
 unfold nM
 generalize (L6 fs (s.Thing-1)).Holder=h at hh
 have:∀(L:List Int) (out:List Ft),(∀x∈L,x-1∈ol)->QK ts out->QK ts (L.foldl (vk s h) out):=by
  intro L
  induction L with
  |nil=>intro out _ j; exact j
  |cons x r ih=>
   intro out hL j
   obtain⟨k,t,c,e1,e2,e3,_⟩:=ot.at' _ (hL x (by simp))
   exact ih _ (fun y hy=>hL y (by simp[hy])) (j.put s hh (k:=k) (by omega) e2 e3)
 exact this _ fs (fun x hx=>(nN.1 hx).1) j
theorem QK.all(ot:fM B ts ol)(j:QK ts fs){l:List Sg}(lv:∀s∈l,s.Thing-1∈ol):∀n,n≤l.length->QK ts (dY B ts ol fs l n).1
 |0,_=>j
 |n+1,hn=>by
  obtain⟨i1,i2,i3,i4⟩:=kF B ts ol fs l n (by omega)
  have hr:=zQ B ts (dY B ts ol fs l n).1 ol (l:=(dY B ts ol fs l n).2.1) (by omega)
  have ih:=QK.all ot j lv n (by omega)
  unfold dY
  refine ih.apply ot (lv _ (i3 _ ?_))
  unfold AZ
  rw[List.getElem?_eq_getElem (by omega)]
  exact List.getElem_mem _
theorem QK.fJ{out:List Ft}(j:QK ts out)(e:fJ se B ts fs=0):fJ se B ts out=0:=by
 obtain⟨e1,e2,e3,e4⟩:=xg (e:=e)
 refine(Z7 (by omega) (fun q=> ?_)).1 (j.N8 e4 e2)
 rcases q with q|q
 ·rw[e1]at q; cases q
 ·exact q j.len
end
end Go.Proofs.YtijnknjopjmiiaaGreatDoor.Zq
end
section
namespace Go.Proofs.YtijnknjopjmiiaaGreatDoor.Zq
open Zv
section
variable{B:List Cd}{ts:List Tg}{fs:List Ft}{ol:List Int}
theorem Yv(B:List Cd)(ts:List Tg)(fs:List Ft)(ol:List Int)(s:Sg):eH B ts fs ol s=(ol.filter (wY B ts fs s)).map (· +1):=by
 unfold eH
 induction ol with
 |nil=>rfl
 |cons x r ih=>
  rw[List.flatMap_cons,ih,List.filter_cons]
  unfold jr
  split<;>simp
theorem fM.pw(ot:fM B ts ol):ol.Pairwise fun a c=>aY ts a.toNat<aY ts c.toNat:=
 List.pairwise_iff_getElem.2 fun i j hi hj h=>ot.srt i j _ _ h (List.getElem?_eq_getElem hi) (List.getElem?_eq_getElem hj)
theorem Yw(ot:fM B ts ol)(fs:List Ft)(s:Sg):(eH B ts fs ol s).Pairwise fun a c=>aY ts (a-1).toNat<aY ts (c-1).toNat:=by
 rw[Yv,List.pairwise_map]
 simp only[Int.add_sub_cancel]
 exact ot.pw.filter _
theorem QL(ot:fM B ts ol)(fs:List Ft)(s:Sg):(eH B ts fs ol s).Nodup:=
 (Yw ot fs s).imp fun h e=>by subst e; omega
theorem zB(s:Sg)(h:Int):∀(L:List Int) (out:List Ft),L.Nodup->(∀x∈L,1≤x)->∀(i:Nat) f,out[i]? =some f->(L.foldl (vk s h) out)[i]? =some (if(i:Int)+1∈L then sF f s.What h else f)
 |[],out,_,_,i,f,hf=>by simpa using hf
 |x::r,out,nd,ge,i,f,hf=>by
  rw[List.foldl_cons]
  have nd':=List.nodup_cons.1 nd
  have gx:=ge x (by simp)
  have gr:∀y∈r,1≤y:=fun y hy=>ge y (by simp[hy])
  by_cases e:(i:Int)+1=x
  ·have e1:(vk s h out x)[i]? =some (sF f s.What h):=by
    unfold vk
    rw[show(x-1).toNat=i by omega,zx (n:=i) (by omega) hf,List.getElem?_set_self (List.getElem?_eq_some_iff.1 hf).1]
   rw[zB s h r _ nd'.2 gr i _ e1,if_neg (by rw[e]; exact nd'.1),if_pos (by rw[e]; simp)]
  ·have e1:(vk s h out x)[i]? =some f:=by
    unfold vk; rw[List.getElem?_set_ne (by omega)]; exact hf
   rw[zB s h r _ nd'.2 gr i _ e1]
   by_cases w:(i:Int)+1∈r
   ·rw[if_pos w,if_pos (by simp[w])]
   ·rw[if_neg w,if_neg (by simp[w,e])]
theorem OL(ot:fM B ts ol)(s:Sg){i:Nat}{f:Ft}(hf:fs[i]? =some f):(nM B ts fs ol s)[i]? =some (if(i:Int)+1∈eH B ts fs ol s then sF f s.What (L6 fs (s.Thing-1)).Holder else f):=
 zB _ _ _ _ (QL ot fs s) (fun x hx=>by obtain⟨k,_,_,e,_⟩:=ot.at' _ (nN.1 hx).1; omega) _ _ hf
end
end Go.Proofs.YtijnknjopjmiiaaGreatDoor.Zq
end
section
namespace Go.Proofs.YtijnknjopjmiiaaGreatDoor.Zq
open Zv
section
theorem adK{T:Tag}{H:Heap}{s:Sl}{l sp:List T.α}(h:Ow T H s l sp){i:Int}{n:Nat}(hi:i=n)(hn:n<l.length){sz:Nat}(hz:sz=T.n){K:Nat->Nat->Prop}(hk:∀c o,s.p=some ⟨c,0,none⟩->o=n*T.n->K c o):dw s.p s.len i sz K:=by
 obtain⟨g1,g2,g0,⟨_,g3,_⟩|⟨c,g3,g4⟩⟩:=id h
 ·subst g3; simp at hn
 ·subst hi; subst hz
  unfold dw NIL
  rw[g3]
  exact⟨⟨by omega,by omega⟩,hk c _ g3 (by rw[Int.toNat_natCast]; simp)⟩
theorem Xt{T T1:Tag}(hT:∀x,(T.cells x).length=T.n){H:Heap}{s:Sl}{l sp:List T.α}(h:Ow T H s l sp){c:Nat}(hc:s.p=some ⟨c,0,none⟩){n:Nat}{x:T.α}(hx:l[n]? =some x)(pre post:List Value)(of:Nat){v:T1.α}{o:Nat}(ho:o=n*T.n)
  (e1:T.cells x=pre++(T1.cells v++post)) (hp:pre.length=of) (hn:(T1.cells v).length=T1.n) {K:T1.α->Prop} (hK:K v):LD T1 H c (o+of) K:=by
 obtain⟨g1,g2,g0,⟨g3,_⟩|⟨c',g3,g4⟩⟩:=id h
 ·rw[hc]at g3; cases g3
 ·rw[hc]at g3; cases g3
  have hl:=(List.getElem?_eq_some_iff.1 hx).1
  have hx1:(l++sp)[n]? =some x:=by rw[List.getElem?_append_left hl,hx]
  refine dO (T:=T1) v (fl T ((l++sp).take n)++pre) (post++fl T ((l++sp).drop (n+1))) g4 ?_ ?_ hn hK
  ·rw[iF _ _ _ hx1,e1]; simp[List.append_assoc]
  ·rw[List.length_append,bW hT,List.length_take,Nat.min_eq_left (by rw[List.length_append]; omega),hp,ho]
theorem GU{T:Tag}(hT:∀x,(T.cells x).length=T.n){H:Heap}{s:Sl}{l sp:List T.α}(h:Ow T H s l sp){c:Nat}(hc:s.p=some ⟨c,0,none⟩){n:Nat}{x x':T.α}(hx:l[n]? =some x)(pre post old vs:List Value)(of:Nat){o:Nat}(ho:o=n*T.n)
  (e1:T.cells x=pre++(old++post)) (e2:T.cells x'=pre++(vs++post)) (hp:pre.length=of) (hl:old.length=vs.length) (hv:vs.all cell1=true) {K:Heap->Prop}
  (hK:∀H',Ow T H' s (l.set n x') sp->bP [c] H H'->H'.length=H.length->K H'):ST H c (o+of) vs K:=by
 obtain⟨g1,g2,g0,⟨g3,_⟩|⟨c',g3,g4⟩⟩:=id h
 ·rw[hc]at g3; cases g3
 ·rw[hc]at g3; cases g3
  have hn:=(List.getElem?_eq_some_iff.1 hx).1
  have hx1:(l++sp)[n]? =some x:=by rw[List.getElem?_append_left hn,hx]
  refine pO (fl T ((l++sp).take n)++pre) old (post++fl T ((l++sp).drop (n+1))) g4 ?_ ?_ hl hv ?_
  ·rw[iF _ _ _ hx1,e1]; simp[List.append_assoc]
  ·rw[List.length_append,bW hT,List.length_take,Nat.min_eq_left (by rw[List.length_append]; omega),hp,ho]
  ·refine hK _ ⟨by simpa using g1,by simpa using g2,g0,.inr ⟨c,hc,?_⟩⟩ (bP.set _ _ (by simp)) (by simp)
   rw[fD (dI g4)]
   have hx2:(l.set n x'++sp)[n]? =some x':=by rw[List.getElem?_append_left (by simpa using hn),List.getElem?_set_self hn]
   rw[iF _ _ _ hx2,e2]
   have e3:(l.set n x'++sp).take n=(l++sp).take n:=by
    rw[List.take_append_of_le_length (by simp; omega),List.take_append_of_le_length (by omega),List.take_set_of_le (Nat.le_refl _)]
   have e4:(l.set n x'++sp).drop (n+1)=(l++sp).drop (n+1):=by
    rw[←List.set_append_left n x' hn,List.drop_set_of_lt (by omega)]
   rw[e3,e4]; simp[List.append_assoc]
theorem ab3{T:Tag}(hT:∀x,(T.cells x).length=T.n){H:Heap}{s:Sl}{l:List T.α}(h:eY T H s l){i:Int}{n:Nat}{x:T.α}(hi:i=n)(hx:l[n]? =some x){sz:Nat}(hz:sz=T.n){K:Nat->Nat->Prop}
  (hk:∀b o,(∀H2,eY T H2 s l->∀(T1:Tag) (pre post:List Value) (v:T1.α) (of:Nat) (k:T1.α->Prop),T.cells x=pre++(T1.cells v++post)->pre.length=of->(T1.cells v).length=T1.n->k v->LD T1 H2 b (o+of) k)->K b o):dw s.p s.len i sz K:=by
 have t:=bf hT h hi hx (k:=fun _=>True) hz trivial
 have hl:=(List.getElem?_eq_some_iff.1 hx).1
 obtain⟨h1,⟨_,h2,_⟩|⟨_,_,_,h2,_⟩|⟨b,A,B,z,o,ro,h3,h4⟩⟩:=id h
 ·subst h2; simp at hl
 ·subst h2; simp at hl
 ·unfold dw NIL at t ⊢
  rw[h3]at t ⊢
  refine⟨t.1,hk _ _ fun H2 h2 T1 pre post v of k e1 e2 e3 hk=> ?_⟩
  have t2:=iQ hT h2 hi hx hz pre post (T1:=T1) e1 e2 e3 (K:=k) hk
  unfold dw NIL at t2
  rw[h3]at t2
  exact t2.2
theorem aal{α:Type}{l:List α}{n:Nat}{x:α}(h:l[n]? =some x):l.set n x=l:=by
 apply List.ext_getElem?
 intro i
 by_cases e:i=n
 ·subst e; rw[List.getElem?_set_self (List.getElem?_eq_some_iff.1 h).1,h]
 ·rw[List.getElem?_set_ne (fun q=>e q.symm)]
theorem Xu{E:Env}{T:Tag}{ts:TypeId}{z:T.α}(ty:Oz E T ts z){tj:TI}(h2:E.ty ts=some tj)(h4:∀k,tj.k≠ .int k){H:Heap}{s:Sl}{l:List T.α}(hf:eY T H s l)(hl:l.length≤1048600){n:Nat}(hn:n=T.n){Q:Sl×Unit->Heap->Prop}(hq:∀r H' sp,bJ T H r H' l sp->Q (r,()) H'):
  aK s.p.isNone (Q ((Sl.mk none 0 0),()) H) (NEW H [] n fun H1=>EW aJ (lenV ((Sl.mk (some ⟨H.length,0,none⟩) 0 0)).v+(oH s.v).getD 0) (dM E [ts,ts] ((Sl.mk (some ⟨H.length,0,none⟩) 0 0)).v s.v H1) fun(x1:Sl) H2=>Q (x1,()) H2):=by
 subst hn
 refine bT (fun e=> ?_) (fun e=> ?_)
 ·obtain⟨h1,⟨_,h2,_⟩|⟨_,_,h3,_⟩|⟨_,_,_,_,_,_,h3,_⟩⟩:=hf
  ·subst h2; exact hq _ _ [] (bJ.nil' T H)
  ·rw[h3]at e; cases e
  ·rw[h3]at e; cases e
 ·unfold NEW
  have r1:(mk H [] T.n false)[H.length]? =some (.row [] T.n false false true):=by simp[mk]
  have f1:bP [] H (mk H [] T.n false):=bP.app _ _ _
  generalize mk H [] T.n false=H1 at r1 f1
  have o1:Ow T H1 ⟨some ⟨H.length,0,none⟩,0,0⟩ [] []:=⟨rfl,rfl,by simp,.inr ⟨_,rfl,r1⟩⟩
  have n1:bJ T H ⟨some ⟨H.length,0,none⟩,0,0⟩ H1 [] []:=⟨o1,fun d hd=>by simp at hd; subst hd; exact Nat.le_refl _,f1⟩
  refine PE ty h2 h4 (hf.cO f1 (by simp)) (by simp only[List.length_nil]; omega) o1 fun s8 H8 sp8 k1 k2 k3=> ?_
  have:=n1.app k1 k2 k3
  rw[List.nil_append]at this
  exact hq _ _ sp8 this
variable{H:Heap}{b m:Nat}{se:Bool}{B:List Cd}{ms:List ak}{a1 a2 a3 cs so:Sl}{bp:Option Addr}{ts:List Tg}{fs:List Ft}{ol:List Int}{l:List Sg}
theorem UE(hf:eY TF H a2 fs)(hl:fs.length≤1048600){Q:Sl×Unit->Heap->Prop}(hq:∀r H' sp,bJ TF H r H' fs sp->Q (r,()) H'):CALL P [aJ] bU [a2.v] H Q:=by
 apply jG
 unfold dB
 exact Xu tyF rfl (fun _=>by simp) hf hl rfl hq
theorem VX(hf:eY lg H a2 l)(hl:l.length≤1048600){Q:Sl×Unit->Heap->Prop}(hq:∀r H' sp,bJ lg H r H' l sp->Q (r,()) H'):CALL P [aJ] cZ [a2.v] H Q:=by
 apply ji
 unfold dh
 exact Xu QH rfl (fun _=>by simp) hf hl rfl hq
theorem aey{s r:Sl}{x y:List Int}(hx:eY fA H s x)(hy:eY fA H r y)(hl:x.length≤1048600){Q:Bool×Unit->Heap->Prop}(hq:Q (decide (x=y),()) H):CALL P [ah] iO [s.v,r.v] H Q:=by
 apply wV
 unfold iP
 have h1:=hx.1
 have h2:=hy.1
 have no:¬x=y->Q (false,()) H:=fun q=>by have:=hq; rwa [decide_eq_false q]at this
 refine AO (fun e=>no fun q=>by subst q; omega) (fun e=> ?_)
 have hll:x.length=y.length:=by omega
 refine aS (fun _ H'=>H'=H∧x=y) (fun j hj=> ?_) (fun _ H' hh=>by obtain⟨rfl,e⟩:=hh; rwa [decide_eq_true e]at hq)
 refine bG (fun(t:(Int×Unit)×Unit) H'=>H'=H∧∃n:Nat,t.1.1=n∧n≤x.length∧∀(i:Nat) a c,i<n->x[i]? =some a->y[i]? =some c->a=c) (fun t=>x.length-t.1.1.toNat) ?_ ⟨rfl,0,rfl,Nat.zero_le _,fun i a c h=>by omega⟩
 rintro G ⟨⟨i,_⟩,_⟩ H' ⟨rfl,n,hi,hn,inv⟩ hG
 simp only at hi; subst hi
 dsimp only at hG ⊢
 refine dH (fun hlt=> ?_) (fun hge=>hj _ _ ⟨rfl,Lr hll fun i a c w=>inv i a c (by omega)⟩)
 have hlt:n<x.length:=by omega
 have ha:x[n]? =some x[n]:=List.getElem?_eq_getElem hlt
 have hc:y[n]? =some (y[n]'(by omega)):=List.getElem?_eq_getElem (by omega)
 generalize x[n]=a at ha
 generalize (y[n]'(by omega))=c at hc
 refine bf (T:=fA) qX hx rfl ha rfl (bf (T:=fA) qX hy rfl hc rfl (AO (fun q=>no fun w=> ?_) (fun q=> ?_)))
 ·subst w; rw[ha]at hc; cases hc; exact q rfl
 ·rw[dA (by omega) (by omega)]
  refine hG _ _ ⟨rfl,n+1,by simp,hlt,fun i a' c' w1 w2 w3=> ?_⟩ (by simp; omega)
  by_cases e:i=n
  ·subst e; rw[ha]at w2; rw[hc]at w3; cases w2; cases w3; exact q
  ·exact inv i a' c' (by omega) w2 w3
theorem VP.at4(pl:VP m H a1 cs so B ts ol)(hfe:fs.length=ts.length):∃cl,eY TC H cs cl∧∀x∈ol,∃(k:Nat) (t:Tg) (c:Cd) (g:ay) (f:Ft),x=k∧k<2048∧ts[k]? =some t∧t.Place=4∧1≤t.Stamp∧cl[k]? =some g∧CR m H g c∧cpI B ts x=c.ps∧ckI B ts x=c.g.Kind∧g.Kind=c.g.Kind∧c.ps.length≤4∧fs[k]? =some f∧L6 fs x=f:=by
 obtain⟨cl,hcl,cd⟩:=pl.card
 refine⟨cl,hcl,fun x hx=> ?_⟩
 obtain⟨k,t,c,g,ek,et,eg,cr,ecp,eck,egk,e4⟩:=cd x hx
 obtain⟨k',t',_,e1',e2',e3',_,_,e6',_⟩:=pl.ot.at' x hx
 have:k'=k:=by omega
 subst this; rw[et]at e2'; cases e2'
 have hkl:=(List.getElem?_eq_some_iff.1 et).1
 have hlen:=pl.ot.len
 have hfx:fs[k']? =some (fs[k']'(by omega)):=List.getElem?_eq_getElem (by omega)
 exact⟨k',t,c,g,_,ek,by omega,et,e3',e6',eg,cr,ecp,eck,egk,e4,hfx,zx ek hfx⟩
theorem aam(pl:VP m H a1 cs so B ts ol)(hf:eY TF H a2 fs)(hfe:fs.length=ts.length){s:Sg}(hs:s.Thing-1∈ol){x:Int}(hx:x∈ol){Q:Bool×Unit->Heap->Prop}(hq:Q (wY B ts fs s x,()) H):
  CALL P [ah] jP [aC.enc ⟨bp,a1,cs,so⟩,a2.v,lg.enc s,.int .i64 x] H Q:=by
 apply Ar
 unfold jW
 obtain⟨cl,hcl,cd⟩:=pl.at4 hfe
 obtain⟨k,t,c,g,f,ek,k2,et,ep,est,eg,cr,ecp,eck,egk,e4,hfx,ef⟩:=cd x hx
 obtain⟨k',t',c',g',f',ek',k2',et',ep',est',eg',cr',ecp',eck',egk',e4',hfx',ef'⟩:=cd _ hs
 rw[dA (by omega) (by omega)]
 unfold wY at hq
 refine fV (fun q=> ?_) (fun q4=> ?_)
 ·rw[if_pos q]at hq; exact hq
 rw[if_neg q4,ef,ef',eck,←egk]at hq
 refine bf (T:=TF) Le hf ek hfx rfl ?_
 refine ab3 (T:=TF) Le hf ek' hfx' rfl fun b o rd=>rd H hf fA [] ((TF.cells f').drop 1) f'.Holder 0 _ rfl rfl rfl ⟨rfl,rd H hf fA [] ((TF.cells f').drop 1) f'.Holder 0 _ rfl rfl rfl ⟨rfl,?_⟩⟩
 refine iQ (T:=TC) (T1:=au .u8) YN hcl ek eg rfl ((TC.cells g).take 2) ((TC.cells g).drop 3) rfl rfl rfl (AO (fun q=> ?_) (fun q=> ?_))
 ·rw[if_pos q]at hq; exact hq
 rw[if_neg (fun w=>w q)]at hq
 refine fV (fun q=>by rw[if_pos q]at hq; exact hq) (fun q5=> ?_)
 rw[if_neg q5]at hq
 refine fV (fun q=>by rw[if_pos q]at hq; exact hq) (fun q6=> ?_)
 rw[if_neg q6]at hq
 refine fV (fun q=>by rw[if_pos q]at hq; exact hq) (fun q7=> ?_)
 rw[if_neg q7]at hq
 refine fV (fun q=> ?_) (fun q8=> ?_)
 ·rw[if_pos q]at hq
  refine bF (bT (fun e=> ?_) (fun e=> ?_))
  ·have e:(f.Holder==f'.Holder)=true:=e
   rw[e,Bool.true_and]at hq; exact hq
  ·have e:(f.Holder==f'.Holder)=false:=e
   rw[e,Bool.false_and]at hq; exact hq
 rw[if_neg q8]at hq
 refine fV (fun q=>by rw[if_pos q]at hq; exact hq) (fun q9=> ?_)
 rw[if_neg q9]at hq
 refine fV (fun q=> ?_) (fun q10=> ?_)
 ·rw[if_pos q]at hq; exact aac hq
 ·rw[if_neg q10]at hq; exact hq
end
end Go.Proofs.YtijnknjopjmiiaaGreatDoor.Zq
end
section
namespace Go.Proofs.YtijnknjopjmiiaaGreatDoor.Zq
open Zv
section
variable{H:Heap}{b m:Nat}{se:Bool}{B:List Cd}{ms:List ak}{a1 a2 a3 cs so:Sl}{bp:Option Addr}{ts:List Tg}{fs:List Ft}{ol:List Int}{l:List Sg}
theorem VY(pl:VP m H a1 cs so B ts ol)(hf:eY TF H a2 fs)(hfe:fs.length=ts.length){s:Sg}(hs:s.Thing-1∈ol){Q:Sl×Unit->Heap->Prop}(hq:∀r H' sp,bJ fA H r H' (eH B ts fs ol s) sp->Q (r,()) H'):
  CALL P [aJ] fH [aC.enc ⟨bp,a1,cs,so⟩,a2.v,lg.enc s] H Q:=by
 apply Ai
 unfold jU
 have hol:=pl.o.1
 have few:=pl.ot.few
 have hlen:=pl.ot.len
 obtain⟨cl,hcl,cd⟩:=pl.at4 hfe
 refine aS (fun y H'=>∃sp,bJ fA H y.1.1 H' (eH B ts fs ol s) sp) (fun j hj=> ?_) (fun y H' h=>by obtain⟨sp,h⟩:=h; exact hq _ _ _ h)
 refine bG (fun(y:(Sl×Int×Unit)×Unit) H'=>∃(n:Nat) (sp:List Int),y.1.2.1=n∧n≤ol.length∧bJ fA H y.1.1 H' ((ol.take n).flatMap (jr B ts fs s)) sp) (fun y=>ol.length-y.1.2.1.toNat) ?_ ⟨0,[],rfl,Nat.zero_le _,by simpa using bJ.nil' fA H⟩
 rintro G ⟨⟨out,i,_⟩,_⟩ H1 ⟨n,sp,hi,hn,no⟩ hG
 simp only at hi no; subst hi
 dsimp only at hG ⊢
 have f1:=no.2.2
 refine dH (fun hlt=> ?_) (fun hge=>hj _ _ ⟨sp,?_⟩)
 ·have hlt:n<ol.length:=by omega
  have hx:ol[n]? =some ol[n]:=List.getElem?_eq_getElem hlt
  have hm:ol[n]∈ol:=List.getElem_mem hlt
  generalize ol[n]=x at hx hm
  obtain⟨kx,_,_,_,_,ek,k2,_⟩:=cd x hm
  have tk:=QI (jr B ts fs s) hx
  have hpre:((ol.take n).flatMap (jr B ts fs s)).length≤16:=by
   have:=CU (f:=jr B ts fs s) (c:=1) (l:=ol.take n) fun y _=>GR B ts fs s y
   rw[List.length_take]at this
   omega
  refine bf (T:=fA) qX (pl.o.cO f1 (by simp)) rfl hx rfl (aam (pl.new f1) (hf.cO f1 (by simp)) hfe hs hm ?_)
  refine aS (fun y H'=>∃sp,bJ fA H y.1.1 H' ((ol.take (n+1)).flatMap (jr B ts fs s)) sp) (fun j2 hj2=>bT (fun e=> ?_) (fun e=> ?_)) ?_
  ·have e1:jr B ts fs s x=[x+1]:=if_pos e
   rw[dA (by omega) (by omega)]
   refine JA adJ rfl (fun _=>by simp) (m:=1) [x+1] rfl rfl (by show 2*(_+1)*4096≤_; omega) no.1 fun s4 H5 sp5 k1 k2 k3=> ?_
   exact hj2 _ _ ⟨sp5,by rw[tk,e1]; exact no.app k1 k2 k3⟩
  ·have e1:jr B ts fs s x=[]:=if_neg (by have e:wY B ts fs s x=false:=e; rw[e]; decide)
   exact hj2 _ _ ⟨sp,by rw[tk,e1,List.append_nil]; exact no⟩
  ·rintro⟨⟨out3,_⟩,_⟩ H3 ⟨sp3,no3⟩
   rw[dA (by omega) (by omega)]
   exact hG _ _ ⟨n+1,sp3,by simp,hlt,no3⟩ (by simp; omega)
 ·have:n=ol.length:=by omega
  subst this
  rw[List.take_length]at no; exact no
theorem UF(pl:VP m H a1 cs so B ts ol)(hf:eY TF H a2 fs)(hfe:fs.length=ts.length){s:Sg}(hs:s.Thing-1∈ol){Q:Sl×Unit->Heap->Prop}(hq:∀r H' sp,bJ TF H r H' (nM B ts fs ol s) sp->Q (r,()) H'):
  CALL P [aJ] iC [aC.enc ⟨bp,a1,cs,so⟩,a2.v,lg.enc s] H Q:=by
 apply Am
 unfold jV
 have hlen:=pl.ot.len
 refine UE hf (by omega) fun x1 H1 sp1 n1=> ?_
 refine VY (pl.new n1.2.2) (hf.cO n1.2.2 (by simp)) hfe hs fun x2 H2 sp2 n2=> ?_
 obtain⟨cl,hcl,cd⟩:=pl.at4 hfe
 obtain⟨k',t',c',g',f',ek',k2',et',ep',est',eg',cr',ecp',eck',egk',e4',hfx',ef'⟩:=cd _ hs
 have hl2:x2.len=(eH B ts fs ol s).length:=n2.1.1
 have hmem:∀x∈eH B ts fs ol s,∃k:Nat,x=(k:Int)+1∧k<fs.length:=fun x hx=>by
  obtain⟨k,t,c,g,f,e1,_,e2,_⟩:=cd _ (nN.1 hx).1
  have:=(List.getElem?_eq_some_iff.1 e2).1
  exact⟨k,by omega,by omega⟩
 have hal:=Lm B ts fs ol s
 have few:=pl.ot.few
 generalize hL:eH B ts fs ol s=L at hl2 hmem n2 hal
 have eap:nM B ts fs ol s=L.foldl (vk s f'.Holder) fs:=by unfold nM; rw[hL,ef']
 refine aS (fun _ H'=>bJ TF H x1 H' (L.foldl (vk s f'.Holder) fs) sp1) (fun j hj=> ?_) (fun _ H' hh=>hq _ _ sp1 (by rw[eap]; exact hh))
 refine bG (fun(y:(Int×Unit)×Unit) H'=>∃n:Nat,y.1.1=n∧n≤L.length∧bJ TF H x1 H' ((L.take n).foldl (vk s f'.Holder) fs) sp1∧Ow fA H' x2 L sp2) (fun y=>L.length-y.1.1.toNat) ?_ ⟨0,rfl,Nat.zero_le _,by simpa using n1.new n2.2.2,n2.1⟩
 rintro G ⟨⟨i,_⟩,_⟩ H4 ⟨n,hi,hn,no,o2⟩ hG
 simp only at hi; subst hi
 dsimp only at hG ⊢
 refine dH (fun hlt=> ?_) (fun hge=>hj _ _ ?_)
 ·have hlt:n<L.length:=by omega
  have hx:L[n]? =some L[n]:=List.getElem?_eq_getElem hlt
  obtain⟨k,ek,hk⟩:=hmem L[n] (List.getElem_mem hlt)
  generalize L[n]=x at hx ek
  have tk:=Yp (vk s f'.Holder) fs hx
  have hcl:=wZ s f'.Holder (L.take n) fs
  generalize hcur:(L.take n).foldl (vk s f'.Holder) fs=cur at no tk hcl
  have hky:cur[k]? =some (cur[k]'(by omega)):=List.getElem?_eq_getElem (by omega)
  generalize (cur[k]'(by omega))=g at hky
  have eg:L6 cur (x-1)=g:=zx (by omega) hky
  have w3:IntKind.wrap .i64 (x-1)=(k:Int):=by rw[dA (by omega) (by omega)]; omega
  have w4:IntKind.wrap .i64 (s.Thing-1)=(k':Int):=by rw[dA (by omega) (by omega)]; omega
  refine bf (T:=fA) qX o2.rC rfl hx rfl ?_
  rw[w3,w4]
  refine adK no.1 rfl (by omega) rfl fun c0 o hc0 ho=> ?_
  have ep:vk s f'.Holder cur x=cur.set k (sF g s.What f'.Holder):=by
   unfold vk
   rw[eg,show(x-1).toNat=k by omega]
  refine aS (fun _ H'=>Ow TF H' x1 (cur.set k (sF g s.What f'.Holder)) sp1∧bP [c0] H4 H'∧H'.length=H4.length) (fun j12 hj12=> ?_) ?_
  ·have hkl:k<cur.length:=(List.getElem?_eq_some_iff.1 hky).1
   unfold sF at hj12
   refine fV (fun e=> ?_) (fun e10=> ?_)
   ·rw[if_pos e]at hj12
    exact aag (hf.cO no.2.2 (by simp)) rfl hfx' (GU (T:=TF) Le no.1 hc0 hky [] ((TF.cells g).drop 1) ((TF.cells g).take 1) [.int .i64 f'.Holder] 0 ho rfl (x':=⟨f'.Holder,g.Suit,g.Traits,g.Power,g.Health⟩) rfl rfl rfl rfl fun H6 o6 f6 l6=>hj12 _ _ ⟨o6,f6,l6⟩)
   rw[if_neg e10]at hj12
   refine aS _ (fun j17 hj17=> ?_) (fun _ H' hh=>hj12 _ H' hh)
   refine fV (fun e=> ?_) (fun e11=> ?_)
   ·rw[if_pos e]at hj17
    exact GU (T:=TF) Le no.1 hc0 hky ((TF.cells g).take 1) ((TF.cells g).drop 2) [.int .u8 g.Suit] [.int .u8 s.What.Suit] 1 ho rfl (x':=⟨g.Holder,s.What.Suit,g.Traits,g.Power,g.Health⟩) rfl rfl rfl rfl fun H6 o6 f6 l6=>hj17 _ _ ⟨o6,f6,l6⟩
   rw[if_neg e11]at hj17
   refine aS _ (fun j19 hj19=> ?_) (fun _ H' hh=>hj17 _ H' hh)
   refine fV (fun e=> ?_) (fun e12=> ?_)
   ·rw[if_pos e]at hj19
    exact Xt (T:=TF) (T1:=au .u16) Le no.1 hc0 hky ((TF.cells g).take 2) ((TF.cells g).drop 3) 2 (v:=g.Traits) ho rfl rfl rfl (ab1 (GU (T:=TF) Le no.1 hc0 hky ((TF.cells g).take 2) ((TF.cells g).drop 3) [.int .u16 g.Traits] [.int .u16 (Lj g.Traits s.What.Trait)] 2 ho rfl (x':=⟨g.Holder,g.Suit,Lj g.Traits s.What.Trait,g.Power,g.Health⟩) rfl rfl rfl rfl fun H6 o6 f6 l6=>hj19 _ _ ⟨o6,f6,l6⟩))
   rw[if_neg e12]at hj19
   refine aS _ (fun j23 hj23=> ?_) (fun _ H' hh=>hj19 _ H' hh)
   refine fV (fun e=> ?_) (fun e13=> ?_)
   ·rw[if_pos e]at hj23
    exact Xt (T:=TF) (T1:=au .u16) Le no.1 hc0 hky ((TF.cells g).take 2) ((TF.cells g).drop 3) 2 (v:=g.Traits) ho rfl rfl rfl (ab2 (GU (T:=TF) Le no.1 hc0 hky ((TF.cells g).take 2) ((TF.cells g).drop 3) [.int .u16 g.Traits] [.int .u16 (Ll g.Traits s.What.Trait)] 2 ho rfl (x':=⟨g.Holder,g.Suit,Ll g.Traits s.What.Trait,g.Power,g.Health⟩) rfl rfl rfl rfl fun H6 o6 f6 l6=>hj23 _ _ ⟨o6,f6,l6⟩))
   rw[if_neg e13]at hj23
   refine aS _ (fun j27 hj27=> ?_) (fun _ H' hh=>hj23 _ H' hh)
   refine fV (fun e=> ?_) (fun e14=> ?_)
   ·rw[if_pos e]at hj27
    refine GU (T:=TF) Le no.1 hc0 hky ((TF.cells g).take 3) ((TF.cells g).drop 4) [.int .i64 g.Power] [.int .i64 s.What.Count] 3 ho rfl (x':=⟨g.Holder,g.Suit,g.Traits,s.What.Count,g.Health⟩) rfl rfl rfl rfl fun H6 o6 f6 l6=>⟨rfl,?_⟩
    refine GU (T:=TF) Le o6 hc0 (List.getElem?_set_self hkl) ((TF.cells (⟨g.Holder,g.Suit,g.Traits,s.What.Count,g.Health⟩:Ft)).take 4) [] [.int .i64 g.Health] [.int .i64 s.What.Count] 4 ho rfl (x':=⟨g.Holder,g.Suit,g.Traits,s.What.Count,s.What.Count⟩) rfl rfl rfl rfl fun H7 o7 f7 l7=>hj27 _ _ ⟨?_,f6.trans f7,by omega⟩
    rw[List.set_set]at o7; exact o7
   rw[if_neg e14]at hj27
   refine aS _ (fun j29 hj29=> ?_) (fun _ H' hh=>hj27 _ H' hh)
   refine fV (fun e=> ?_) (fun e15=> ?_)
   ·rw[if_pos e]at hj29
    refine Xt (T:=TF) (T1:=fA) Le no.1 hc0 hky ((TF.cells g).take 3) ((TF.cells g).drop 4) 3 (v:=g.Power) ho rfl rfl rfl ?_
    refine GU (T:=TF) Le no.1 hc0 hky ((TF.cells g).take 3) ((TF.cells g).drop 4) [.int .i64 g.Power] [.int .i64 (IntKind.wrap .i64 (g.Power+s.What.Count))] 3 ho rfl (x':=⟨g.Holder,g.Suit,g.Traits,IntKind.wrap .i64 (g.Power+s.What.Count),g.Health⟩) rfl rfl rfl rfl fun H6 o6 f6 l6=> ?_
    refine Xt (T:=TF) (T1:=fA) Le o6 hc0 (List.getElem?_set_self hkl) ((TF.cells (⟨g.Holder,g.Suit,g.Traits,IntKind.wrap .i64 (g.Power+s.What.Count),g.Health⟩:Ft)).take 4) [] 4 (v:=g.Health) ho rfl rfl rfl ?_
    refine GU (T:=TF) Le o6 hc0 (List.getElem?_set_self hkl) ((TF.cells (⟨g.Holder,g.Suit,g.Traits,IntKind.wrap .i64 (g.Power+s.What.Count),g.Health⟩:Ft)).take 4) [] [.int .i64 g.Health] [.int .i64 (IntKind.wrap .i64 (g.Health+s.What.Count))] 4 ho rfl (x':=⟨g.Holder,g.Suit,g.Traits,IntKind.wrap .i64 (g.Power+s.What.Count),IntKind.wrap .i64 (g.Health+s.What.Count)⟩) rfl rfl rfl rfl fun H7 o7 f7 l7=>hj29 _ _ ⟨?_,f6.trans f7,by omega⟩
    rw[List.set_set]at o7; exact o7
   rw[if_neg e15,aal hky]at hj29
   exact hj29 _ _ ⟨no.1,.refl _ _,rfl⟩
  ·rintro _ H6 ⟨o6,f6,l6⟩
   obtain⟨p1,p2⟩:=no.ptr _ hc0
   obtain⟨p3,p4⟩:=n1.ptr _ hc0
   rw[dA (by omega) (by omega)]
   refine hG _ _ ⟨n+1,by simp,hlt,by rw[tk,ep]; exact⟨o6,no.2.1,no.2.2.then f6 fun d hd=>by simp at hd; subst hd; exact .inr p1⟩,o2.cO f6 fun d hd e=> ?_⟩ (by simp; omega)
   simp at hd; subst hd
   have:=n2.2.1 _ e; omega
 ·have:n=L.length:=by omega
  subst this
  rw[List.take_length]at no; exact no
theorem aan(pl:VP m H a1 cs so B ts ol){s o:Sg}(hs:s.Thing-1∈ol)(ho:o.Thing-1∈ol){Q:Bool×Unit->Heap->Prop}(hq:Q (qY ts s o,()) H):CALL P [ah] iD [aC.enc ⟨bp,a1,cs,so⟩,lg.enc s,lg.enc o] H Q:=by
 apply Az
 unfold jX
 obtain⟨k,t,c,e1,e2,_⟩:=pl.ot.at' _ hs
 obtain⟨k',t',c',e1',e2',_⟩:=pl.ot.at' _ ho
 have hlen:=pl.ot.len
 have hk:=(List.getElem?_eq_some_iff.1 e2).1
 have hk':=(List.getElem?_eq_some_iff.1 e2').1
 have w1:IntKind.wrap .i64 (s.Thing-1)=(k:Int):=by rw[dA (by omega) (by omega)]; omega
 have w2:IntKind.wrap .i64 (o.Thing-1)=(k':Int):=by rw[dA (by omega) (by omega)]; omega
 rw[w1,w2]
 unfold qY at hq
 rw[iw e1 e2,iw e1' e2']at hq
 refine nK pl.hs rfl e2 (nK pl.hs rfl e2' (bF (dH (fun q=> ?_) (fun q=>fV (fun q2=> ?_) (fun q2=> ?_)))))
 ·rw[decide_eq_true q,Bool.true_or]at hq; exact hq
 ·rw[decide_eq_false q,decide_eq_true q2,Bool.false_or,Bool.true_and]at hq; exact hq
 ·rw[decide_eq_false q,decide_eq_false q2]at hq; exact hq
theorem adL(pl:VP m H a1 cs so B ts ol)(hf:eY TF H a2 fs)(hfe:fs.length=ts.length){s o:Sg}(hs:s.Thing-1∈ol)(ho:o.Thing-1∈ol){Q:Bool×Unit->Heap->Prop}(hq:∀H',bP [] H H'->Q (mG B ts fs ol s o,()) H'):
  CALL P [ah] jf [aC.enc ⟨bp,a1,cs,so⟩,a2.v,lg.enc s,lg.enc o] H Q:=by
 apply xQ
 unfold jl
 have few:=pl.ot.few
 have hal:=Lm B ts fs ol s
 refine VY pl hf hfe hs fun x1 H1 sp1 n1=>⟨rfl,rfl,rfl,rfl,?_⟩
 refine UF (pl.new n1.2.2) (hf.cO n1.2.2 (by simp)) hfe ho fun x2 H2 sp2 n2=>⟨rfl,rfl,?_⟩
 have f02:=n1.2.2.trans n2.2.2
 refine VY (pl.new f02) n2.1.rC (by rw[nO]; exact hfe) hs fun x3 H3 sp3 n3=> ?_
 refine aey ((n1.new n2.2.2).new n3.2.2).1.rC n3.1.rC (by omega) ?_
 have:=hq H3 (f02.trans n3.2.2)
 unfold mG at this
 simpa using this
theorem adM{x y:ByteArray}(h:x.toList=y.toList):x=y:=by
 obtain⟨⟨x⟩⟩:=x
 obtain⟨⟨y⟩⟩:=y
 rw[ByteArray.toList_mk,ByteArray.toList_mk]at h
 rw[h]
theorem aao{x y:ByteArray}:x.toList=y.toList↔x=y:=⟨adM,by rintro rfl; rfl⟩
end
end Go.Proofs.YtijnknjopjmiiaaGreatDoor.Zq
end
section
namespace Go.Proofs.YtijnknjopjmiiaaGreatDoor.Zq
open Zv
section
variable{H:Heap}{b m:Nat}{se:Bool}{B:List Cd}{ms:List ak}{a1 a2 a3 cs so:Sl}{bp:Option Addr}{ts:List Tg}{fs:List Ft}{ol:List Int}{l:List Sg}
theorem ab4(pl:VP m H a1 cs so B ts ol)(hf:eY TF H a2 fs)(hfe:fs.length=ts.length)(hl:eY lg H a3 l)(hll:l.length≤1048600)(lv:∀s∈l,s.Thing-1∈ol){Q:Int×Unit->Heap->Prop}(hq:∀H',bP [] H H'->Q (if l.length=0 then -1 else zA B ts fs ol l,()) H'):
  CALL P [fA] kQ [aC.enc ⟨bp,a1,cs,so⟩,a2.v,a3.v] H Q:=by
 apply CP
 unfold kV
 have h3:=hl.1
 refine aS (fun(y:(Int×Int×Unit)×Unit) H'=>bP [] H H'∧y.1.1=(nx B ts fs ol l l.length).1∧y.1.2.1=if l.length=0 then -1 else(nx B ts fs ol l l.length).2) (fun j hj=> ?_) ?_
 ·refine bG (fun(y:(Int×Int×Int×Unit)×Unit) H'=>∃n:Nat,y.1.2.2.1=n∧n≤l.length∧bP [] H H'∧y.1.1=(nx B ts fs ol l n).1∧y.1.2.1=if n=0 then -1 else(nx B ts fs ol l n).2) (fun y=>l.length-y.1.2.2.1.toNat) ?_ ⟨0,rfl,Nat.zero_le _,.refl _ _,rfl,rfl⟩
  rintro G ⟨⟨free,first,i,_⟩,_⟩ H1 ⟨n,hi,hn,f1,hfr,hfi⟩ hG
  simp only at hi hfr hfi; subst hi
  dsimp only at hG ⊢
  refine dH (fun hlt=> ?_) (fun hge=>hj _ _ ?_)
  ·have hlt:n<l.length:=by omega
   obtain⟨r1,r2,r3,r4⟩:=QJ B ts fs ol l n
   have hx:l[n]? =some l[n]:=List.getElem?_eq_getElem hlt
   have hxm:=lv _ (List.getElem_mem hlt)
   generalize l[n]=s at hx hxm
   have es:AZ l (n:Int)=s:=Lp rfl hx
   have enx:nx B ts fs ol l (n+1)=(if(!zy B ts fs ol l n l.length&&(decide (free<0)||qY ts s (AZ l free)))=true then(n:Int)else free,if qY ts s (AZ l (nx B ts fs ol l n).2)=true then(n:Int)else(nx B ts fs ol l n).2):=by
    rw[hfr]
    show(_,_)=_
    rw[es]
   rw[←hfr]at r1 r2
   have h1:=pl.new f1
   have hf1:=hf.cO f1 (by simp)
   have hl1:=hl.cO f1 (by simp)
   refine aS (fun(y:(Int×Int×Unit)×Unit) H'=>bP [] H H'∧y.1.1=(nx B ts fs ol l (n+1)).1∧y.1.2.1=(nx B ts fs ol l (n+1)).2) (fun j5 hj5=> ?_) ?_
   ·refine bf (T:=lg) F9 hl1 rfl hx rfl ?_
    refine aS (fun(y:(Bool×Unit)×Unit) H'=>H'=H1∧(if y.1.1=true then(n:Int)else first)=(nx B ts fs ol l (n+1)).2) (fun j10 hj10=> ?_) ?_
    ·by_cases h0:n=0
     ·rw[if_pos h0]at hfi
      subst h0
      refine iJ (by simp; omega) (hj10 _ _ ⟨rfl,?_⟩)
      rw[enx]
      show((0:Nat):Int)=if _ then((0:Nat):Int)else 0
      split<;>rfl
     ·rw[if_neg h0]at hfi
      rw[←hfi]at r3 r4 enx
      refine bI (by simp; omega) ?_
      obtain⟨fn,hfn⟩:∃fn:Nat,first=fn:=⟨first.toNat,by omega⟩
      have hfnl:fn<l.length:=by omega
      have hy:l[fn]? =some l[fn]:=List.getElem?_eq_getElem hfnl
      have hym:=lv _ (List.getElem_mem hfnl)
      generalize l[fn]=o at hy hym
      have eo:AZ l first=o:=Lp hfn hy
      refine bf (T:=lg) F9 hl1 hfn hy rfl (aan h1 hxm hym (hj10 _ _ ⟨rfl,?_⟩))
      rw[enx,eo]
    ·rintro⟨⟨r,_⟩,_⟩ H' ⟨rfl,hr⟩
     dsimp only at hr ⊢
     refine aS (fun(y:(Int×Unit)×Unit) H2=>H2=H'∧y.1.1=(nx B ts fs ol l (n+1)).2) (fun j16 hj16=>bT (fun e=>hj16 _ _ ⟨rfl,by rw[←hr,if_pos e]⟩) (fun e=>hj16 _ _ ⟨rfl,by rw[←hr,if_neg (by have e:r=false:=e; rw[e]; decide)]⟩)) ?_
     rintro⟨⟨first2,_⟩,_⟩ H2 ⟨rfl,hf2⟩
     dsimp only at hf2 ⊢
     refine aS (fun _ H'=>bP [] H H'∧zy B ts fs ol l n l.length=false) (fun j18 hj18=> ?_) ?_
     ·refine bG (fun(y:(Int×Unit)×Unit) H'=>∃k:Nat,y.1.1=k∧k≤l.length∧bP [] H H'∧∀j:Nat,j<k->(j !=n&&mG B ts fs ol (AZ l (n:Int)) (AZ l (j:Int)))=false) (fun y=>l.length-y.1.1.toNat) ?_ ⟨0,rfl,Nat.zero_le _,f1,fun j h=>by omega⟩
      rintro G2 ⟨⟨i2,_⟩,_⟩ H4 ⟨k,hk,hkl,f4,hff⟩ hG2
      simp only at hk; subst hk
      dsimp only at hG2 ⊢
      refine dH (fun hlt2=> ?_) (fun hge2=>hj18 _ _ ⟨f4,?_⟩)
      ·have hkl2:k<l.length:=by omega
       have hz:l[k]? =some l[k]:=List.getElem?_eq_getElem hkl2
       have hzm:=lv _ (List.getElem_mem hkl2)
       generalize l[k]=u at hz hzm
       have eu:AZ l (k:Int)=u:=Lp rfl hz
       refine bf (T:=lg) F9 (hl.cO f4 (by simp)) rfl hz rfl ?_
       refine aS (fun(y:(Bool×Unit)×Unit) H'=>bP [] H H'∧y.1.1=(k !=n&&mG B ts fs ol s u)) (fun j5 hj5=>AO (fun e=> ?_) (fun e=>hj5 _ _ ⟨f4,?_⟩)) ?_
       ·refine adL (pl.new f4) (hf.cO f4 (by simp)) hfe hxm hzm fun H5 f5=>hj5 _ _ ⟨f4.trans f5,?_⟩
        have:(k !=n)=true:=by simp; omega
        rw[this,Bool.true_and]
       ·have:(k !=n)=false:=by simp; omega
        rw[this,Bool.false_and]
       ·rintro⟨⟨r,_⟩,_⟩ H5 ⟨f5,hr⟩
        simp only at hr
        dsimp only
        refine bT (fun e=>hj5 _ _ ⟨f5,?_,hf2⟩) (fun e=> ?_)
        ·have hh:zy B ts fs ol l n l.length=true:=VT hkl2 (by rw[es,eu,←hr]; exact e)
         rw[enx,hh]; rfl
        ·rw[dA (by omega) (by omega)]
         refine hG2 _ _ ⟨k+1,by simp,hkl2,f5,fun j w=> ?_⟩ (by simp; omega)
         by_cases ej:j=k
         ·subst ej; rw[es,eu,←hr]; exact e
         ·exact hff j (by omega)
      ·refine Bool.eq_false_iff.2 fun w=> ?_
       obtain⟨j,hj,hd⟩:=List.any_eq_true.1 w
       have:=hff j (by have:=List.mem_range.1 hj; omega)
       rw[this]at hd; cases hd
     ·rintro _ H4 ⟨f4,hh⟩
      have hl4:=hl.cO f4 (by simp)
      have e1:(nx B ts fs ol l (n+1)).1=if(decide (free<0)||qY ts s (AZ l free))=true then(n:Int)else free:=by
       rw[enx,hh]; rfl
      refine aS (fun(y:(Bool×Unit)×Unit) H'=>H'=H4∧y.1.1=(decide (free<0)||qY ts s (AZ l free))) (fun j5 hj5=>dH (fun e2=>hj5 _ _ ⟨rfl,by rw[decide_eq_true e2]; rfl⟩) (fun e2=> ?_)) ?_
      ·rw[decide_eq_false e2,Bool.false_or]at hj5
       obtain⟨gn,hgn⟩:∃gn:Nat,free=gn:=⟨free.toNat,by omega⟩
       have hgl:gn<l.length:=by omega
       have hz:l[gn]? =some l[gn]:=List.getElem?_eq_getElem hgl
       have hzm:=lv _ (List.getElem_mem hgl)
       generalize l[gn]=u at hz hzm
       rw[Lp hgn hz]at hj5
       exact bf (T:=lg) F9 hl4 hgn hz rfl (aan (pl.new f4) hxm hzm (hj5 _ _ ⟨rfl,rfl⟩))
      ·rintro⟨⟨r,_⟩,_⟩ H5 ⟨rfl,hr⟩
       simp only at hr
       dsimp only
       rw[←hr]at e1
       refine aS (fun(y:(Int×Unit)×Unit) H2=>H2=H5∧y.1.1=(nx B ts fs ol l (n+1)).1) (fun j16 hj16=>bT (fun e=>hj16 _ _ ⟨rfl,by rw[e1,if_pos e]⟩) (fun e=>hj16 _ _ ⟨rfl,by rw[e1,if_neg (by have e:r=false:=e; rw[e]; decide)]⟩)) ?_
       rintro⟨⟨fr2,_⟩,_⟩ H6 ⟨rfl,hr2⟩
       exact hj5 _ _ ⟨f4,hr2,hf2⟩
   ·rintro⟨⟨fr2,fi2,_⟩,_⟩ H4 ⟨f4,e1,e2⟩
    dsimp only at e1 e2 ⊢
    rw[dA (by omega) (by omega)]
    exact hG _ _ ⟨n+1,by simp,hlt,f4,e1,by rw[if_neg (by omega)]; exact e2⟩ (by simp; omega)
  ·have:n=l.length:=by omega
   subst this
   exact⟨f1,hfr,hfi⟩
 ·rintro⟨⟨free,first,_⟩,_⟩ H1 ⟨f1,hfr,hfi⟩
  dsimp only at hfr hfi ⊢
  have fin:=hq H1 f1
  by_cases h0:l.length=0
  ·rw[if_pos h0]at fin hfi
   rw[h0]at hfr
   have:free= -1:=hfr
   refine bI (by simp; omega) ?_
   rw[hfi]; exact fin
  ·rw[if_neg h0]at fin hfi
   unfold zA at fin
   rw[←hfr,←hfi]at fin
   refine dH (fun e=> ?_) (fun e=> ?_)
   ·rw[if_neg (by omega)]at fin; exact fin
   ·rw[if_pos (by omega)]at fin; exact fin
variable{s o:Sg}
end
end Go.Proofs.YtijnknjopjmiiaaGreatDoor.Zq
end
section
namespace Go.Proofs.YtijnknjopjmiiaaGreatDoor.Zq
open Zv
section
variable{se:Bool}{B:List Cd}{ts us:List Tg}{ol:List Int}
theorem sG{l:List Sg}{i:Int}(h:i.toNat<l.length):AZ l i∈l:=by unfold AZ; rw[List.getElem?_eq_getElem h]; exact List.getElem_mem _
end
end Go.Proofs.YtijnknjopjmiiaaGreatDoor.Zq
end
section
namespace Go.Proofs.YtijnknjopjmiiaaGreatDoor.Zq
open Zv
section
variable{B:List Cd}{ts:List Tg}{ol:List Int}
def A8(B:List Cd)(ts:List Tg)(ol:List Int)(fs:List Ft)(l:List Sg)(n:Nat):Int:=zA B ts (dY B ts ol fs l n).1 ol (dY B ts ol fs l n).2.1
theorem OM(fs:List Ft)(l:List Sg):∀m,m≤l.length->∀i,i<m->(dY B ts ol fs l m).2.2[i]? =some (AZ (dY B ts ol fs l i).2.1 (A8 B ts ol fs l i))
 |0,_,i,h=>by omega
 |m+1,hm,i,h=>by
  obtain⟨i1,i2,i3,i4⟩:=kF B ts ol fs l m (by omega)
  have e:(dY B ts ol fs l (m+1)).2.2=(dY B ts ol fs l m).2.2++[AZ (dY B ts ol fs l m).2.1 (A8 B ts ol fs l m)]:=rfl
  rw[e]
  by_cases q:i=m
  ·subst q
   rw[List.getElem?_append_right (by omega),i4,Nat.sub_self]; rfl
  ·rw[List.getElem?_append_left (by omega)]
   exact OM fs l m (by omega) i (by omega)
theorem OO{fs:List Ft}{l:List Sg}{n:Nat}(h:n<l.length):∃k:Nat,A8 B ts ol fs l n=k∧k<(dY B ts ol fs l n).2.1.length:=by
 obtain⟨i1,i2,i3,i4⟩:=kF B ts ol fs l n (by omega)
 have hr:=zQ B ts (dY B ts ol fs l n).1 ol (l:=(dY B ts ol fs l n).2.1) (by omega)
 refine⟨(A8 B ts ol fs l n).toNat,?_,?_⟩<;>unfold A8<;>omega
theorem Yx(fs:List Ft)(l:List Sg)(n:Nat):dY B ts ol fs l (n+1)=(nM B ts (dY B ts ol fs l n).1 ol (AZ (dY B ts ol fs l n).2.1 (A8 B ts ol fs l n)),(dY B ts ol fs l n).2.1.eraseIdx (A8 B ts ol fs l n).toNat,(dY B ts ol fs l n).2.2++[AZ (dY B ts ol fs l n).2.1 (A8 B ts ol fs l n)]):=rfl
end
end Go.Proofs.YtijnknjopjmiiaaGreatDoor.Zq
end
section
namespace Go.Proofs.YtijnknjopjmiiaaGreatDoor.Zq
open Zv
section
variable{E:Env}{T:Tag}{ts tx:TypeId}{z:T.α}
theorem ab5(ty:Oz E T ts z){tj:TI}(h2:E.ty tx=some tj)(h4:∀k,tj.k≠ .int k){H:Heap}{s x:Sl}{l sp xs:List T.α}(hx:eY T H x xs)(h:Ow T H s l sp){c:Nat}(hc0:s.p=some ⟨c,0,none⟩)(hfit:xs.length≤sp.length){k:Sl->Heap->Prop}
  (hk:∀H',Ow T H' ⟨s.p,l.length+xs.length,s.cap⟩ (l++xs) (sp.drop xs.length)->bP [c] H H'->H'.length=H.length->k ⟨s.p,l.length+xs.length,s.cap⟩ H'):EW aJ (lenV s.v+(oH x.v).getD 0) (dM E [ts,tx] s.v x.v H) k:=by
 have hx1:x.len=xs.length:=hx.1
 have hfo:gK x.v x.len T.n H=some (fl T xs):=by
  obtain⟨p,n,c⟩:=x
  obtain⟨_,⟨h3,h5,h6⟩|⟨b,off,h3,h5,h6⟩|⟨b,A,B,sz,o,ro,h3,h5⟩⟩:=hx
  ·simp only at h3 h6 hx1; subst h3; subst h5; subst h6; subst hx1; simp[gK,Sl.v,fl]
  ·simp only at h3 h6 hx1; subst h3; subst h5; subst h6; subst hx1; simp[gK,Sl.v,fl]
  ·simp only at h3 hx1; subst h3; subst hx1
   simp only[gK,Sl.v]
   unfold Zq.rd
   rw[h5]
   simp only
   rw[if_pos (by simp[bW ty.len]),List.drop_left,List.take_left' (by rw[bW ty.len])]
 obtain⟨⟨ti,e,te,e1,e2,e3,e4,e5,e6,e7⟩,hn,hT,hone⟩:=ty
 intro y hy
 have e8:dM E [ts,tx] s.v x.v H y=fC E [ts,tx] s.v x.len (fl T xs) H y:=by
  unfold dM
  simp only[e1,e2,e3,e4]
  have:oH x.v=some x.len:=rfl
  rw[this]
  simp only[hfo]
 rw[e8,hx1]
 obtain⟨p,n,cp⟩:=s
 obtain⟨g1,g2,g0,g3⟩:=h
 simp only at g1 g2 g0 g3 hc0 hk; subst g1; subst g2; subst hc0
 obtain⟨q,_⟩|⟨c',q,hc⟩:=g3
 ·cases q
 cases q
 have hlt:=dI hc
 have hxl:(fl T xs).length=xs.length*T.n:=bW hT xs
 have hne:te.size≠0:=by omega
 have hif:¬(te.size=0∨(fl T xs).length≠xs.length*te.size):=by rw[e4]; omega
 have apx:∀(s2:Value),uQ E [ts,tx] s2 xs.length (fl T xs) H=(if te.size=0∨(fl T xs).length≠xs.length*te.size then none else
    match s2 with
    | .slice none 0 0=>
     if xs.length=0 then some (.slice none 0 0,H)
     else if 2*xs.length*te.bytes≤281474976710656∧te.bytes≠0∧(fl T xs).all cell1=true then some (.slice (some ⟨H.length,0,none⟩) xs.length xs.length,mk H (fl T xs) te.size true)else none
    | .slice (some ⟨b,off,none⟩) len cap=>
     if xs.length=0 then(if len≤cap then some (s2,H)else none)
     else if len+xs.length≤cap then(wr H b (off+len*te.size) (fl T xs)).bind fun H'=>some (.slice (some ⟨b,off,none⟩) (len+xs.length) cap,H')
     else if 2*(len+xs.length)*te.bytes≤281474976710656∧te.bytes≠0∧(fl T xs).all cell1=true then
      (rd H b off (len*te.size)).bind fun old=>
       if exact H b off cap then
        some (.slice (some ⟨H.length,0,none⟩) (len+xs.length) (len+xs.length),mk H (old++fl T xs) te.size true)
       else
        match H[b]? with
        |some (.row _ sz _ false true)=>if sz=te.size then some (.slice (some ⟨H.length,0,none⟩) (len+xs.length) (len+xs.length),mk (kill H b) (old++fl T xs) te.size true)else none
        |_=>none
     else none
    | .slice (some ⟨b,off,some 0⟩) 0 0=>if xs.length=0 then some (.slice (some ⟨b,off,some 0⟩) 0 0,H)else none
    |_=>none):=fun s2=>by
  unfold uQ
  simp only[e1,h2,e2,e3,Option.bind_some]
  rfl
 by_cases hx0:xs=[]
 ·subst hx0
  have v0:fC E [ts,tx] (.slice (some ⟨c,0,none⟩) l.length (l.length+sp.length)) ([]:List T.α).length (fl T []) H y=some (.slice (some ⟨c,0,none⟩) l.length (l.length+sp.length),H):=by
   unfold fC
   simp only
   rw[if_neg (fun q=>q.1 rfl),apx,if_neg hif]
   simp
  exact⟨⟨some ⟨c,0,none⟩,l.length,l.length+sp.length⟩,H,v0,hk _ ⟨by simp,by simp,g0,.inr ⟨c,rfl,by simpa using hc⟩⟩ (.refl _ _) rfl⟩
 ·have hxl0:xs.length≠0:=by simpa using hx0
  have hw:wr H c (0+l.length*te.size) (fl T xs)=some (H.set c (.row (fl T (l++xs++sp.drop xs.length)) T.n false false true)):=by
   unfold wr
   rw[hc]
   simp only
   have hsz:(fl T (l++sp)).length=(l.length+sp.length)*T.n:=by rw[bW hT]; simp
   rw[if_pos (by rw[hsz,hxl,e4,Nat.zero_add,←Nat.add_mul]; exact Nat.mul_le_mul_right _ (by omega)),if_pos (Py hone xs)]
   congr 3
   unfold patch
   rw[hxl,e4,Nat.zero_add,←Nat.add_mul,Iz hT,PD hT,List.take_left,iK,iK]
   congr 2
   rw[←List.drop_drop,List.drop_left]
  have v0:fC E [ts,tx] (.slice (some ⟨c,0,none⟩) l.length (l.length+sp.length)) xs.length (fl T xs) H y=some (.slice (some ⟨c,0,none⟩) (l.length+xs.length) (l.length+sp.length),H.set c (.row (fl T (l++xs++sp.drop xs.length)) T.n false false true)):=by
   unfold fC
   simp only
   rw[if_neg (fun q=>by omega),apx,if_neg hif]
   simp only
   rw[if_neg hxl0,if_pos (by omega),hw]
   rfl
  exact⟨⟨some ⟨c,0,none⟩,l.length+xs.length,l.length+sp.length⟩,_,v0,hk _ ⟨by simp,by simp; omega,g0,.inr ⟨c,rfl,by rw[fD hlt]⟩⟩ (bP.set _ _ (by simp)) (by simp)⟩
theorem ab6(ty:Oz E T ts z){H:Heap}{s:Sl}{l sp:List T.α}(h:Ow T H s l sp){c:Nat}(hc:s.p=some ⟨c,0,none⟩){a b d:Int}{i j m:Nat}(ha:a=i)(hb:b=j)(hd:d=m)(hij:i≤j)(hjm:j≤m)(hm:m≤s.cap){k:Sl->Prop}(hk:∀x,k x):dW aJ (dS E ts s.v (some (.int .i64 a)) (some (.int .i64 b)) (some (.int .i64 d)) H) k:=by
 obtain⟨⟨ti,e,te,e1,e2,e3,e4,e5,e6,e7⟩,hn0,hT,hone⟩:=ty
 subst ha; subst hb; subst hd
 obtain⟨p,n,cp⟩:=s
 simp only at hc hm; subst hc
 refine⟨⟨some ⟨c,if m=i then 0 else 0+i*te.size,none⟩,j-i,m-i⟩,?_,hk _⟩
 unfold dS
 simp only[e1,e2,e3,Option.bind_some,Sl.v,dn,Option.isSome_some,Option.isNone_some,Bool.and_false,Bool.false_eq_true,if_false,true_or,if_true]
 rw[if_pos (by omega)]
 simp only[Option.bind_some,Int.toNat_natCast]
 rw[if_pos (by omega)]
 simp only[Option.bind_some]
 rw[if_pos (by omega)]
 simp only[Option.bind_some]
 rw[if_pos (by omega)]
 simp[Tag.enc,Pm]
theorem aap(ty:Oz E T ts z){H:Heap}{s:Sl}{l sp:List T.α}(h:Ow T H s l sp){c:Nat}(hc:s.p=some ⟨c,0,none⟩){a b:Int}{q:Nat}(ha:a=l.length)(hb:b=((l.length+q:Nat):Int))(hq:q≤sp.length)(hq0:0<q){K:Heap->Prop}
  (hk:∀H',Ow T H' s l (List.replicate q z++sp.drop q)->bP [c] H H'->H'.length=H.length->K H'):
  dW aJ (dS E ts s.v (some (.int .i64 a)) (some (.int .i64 b)) none H) fun x=>abh (vH E [ts] x.v H) K:=by
 obtain⟨⟨ti,e,te,e1,e2,e3,e4,e5,e6,e7⟩,hn0,hT,hone⟩:=ty
 subst ha; subst hb
 obtain⟨p,n,cp⟩:=s
 obtain⟨g1,g2,g0,g3⟩:=h
 simp only at g1 g2 g0 g3 hc; subst hc; subst g1; subst g2
 obtain⟨w,_⟩|⟨c',w,hr⟩:=g3
 ·cases w
 cases w
 have hlt:=dI hr
 have hex:Zq.exact H c 0 (l.length+sp.length)=true:=by unfold Zq.exact; rw[hr]; rfl
 refine⟨⟨some ⟨c,0+l.length*te.size,none⟩,q,l.length+sp.length-l.length⟩,?_,?_⟩
 ·unfold dS
  simp only[e1,e2,e3,Option.bind_some,Sl.v,dn,Option.isSome_none,Bool.false_and,Bool.false_eq_true,if_false,hex,or_true,if_true]
  rw[if_pos (by omega)]
  simp only[Option.bind_some,Int.toNat_natCast]
  rw[if_pos (by omega)]
  simp only[Option.bind_some]
  rw[if_pos (by omega),if_neg (by omega)]
  simp[Tag.enc,Pm]
 ·have hrep:rep q te.zero=fl T (List.replicate q z):=by rw[e7,Pz]
  have hw:wr H c (0+l.length*te.size) (rep q te.zero)=some (H.set c (.row (fl T (l++List.replicate q z++sp.drop q)) T.n false false true)):=by
   unfold wr
   rw[hr]
   simp only
   have hsz:(fl T (l++sp)).length=(l.length+sp.length)*T.n:=by rw[bW hT]; simp
   have hxl:(fl T (List.replicate q z)).length=q*T.n:=by rw[bW hT]; simp
   rw[hrep,if_pos (by rw[hsz,hxl,e4,Nat.zero_add,←Nat.add_mul]; exact Nat.mul_le_mul_right _ (by omega)),if_pos (Py hone _)]
   congr 3
   unfold patch
   rw[hxl,e4,Nat.zero_add,←Nat.add_mul,Iz hT,PD hT,List.take_left,iK,iK]
   congr 2
   rw[←List.drop_drop,List.drop_left]
  refine⟨_,?_,hk _ ⟨by simp,by simp; omega,g0,.inr ⟨c,rfl,by rw[fD hlt]⟩⟩ (bP.set _ _ (by simp)) (by simp)⟩
  rw[List.append_assoc]at hw
  unfold vH
  simp only[e1,e2,e3,Option.bind_some,Sl.v]
  rw[if_neg (by omega),hw]
end
section
variable{H:Heap}{b m:Nat}{se:Bool}{B:List Cd}{ms:List ak}{a1 a2 a3 cs so:Sl}{bp:Option Addr}{ts:List Tg}{fs:List Ft}{ol:List Int}{l:List Sg}
theorem adN{H0:Heap}{s:Sl}{sp:List Sg}(h:bJ lg H0 s H l sp){n:Int}{i:Nat}(hn:n=i)(hi:i<l.length)(hl:l.length≤1048600){Q:Sl×Unit->Heap->Prop}(hq:∀r H' sp',bJ lg H0 r H' (l.eraseIdx i) sp'->Q (r,()) H'):
  CALL P [aJ] bY [s.v,.int .i64 n,.int .i64 (n+1)] H Q:=by
 apply iY
 unfold bZ
 obtain⟨c,hc⟩:=h.1.pne (by omega)
 have g1:=h.1.1
 have g2:=h.1.2.1
 have hpn:s.p≠none:=by rw[hc]; simp
 refine ab6 QH h.1 hc (i:=i) (j:=i+1) (m:=l.length) hn (by omega) (by omega) (by omega) (by omega) (by omega) fun _=> ?_
 refine bI (by simp; omega) ?_
 refine Yf QH h.1 hn (by omega) ?_
 refine h.1.j.drop QH (n:=i+1) (by omega) (by omega) hpn fun x3 h3=> ?_
 have o2:Ow lg H ⟨s.p,i,s.cap⟩ (l.take i) (l.drop i++sp):=by
  obtain⟨w1,w2,w0,⟨w3,_⟩|⟨c',w3,w4⟩⟩:=h.1
  ·rw[hc]at w3; cases w3
  ·refine⟨by simp; omega,by simp; omega,w0,.inr ⟨c',w3,?_⟩⟩
   rw[←List.append_assoc,List.take_append_drop]; exact w4
 refine ab5 QH rfl (fun _=>by simp) h3 o2 hc (by simp; omega) fun H1 o4 f4 l4=> ?_
 have hel:(l.take i++l.drop (i+1)).length=l.length-1:=by simp; omega
 have hlen4:(l.take i).length+(l.drop (i+1)).length=l.length-1:=by simp; omega
 rw[hlen4]at o4 ⊢
 refine aap QH o4 hc (q:=1) (by rw[hel]) (by rw[hel,g1]; omega) (by simp; omega) (by omega) fun H2 o5 f5 l5=> ?_
 have e1:=List.eraseIdx_eq_take_drop_succ l i
 simp only[e1]at hq
 exact hq _ H2 _ ⟨o5,fun d hd=>h.2.1 d hd,(h.2.2.then f4 fun d hd=>by simp at hd; subst hd; exact .inr (h.2.1 _ hc)).then f5 fun d hd=>by simp at hd; subst hd; exact .inr (h.2.1 _ hc)⟩
theorem VZ(h:BP m H b se B ms)(okB:G5 B)(gv:Gv H a1 a2 ts fs){k:Int}{Q:Sl×Sl×Int×Unit->Heap->Prop}
  (q1:∀H',fJ se B ts fs≠0->bP [] H H'->Q (⟨none,0,0⟩,⟨none,0,0⟩,fJ se B ts fs,()) H') (q2:∀H',fJ se B ts fs=0->(k<1∨5<k)->bP [] H H'->Q (⟨none,0,0⟩,⟨none,0,0⟩,2,()) H')
  (q0:∀s r ol H' sp sr,fJ se B ts fs=0->1≤k->k≤5->fM B ts ol->bJ TF H s H' (dY B ts ol fs (rH B ts fs ol k) (rH B ts fs ol k).length).1 sp->bJ lg H r H' (dY B ts ol fs (rH B ts fs ol k) (rH B ts fs ol k).length).2.2 sr->(∀d,s.p=some ⟨d,0,none⟩->r.p≠some ⟨d,0,none⟩)->Q (s,r,0,()) H'):
  CALL P [aJ,aJ,fA] oh [.pointer (some ⟨b,0,none⟩),a1.v,a2.v,.int .i64 k] H Q:=by
 apply TA
 unfold yQ
 refine Yq h okB gv.s gv.f gv.fl gv.okt gv.okf gv.len (fun H' e f=>iJ (by simpa using e) (q1 H' e f)) (fun H' e hk f=>iJ rfl (q2 H' e hk f)) fun x1 ol H1 sp1 e _ hk1 hk5 ot n1=>bI rfl ?_
 obtain⟨e1,e2,e3,e4⟩:=xg (e:=e)
 have gv1:=gv.new n1.2.2
 refine UA (h.new n1.2.2) okB gv1.s gv1.f gv1.fl gv1.okt gv1.okf gv1.len (fun _ _ e' _=>absurd e e') fun cs so ol2 H1' _ _ pl f1'=> ?_
 have:=pl.ot.uniq ot; subst this
 have n1:=n1.new f1'
 generalize H1.length=m1 at pl
 generalize (b:Nat)=b0 at pl
 have hel:=UD ot fs k
 have hlv:∀s∈rH B ts fs ol2 k,s.Thing-1∈ol2:=fun s hs=>(Et hs).1
 have fin:=q0
 generalize hL:rH B ts fs ol2 k=L at n1 hel hlv
 refine UE (gv.f.cO n1.2.2 (by simp)) (by omega) fun x2 H2 sp2 n2=> ?_
 have n12:=n1.new n2.2.2
 have pl2:=pl.new n2.2.2
 refine aS (fun(y:(Sl×Sl×Unit)×Unit) H'=>∃sp sr,bJ TF H y.1.1 H' (dY B ts ol2 fs L L.length).1 sp∧bJ lg H y.1.2.1 H' (dY B ts ol2 fs L L.length).2.2 sr∧∀d,y.1.1.p=some ⟨d,0,none⟩->y.1.2.1.p≠some ⟨d,0,none⟩) (fun j hj=> ?_) (fun y H' hh=>by obtain⟨sp,sr,h1,h2,h3⟩:=hh; exact fin _ _ ol2 _ sp sr e hk1 hk5 ot (by rw[hL]; exact h1) (by rw[hL]; exact h2) h3)
 refine bG (fun(y:(Sl×Sl×Sl×Unit)×Unit) H'=>∃(n:Nat) (sl so:List Sg) (sf:List Ft),n≤L.length∧bP [] H2 H'∧bJ lg H y.1.1 H' (dY B ts ol2 fs L n).2.1 sl∧bJ TF H y.1.2.1 H' (dY B ts ol2 fs L n).1 sf∧bJ lg H2 y.1.2.2.1 H' (dY B ts ol2 fs L n).2.2 so∧(∀d,y.1.1.p=some ⟨d,0,none⟩->y.1.2.2.1.p≠some ⟨d,0,none⟩)∧(∀d,y.1.2.1.p=some ⟨d,0,none⟩->y.1.2.2.1.p≠some ⟨d,0,none⟩)) (fun y=>y.1.1.len) ?_
  ⟨0,sp1,[],sp2,Nat.zero_le _,.refl _ _,n12,n2.older n1.2.2,bJ.nil' lg H2,by simp,by simp⟩
 have f02:=n12.2.2
 rintro G ⟨⟨left,out,steps,_⟩,_⟩ H4 ⟨n,sl,so',sf,hn,f24,nl,nf,ns,dl,df⟩ hG
 simp only at nl nf ns dl df
 dsimp only at hG ⊢
 obtain⟨i1,i2,i3,i4⟩:=kF B ts ol2 fs L n hn
 have elen:left.len=(dY B ts ol2 fs L n).2.1.length:=nl.1.1
 have step:=Yx (B:=B) (ts:=ts) (ol:=ol2) fs L n
 refine dH (fun hpos=> ?_) (fun hz=>hj _ _ ?_)
 ·have f4:=nl.2.2
  have hnl:n<L.length:=by omega
  obtain⟨ni,hni,hil⟩:=OO (B:=B) (ts:=ts) (ol:=ol2) (fs:=fs) hnl
  rw[hni]at step
  unfold A8 at hni
  generalize hcf:(dY B ts ol2 fs L n).1=cf at nf i1 step hni
  generalize hcl:(dY B ts ol2 fs L n).2.1=cl at nl i2 i3 step elen hil hni
  generalize hcs:(dY B ts ol2 fs L n).2.2=cs' at ns i4 step
  have lv:∀s∈cl,s.Thing-1∈ol2:=fun s hs=>hlv s (i3 s hs)
  have pl4:=pl2.new f24
  refine ab4 pl4 nf.1.rC (by omega) nl.1.rC (by omega) lv fun H5 f5=> ?_
  rw[if_neg (by omega),hni]
  have hx:cl[ni]? =some cl[ni]:=List.getElem?_eq_getElem hil
  have hxm:=lv _ (List.getElem_mem hil)
  generalize cl[ni]=s at hx hxm
  rw[Lp rfl hx,Int.toNat_natCast]at step
  have nl5:=nl.new f5
  have nf5:=nf.new f5
  refine bf (T:=lg) F9 nl5.1.rC rfl hx rfl (UF (pl4.new f5) nf5.1.rC (by omega) hxm fun x11 H6 sp11 n11=> ?_)
  have nl6:=nl5.new n11.2.2
  refine bf (T:=lg) F9 nl6.1.rC rfl hx rfl ?_
  have ns6:=(ns.new f5).new n11.2.2
  refine JA QH rfl (fun _=>by simp) (m:=1) [s] rfl rfl (by show 2*(_+1)*4096≤_; omega) ns6.1 fun x15 H7 sp15 k1 k2 k3=> ?_
  have ns7:bJ lg H2 x15 H7 (cs'++[s]) sp15:=ns6.app k1 k2 k3
  have f27:bP [] H2 H7:=ns7.2.2
  have f47:bP [] H H7:=f02.trans f27
  have l7:Ow lg H7 left cl sl:=nl6.1.after k3 dl
  have o7:Ow TF H7 x11 (nM B ts cf ol2 s) sp11:=n11.1.after k3 fun d hd e=>by
   have h1:=n11.2.1 d hd
   have h2:=(ns.new f5).1.lt e; omega
  refine VX l7.rC (by omega) fun x17 H8 sp17 n17=> ?_
  rw[dA (by omega) (by omega)]
  refine adN n17 rfl hil (by omega) fun x19 H9 sp19 n19=> ?_
  have f79:=n19.2.2
  have hel2:(cl.eraseIdx ni).length=cl.length-1:=by rw[List.length_eraseIdx,if_pos hil]
  refine hG _ _ ⟨n+1,sp19,sp15,sp11,hnl,f27.trans f79,?_,?_,?_,fun d hd e=> ?_,fun d hd e=> ?_⟩ ?_
  ·rw[step]; dsimp only
   exact n19.older f47
  ·rw[step]; dsimp only
   exact⟨o7.cO f79 (by simp[Sl.off]),fun d hd=>by have:=n11.2.1 d hd; have:=nl5.2.2.1; omega,f47.trans f79⟩
  ·rw[step]; dsimp only
   exact ns7.new f79
  ·have:=n19.2.1 d hd
   have:=ns7.1.lt e; omega
  ·dsimp only at hd e
   have h1:=n11.2.1 d hd
   have h3:=n11.1.lt hd
   rcases k2 with q|⟨q,_⟩
   ·have h2:=(ns.new f5).1.lt (q▸e); omega
   ·rw[q]at e; cases e; omega
  ·dsimp only
   have:=n19.1.1
   omega
 ·have:n=L.length:=by omega
  subst this
  exact⟨sf,so',nf,ns.older f02,df⟩
end
end Go.Proofs.YtijnknjopjmiiaaGreatDoor.Zq
end
section
namespace Go.Proofs.YtijnknjopjmiiaaGreatDoor.Zq
open Zv
section
variable{H:Heap}{b m:Nat}{se:Bool}{B:List Cd}{ms:List ak}{a1 a2 a3:Sl}{ts:List Tg}{fs:List Ft}{ol:List Int}{l:List Sg}
abbrev zF:Ft:=⟨0,0,0,0,0⟩
def cdT(B:List Cd)(t:Tg):Option Cd:=if 1≤t.Card then B[(t.Card-1).toNat]? else none
def prT(B:List Cd)(t:Tg):Ft:=match cdT B t with|some c=>⟨t.Owner,c.g.Suit,c.g.Traits,c.g.Power,c.g.Health⟩|none=>zF
def V3(B:List Cd)(t:Tg):Ft:=if t.Place=4 then prT B t else zF
def QM(B:List Cd)(t:Tg):Prop:=(∃c,cdT B t=some c)∧(t.Owner=0∨t.Owner=1)
theorem aaq{t:Tg}{c:Cd}(h1:1≤t.Card)(h2:B[(t.Card-1).toNat]? =some c):cdT B t=some c:=by unfold cdT; rw[if_pos h1]; exact h2
theorem aar{t:Tg}(h:t.Card<1∨(B.length:Int)<t.Card):cdT B t=none:=by
 unfold cdT
 split
 ·rw[List.getElem?_eq_none_iff]; omega
 ·rfl
def mkI(k:Int×Int×Int×Int):Nat->Int
 |0=>k.1
 |1=>k.2.1
 |2=>k.2.2.1
 |_=>k.2.2.2
def Ba(k:Int×Int×Int×Int):Prop:=∀n:Nat,n<4->0≤mkI k n∧mkI k n≤99
def aat(ms:List ak)(k:Int×Int×Int×Int)(f:Ft)(n:Nat):Ft:=
 match ms[n+1]? with
 |some x=>if x.Mark=0 then f else{ f with Power:=IntKind.wrap .i64 (f.Power+IntKind.wrap .i64 (mkI k n*x.Power)),Health:=IntKind.wrap .i64 (f.Health+IntKind.wrap .i64 (mkI k n*x.Health)) }
 |none=>f
def Bc(ms:List ak)(k:Int×Int×Int×Int)(f:Ft):Nat->Ft
 |0=>f
 |n+1=>aat ms k (Bc ms k f n) n
def aau(ms:List ak)(k:Int×Int×Int×Int)(f:Ft):Ft:=if(Bc ms k f 4).Power<0 then{ Bc ms k f 4 with Power:=0 }else Bc ms k f 4
theorem RW.ac5{s:Sl}{ns:List ByteArray}(h:RW H b se s ns ms){i:Nat}{x:ak}(hx:ms[i]? =some x){o:Nat}(ho:o=12+i*4){K:ak->Prop}(hk:K x):LD TM H b o K:=by
 obtain⟨sz,r⟩:=h.row
 obtain⟨e1,e2⟩:=h.KU hx
 exact dO (T:=TM) x _ _ r e1 (by rw[e2,ho]) rfl hk
end
end Go.Proofs.YtijnknjopjmiiaaGreatDoor.Zq
end
section
namespace Go.Proofs.YtijnknjopjmiiaaGreatDoor.Zq
open Zv
section
variable{H:Heap}{b m:Nat}{se:Bool}{B:List Cd}{ms:List ak}{a1 a2 a3:Sl}{ts:List Tg}{fs:List Ft}{ol:List Int}{l:List Sg}
def zD(ts:List Tg):Prop:=∀t∈ts,t.Place=4->Ba t.Marks
def Dc(B:List Cd)(ts:List Tg):List Ft:=ts.map (V3 B)
open Classical in
noncomputable def dX(se:Bool)(B:List Cd)(ts:List Tg):Int:=
 if 2048<ts.length then 3 else if se=false then 2 else if ¬∀t∈ts,QM B t then 2 else if fJ se B ts (Dc B ts)≠0 then fJ se B ts (Dc B ts)else if ¬zD ts then 2 else 0
open Classical in
noncomputable def mkT(ms:List ak)(t:Tg)(f:Ft):Ft:=if t.Place=4∧Ba t.Marks then aau ms t.Marks f else zF
noncomputable def QN(ms:List ak)(ts:List Tg)(fs:List Ft):List Ft:=List.zipWith (mkT ms) ts fs
def lq(B:List Cd)(ts:List Tg)(ol:List Int):Nat->List Ft
 |0=>Dc B ts
 |n+1=>(dY B ts ol (lq B ts ol n) (rH B ts (lq B ts ol n) ol ((n:Int)+1)) (rH B ts (lq B ts ol n) ol ((n:Int)+1)).length).1
theorem aav(og:VJ B)(t:Tg):0≤(V3 B t).Traits:=by
 unfold V3
 split
 ·unfold prT
  split
  ·rename_i c hc
   unfold cdT at hc
   split at hc
   ·exact(og c (List.mem_of_getElem? hc)).1.t.1
   ·cases hc
  ·exact Int.le_refl _
 ·exact Int.le_refl _
theorem Ls(og:VJ B)(e:fJ se B ts (Dc B ts)=0)(ot:fM B ts ol):∀n,QK ts (lq B ts ol n)
 |0=>by
  obtain⟨e1,e2,e3,e4⟩:=xg (e:=e)
  exact e4.j e2 fun f hf=>by
   obtain⟨t,_,rfl⟩:=List.mem_map.1 hf
   exact aav og t
 |n+1=>QK.all ot (Ls og e ot n) (fun s hs=>(Et hs).1) _ (Nat.le_refl _)
end
end Go.Proofs.YtijnknjopjmiiaaGreatDoor.Zq
end
section
namespace Go.Proofs.YtijnknjopjmiiaaGreatDoor.Zq
open Zv
section
def Df(T:Tag)(x:T.α):Prop:=∀v∈T.cells x,yD v
def RowOf(T:Tag)(H:Heap)(s:Sl):Prop:=∀d off,s.p=some ⟨d,off,none⟩->∃(l:List T.α) (sz:Nat) (o r v:Bool),H[d]? =some (.row (fl T l) sz o r v)
def U3(T:Tag)(R:T.α->Prop)(H:Heap)(s:Sl):Prop:=∃l:List T.α,eY T H s l∧l.length≤1048576∧RowOf T H s∧∀x∈l,R x
theorem fG.Lu{P:Program}{H:Heap}{T:Tag}{R:T.α->Prop}{d:Nat}{t e:TypeId}{cs:List Value}(ht:P.underlying t=some (.slice e))(he:∀a,fG 1048576 P H d e a->∃x:T.α,a=T.cells x∧R x)(h:fG 1048576 P H (d+1) t cs):
  ∃s:Sl,cs=[s.v]∧U3 T R H s:=by
 simp only[fG,ht]at h
 rcases h.2 with rfl|⟨b,off,rfl⟩|⟨b,len,cap,acss,rfl,h1,h2,hB,h3,h4,h5,h6⟩
 ·exact⟨⟨none,0,0⟩,rfl,[],⟨rfl,.inl ⟨rfl,rfl,rfl⟩⟩,by simp,(fun d off e=>nomatch e),by simp⟩
 ·exact⟨⟨some ⟨b,off,some 0⟩,0,0⟩,rfl,[],⟨rfl,.inr (.inl ⟨b,off,rfl,rfl,rfl⟩)⟩,by simp,(fun d off e=>nomatch e),by simp⟩
 ·have:∃l:List T.α,l.length=acss.length∧acss.flatten=fl T l∧∀x∈l,R x:=by
   clear h5 h3
   induction acss with
   |nil=>exact⟨[],rfl,rfl,by simp⟩
   |cons a r ih=>
    obtain⟨x,hx,hr⟩:=he a (h6 a (by simp))
    obtain⟨l,q1,q2,q3⟩:=ih fun y hy=>h6 y (by simp[hy])
    exact⟨x::l,by simp[q1],by simp[fl,hx,q2],fun y hy=>by rcases List.mem_cons.1 hy with rfl|hy; exact hr; exact q3 y hy⟩
  obtain⟨l,q1,q2,q3⟩:=this
  refine⟨⟨some ⟨b,0,none⟩,len,cap⟩,rfl,l.take len,⟨by simp; omega,.inr (.inr ⟨b,[],fl T (l.drop len),P.cellsOf e,false,true,rfl,?_⟩)⟩,by simp; omega,fun d off hd=> ?_,fun x hx=>q3 x (List.mem_of_mem_take hx)⟩
  ·rw[h5,q2,List.nil_append,←iK,List.take_append_drop]
  ·simp at hd
   obtain⟨rfl,_⟩:=hd
   exact⟨l,_,_,_,_,by rw[h5,q2]⟩
theorem RowOf.flat{T:Tag}{H:Heap}{s:Sl}(h:RowOf T H s)(hT:∀x,∀v∈T.cells x,Uw v):Flat H s:=fun d off e=>by
 obtain⟨l,sz,o,r,v,hl⟩:=h d off e
 refine⟨_,sz,o,r,v,hl,fun w hw=> ?_⟩
 obtain⟨x,_,hx⟩:=List.mem_flatMap.1 hw
 exact hT x w hx
end
end Go.Proofs.YtijnknjopjmiiaaGreatDoor.Zq
end
section
namespace Go.Proofs.YtijnknjopjmiiaaGreatDoor.Zq
open Zv
section
variable{H:Heap}
theorem aaw{k:IntKind}{n:Int}(h:yD (.int k n)):k.min≤n∧n≤k.max:=by
 have:(decide (k.min≤n)&&decide (n≤k.max))=true:=h
 simpa using this
theorem UG{n:Int}(h:yD (.int .u8 n)):0≤n∧n≤255:=aaw h
theorem adO{n:Int}(h:yD (.int .u16 n)):0≤n∧n≤65535:=aaw h
theorem adP{n:Int}(h:yD (.int .i64 n)): -9223372036854775808≤n∧n≤9223372036854775807:=aaw h
theorem aax{s:ByteArray}(h:yD (.string s)):s.size≤9223372036854775807:=h
theorem afj{p:Pt}(h:Df TP p):OkP p:=
 ⟨aax (h _ (by simp)),UG (h (.int .u8 p.Suit) (by simp)),UG (h (.int .u8 p.Trait) (by simp)),UG (h (.int .u8 p.Mark) (by simp))⟩
theorem afk{g:ay}(h:Df TC g∧U3 TP (fun x=>Df TP x) H g.Parts):InC H g:=by
 obtain⟨h1,l,h2,h3,_,h4⟩:=h
 exact⟨⟨aax (h1 _ (by simp)),UG (h1 (.int .u8 g.Suit) (by simp)),UG (h1 (.int .u8 g.Kind) (by simp)),adO (h1 (.int .u16 g.Traits) (by simp))⟩,l,h2,h3,fun p hp=>afj (h4 p hp)⟩
theorem aay:∀x:Tg,∀v∈jZ.cells x,Uw v:=fun x v hv=>by
 simp at hv
 rcases hv with rfl|rfl|rfl|rfl|rfl|rfl|rfl|rfl|rfl|rfl|rfl<;>trivial
end
end Go.Proofs.YtijnknjopjmiiaaGreatDoor.Zq
end
section
namespace Go.Proofs.YtijnknjopjmiiaaGreatDoor.Zq
open Zv
section
variable{H:Heap}{b m:Nat}{se:Bool}{B:List Cd}{ms:List ak}{a1 a2 a3:Sl}{ts:List Tg}{fs:List Ft}{ol:List Int}{l:List Sg}
theorem BW.ac5{n:Int}{cs:List ay}{ns:List ByteArray}(h:BW H b se n cs ns ms){i:Nat}{x:ak}(hx:ms[i]? =some x){o:Nat}(ho:o=588+i*4){K:ak->Prop}(hk:K x):LD TM H b o K:=by
 obtain⟨sz,r⟩:=h.row
 obtain⟨e1,e2⟩:=h.KU hx
 exact dO (T:=TM) x _ _ r e1 (by rw[e2,ho]) rfl hk
theorem Yy(h:BP m H b se B ms){n:Nat}(hn:n<4){Q:ak×Bool×Unit->Heap->Prop}(hq:∀x,ms[n+1]? =some x->Q (x,x.Mark !=0,()) H):CALL P [TM,ah] kP [.pointer (some ⟨b,0,none⟩),.int .u8 ((n:Int)+1)] H Q:=by
 apply Cj
 unfold kT
 have h':=id h
 obtain⟨⟨cs,ns,w,_⟩,_⟩:=h'
 have hm5:=w.m
 have hx:ms[n+1]? =some (ms[n+1]'(by omega)):=List.getElem?_eq_getElem (by omega)
 generalize (ms[n+1]'(by omega))=x at hx
 refine bF (Eo h (bI rfl (bI (by simp; omega) (bI (by simp; omega) ?_))))
 have hi:∀{K:Prop},K->yu 5 ((n:Int)+1) K:=fun k=>⟨⟨by omega,by omega⟩,k⟩
 have ho:0+588+((n:Int)+1).toNat*4=588+(n+1)*4:=by omega
 exact hi (w.ac5 hx ho (hi (w.Ep hx ho (w.Ep hx ho ⟨rfl,hq x hx⟩))))
theorem aaz(k:Int×Int×Int×Int){n:Nat}(hn:n<4){K:Int->Prop}(hK:K (mkI k n)):dW (au .i64) (dF E 44 (.agg #[(.int .i64 k.1),(.int .i64 k.2.1),(.int .i64 k.2.2.1),(.int .i64 k.2.2.2)]) (.int .i64 (n:Int))) K:=by
 have:n=0∨n=1∨n=2∨n=3:=by omega
 rcases this with rfl|rfl|rfl|rfl<;>exact⟨_,rfl,hK⟩
theorem aez(h:BP m H b se B ms){f:Ft}{k:Int×Int×Int×Int}{Q:Ft×Int×Unit->Heap->Prop}(q1:¬Ba k->Q (zF,2,()) H)(q0:Ba k->Q (aau ms k f,0,()) H):CALL P [TF,fA] qx [.pointer (some ⟨b,0,none⟩),TF.enc f,iG.enc k] H Q:=by
 apply JR
 unfold qJ
 refine Xn h fun i e he=>bI (by simpa using he) ?_
 refine aS (fun _ H'=>H'=H∧Ba k) (fun j hj=> ?_) ?_
 ·refine bG (fun(y:(Int×Unit)×(Ft×Unit)) H'=>H'=H∧∃n:Nat,y.1.1=n∧n≤4∧∀i:Nat,i<n->0≤mkI k i∧mkI k i≤99) (fun y=>4-y.1.1.toNat) ?_ ⟨rfl,0,rfl,by omega,fun i h=>by omega⟩
  rintro G ⟨⟨i,_⟩,⟨g,_⟩⟩ H' ⟨rfl,n,hi,hn,inv⟩ hG
  simp only at hi; subst hi
  dsimp only at hG ⊢
  refine dH (fun hlt=> ?_) (fun hge=>hj _ _ ⟨rfl,fun i w=>inv i (by omega)⟩)
  have hlt:n<4:=by omega
  refine aaz k hlt (hJ (mkI k n<0∨99<mkI k n) (fun j7 hj7=>dH (fun e=>hj7 _ (by simp; omega)) (fun e=>hj7 _ (by simp; omega))) (fun c=>q1 fun w=>by have:=w n hlt; omega) (fun c=> ?_))
  rw[dA (by omega) (by omega)]
  refine hG _ _ ⟨rfl,n+1,by simp,hlt,fun i w=> ?_⟩ (by simp; omega)
  by_cases ei:i=n
  ·subst ei; omega
  ·exact inv i (by omega)
 ·rintro _ H' ⟨rfl,hok⟩
  refine aS (fun(y:Unit×(Ft×Unit)) H2=>H2=H'∧y.2.1=Bc ms k f 4) (fun j hj=> ?_) ?_
  ·refine bG (fun(y:(Int×Unit)×(Ft×Unit)) H2=>H2=H'∧∃n:Nat,y.1.1=n∧n≤4∧y.2.1=Bc ms k f n) (fun y=>4-y.1.1.toNat) ?_ ⟨rfl,0,rfl,by omega,rfl⟩
   rintro G ⟨⟨i,_⟩,⟨g,_⟩⟩ H2 ⟨rfl,n,hi,hn,inv⟩ hG
   simp only at hi inv; subst hi
   dsimp only at hG ⊢
   refine dH (fun hlt=> ?_) (fun hge=>hj _ _ ⟨rfl,?_⟩)
   ·have hlt:n<4:=by omega
    refine aaz k hlt ?_
    have e1:IntKind.wrap .i64 ((n:Int)+1)=(n:Int)+1:=dA (by omega) (by omega)
    have e2:IntKind.wrap .u8 ((n:Int)+1)=(n:Int)+1:=by
     show((n:Int)+1)%256=_
     omega
    rw[e1,e2]
    refine Yy h hlt fun x hx=> ?_
    have est:Bc ms k f (n+1)=if x.Mark=0 then g else{ g with Power:=IntKind.wrap .i64 (g.Power+IntKind.wrap .i64 (mkI k n*x.Power)),Health:=IntKind.wrap .i64 (g.Health+IntKind.wrap .i64 (mkI k n*x.Health)) }:=by
     show aat ms k (Bc ms k f n) n=_
     unfold aat
     rw[hx,←inv]
    refine aS (fun(y:Unit×(Ft×Unit)) H3=>H3=H2∧y.2.1=Bc ms k f (n+1)) (fun j2 hj2=>AO (fun e=>hj2 _ _ ⟨rfl,by rw[est,if_neg e]⟩) (fun e=>hj2 _ _ ⟨rfl,by rw[est,if_pos e]⟩)) ?_
    rintro⟨_,g2,_⟩ H3 ⟨rfl,hg2⟩
    exact hG _ _ ⟨rfl,n+1,by simp,hlt,hg2⟩ (by simp; omega)
   ·have:n=4:=by omega
    subst this; exact inv
  ·rintro⟨_,g,_⟩ H2 ⟨rfl,hg⟩
   simp only at hg; subst hg
   have:=q0 hok
   unfold aau at this
   dsimp only
   by_cases e:(Bc ms k f 4).Power<0
   ·rw[if_pos e]at this
    rw[if_pos (by omega)]; exact this
   ·rw[if_neg e]at this
    rw[if_neg (by omega)]; exact this
theorem aeA(h:BP m H b se B ms)(okB:G5 B){t:Tg}{Q:Ft×Int×Unit->Heap->Prop}(q1:∀f e H',e≠0->e≠1->(se=true->¬QM B t)->bP [] H H'->Q (f,e,()) H')(q0:∀H',se=true->QM B t->bP [] H H'->Q (prT B t,0,()) H'):CALL P [TF,fA] oK [.pointer (some ⟨b,0,none⟩),jZ.enc t] H Q:=by
 apply G9
 unfold oV
 refine Xo h okB (fun q=>iJ rfl (q1 _ _ _ (by decide) (by decide) (fun hs k=> ?_) (.refl _ _))) (fun c g H' hse h1 hc cr f=>bI rfl ?_)
 ·obtain⟨⟨c,k⟩,_⟩:=k
  rw[aar (by rcases q with q|q; exact(by rw[hs]at q; cases q); exact q)]at k; cases k
 ·have hcd:=aaq h1 hc
  refine hJ (t.Owner≠0∧t.Owner≠1) (fun j hj=>AO (fun e=>hj _ (by simp; omega)) (fun e=>hj _ (by simp; omega))) (fun q=>q1 _ _ _ (by decide) (by decide) (fun _ k=>by have:=k.2; omega) f) (fun q=> ?_)
  have:=q0 H' hse ⟨⟨c,hcd⟩,by omega⟩ f
  unfold prT at this
  rw[hcd]at this
  have e:c.g=bare g:=cr.e.symm
  simp only[e]at this
  exact this
theorem aeB{s:Sl}{l:List Int}(hs:eY fA H s l)(h0:0<l.length)(hl:l.length≤1048600){Q:Int×Unit->Heap->Prop}(hq:∀r,r∈l->(∀x∈l,r≤x)->Q (r,()) H):CALL P [fA] jv [s.v] H Q:=by
 apply yV
 unfold jC
 have h1:=hs.1
 have hz:l[0]? =some (l[0]'h0):=List.getElem?_eq_getElem h0
 have hzm:=List.getElem_mem h0
 generalize (l[0]'h0)=z at hz hzm
 refine bF (bI (by simp; omega) ?_)
 refine bf (T:=fA) qX hs (n:=0) rfl hz rfl ?_
 refine aS (fun(y:(Int×Unit)×Unit) H'=>H'=H∧y.1.1∈l∧∀x∈l,y.1.1≤x) (fun j hj=> ?_) (fun y H' hh=>by obtain⟨rfl,e1,e2⟩:=hh; exact hq _ e1 e2)
 have first:∀(i:Nat) x,i<1->l[i]? =some x->z≤x:=fun i x h hx=>by
  have:i=0:=by omega
  subst this; rw[hz]at hx; cases hx; exact Int.le_refl _
 refine bG (fun(y:(Int×Int×Unit)×Unit) H'=>H'=H∧∃n:Nat,y.1.2.1=n∧n≤l.length∧y.1.1∈l∧∀(i:Nat) x,i<n->l[i]? =some x->y.1.1≤x) (fun y=>l.length-y.1.2.1.toNat) ?_ ⟨rfl,1,rfl,h0,hzm,first⟩
 rintro G ⟨⟨v,i,_⟩,_⟩ H' ⟨rfl,n,hi,hn,hv,inv⟩ hG
 simp only at hi hv inv; subst hi
 dsimp only at hG ⊢
 refine dH (fun hlt=> ?_) (fun hge=>hj _ _ ⟨rfl,hv,fun x hx=> ?_⟩)
 ·have hlt:n<l.length:=by omega
  have hx:l[n]? =some l[n]:=List.getElem?_eq_getElem hlt
  have hxm:=List.getElem_mem hlt
  generalize l[n]=x at hx hxm
  refine bf (T:=fA) qX hs rfl hx rfl ?_
  rw[dA (by omega) (by omega)]
  refine hG _ _ ⟨rfl,n+1,by simp,hlt,?_,fun i u w hu=> ?_⟩ (by simp; omega)
  ·dsimp only; split
   ·exact hxm
   ·exact hv
  ·dsimp only
   by_cases ei:i=n
   ·subst ei; rw[hx]at hu; cases hu
    split<;>omega
   ·have:=inv i u (by omega) hu
    split<;>omega
 ·obtain⟨i,hi⟩:=List.mem_iff_getElem?.1 hx
  exact inv i x (by have:=(List.getElem?_eq_some_iff.1 hi).1; omega) hi
theorem aeC{s:Sl}{l:List Int}(hs:eY fA H s l)(h0:0<l.length)(hl:l.length≤1048600){Q:Int×Unit->Heap->Prop}(hq:∀r,r∈l->(∀x∈l,x≤r)->Q (r,()) H):CALL P [fA] jw [s.v] H Q:=by
 apply yZ
 unfold jD
 have h1:=hs.1
 have hz:l[0]? =some (l[0]'h0):=List.getElem?_eq_getElem h0
 have hzm:=List.getElem_mem h0
 generalize (l[0]'h0)=z at hz hzm
 refine bF (bI (by simp; omega) ?_)
 refine bf (T:=fA) qX hs (n:=0) rfl hz rfl ?_
 refine aS (fun(y:(Int×Unit)×Unit) H'=>H'=H∧y.1.1∈l∧∀x∈l,x≤y.1.1) (fun j hj=> ?_) (fun y H' hh=>by obtain⟨rfl,e1,e2⟩:=hh; exact hq _ e1 e2)
 have first:∀(i:Nat) x,i<1->l[i]? =some x->x≤z:=fun i x h hx=>by
  have:i=0:=by omega
  subst this; rw[hz]at hx; cases hx; exact Int.le_refl _
 refine bG (fun(y:(Int×Int×Unit)×Unit) H'=>H'=H∧∃n:Nat,y.1.2.1=n∧n≤l.length∧y.1.1∈l∧∀(i:Nat) x,i<n->l[i]? =some x->x≤y.1.1) (fun y=>l.length-y.1.2.1.toNat) ?_ ⟨rfl,1,rfl,h0,hzm,first⟩
 rintro G ⟨⟨v,i,_⟩,_⟩ H' ⟨rfl,n,hi,hn,hv,inv⟩ hG
 simp only at hi hv inv; subst hi
 dsimp only at hG ⊢
 refine dH (fun hlt=> ?_) (fun hge=>hj _ _ ⟨rfl,hv,fun x hx=> ?_⟩)
 ·have hlt:n<l.length:=by omega
  have hx:l[n]? =some l[n]:=List.getElem?_eq_getElem hlt
  have hxm:=List.getElem_mem hlt
  generalize l[n]=x at hx hxm
  refine bf (T:=fA) qX hs rfl hx rfl ?_
  rw[dA (by omega) (by omega)]
  refine hG _ _ ⟨rfl,n+1,by simp,hlt,?_,fun i u w hu=> ?_⟩ (by simp; omega)
  ·dsimp only; split
   ·exact hxm
   ·exact hv
  ·dsimp only
   by_cases ei:i=n
   ·subst ei; rw[hx]at hu; cases hu
    split<;>omega
   ·have:=inv i u (by omega) hu
    split<;>omega
 ·obtain⟨i,hi⟩:=List.mem_iff_getElem?.1 hx
  exact inv i x (by have:=(List.getElem?_eq_some_iff.1 hi).1; omega) hi
end
end Go.Proofs.YtijnknjopjmiiaaGreatDoor.Zq
end
section
namespace Go.Proofs.YtijnknjopjmiiaaGreatDoor.Zq
open Zv
section
variable{H:Heap}{b m:Nat}{se:Bool}{B:List Cd}{ms:List ak}{a1 a2 a3:Sl}{ts:List Tg}{fs:List Ft}{ol:List Int}{l:List Sg}
theorem zS{H:Heap}{c:List Value}{z:Nat}{K:Heap->Prop}(hk:∀H',H'[H.length]? =some (.row c z false false true)->bP [] H H'->H'.length=H.length+1->K H'):NEW H c z K:=by
 unfold NEW
 obtain⟨r,f,l⟩:=afi H c z
 exact hk _ r f l
open Classical in
theorem aeD(h:BP m H b se B ms)(okB:G5 B)(og:VJ B)(hs:eY jZ H a1 ts)(fla:Flat H a1)(okt:∀t∈ts,t.Stamp≤9223372036854775807)(bts:ts.length≤1048600){Q:Sl×Int×Unit->Heap->Prop}(q1:∀s H',dX se B ts≠0->bP [] H H'->Q (s,dX se B ts,()) H')
  (q0:∀s H' sp,dX se B ts=0->se=true->ts.length≤2048->fJ se B ts (Dc B ts)=0->zD ts->bJ TF H s H' (Dc B ts) sp->Q (s,0,()) H'):CALL P [aJ,fA] qy [.pointer (some ⟨b,0,none⟩),a1.v] H Q:=by
 apply JZ
 unfold qL
 have hsl:=hs.1
 have bad:∀(r:Int) s H',r≠0->dX se B ts=r->bP [] H H'->Q (s,r,()) H':=fun r s H' hr he f=>by have:=q1 s H' (by rw[he]; exact hr) f; rwa [he]at this
 refine dH (fun q=> ?_) (fun hlen=> ?_)
 ·have e3:fJ se B ts []=3:=by unfold fJ; rw[if_pos (by omega)]
  have s3:dX se B ts=3:=by unfold dX; rw[if_pos (by omega)]
  refine VZ h okB (⟨hs,⟨rfl,.inl ⟨rfl,rfl,rfl⟩⟩,fla,okt,by simp,bts⟩:Gv H a1 ⟨none,0,0⟩ ts []) (fun H' e f=> ?_) (fun H' e _ _=>absurd e (by rw[e3]; decide)) (fun _ _ _ _ _ _ e=>absurd e (by rw[e3]; decide))
  have:=bad 3 ⟨none,0,0⟩ H' (by decide) s3 f
  rw[e3]; exact this
 have Ui:∀H',bP [] H H'->(se=true->¬∀t∈ts,QM B t)->Q (⟨none,0,0⟩,2,()) H':=fun H' f hn=>by
  refine bad 2 _ H' (by decide) ?_ f
  unfold dX
  rw[if_neg (by omega)]
  cases hse:se with
  |false=>rw[if_pos rfl]
  |true=>rw[if_neg (by decide),if_pos (hn hse)]
 refine JB tyF (n:=ts.length) (m:=ts.length) (by rw[hsl]) (by rw[hsl]) (Nat.le_refl _) (by omega) fun s1 e1 n1=> ?_
 have p1:s1.p=some ⟨H.length,0,none⟩:=by rw[e1]
 have n1':bJ TF H s1 (mk H (fl TF (List.replicate ts.length zF)) TF.n false) (List.replicate ts.length zF) []:=by simpa using n1
 generalize mk H (fl TF (List.replicate ts.length zF)) TF.n false=H1 at n1'
 refine aS (fun _ H'=>(∀t∈ts,se=true∧QM B t)∧bJ TF H s1 H' (ts.map (V3 B)) []) (fun j hj=> ?_) ?_
 ·refine bG (fun(y:(Int×Unit)×Unit) H'=>∃(n:Nat) (cur:List Ft),y.1.1=n∧n≤ts.length∧bJ TF H s1 H' cur []∧cur.length=ts.length∧(∀(i:Nat) t,i<n->ts[i]? =some t->cur[i]? =some (V3 B t)∧se=true∧QM B t)∧(∀i:Nat,n≤i->i<ts.length->cur[i]? =some zF)) (fun y=>ts.length-y.1.1.toNat) ?_
   ⟨0,_,rfl,Nat.zero_le _,n1',by simp,fun i t h=>by omega,fun i _ hi=>by rw[List.getElem?_replicate,if_pos hi]⟩
  rintro G ⟨⟨i,_⟩,_⟩ H2 ⟨n,cur,hi,hn,no,hcl,h1,h2⟩ hG
  simp only at hi; subst hi
  dsimp only at hG ⊢
  have f2:=no.2.2
  refine dH (fun hlt=> ?_) (fun hge=>hj _ _ ?_)
  ·have hlt:n<ts.length:=by omega
   have hx:ts[n]? =some ts[n]:=List.getElem?_eq_getElem hlt
   have hm:ts[n]∈ts:=List.getElem_mem hlt
   generalize ts[n]=t at hx hm
   have hs2:=hs.cO f2 (by simp)
   refine bf (T:=jZ) zu hs2 rfl hx rfl ?_
   refine aeA (h.new f2) okB (fun f e H3 he he1 nk f3=> ?_) fun H3 hse hok f3=>bI rfl (bI rfl ?_)
   ·exact bI (by simpa using he1) (iJ (by simpa using he) (Ui _ (f2.trans f3) fun hs k=>nk hs (k t hm)))
   have no3:=no.new f3
   refine aS (fun _ H'=>∃cur',bJ TF H s1 H' cur' []∧cur'.length=ts.length∧(∀(i:Nat) u,i<n+1->ts[i]? =some u->cur'[i]? =some (V3 B u)∧se=true∧QM B u)∧(∀i:Nat,n+1≤i->i<ts.length->cur'[i]? =some zF)) (fun j2 hj2=>fV (fun e4=> ?_) (fun e4=>hj2 _ _ ⟨cur,no3,hcl,fun i u w1 w2=> ?_,fun i w1 w2=>h2 i (by omega) w2⟩)) ?_
   ·refine no3.1.put (n:=n) Le (fun x=>rfl) rfl (by omega) (prT B t) rfl fun c0 H6 hc0 o6 f6 l6=> ?_
    rw[p1]at hc0; cases hc0
    have ep:V3 B t=prT B t:=by unfold V3; rw[if_pos e4]
    refine hj2 _ _ ⟨cur.set n (prT B t),⟨o6,no3.2.1,no3.2.2.then f6 fun d hd=>by simp at hd; subst hd; exact .inr (Nat.le_refl _)⟩,by simpa using hcl,fun i u w1 w2=> ?_,fun i w1 w2=> ?_⟩
    ·by_cases ei:i=n
     ·subst ei; rw[hx]at w2; cases w2
      rw[List.getElem?_set_self (by omega),ep]; exact⟨rfl,hse,hok⟩
     ·rw[List.getElem?_set_ne (fun q=>ei q.symm)]; exact h1 i u (by omega) w2
    ·rw[List.getElem?_set_ne (by omega)]; exact h2 i (by omega) w2
   ·by_cases ei:i=n
    ·subst ei; rw[hx]at w2; cases w2
     have ep:V3 B t=zF:=by unfold V3; rw[if_neg e4]
     rw[ep]; exact⟨h2 i (Nat.le_refl _) hlt,hse,hok⟩
    ·exact h1 i u (by omega) w2
   ·rintro _ H4 ⟨cur',no4,c1,c2,c3⟩
    rw[dA (by omega) (by omega)]
    exact hG _ _ ⟨n+1,cur',by simp,hlt,no4,c1,c2,c3⟩ (by simp; omega)
  ·have:n=ts.length:=by omega
   subst this
   have ec:cur=ts.map (V3 B):=by
    refine Lr (by simpa using hcl) fun i a c w1 w2 w3=> ?_
    have hit:ts[i]? =some (ts[i]'(by omega)):=List.getElem?_eq_getElem (by omega)
    have:=(h1 i _ (by omega) hit).1
    rw[List.getElem?_map,hit]at w3
    rw[this]at w2
    simp at w3
    cases w2; exact w3
   subst ec
   refine⟨fun t ht=> ?_,no⟩
   obtain⟨i,hi⟩:=List.mem_iff_getElem?.1 ht
   exact(h1 i t (List.getElem?_eq_some_iff.1 hi).1 hi).2
 ·rintro _ H3 ⟨hok,n3⟩
  have n3:bJ TF H s1 H3 (Dc B ts) []:=n3
  have f3:=n3.2.2
  have gv3:Gv H3 a1 s1 ts (Dc B ts):=⟨hs.cO f3 (by simp),n3.1.rC,fla.cO f3,okt,fun f hf=>by
   obtain⟨t,_,rfl⟩:=List.mem_map.1 hf
   exact aav og t,bts⟩
  have est:dX se B ts=if fJ se B ts (Dc B ts)≠0 then fJ se B ts (Dc B ts)else if ¬zD ts then 2 else 0:=by
   unfold dX
   rw[if_neg (by omega)]
   cases hse:se with
   |false=>
    rw[if_pos rfl]
    have:fJ false B ts (Dc B ts)=2:=by unfold fJ; rw[if_neg (by omega),if_pos (.inl rfl)]
    rw[this,if_pos (by decide)]
   |true=>rw[if_neg (by decide),if_neg (fun k=>k fun t ht=>(hok t ht).2)]
  refine VZ (h.new f3) okB gv3 (fun H4 e f=>iJ (by simpa using e) (bad _ _ _ e (by rw[est,if_pos e]) (f3.trans f))) (fun H4 _ hk _=>by omega) fun s r ol H8 sp sr e0 _ _ _ n8 _ _=>bI rfl ?_
  obtain⟨e1,e2,e3,e4⟩:=xg (e:=e0)
  have f8:=f3.trans n8.2.2
  have n8':=n3.new n8.2.2
  refine aS (fun _ H'=>bP [] H8 H'∧zD ts) (fun j16 hj16=> ?_) (fun _ H' hh=>q0 s1 H' [] (by rw[est,if_neg (by simpa using e0),if_neg (fun q=>q hh.2)]) e1 e3 e0 hh.2 (n8'.new hh.1))
  refine bG (fun(y:(Int×Unit)×Unit) H'=>bP [] H8 H'∧∃n:Nat,y.1.1=n∧n≤ts.length∧∀(i:Nat) t,i<n->ts[i]? =some t->t.Place=4->Ba t.Marks) (fun y=>ts.length-y.1.1.toNat) ?_ ⟨.refl _ _,0,rfl,Nat.zero_le _,fun i t h=>by omega⟩
  rintro G ⟨⟨i,_⟩,_⟩ H10 ⟨f10,n,hi,hn,inv⟩ hG
  simp only at hi; subst hi
  dsimp only at hG ⊢
  refine dH (fun hlt=> ?_) (fun hge=>hj16 _ _ ⟨f10,fun t ht hp=> ?_⟩)
  ·have hlt:n<ts.length:=by omega
   have hx:ts[n]? =some ts[n]:=List.getElem?_eq_getElem hlt
   have hxm:=List.getElem_mem hlt
   generalize ts[n]=v at hx hxm
   have f010:=f8.trans f10
   refine bf (T:=jZ) zu (hs.cO f010 (by simp)) rfl hx rfl ?_
   obtain⟨vc,vo,vp,vs,vh,⟨m1,m2,m3,m4⟩,vd,vf⟩:=v
   refine zS fun H11 r11 f11 l11=> ?_
   refine pO [] [.int .i64 0,.int .i64 0,.int .u8 0,.int .i64 0,.int .i64 0,.int .i64 0,.int .i64 0,.int .i64 0,.int .i64 0,.int .i64 0,.bool false] [] r11 rfl rfl rfl rfl ?_
   have r12:(H11.set H10.length (.row ([]++(jZ.cells (⟨vc,vo,vp,vs,vh,(m1,m2,m3,m4),vd,vf⟩:Tg)++[])) 11 false false true))[H10.length]? =some (.row (jZ.cells (⟨vc,vo,vp,vs,vh,(m1,m2,m3,m4),vd,vf⟩:Tg)) 11 false false true):=by rw[List.getElem?_set_self (by omega),List.nil_append,List.append_nil]
   have f12:bP [] H10 (H11.set H10.length (.row ([]++(jZ.cells (⟨vc,vo,vp,vs,vh,(m1,m2,m3,m4),vd,vf⟩:Tg)++[])) 11 false false true)):=f11.then (bP.set (B:=[H10.length]) _ _ (by simp)) fun d hd=>by simp at hd; subst hd; exact .inr (Nat.le_refl _)
   generalize H11.set H10.length (.row ([]++(jZ.cells (⟨vc,vo,vp,vs,vh,(m1,m2,m3,m4),vd,vf⟩:Tg)++[])) 11 false false true)=H12 at r12 f12
   refine aS (fun(y:(Bool×Unit)×Unit) H'=>H'=H12∧(y.1.1=true↔(vp=4∧¬Ba (m1,m2,m3,m4)))) (fun j23 hj23=> ?_) ?_
   ·refine dO (T:=au .u8) vp [.int .i64 vc,.int .i64 vo] [.int .i64 vs,.int .i64 vh,.int .i64 m1,.int .i64 m2,.int .i64 m3,.int .i64 m4,.int .i64 vd,.bool vf] r12 rfl rfl rfl ?_
    refine fV (fun e4=> ?_) (fun e4=>hj23 _ _ ⟨rfl,by simp[e4]⟩)
    have sl:eY fA H12 ⟨some ⟨H10.length,5,none⟩,4,4⟩ [m1,m2,m3,m4]:=⟨rfl,.inr (.inr ⟨H10.length,[.int .i64 vc,.int .i64 vo,.int .u8 vp,.int .i64 vs,.int .i64 vh],[.int .i64 vd,.bool vf],_,_,_,rfl,r12⟩)⟩
    have key:Ba (m1,m2,m3,m4)↔∀x∈[m1,m2,m3,m4],0≤x∧x≤99:=by
     unfold Ba
     constructor
     ·intro w
      have w0:=w 0 (by omega); have w1:=w 1 (by omega); have w2:=w 2 (by omega); have w3:=w 3 (by omega)
      intro x hx
      simp at hx
      rcases hx with rfl|rfl|rfl|rfl
      ·exact w0
      ·exact w1
      ·exact w2
      ·exact w3
     ·intro w n hn
      have:n=0∨n=1∨n=2∨n=3:=by omega
      rcases this with rfl|rfl|rfl|rfl
      ·exact w m1 (by simp)
      ·exact w m2 (by simp)
      ·exact w m3 (by simp)
      ·exact w m4 (by simp)
    refine⟨⟨some ⟨H10.length,5,none⟩,4,4⟩,rfl,?_⟩
    refine aeB sl (by simp) (by simp) fun r hr1 hr2=>dH (fun w=>hj23 _ _ ⟨rfl,?_⟩) (fun w=> ?_)
    ·simp only[true_iff]
     exact⟨e4,fun q=>by have:=(key.1 q r hr1).1; omega⟩
    ·refine⟨⟨some ⟨H10.length,5,none⟩,4,4⟩,rfl,?_⟩
     refine aeC sl (by simp) (by simp) fun q hq1 hq2=>hj23 _ _ ⟨rfl,?_⟩
     simp only[decide_eq_true_eq]
     constructor
     ·exact fun w2=>⟨e4,fun k=>by have:=(key.1 k q hq1).2; omega⟩
     ·rintro⟨_,k⟩
      refine Classical.byContradiction fun w2=>k (key.2 fun x hx=> ?_)
      have h1:=hr2 x hx
      have h2:=hq2 x hx
      omega
   ·rintro⟨⟨r,_⟩,_⟩ H13 ⟨rfl,hr⟩
    dsimp only at hr ⊢
    refine bT (fun w=>bad 2 _ _ (by decide) ?_ (f010.trans f12)) (fun w=> ?_)
    ·have q:=hr.1 w
     rw[est,if_neg (by simpa using e0),if_pos (fun k=>q.2 (k _ hxm q.1))]
    ·rw[dA (by omega) (by omega)]
     refine hG _ _ ⟨f10.trans f12,n+1,by simp,hlt,fun i u w1 w2 w3=> ?_⟩ (by simp; omega)
     by_cases ei:i=n
     ·subst ei; rw[hx]at w2; cases w2
      refine Classical.byContradiction fun k=> ?_
      have w:r=false:=w
      rw[hr.2 ⟨w3,k⟩]at w; cases w
     ·exact inv i u (by omega) w2 w3
  ·obtain⟨i,hi⟩:=List.mem_iff_getElem?.1 ht
   exact inv i t (by have:=(List.getElem?_eq_some_iff.1 hi).1; omega) hi hp
theorem aeE(h:BP m H b se B ms)(hs:eY jZ H a1 ts)(hf:eY TF H a2 fs)(hfe:fs.length=ts.length)(hlen:ts.length≤2048){Q:Sl×Unit->Heap->Prop}(hq:∀s H' sp,bJ TF H s H' (QN ms ts fs) sp->Q (s,()) H'):CALL P [aJ] sZ [.pointer (some ⟨b,0,none⟩),a1.v,a2.v] H Q:=by
 apply MS
 unfold uh
 have hsl:=hs.1
 have hfl:=hf.1
 refine JB tyF (n:=ts.length) (m:=ts.length) (by rw[hfl,hfe]) (by rw[hfl,hfe]) (Nat.le_refl _) (by omega) fun s1 e1 n1=> ?_
 have p1:s1.p=some ⟨H.length,0,none⟩:=by rw[e1]
 have n1':bJ TF H s1 (mk H (fl TF (List.replicate ts.length zF)) TF.n false) (List.replicate ts.length zF) []:=by simpa using n1
 generalize mk H (fl TF (List.replicate ts.length zF)) TF.n false=H1 at n1'
 refine aS (fun _ H'=>bJ TF H s1 H' (QN ms ts fs) []) (fun j hj=> ?_) (fun _ H' hh=>hq _ _ _ hh)
 refine bG (fun(y:(Int×Unit)×Unit) H'=>∃(n:Nat) (cur:List Ft),y.1.1=n∧n≤ts.length∧bJ TF H s1 H' cur []∧cur.length=ts.length∧(∀(i:Nat) t f,i<n->ts[i]? =some t->fs[i]? =some f->cur[i]? =some (mkT ms t f))∧(∀i:Nat,n≤i->i<ts.length->cur[i]? =some zF)) (fun y=>ts.length-y.1.1.toNat) ?_
  ⟨0,_,rfl,Nat.zero_le _,n1',by simp,fun i t f h=>by omega,fun i _ hi=>by rw[List.getElem?_replicate,if_pos hi]⟩
 rintro G ⟨⟨i,_⟩,_⟩ H2 ⟨n,cur,hi,hn,no,hcl,h1,h2⟩ hG
 simp only at hi; subst hi
 dsimp only at hG ⊢
 have f2:=no.2.2
 refine dH (fun hlt=> ?_) (fun hge=>hj _ _ ?_)
 ·have hlt:n<ts.length:=by omega
  have hx:ts[n]? =some ts[n]:=List.getElem?_eq_getElem hlt
  have hy:fs[n]? =some (fs[n]'(by omega)):=List.getElem?_eq_getElem (by omega)
  generalize ts[n]=t at hx
  generalize (fs[n]'(by omega))=f at hy
  have hs2:=hs.cO f2 (by simp)
  have hf2:=hf.cO f2 (by simp)
  refine bf (T:=jZ) zu hs2 rfl hx rfl ?_
  refine aS (fun _ H'=>∃cur',bJ TF H s1 H' cur' []∧cur'.length=ts.length∧(∀(i:Nat) t f,i<n+1->ts[i]? =some t->fs[i]? =some f->cur'[i]? =some (mkT ms t f))∧(∀i:Nat,n+1≤i->i<ts.length->cur'[i]? =some zF)) (fun j2 hj2=>fV (fun e4=> ?_) (fun e4=>hj2 _ _ ⟨cur,no,hcl,fun i u g w1 w2 w3=> ?_,fun i w1 w2=>h2 i (by omega) w2⟩)) ?_
  ·have put:∀(g:Ft),g=mkT ms t f->dw s1.p s1.len (n:Int) 5 fun b18 o19=>ST H2 b18 o19 (TF.cells g) fun H6=>j2 ((),()) H6:=fun g eg=>by
    refine no.1.put (n:=n) Le (fun x=>rfl) rfl (by omega) g rfl fun c0 H6 hc0 o6 f6 l6=> ?_
    rw[p1]at hc0; cases hc0
    refine hj2 _ _ ⟨cur.set n g,⟨o6,no.2.1,no.2.2.then f6 fun d hd=>by simp at hd; subst hd; exact .inr (Nat.le_refl _)⟩,by simpa using hcl,fun i u g' w1 w2 w3=> ?_,fun i w1 w2=> ?_⟩
    ·by_cases ei:i=n
     ·subst ei; rw[hx]at w2; cases w2; rw[hy]at w3; cases w3
      rw[List.getElem?_set_self (by omega),eg]
     ·rw[List.getElem?_set_ne (fun q=>ei q.symm)]; exact h1 i u g' (by omega) w2 w3
    ·rw[List.getElem?_set_ne (by omega)]; exact h2 i (by omega) w2
   refine bf (T:=TF) Le hf2 rfl hy rfl (aez (h.new f2) (fun nk=>put _ ?_) (fun ok=>put _ ?_))
   ·unfold mkT; rw[if_neg (fun q=>nk q.2)]
   ·unfold mkT; rw[if_pos ⟨e4,ok⟩]
  ·by_cases ei:i=n
   ·subst ei; rw[hx]at w2; cases w2
    have ep:mkT ms t g=zF:=by unfold mkT; rw[if_neg (fun q=>e4 q.1)]
    rw[ep]; exact h2 i (Nat.le_refl _) hlt
   ·exact h1 i u g (by omega) w2 w3
  ·rintro _ H4 ⟨cur',no4,c1,c2,c3⟩
   rw[dA (by omega) (by omega)]
   exact hG _ _ ⟨n+1,cur',by simp,hlt,no4,c1,c2,c3⟩ (by simp; omega)
 ·have:n=ts.length:=by omega
  subst this
  have ec:cur=QN ms ts fs:=by
   refine Lr (by unfold QN; rw[List.length_zipWith]; omega) fun i a c w1 w2 w3=> ?_
   have hit:ts[i]? =some (ts[i]'(by omega)):=List.getElem?_eq_getElem (by omega)
   have hif:fs[i]? =some (fs[i]'(by omega)):=List.getElem?_eq_getElem (by omega)
   have:=h1 i _ _ (by omega) hit hif
   unfold QN at w3
   rw[List.getElem?_zipWith,hit,hif]at w3
   rw[this]at w2
   simp at w3
   cases w2; exact w3
  subst ec; exact no
end
end Go.Proofs.YtijnknjopjmiiaaGreatDoor.Zq
end
section
namespace Go.Proofs.YtijnknjopjmiiaaGreatDoor.Zq
open Zv
section
variable{H:Heap}{b m:Nat}{se:Bool}{B:List Cd}{ms:List ak}{a1 a2 a3:Sl}{ts:List Tg}{fs:List Ft}{ol:List Int}{l:List Sg}
noncomputable def vF(ms:List ak)(B:List Cd)(ts:List Tg)(ol:List Int)(n:Nat):List Ft:=if n≤5 then lq B ts ol n else QN ms ts (lq B ts ol 5)
def CV(B:List Cd)(ts:List Tg)(ol:List Int)(n:Nat):List Sg:=rH B ts (lq B ts ol n) ol ((n:Int)+1)
def trS(B:List Cd)(ts:List Tg)(ol:List Int)(n i:Nat):List Ft×List Sg×List Sg:=dY B ts ol (lq B ts ol n) (CV B ts ol n) i
def sI(B:List Cd)(ts:List Tg)(ol:List Int)(n i:Nat):Sg:=AZ (trS B ts ol n i).2.1 (A8 B ts ol (lq B ts ol n) (CV B ts ol n) i)
def vS(B:List Cd)(ts:List Tg)(ol:List Int)(n:Nat):List Sg:=if n<5 then(trS B ts ol n (CV B ts ol n).length).2.2 else []
def fP(B:List Cd)(ts:List Tg)(ol:List Int):Nat->List Sg
 |0=>[]
 |n+1=>fP B ts ol n++vS B ts ol n
structure Wk(H:Heap)(b:Nat)(a1:Sl)(c0 c1 c2 c3 n:Nat)(x:Sl):Prop where
 k:H[c0]? =some (.row [.int .i64 (n:Int)] 1 false false true)
 f:H[c1]? =some (.row [x.v] 1 false false true)
 p:H[c2]? =some (.row [.pointer (some ⟨b,0,none⟩)] 1 false false true)
 t:H[c3]? =some (.row [a1.v] 1 false false true)
 n1:c0≠c1
 n2:c0≠c2
 n3:c0≠c3
 n4:c1≠c2
 n5:c1≠c3
theorem Wk.new{H':Heap}{c0 c1 c2 c3 n:Nat}{x:Sl}(w:Wk H b a1 c0 c1 c2 c3 n x)(f:bP [] H H'):Wk H' b a1 c0 c1 c2 c3 n x:=
 ⟨f.get (by simp) w.k,f.get (by simp) w.f,f.get (by simp) w.p,f.get (by simp) w.t,w.n1,w.n2,w.n3,w.n4,w.n5⟩
theorem Wk.aeG{c0 c1 c2 c3 n:Nat}{x x':Sl}(w:Wk H b a1 c0 c1 c2 c3 n x){K:Heap->Prop}(hk:∀H',Wk H' b a1 c0 c1 c2 c3 n x'->bP [c1] H H'->K H'):ST H c1 0 [x'.v] K:=by
 refine pO [] [x.v] [] w.f rfl rfl rfl rfl (hk _ ⟨?_,?_,?_,?_,w.n1,w.n2,w.n3,w.n4,w.n5⟩ (bP.set _ _ (by simp)))
 ·rw[List.getElem?_set_ne (fun e=>w.n1 e.symm)]; exact w.k
 ·rw[fD (dI w.f)]; rfl
 ·rw[List.getElem?_set_ne w.n4]; exact w.p
 ·rw[List.getElem?_set_ne w.n5]; exact w.t
theorem Wk.afl{c0 c1 c2 c3 n:Nat}{x:Sl}(w:Wk H b a1 c0 c1 c2 c3 n x){K:Heap->Prop}(hk:∀H',Wk H' b a1 c0 c1 c2 c3 (n+1) x->bP [c0] H H'->K H'):ST H c0 0 [.int .i64 ((n:Int)+1)] K:=by
 refine pO [] [.int .i64 (n:Int)] [] w.k rfl rfl rfl rfl (hk _ ⟨?_,?_,?_,?_,w.n1,w.n2,w.n3,w.n4,w.n5⟩ (bP.set _ _ (by simp)))
 ·rw[fD (dI w.k)]; rfl
 ·rw[List.getElem?_set_ne w.n1]; exact w.f
 ·rw[List.getElem?_set_ne w.n2]; exact w.p
 ·rw[List.getElem?_set_ne w.n3]; exact w.t
theorem V4{H0:Heap}(h:BP m H0 b true B ms)(okB:G5 B)(og:VJ B)(hs:eY jZ H0 a1 ts)(fla:Flat H0 a1)(okt:∀t∈ts,t.Stamp≤9223372036854775807)(e0:fJ true B ts (Dc B ts)=0)(ot:fM B ts ol)(f0:bP [] H0 H){c0 c1 c2 c3 n:Nat}{x:Sl}{sp:List Ft}(w:Wk H b a1 c0 c1 c2 c3 n x)(hn:n≤6)(hx:Ow TF H x (vF ms B ts ol n) sp)(lo0:H0.length≤c0)(lo1:H0.length≤c1)(xl:∀d,x.p=some ⟨d,0,none⟩->d≠c0∧d≠c1){Q:Sl×Sl×Unit->Heap->Prop}
  (hq:∀x' l' H' sp' sl,Wk H' b a1 c0 c1 c2 c3 (n+1) x'->Ow TF H' x' (vF ms B ts ol (n+1)) sp'->(∀d,x'.p=some ⟨d,0,none⟩->d≠c0∧d≠c1)->Ow TF H' x (vF ms B ts ol n) sp->Ow lg H' l' (vS B ts ol n) sl->(∀d,l'.p=some ⟨d,0,none⟩->H.length≤d)->bP [c0,c1] H H'->Q (x,l',()) H'):
  CALL P [aJ,aJ] jc [.pointer (some ⟨c0,0,none⟩),.pointer (some ⟨c1,0,none⟩),.pointer (some ⟨c2,0,none⟩),.pointer (some ⟨c3,0,none⟩)] H Q:=by
 refine MP (c0:=(c0,0)) (c1:=(c1,0)) (c2:=(c2,0)) (c3:=(c3,0)) ?_
 unfold ug
 obtain⟨_,_,hl2,_⟩:=xg (e:=e0)
 refine dO (T:=fA) (n:Int) [] [] w.k rfl rfl rfl ?_
 rw[dA (by omega) (by omega)]
 refine w.afl fun H1 w1 fr1=> ?_
 have f01:bP [] H0 H1:=f0.then fr1 fun d hd=>by simp at hd; subst hd; exact .inr lo0
 have hx1:Ow TF H1 x (vF ms B ts ol n) sp:=hx.cO fr1 fun d hd e=>by simp at hd; subst hd; exact(xl _ e).1 rfl
 have g1:bP [c0,c1] H H1:=fr1.mono fun d hd=>by simp at hd; simp[hd]
 have l1:=fr1.1
 refine dO (T:=aJ) x [] [] w1.f rfl rfl rfl (dO (T:=fA) ((n:Int)+1) [] [] w1.k rfl rfl rfl ?_)
 have hc0:=dI w1.k
 have hc1:=dI w1.f
 refine aS (fun(y:(Sl×Unit)×Unit) H'=>∃x' sp' sl,Wk H' b a1 c0 c1 c2 c3 (n+1) x'∧Ow TF H' x' (vF ms B ts ol (n+1)) sp'∧(∀d,x'.p=some ⟨d,0,none⟩->d≠c0∧d≠c1)∧Ow TF H' x (vF ms B ts ol n) sp∧Ow lg H' y.1.1 (vS B ts ol n) sl∧(∀d,y.1.1.p=some ⟨d,0,none⟩->H.length≤d)∧bP [c0,c1] H H') (fun j4 hj4=> ?_) (fun y H' hh=>by obtain⟨x',sp',sl,p1,p2,p3,p4,p5,p6,p7⟩:=hh; exact hq x' _ H' sp' sl p1 p2 p3 p4 p5 p6 p7)
 refine dH (fun h5=> ?_) (fun h5=> ?_)
 ·have h5:n<5:=by omega
  have evF:vF ms B ts ol n=lq B ts ol n:=by unfold vF; rw[if_pos (by omega)]
  have evF1:vF ms B ts ol (n+1)=lq B ts ol (n+1):=by unfold vF; rw[if_pos (by omega)]
  have jn:=Ls og e0 ot n
  have cn:=jn.fJ e0
  have gv:Gv H1 a1 x ts (lq B ts ol n):=⟨hs.cO f01 (by simp),evF▸hx1.rC,fla.cO f01,okt,jn.nn,by omega⟩
  refine dO (T:=dJ) (some ⟨b,0,none⟩) [] [] w1.p rfl rfl rfl (dO (T:=aJ) a1 [] [] w1.t rfl rfl rfl (dO (T:=aJ) x [] [] w1.f rfl rfl rfl (dO (T:=fA) ((n:Int)+1) [] [] w1.k rfl rfl rfl ?_)))
  refine VZ (h.new f01) okB gv (fun _ e _=>absurd cn e) (fun _ _ hk _=>by omega) fun s r ol' H3 sp3 sr _ _ _ ot' nf ns hd=> ?_
  have:=ot'.uniq ot; subst this
  have f13:=nf.2.2
  have w3:=w1.new f13
  have hx3:Ow TF H3 x (vF ms B ts ol' n) sp:=hx1.cO f13 (by simp[Sl.off])
  refine w3.aeG (x':=s) fun H4 w4 fr4=>hj4 _ _ ⟨s,sp3,sr,w4,?_,fun d e=> ?_,?_,?_,fun d e=> ?_,?_⟩
  ·rw[evF1]
   exact nf.1.cO fr4 fun d hd e=>by simp at hd; subst hd; have:=nf.2.1 _ e; omega
  ·have:=nf.2.1 d e
   constructor<;>omega
  ·exact hx3.cO fr4 fun d hd e=>by simp at hd; subst hd; exact(xl _ e).2 rfl
  ·unfold vS; rw[if_pos h5]
   exact ns.1.cO fr4 fun d hd e=>by simp at hd; subst hd; have:=ns.2.1 _ e; omega
  ·have:=ns.2.1 d e; omega
  ·exact(g1.trans (f13.mono (by simp))).trans (fr4.mono fun d hd=>by simp at hd; simp[hd])
 ·have evS:vS B ts ol n=[]:=by unfold vS; rw[if_neg (by omega)]
  refine dO (T:=fA) ((n:Int)+1) [] [] w1.k rfl rfl rfl ?_
  refine aS (fun _ H'=>∃x' sp',Wk H' b a1 c0 c1 c2 c3 (n+1) x'∧Ow TF H' x' (vF ms B ts ol (n+1)) sp'∧(∀d,x'.p=some ⟨d,0,none⟩->d≠c0∧d≠c1)∧Ow TF H' x (vF ms B ts ol n) sp∧bP [c0,c1] H H') (fun j12 hj12=>fV (fun e6=> ?_) (fun e6=> ?_)) ?_
  ·have n5:n=5:=by omega
   subst n5
   have evF:vF ms B ts ol 5=lq B ts ol 5:=by unfold vF; rw[if_pos (by omega)]
   have evF1:vF ms B ts ol (5+1)=QN ms ts (lq B ts ol 5):=by unfold vF; rw[if_neg (by omega)]
   have jn:=Ls og e0 ot 5
   refine dO (T:=dJ) (some ⟨b,0,none⟩) [] [] w1.p rfl rfl rfl (dO (T:=aJ) a1 [] [] w1.t rfl rfl rfl (dO (T:=aJ) x [] [] w1.f rfl rfl rfl ?_))
   refine aeE (h.new f01) (hs.cO f01 (by simp)) (evF▸hx1.rC) jn.len hl2 fun s H3 sp3 nf=> ?_
   have f13:=nf.2.2
   have w3:=w1.new f13
   have hx3:Ow TF H3 x (vF ms B ts ol 5) sp:=hx1.cO f13 (by simp[Sl.off])
   refine w3.aeG (x':=s) fun H4 w4 fr4=>hj12 _ _ ⟨s,sp3,w4,?_,fun d e=> ?_,?_,?_⟩
   ·rw[evF1]
    exact nf.1.cO fr4 fun d hd e=>by simp at hd; subst hd; have:=nf.2.1 _ e; omega
   ·have:=nf.2.1 d e
    constructor<;>omega
   ·exact hx3.cO fr4 fun d hd e=>by simp at hd; subst hd; exact(xl _ e).2 rfl
   ·exact(g1.trans (f13.mono (by simp))).trans (fr4.mono fun d hd=>by simp at hd; simp[hd])
  ·have n6:n=6:=by omega
   subst n6
   have e7:vF ms B ts ol (6+1)=vF ms B ts ol 6:=by unfold vF; rw[if_neg (by omega),if_neg (by omega)]
   exact hj12 _ _ ⟨x,sp,w1,by rw[e7]; exact hx1,xl,hx1,g1⟩
  ·rintro _ H5 ⟨x',sp',p1,p2,p3,p4,p5⟩
   exact hj4 _ _ ⟨x',sp',[],p1,p2,p3,p4,by rw[evS]; exact Ow.nil lg H5,by simp,p5⟩
theorem aaA(h:BP m H b se B ms)(okB:G5 B)(og:VJ B)(hs:eY jZ H a1 ts)(fla:Flat H a1)(okt:∀t∈ts,t.Stamp≤9223372036854775807)(bts:ts.length≤1048600){Q:Value×Int×Unit->Heap->Prop}(q1:∀v H',dX se B ts≠0->bP [] H H'->Q (v,dX se B ts,()) H')
  (q0:∀c0 c1 c2 c3 x sp H',dX se B ts=0->se=true->ts.length≤2048->fJ se B ts (Dc B ts)=0->zD ts->Wk H' b a1 c0 c1 c2 c3 0 x->Ow TF H' x (Dc B ts) sp->(∀d,x.p=some ⟨d,0,none⟩->d≠c0∧d≠c1)->H.length≤c0->H.length≤c1->bP [] H H'->Q (.func (.func jc) #[] #[.pointer (some ⟨c0,0,none⟩),.pointer (some ⟨c1,0,none⟩),.pointer (some ⟨c2,0,none⟩),.pointer (some ⟨c3,0,none⟩)],0,()) H'):
  CALL P [uY,fA] rX [.pointer (some ⟨b,0,none⟩),a1.v] H Q:=by
 apply Tm
 unfold yO
 refine zS fun H1 r1 f1 l1=>zS fun H2 r2 f2 l2=> ?_
 have f02:=f1.trans f2
 refine dO (T:=dJ) (some ⟨b,0,none⟩) [] [] (f2.get (by simp) r1) rfl rfl rfl (dO (T:=aJ) a1 [] [] r2 rfl rfl rfl ?_)
 have tail:∀(e:Int) (x3:Sl) (H3:Heap),bP [] H2 H3->(∀c0 c1 H',H3.length≤c0->H3.length≤c1->Wk H' b a1 c0 c1 H.length H1.length 0 x3->bP [] H3 H'->Q (.func (.func jc) #[] #[.pointer (some ⟨c0,0,none⟩),.pointer (some ⟨c1,0,none⟩),.pointer (some ⟨H.length,0,none⟩),.pointer (some ⟨H1.length,0,none⟩)],e,()) H')->NEW H3 [(.slice none 0 0)] 1 fun H4=>ST H4 H3.length 0 [(.slice x3.p x3.len x3.cap)] fun H5=>NEW H5 [(.int .i64 0)] 1 fun H6=>ST H6 H5.length 0 [(.int .i64 0)] fun H7=>Q ((.func (.func jc) #[] #[(.pointer (some ⟨H5.length,0,none⟩)),(.pointer (some ⟨H3.length,0,none⟩)),(.pointer (some ⟨H.length,0,none⟩)),(.pointer (some ⟨H1.length,0,none⟩))]),e,()) H7:=fun e x3 H3 f3 hq=>by
  refine zS fun H4 r4 f4 l4=> ?_
  refine pO [] [(.slice none 0 0)] [] r4 rfl rfl rfl rfl ?_
  have r5:(H4.set H3.length (.row ([]++([(.slice x3.p x3.len x3.cap)]++[])) 1 false false true))[H3.length]? =some (.row [x3.v] 1 false false true):=by rw[List.getElem?_set_self (by omega)]; rfl
  have f5:bP [] H3 (H4.set H3.length (.row ([]++([(.slice x3.p x3.len x3.cap)]++[])) 1 false false true)):=f4.then (bP.set (B:=[H3.length]) _ _ (by simp)) fun d hd=>by simp at hd; subst hd; exact .inr (Nat.le_refl _)
  have l5:(H4.set H3.length (.row ([]++([(.slice x3.p x3.len x3.cap)]++[])) 1 false false true)).length=H3.length+1:=by simp[l4]
  generalize H4.set H3.length (.row ([]++([(.slice x3.p x3.len x3.cap)]++[])) 1 false false true)=H5 at r5 f5 l5
  refine zS fun H6 r6 f6 l6=> ?_
  refine pO [] [(.int .i64 0)] [] r6 rfl rfl rfl rfl ?_
  have r7:(H6.set H5.length (.row ([]++([(.int .i64 0)]++[])) 1 false false true))[H5.length]? =some (.row [.int .i64 ((0:Nat):Int)] 1 false false true):=by rw[List.getElem?_set_self (by omega)]; rfl
  have f7:bP [] H5 (H6.set H5.length (.row ([]++([(.int .i64 0)]++[])) 1 false false true)):=f6.then (bP.set (B:=[H5.length]) _ _ (by simp)) fun d hd=>by simp at hd; subst hd; exact .inr (Nat.le_refl _)
  generalize H6.set H5.length (.row ([]++([(.int .i64 0)]++[])) 1 false false true)=H7 at r7 f7
  have f37:=f5.trans f7
  have l3:=f3.1
  exact hq _ _ H7 (by omega) (Nat.le_refl _) ⟨r7,f7.get (by simp) r5,(f3.trans f37).get (by simp) (f2.get (by simp) r1),(f3.trans f37).get (by simp) r2,by omega,by omega,by omega,by omega,by omega⟩ f37
 refine aeD (h.new f02) okB og (hs.cO f02 (by simp)) (fla.cO f02) okt bts (fun s H3 e f3=> ?_) fun s H3 sp e e1 e2 e3 e4 n3=> ?_
 ·exact tail _ s H3 f3 fun c0 c1 H' _ _ _ f7=>q1 _ _ e ((f02.trans f3).trans f7)
 ·have f3:=n3.2.2
  refine tail 0 s H3 f3 fun c0 c1 H' h0 h1 w f7=>q0 c0 c1 _ _ s sp H' e e1 e2 e3 e4 w (n3.1.cO f7 (by simp[Sl.off])) (fun d e=> ?_) (by have:=f02.1; have:=f3.1; omega) (by have:=f02.1; have:=f3.1; omega) ((f02.trans f3).trans f7)
  have:=n3.1.lt e
  constructor<;>omega
theorem vF0:vF ms B ts ol 0=Dc B ts:=by unfold vF; rw[if_pos (by omega)]; rfl
theorem aaB(og:VJ B)(e0:fJ true B ts (Dc B ts)=0)(ot:fM B ts ol)(n:Nat):(vF ms B ts ol n).length=ts.length:=by
 unfold vF
 split
 ·exact(Ls og e0 ot n).len
 ·unfold QN; rw[List.length_zipWith,(Ls og e0 ot 5).len,Nat.min_self]
theorem adQ(h:BP m H b se B ms)(okB:G5 B)(og:VJ B)(hs:eY jZ H a1 ts)(fla:Flat H a1)(okt:∀t∈ts,t.Stamp≤9223372036854775807)(bts:ts.length≤1048600){k:Int}{Q:Sl×Int×Unit->Heap->Prop}(q1:∀H',dX se B ts≠0->bP [] H H'->Q (⟨none,0,0⟩,dX se B ts,()) H')(q2:∀H',dX se B ts=0->(k<0∨6<k)->bP [] H H'->Q (⟨none,0,0⟩,2,()) H')
  (q0:∀s ol H' sp,dX se B ts=0->se=true->fJ se B ts (Dc B ts)=0->zD ts->fM B ts ol->0≤k->k≤6->bJ TF H s H' (vF ms B ts ol k.toNat) sp->Q (s,0,()) H'):CALL P [aJ,fA] sW [.pointer (some ⟨b,0,none⟩),a1.v,.int .i64 k] H Q:=by
 apply MK
 unfold uf
 refine aaA h okB og hs fla okt bts (fun v H' e f=>iJ (by simpa using e) (q1 H' e f)) fun c0 c1 c2 c3 x sp H1 es hse e2 e3 e4 w hx xl lo0 lo1 f1=>bI rfl ?_
 subst hse
 obtain⟨ol,ot⟩:=aah okB e3
 refine hJ (k<0∨6<k) (fun j hj=>dH (fun e=>hj _ (by simp; omega)) (fun e=>hj _ (by simp; omega))) (fun c=>q2 _ es c f1) (fun c=> ?_)
 have fr2:∀{H' H'':Heap},bP [] H H'->bP [c0,c1] H' H''->bP [] H H'':=fun f g=>f.then g fun d hd=>by simp at hd; rcases hd with rfl|rfl; exact .inr lo0; exact .inr lo1
 refine .inl ⟨_,#[],_,rfl,?_⟩
 refine V4 h okB og hs fla okt e3 ot f1 w (by omega) (by rw[vF0]; exact hx) lo0 lo1 xl fun x' l' H3 sp' sl w3 hx3 xl3 hy3 _ _ f3=> ?_
 refine aS (fun(y:(Sl×Unit)×Unit) H'=>bP [] H H'∧∃sq,Ow TF H' y.1.1 (vF ms B ts ol k.toNat) sq) (fun j5 hj5=> ?_) ?_
 ·refine bG (fun(y:(Sl×Int×Unit)×Unit) H'=>bP [] H H'∧∃(n:Nat) (z:Sl) (sq sz:List Ft),y.1.2.1=n∧(n:Int)≤k∧Ow TF H' y.1.1 (vF ms B ts ol n) sq∧Wk H' b a1 c0 c1 c2 c3 (n+1) z∧Ow TF H' z (vF ms B ts ol (n+1)) sz∧∀d,z.p=some ⟨d,0,none⟩->d≠c0∧d≠c1) (fun y=>k.toNat-y.1.2.1.toNat) ?_
   ⟨fr2 f1 f3,0,x',sp,sp',rfl,by omega,hy3,w3,hx3,xl3⟩
  rintro G ⟨⟨cur,i,_⟩,_⟩ H5 ⟨f5,n,z,sq,sz,hi,hn,hc,w5,hz,zl⟩ hG
  simp only at hi hc; subst hi
  dsimp only at hG ⊢
  refine dH (fun hlt=> ?_) (fun hge=>hj5 _ _ ⟨f5,sq,?_⟩)
  ·refine .inl ⟨_,#[],_,rfl,?_⟩
   refine V4 h okB og hs fla okt e3 ot f5 w5 (by omega) hz lo0 lo1 zl fun x6 l6 H6 sp6 sl6 w6 hx6 xl6 hz6 _ _ f6=> ?_
   rw[dA (by omega) (by omega)]
   exact hG _ _ ⟨fr2 f5 f6,n+1,x6,sz,sp6,by simp,by omega,hz6,w6,hx6,xl6⟩ (by simp; omega)
  ·rw[show k.toNat=n by omega]; exact hc
 ·rintro⟨⟨y,_⟩,_⟩ H4 ⟨f4,sq,hy⟩
  simp only at hy
  dsimp only
  refine zS fun H7 r7 f7 l7=> ?_
  have o7:Ow TF H7 ⟨some ⟨H4.length,0,none⟩,0,0⟩ [] []:=⟨rfl,rfl,by simp,.inr ⟨_,rfl,r7⟩⟩
  have n7:bJ TF H ⟨some ⟨H4.length,0,none⟩,0,0⟩ H7 [] []:=⟨o7,fun d hd=>by cases hd; exact f4.1,f4.trans f7⟩
  refine PE tyF rfl (fun _=>by simp) (hy.cO f7 (by simp[Sl.off])).rC (by have:=aaB (ms:=ms) og e3 ot k.toNat; simp only[List.length_nil]; omega) o7 fun s8 H8 sp8 k1 k2 k3=> ?_
  exact q0 s8 ol H8 sp8 es rfl e3 e4 ot (by omega) (by omega) (n7.app k1 k2 k3)
theorem aaC(h:BP m H b se B ms)(okB:G5 B)(og:VJ B)(hs:eY jZ H a1 ts)(fla:Flat H a1)(okt:∀t∈ts,t.Stamp≤9223372036854775807)(bts:ts.length≤1048600){Q:Sl×Int×Unit->Heap->Prop}(q1:∀H',dX se B ts≠0->bP [] H H'->Q (⟨none,0,0⟩,dX se B ts,()) H')
  (q0:∀s ol H' sp,dX se B ts=0->se=true->fJ se B ts (Dc B ts)=0->zD ts->fM B ts ol->bJ TF H s H' (vF ms B ts ol 6) sp->Q (s,0,()) H'):CALL P [aJ,fA] uZ [.pointer (some ⟨b,0,none⟩),a1.v] H Q:=by
 apply X7
 unfold Fa
 exact adQ h okB og hs fla okt bts q1 (fun _ _ hk _=>by omega) fun s ol H' sp e1 e2 e3 e4 ot _ _ n=>q0 s ol H' sp e1 e2 e3 e4 ot n
theorem aaD(ot:fM B ts ol)(n:Nat):(vS B ts ol n).length≤64:=by
 unfold vS
 split
 ·have:=(kF B ts ol (lq B ts ol n) (CV B ts ol n) (CV B ts ol n).length (Nat.le_refl _)).2.2.2
  unfold trS
  rw[this]
  exact UD ot _ _
 ·simp
theorem CW(ot:fM B ts ol):∀n,(fP B ts ol n).length≤64*n
 |0=>by simp[fP]
 |n+1=>by
  have:=CW ot n
  have:=aaD ot n
  unfold fP; rw[List.length_append]; omega
theorem LC(h:BP m H b se B ms)(okB:G5 B)(og:VJ B)(hs:eY jZ H a1 ts)(fla:Flat H a1)(okt:∀t∈ts,t.Stamp≤9223372036854775807)(bts:ts.length≤1048600){Q:Sl×Int×Unit->Heap->Prop}(q1:∀H',dX se B ts≠0->bP [] H H'->Q (⟨none,0,0⟩,dX se B ts,()) H')
  (q0:∀s ol H' sp,dX se B ts=0->fM B ts ol->bJ lg H s H' (fP B ts ol 5) sp->Q (s,0,()) H'):CALL P [aJ,fA] lI [.pointer (some ⟨b,0,none⟩),a1.v] H Q:=by
 apply PU
 unfold wG
 refine aaA h okB og hs fla okt bts (fun v H' e f=>iJ (by simpa using e) (q1 H' e f)) fun c0 c1 c2 c3 x sp H1 es hse e2 e3 e4 w hx xl lo0 lo1 f1=>bI rfl ?_
 subst hse
 obtain⟨ol,ot⟩:=aah okB e3
 have fr2:∀{H' H'':Heap},bP [] H H'->bP [c0,c1] H' H''->bP [] H H'':=fun f g=>f.then g fun d hd=>by simp at hd; rcases hd with rfl|rfl; exact .inr lo0; exact .inr lo1
 refine aS (fun(y:(Sl×Unit)×Unit) H'=>∃so,bJ lg H y.1.1 H' (fP B ts ol 5) so) (fun j2 hj2=> ?_) (fun y H' hh=>by obtain⟨so,hh⟩:=hh; exact q0 _ ol H' so es ot hh)
 refine bG (fun(y:(Sl×Int×Unit)×Unit) H'=>∃(n:Nat) (z:Sl) (so:List Sg) (sz:List Ft),y.1.2.1=n∧n≤5∧bJ lg H y.1.1 H' (fP B ts ol n) so∧(∀d,y.1.1.p=some ⟨d,0,none⟩->d≠c0∧d≠c1∧z.p≠some ⟨d,0,none⟩)∧Wk H' b a1 c0 c1 c2 c3 n z∧c2<H'.length∧c3<H'.length∧(∀d,y.1.1.p=some ⟨d,0,none⟩->d≠c2∧d≠c3)∧Ow TF H' z (vF ms B ts ol n) sz∧∀d,z.p=some ⟨d,0,none⟩->d≠c0∧d≠c1) (fun y=>5-y.1.2.1.toNat) ?_
  ⟨0,x,[],sp,rfl,by omega,(bJ.nil' lg H1).older f1,by simp,w,dI w.p,dI w.t,by simp,by rw[vF0]; exact hx,xl⟩
 rintro G ⟨⟨out,i,_⟩,_⟩ H3 ⟨n,z,so,sz,hi,hn,no,ol0,w3,hc2,hc3,ol1,hz,zl⟩ hG
 simp only at hi no ol0 ol1; subst hi
 dsimp only at hG ⊢
 refine dH (fun hlt=> ?_) (fun hge=>hj2 _ _ ⟨so,?_⟩)
 ·refine .inl ⟨_,#[],_,rfl,?_⟩
  refine V4 h okB og hs fla okt e3 ot no.2.2 w3 (by omega) hz lo0 lo1 zl fun x' l' H4 sp' sl w4 hx4 xl4 hz4 hl4 ll f4=> ?_
  have no4:bJ lg H out H4 (fP B ts ol n) so:=⟨no.1.cO f4 fun d hd e=>by have:=ol0 d e; simp at hd; omega,no.2.1,fr2 no.2.2 f4⟩
  have l34:=f4.1
  have hc0:=dI w4.k
  have hc1:=dI w4.f
  refine PE QH rfl (fun _=>by simp) hl4.rC (by have:=CW ot n; have:=aaD ot n; omega) no4.1 fun s5 H5 sp5 k1 k2 k3=> ?_
  have no5:bJ lg H s5 H5 (fP B ts ol (n+1)) sp5:=no4.app k1 k2 k3
  have keep:∀c:Nat,c<H4.length->(∀d,out.p=some ⟨d,0,none⟩->d≠c)->H5[c]? =H4[c]? :=fun c hc hne=>k3.2 c hc fun e=>hne c e rfl
  have w5:Wk H5 b a1 c0 c1 c2 c3 (n+1) x':=⟨by rw[keep c0 hc0 fun d e=>(ol0 d e).1]; exact w4.k,by rw[keep c1 hc1 fun d e=>(ol0 d e).2.1]; exact w4.f,by rw[keep c2 (by omega) fun d e=>(ol1 d e).1]; exact w4.p,by rw[keep c3 (by omega) fun d e=>(ol1 d e).2]; exact w4.t,w4.n1,w4.n2,w4.n3,w4.n4,w4.n5⟩
  have l45:=k3.1
  by_cases hxo:∃d,out.p=some ⟨d,0,none⟩∧x'.p=some ⟨d,0,none⟩
  ·
   obtain⟨d,h1,h2⟩:=hxo
   obtain⟨_,_,_,⟨q,_⟩|⟨d',q,r⟩⟩:=no4.1
   ·rw[h1]at q; cases q
   ·rw[h1]at q; cases q
    obtain⟨_,_,_,⟨q,_⟩|⟨d',q,r'⟩⟩:=hx4
    ·rw[h2]at q; cases q
    ·rw[h2]at q; cases q
     rw[r]at r'
     simp at r'
  ·have hx5:Ow TF H5 x' (vF ms B ts ol (n+1)) sp':=hx4.after k3 fun d e1 e2=>hxo ⟨d,e2,e1⟩
   rw[dA (by omega) (by omega)]
   refine hG _ _ ⟨n+1,x',sp5,sp',by simp,by omega,no5,fun d e=> ?_,w5,by omega,by omega,fun d e=> ?_,hx5,xl4⟩ (by simp; omega)
   ·dsimp only at e
    rcases k2 with q|⟨q,_⟩
    ·rw[q]at e
     exact⟨(ol0 d e).1,(ol0 d e).2.1,fun e2=>hxo ⟨d,e,e2⟩⟩
    ·rw[q]at e; cases e
     exact⟨by omega,by omega,fun e2=>by have:=hx4.lt e2; omega⟩
   ·dsimp only at e
    rcases k2 with q|⟨q,_⟩
    ·rw[q]at e; exact ol1 d e
    ·rw[q]at e; cases e
     exact⟨by omega,by omega⟩
 ·have:n=5:=by omega
  subst this; exact no
end
end Go.Proofs.YtijnknjopjmiiaaGreatDoor.Zq
end
section
namespace Go.Proofs.YtijnknjopjmiiaaGreatDoor.Zq
open Zv
section
variable{H:Heap}{b m:Nat}{se:Bool}{B:List Cd}{ms:List ak}{a1 a2 a3:Sl}{ts:List Tg}{fs:List Ft}{ol:List Int}{l:List Sg}
theorem adR{n i:Nat}(hi:i<(CV B ts ol n).length):sI B ts ol n i∈CV B ts ol n:=by
 obtain⟨_,_,i3,_⟩:=kF B ts ol (lq B ts ol n) (CV B ts ol n) i (by omega)
 obtain⟨k,hk,hkl⟩:=OO (B:=B) (ts:=ts) (ol:=ol) (fs:=lq B ts ol n) hi
 refine i3 _ (sG ?_)
 rw[hk]; simpa using hkl
end
end Go.Proofs.YtijnknjopjmiiaaGreatDoor.Zq
end
section
namespace Go.Proofs.YtijnknjopjmiiaaGreatDoor.Zq
open Zv
section
variable{B:List Cd}{ts us:List Tg}{ol:List Int}{τ:Nat->Nat}{fs gs:List Ft}{ms:List ak}
structure Lk(τ:Nat->Nat)(ts us:List Tg):Prop where
 len:us.length=ts.length
 rng:∀i,i<ts.length->τ i<ts.length
 inj:∀i j,i<ts.length->j<ts.length->τ i=τ j->i=j
 sur:∀k,k<ts.length->∃i,i<ts.length∧τ i=k
 at':∀(i:Nat) t u,ts[i]? =some t->us[τ i]? =some u->u.Card=t.Card∧u.Owner=t.Owner∧(u.Place=4↔t.Place=4)∧(t.Place=4->u.Marks=t.Marks∧(1≤t.Stamp->1≤u.Stamp))∧(1≤t.Place->t.Place≤5->1≤u.Place∧u.Place≤5)
 lt:∀(i j:Nat) t t' u u',ts[i]? =some t->ts[j]? =some t'->us[τ i]? =some u->us[τ j]? =some u'->t.Place=4->t'.Place=4->(t.Stamp<t'.Stamp↔u.Stamp<u'.Stamp)
def tI(τ:Nat->Nat)(i:Int):Int:=(τ i.toNat:Int)
def xU(τ:Nat->Nat)(s:Sg):Sg:={ s with Thing:=tI τ (s.Thing-1)+1 }
def mvI(τ:Nat->Nat)(x:Int):Int:=tI τ (x-1)+1
structure UH(τ:Nat->Nat)(fs gs:List Ft):Prop where
 len:gs.length=fs.length
 at':∀(i:Nat) f,fs[i]? =some f->gs[τ i]? =some f
theorem Lk.to(a:Lk τ ts us){i:Nat}{t:Tg}(h:ts[i]? =some t):∃u,us[τ i]? =some u:=by
 have:=a.rng i (List.getElem?_eq_some_iff.1 h).1
 have hl:=a.len
 exact⟨us[τ i]'(by omega),List.getElem?_eq_getElem _⟩
theorem Lk.fro(a:Lk τ ts us){k:Nat}{u:Tg}(h:us[k]? =some u):∃i t,τ i=k∧ts[i]? =some t:=by
 have:=(List.getElem?_eq_some_iff.1 h).1
 have hl:=a.len
 obtain⟨i,hi,e⟩:=a.sur k (by omega)
 exact⟨i,ts[i],e,List.getElem?_eq_getElem _⟩
theorem nP(k:Nat):tI τ (k:Int)=(τ k:Int):=by simp[tI]
theorem Xv(s:Sg):(xU τ s).Thing-1=tI τ (s.Thing-1):=by unfold xU; simp
theorem V5{α β:Type}{f:α->β}{l:List α}{i:Nat}{y:β}(h:(l.map f)[i]? =some y):∃x,l[i]? =some x∧f x=y:=by
 rw[List.getElem?_map]at h
 cases hx:l[i]? with
 |none=>rw[hx]at h; cases h
 |some x=>rw[hx]at h; exact⟨x,rfl,by simpa using h⟩
theorem Lk.ord(a:Lk τ ts us)(o:fM B ts ol):fM B us (ol.map (tI τ)):=by
 have srt:∀(i j:Nat) x y,i<j->(ol.map (tI τ))[i]? =some x->(ol.map (tI τ))[j]? =some y->aY us x.toNat<aY us y.toNat:=fun i j x y hij hx hy=>by
  obtain⟨x',hx',rfl⟩:=V5 hx
  obtain⟨y',hy',rfl⟩:=V5 hy
  have h:=o.srt i j x' y' hij hx' hy'
  obtain⟨k,t,c,e1,e2,e3,_⟩:=o.at' x' (List.mem_of_getElem? hx')
  obtain⟨k',t',c',e1',e2',e3',_⟩:=o.at' y' (List.mem_of_getElem? hy')
  obtain⟨u,hu⟩:=a.to e2
  obtain⟨u',hu'⟩:=a.to e2'
  rw[iw e1 e2,iw e1' e2']at h
  subst e1 e1'
  rw[iw (nP k) hu,iw (nP k') hu']
  exact(a.lt k k' t t' u u' e2 e2' hu hu' e3 e3').1 h
 refine⟨by rw[List.length_map]; exact o.few,?_,srt,fun x hx=> ?_,fun k u hu p=> ?_,by rw[a.len]; exact o.len⟩
 ·refine List.pairwise_iff_getElem.2 fun i j hi hj h e=> ?_
  have:=srt i j _ _ h (List.getElem?_eq_getElem hi) (List.getElem?_eq_getElem hj)
  rw[e]at this
  omega
 ·obtain⟨y,hy,rfl⟩:=List.mem_map.1 hx
  obtain⟨k,t,c,e1,e2,e3,e4,e5,e6,e7,e8⟩:=o.at' y hy
  obtain⟨u,hu⟩:=a.to e2
  obtain⟨q1,q2,q3,q4,q5⟩:=a.at' k t u e2 hu
  subst e1
  exact⟨τ k,u,c,nP k,hu,q3.2 e3,by omega,by rw[q1]; exact e5,(q4 e3).2 e6,e7,e8⟩
 ·obtain⟨i,t,e,ht⟩:=a.fro hu
  subst e
  have:=o.all i t ht ((a.at' i t u ht hu).2.2.1.1 p)
  exact List.mem_map.2 ⟨_,this,nP i⟩
theorem Lk.cd(a:Lk τ ts us)(o:fM B ts ol){i:Int}(hi:i∈ol):cdI B us (tI τ i)=cdI B ts i:=by
 obtain⟨k,t,c,e1,e2,e3,e4,e5,e6,e7,e8⟩:=o.at' i hi
 obtain⟨u,hu⟩:=a.to e2
 subst e1
 unfold cdI
 rw[nP,Int.toNat_natCast,Int.toNat_natCast,hu,e2]
 show B[(u.Card-1).toNat]? =B[(t.Card-1).toNat]?
 rw[(a.at' _ t u e2 hu).1]
theorem Lk.ft(o:fM B ts ol)(g:UH τ fs gs)(hfe:fs.length=ts.length){i:Int}(hi:i∈ol):L6 gs (tI τ i)=L6 fs i:=by
 obtain⟨k,t,c,e1,e2,_⟩:=o.at' i hi
 have hk:=(List.getElem?_eq_some_iff.1 e2).1
 have hf:fs[k]? =some (fs[k]'(by omega)):=List.getElem?_eq_getElem _
 subst e1
 rw[zx rfl hf,zx (nP k) (g.at' k _ hf)]
theorem Lk.aeH(a:Lk τ ts us)(o:fM B ts ol){i j:Int}(hi:i∈ol)(hj:j∈ol)(e:tI τ i=tI τ j):i=j:=by
 obtain⟨k,t,c,e1,e2,_⟩:=o.at' i hi
 obtain⟨k',t',c',e1',e2',_⟩:=o.at' j hj
 subst e1 e1'
 rw[nP,nP]at e
 have:=a.inj k k' (List.getElem?_eq_some_iff.1 e2).1 (List.getElem?_eq_some_iff.1 e2').1 (by omega)
 omega
theorem QO{α β γ δ:Type}{φ:α->β}{ψ:γ->δ}{f:α->List γ}{g:β->List δ}:∀{l:List α},(∀x∈l,g (φ x)=(f x).map ψ)->(l.map φ).flatMap g=(l.flatMap f).map ψ
 |[],_=>rfl
 |x::r,h=>by
  rw[List.map_cons,List.flatMap_cons,List.flatMap_cons,List.map_append,h x (by simp),QO fun y hy=>h y (by simp[hy])]
theorem ab8(i k:Int)(ps:List Pt):Uy (tI τ i+1) k ps=(Uy (i+1) k ps).map (xU τ):=by
 unfold Uy
 have:=QO (φ:=fun p:Pt×Nat=>p) (ψ:=xU τ) (f:=oD (i+1) k) (g:=oD (tI τ i+1) k) (l:=ps.zipIdx) fun p _=>by
  unfold oD
  split
  ·simp[xU]
  ·rfl
 simpa using this
theorem Lk.rH(a:Lk τ ts us)(o:fM B ts ol)(g:UH τ fs gs)(hfe:fs.length=ts.length)(k:Int):rH B us gs (ol.map (tI τ)) k=(rH B ts fs ol k).map (xU τ):=by
 unfold Zq.rH
 refine QO fun i hi=> ?_
 unfold mM cpI
 rw[Lk.ft o g hfe hi,a.cd o hi]
 split
 ·rfl
 ·exact ab8 i k _
theorem Lk.means(a:Lk τ ts us)(o:fM B ts ol)(g:UH τ fs gs)(hfe:fs.length=ts.length){s:Sg}(hs:s.Thing-1∈ol){i:Int}(hi:i∈ol):wY B us gs (xU τ s) (tI τ i)=wY B ts fs s i:=by
 have e1:(tI τ i==tI τ (s.Thing-1))=(i==s.Thing-1):=by
  rw[Bool.eq_iff_iff]
  simp only[beq_iff_eq]
  exact⟨fun e=>a.aeH o hi hs e,fun e=>by rw[e]⟩
 have e2:(tI τ i !=tI τ (s.Thing-1))=(i !=s.Thing-1):=by unfold bne; rw[e1]
 have e3:ckI B us (tI τ i)=ckI B ts i:=by unfold ckI; rw[a.cd o hi]
 have e4:(xU τ s).What=s.What:=rfl
 unfold wY
 rw[Xv,e1,e2,e3,e4,Lk.ft o g hfe hi,Lk.ft o g hfe hs]
theorem Lk.eH(a:Lk τ ts us)(o:fM B ts ol)(g:UH τ fs gs)(hfe:fs.length=ts.length){s:Sg}(hs:s.Thing-1∈ol):eH B us gs (ol.map (tI τ)) (xU τ s)=(eH B ts fs ol s).map (mvI τ):=by
 unfold Zq.eH
 refine QO fun i hi=> ?_
 unfold jr
 rw[a.means o g hfe hs hi]
 split
 ·simp[mvI]
 ·rfl
theorem Lk.mv(a:Lk τ ts us)(o:fM B ts ol){x y:Int}(hx:x-1∈ol)(hy:y-1∈ol)(e:mvI τ x=mvI τ y):x=y:=by
 have:=a.aeH o hx hy (by unfold mvI at e; omega)
 omega
theorem Lk.apply(a:Lk τ ts us)(o:fM B ts ol)(g:UH τ fs gs)(hfe:fs.length=ts.length){s:Sg}(hs:s.Thing-1∈ol):UH τ (nM B ts fs ol s) (nM B us gs (ol.map (tI τ)) (xU τ s)):=by
 refine⟨by rw[nO,nO,g.len],fun i f' h=> ?_⟩
 have hi:i<fs.length:=by have:=(List.getElem?_eq_some_iff.1 h).1; rwa [nO]at this
 have hf:fs[i]? =some fs[i]:=List.getElem?_eq_getElem hi
 generalize fs[i]=f at hf
 rw[OL o s hf]at h
 rw[OL (a.ord o) (xU τ s) (g.at' i f hf),←h,Xv,Lk.ft o g hfe hs,a.eH o g hfe hs]
 have e:((τ i:Int)+1∈(Zq.eH B ts fs ol s).map (mvI τ))↔(i:Int)+1∈Zq.eH B ts fs ol s:=by
  rw[List.mem_map]
  constructor
  ·rintro⟨x,hx,e⟩
   obtain⟨k,t,c,e1,e2,_⟩:=o.at' _ (nN.1 hx).1
   have hk:=(List.getElem?_eq_some_iff.1 e2).1
   unfold mvI at e
   rw[e1,nP]at e
   have:=a.inj k i hk (by omega) (by omega)
   rw[show(i:Int)+1=x by omega]; exact hx
  ·intro hx
   refine⟨_,hx,?_⟩
   unfold mvI
   rw[show(i:Int)+1-1=i by omega,nP]
 have e4:(xU τ s).What=s.What:=rfl
 rw[e4]
 by_cases w:(i:Int)+1∈Zq.eH B ts fs ol s
 ·rw[if_pos w,if_pos (e.2 w)]
 ·rw[if_neg w,if_neg (fun q=>w (e.1 q))]
theorem LG{α β:Type}{f:α->β}:∀{l m:List α},(∀x∈l,∀y∈m,f x=f y->x=y)->l.map f=m.map f->l=m
 |[],[],_,_=>rfl
 |[],_::_,_,h=>by simp at h
 |_::_,[],_,h=>by simp at h
 |x::r,y::q,hi,h=>by
  rw[List.map_cons,List.map_cons,List.cons.injEq]at h
  rw[hi x (by simp) y (by simp) h.1,LG (fun a ha b hb=>hi a (by simp[ha]) b (by simp[hb])) h.2]
theorem Lk.dep(a:Lk τ ts us)(o:fM B ts ol)(g:UH τ fs gs)(hfe:fs.length=ts.length){s r:Sg}(hs:s.Thing-1∈ol)(hr:r.Thing-1∈ol):mG B us gs (ol.map (tI τ)) (xU τ s) (xU τ r)=mG B ts fs ol s r:=by
 have g2:=a.apply o g hfe hr
 unfold mG
 rw[a.eH o g hfe hs,a.eH o g2 (by rw[nO]; exact hfe) hs]
 simp only[decide_eq_decide]
 refine not_congr ⟨fun e=>LG (fun x hx y hy e=>a.mv o (nN.1 hx).1 (nN.1 hy).1 e) e,fun e=>by rw[e]⟩
theorem Lk.ahead(a:Lk τ ts us)(o:fM B ts ol){s r:Sg}(hs:s.Thing-1∈ol)(hr:r.Thing-1∈ol):qY us (xU τ s) (xU τ r)=qY ts s r:=by
 obtain⟨k,t,c,e1,e2,e3,_⟩:=o.at' _ hs
 obtain⟨k',t',c',e1',e2',e3',_⟩:=o.at' _ hr
 obtain⟨u,hu⟩:=a.to e2
 obtain⟨u',hu'⟩:=a.to e2'
 unfold qY
 have q1:tI τ (s.Thing-1)=(τ k:Int):=by rw[e1,nP]
 have q2:tI τ (r.Thing-1)=(τ k':Int):=by rw[e1',nP]
 rw[Xv,Xv,iw e1 e2,iw e1' e2',iw q1 hu,iw q2 hu']
 have l1:=a.lt k k' t t' u u' e2 e2' hu hu' e3 e3'
 have l2:=a.lt k' k t' t u' u e2' e2 hu' hu e3' e3
 have p1:decide (u.Stamp<u'.Stamp)=decide (t.Stamp<t'.Stamp):=by simp only[decide_eq_decide]; omega
 have p2:decide (u.Stamp=u'.Stamp)=decide (t.Stamp=t'.Stamp):=by simp only[decide_eq_decide]; omega
 rw[p1,p2]
 rfl
theorem zT{f:Sg->Sg}{l:List Sg}{i:Int}(h:i.toNat<l.length):AZ (l.map f) i=f (AZ l i):=by
 unfold AZ
 rw[List.getElem?_map,List.getElem?_eq_getElem h]; rfl
theorem UJ{α:Type}{p q:α->Bool}:∀{l:List α},(∀x∈l,p x=q x)->l.any p=l.any q
 |[],_=>rfl
 |x::r,h=>by rw[List.any_cons,List.any_cons,h x (by simp),UJ fun y hy=>h y (by simp[hy])]
theorem Lk.hangs(a:Lk τ ts us)(o:fM B ts ol)(g:UH τ fs gs)(hfe:fs.length=ts.length){l:List Sg}(hl:∀s∈l,s.Thing-1∈ol){i k:Nat}(hi:i<l.length)(hk:k≤l.length):zy B us gs (ol.map (tI τ)) (l.map (xU τ)) i k=zy B ts fs ol l i k:=by
 unfold zy
 refine UJ fun j hj=> ?_
 have hj:=List.mem_range.1 hj
 have h1:((i:Int)).toNat<l.length:=by omega
 have h2:((j:Int)).toNat<l.length:=by omega
 rw[zT h1,zT h2,a.dep o g hfe (hl _ (sG h1)) (hl _ (sG h2))]
theorem Lk.nx(a:Lk τ ts us)(o:fM B ts ol)(g:UH τ fs gs)(hfe:fs.length=ts.length){l:List Sg}(hl:∀s∈l,s.Thing-1∈ol):∀n,n≤l.length->nx B us gs (ol.map (tI τ)) (l.map (xU τ)) n=nx B ts fs ol l n
 |0,_=>rfl
 |n+1,hn=>by
  have ih:=a.nx o g hfe hl n (by omega)
  obtain⟨r1,r2,r3,r4⟩:=QJ B ts fs ol l n
  have h1:((n:Int)).toNat<l.length:=by omega
  have h2:((Zq.nx B ts fs ol l n).1).toNat<l.length:=by omega
  have h3:((Zq.nx B ts fs ol l n).2).toNat<l.length:=by omega
  unfold Zq.nx
  rw[ih,List.length_map,a.hangs o g hfe hl (by omega) (Nat.le_refl _),zT h1,zT h2,zT h3,a.ahead o (hl _ (sG h1)) (hl _ (sG h2)),a.ahead o (hl _ (sG h1)) (hl _ (sG h3))]
theorem Lk.next(a:Lk τ ts us)(o:fM B ts ol)(g:UH τ fs gs)(hfe:fs.length=ts.length){l:List Sg}(hl:∀s∈l,s.Thing-1∈ol):zA B us gs (ol.map (tI τ)) (l.map (xU τ))=zA B ts fs ol l:=by
 unfold zA
 rw[List.length_map,a.nx o g hfe hl _ (Nat.le_refl _)]
theorem OQ{α β:Type}{f:α->β}:∀(l:List α) (i:Nat),(l.map f).eraseIdx i=(l.eraseIdx i).map f
 |[],_=>rfl
 |_::_,0=>rfl
 |x::r,i+1=>by
  rw[List.map_cons,List.eraseIdx_cons_succ,List.eraseIdx_cons_succ,List.map_cons,OQ r i]
theorem Lk.all(a:Lk τ ts us)(o:fM B ts ol)(g:UH τ fs gs)(hfe:fs.length=ts.length){l:List Sg}(hl:∀s∈l,s.Thing-1∈ol):∀n,n≤l.length->UH τ (dY B ts ol fs l n).1 (dY B us (ol.map (tI τ)) gs (l.map (xU τ)) n).1∧(dY B us (ol.map (tI τ)) gs (l.map (xU τ)) n).2.1=(dY B ts ol fs l n).2.1.map (xU τ)∧(dY B us (ol.map (tI τ)) gs (l.map (xU τ)) n).2.2=(dY B ts ol fs l n).2.2.map (xU τ)
 |0,_=>⟨g,rfl,rfl⟩
 |n+1,hn=>by
  obtain⟨p1,p2,p3⟩:=a.all o g hfe hl n (by omega)
  obtain⟨i1,i2,i3,i4⟩:=kF B ts ol fs l n (by omega)
  have hr:=zQ B ts (dY B ts ol fs l n).1 ol (l:=(dY B ts ol fs l n).2.1) (by omega)
  have hfe':(dY B ts ol fs l n).1.length=ts.length:=by rw[i1]; exact hfe
  have hl':∀s∈(dY B ts ol fs l n).2.1,s.Thing-1∈ol:=fun s hs=>hl s (i3 s hs)
  have nt:=a.next o p1 hfe' hl'
  have hlt:(zA B ts (dY B ts ol fs l n).1 ol (dY B ts ol fs l n).2.1).toNat<(dY B ts ol fs l n).2.1.length:=by omega
  have hm:=hl' _ (sG hlt)
  simp only[dY,p2,p3,nt,zT hlt]
  refine⟨a.apply o p1 hfe' hm,?_,by rw[List.map_append]; rfl⟩
  exact OQ _ _
theorem Lk.pr(a:Lk τ ts us):UH τ (Dc B ts) (Dc B us):=by
 refine⟨by unfold Dc; rw[List.length_map,List.length_map,a.len],fun i f h=> ?_⟩
 obtain⟨t,ht,rfl⟩:=V5 h
 obtain⟨u,hu⟩:=a.to ht
 obtain⟨q1,q2,q3,q4,q5⟩:=a.at' i t u ht hu
 unfold Dc
 rw[List.getElem?_map,hu]
 show some (V3 B u)=some (V3 B t)
 unfold V3 prT cdT
 rw[q1,q2]
 by_cases p:t.Place=4
 ·rw[if_pos p,if_pos (q3.2 p)]
 ·rw[if_neg p,if_neg (fun w=>p (q3.1 w))]
theorem qZ:∀n,(lq B ts ol n).length=ts.length
 |0=>by unfold lq Dc; rw[List.length_map]
 |n+1=>by
  unfold lq
  rw[(kF B ts ol _ _ _ (Nat.le_refl _)).1]; exact qZ n
theorem aaE{n:Nat}:∀s∈CV B ts ol n,s.Thing-1∈ol:=fun _ h=>(Et h).1
theorem Lk.beh(a:Lk τ ts us)(o:fM B ts ol):∀n,UH τ (lq B ts ol n) (lq B us (ol.map (tI τ)) n)∧CV B us (ol.map (tI τ)) n=(CV B ts ol n).map (xU τ)
 |0=>⟨a.pr,a.rH o a.pr (qZ (ol:=ol) 0) _⟩
 |n+1=>by
  obtain⟨h1,h2⟩:=a.beh o n
  have h3:=a.all o h1 (qZ n) (aaE (B:=B) (ts:=ts) (n:=n)) _ (Nat.le_refl _)
  have key:UH τ (lq B ts ol (n+1)) (lq B us (ol.map (tI τ)) (n+1)):=by
   have:=h3.1
   rw[←h2]at this
   unfold lq
   unfold CV at this h2
   rw[h2]at this ⊢
   rw[List.length_map]
   exact this
  exact⟨key,a.rH o key (qZ (n+1)) _⟩
theorem Lk.steps(a:Lk τ ts us)(o:fM B ts ol):∀n,fP B us (ol.map (tI τ)) n=(fP B ts ol n).map (xU τ)
 |0=>rfl
 |n+1=>by
  obtain⟨h1,h2⟩:=a.beh o n
  unfold fP
  rw[List.map_append,a.steps o n]
  congr 1
  unfold vS
  split
  ·unfold trS
   rw[h2,List.length_map]
   exact(a.all o h1 (qZ n) (aaE (B:=B) (ts:=ts) (n:=n)) _ (Nat.le_refl _)).2.2
  ·rfl
theorem Lk.vf(a:Lk τ ts us)(o:fM B ts ol):UH τ (vF ms B ts ol 6) (vF ms B us (ol.map (tI τ)) 6):=by
 have h:=(a.beh o 5).1
 have l1:=qZ (B:=B) (ts:=ts) (ol:=ol) 5
 have l2:=qZ (B:=B) (ts:=us) (ol:=ol.map (tI τ)) 5
 unfold vF
 rw[if_neg (by omega),if_neg (by omega)]
 unfold QN
 refine⟨by rw[List.length_zipWith,List.length_zipWith,l1,l2,a.len],fun i f w=> ?_⟩
 have hi:i<ts.length:=by have:=(List.getElem?_eq_some_iff.1 w).1; rw[List.length_zipWith]at this; omega
 have ht:ts[i]? =some ts[i]:=List.getElem?_eq_getElem hi
 generalize ts[i]=t at ht
 have hf:(lq B ts ol 5)[i]? =some ((lq B ts ol 5)[i]'(by omega)):=List.getElem?_eq_getElem _
 generalize ((lq B ts ol 5)[i]'(by omega))=g at hf
 obtain⟨u,hu⟩:=a.to ht
 obtain⟨q1,q2,q3,q4,q5⟩:=a.at' i t u ht hu
 rw[List.getElem?_zipWith,ht,hf]at w
 rw[List.getElem?_zipWith,hu,h.at' i g hf,←w]
 show some (mkT ms u g)=some (mkT ms t g)
 unfold mkT
 by_cases p:t.Place=4
 ·rw[(q4 p).1]
  by_cases m:Ba t.Marks
  ·rw[if_pos ⟨q3.2 p,m⟩,if_pos ⟨p,m⟩]
  ·rw[if_neg (fun w=>m w.2),if_neg (fun w=>m w.2)]
 ·rw[if_neg (fun w=>p (q3.1 w.1)),if_neg (fun w=>p w.1)]
theorem Lk.N8(a:Lk τ ts us)(o:fM B ts ol)(h:Ux B ts (Dc B ts)):Ux B us (Dc B us):=by
 have od:=a.ord o
 refine⟨fun k u f hu hf=> ?_,?_,fun i j u u' hij h1 h2 p1 p2 e=> ?_⟩
 ·obtain⟨i,t,rfl,ht⟩:=a.fro hu
  obtain⟨q1,q2,q3,q4,q5⟩:=a.at' i t u ht hu
  have hf':(Dc B ts)[i]? =some (V3 B t):=by unfold Dc; rw[List.getElem?_map,ht]; rfl
  have ef:=a.pr.at' i _ hf'
  rw[hf]at ef; cases ef
  have w:=h.all i t _ ht hf'
  unfold VN at w ⊢
  obtain⟨c,w1,w2,w3,w4,w5,w6⟩:=w
  refine⟨c,by omega,by rw[q1]; exact w2,by rw[q2]; exact w3,(q5 w4 w5).1,(q5 w4 w5).2,fun p=> ?_⟩
  obtain⟨v1,v2,v3⟩:=w6 (q3.1 p)
  exact⟨v1,(q4 (q3.1 p)).2 v2,v3⟩
 ·refine Nat.le_trans ((wX us.length).length_le_of_subset fun x hx=> ?_) od.few
  obtain⟨k,u,hk,rfl,hu,p⟩:=oC.1 hx
  exact od.all k u hu p
 ·obtain⟨i',t,rfl,ht⟩:=a.fro h1
  obtain⟨j',t',rfl,ht'⟩:=a.fro h2
  have e3:=(a.at' i' t u ht h1).2.2.1.1 p1
  have e3':=(a.at' j' t' u' ht' h2).2.2.1.1 p2
  have l1:=a.lt i' j' t t' u u' ht ht' h1 h2 e3 e3'
  have l2:=a.lt j' i' t' t u' u ht' ht h2 h1 e3' e3
  have:=h.dst i' j' t t' (fun w=>hij (by rw[w])) ht ht' e3 e3'
  omega
theorem Lk.start(a:Lk τ ts us)(o:fM B ts ol)(h:dX true B ts=0):dX true B us=0:=by
 unfold dX at h ⊢
 rw[a.len]
 split at h
 ·cases h
 ·rename_i h1
  rw[if_neg h1,if_neg (by decide)]
  rw[if_neg (by decide)]at h
  split at h
  ·cases h
  ·rename_i h2
   have h2:=Classical.not_not.1 h2
   have pu:∀u∈us,QM B u:=fun u hu=>by
    obtain⟨k,hk⟩:=List.mem_iff_getElem?.1 hu
    obtain⟨i,t,rfl,ht⟩:=a.fro hk
    obtain⟨q1,q2,_⟩:=a.at' i t u ht hk
    have:=h2 t (List.mem_of_getElem? ht)
    unfold QM cdT at this ⊢
    rw[q1,q2]; exact this
   rw[if_neg (fun w=>w pu)]
   split at h
   ·rename_i h3; exact absurd h h3
   ·rename_i h3
    have h3:=Classical.not_not.1 h3
    obtain⟨e1,e2,e3,e4⟩:=xg (e:=h3)
    have:fJ true B us (Dc B us)=0:=by
     unfold fJ
     rw[if_neg (by rw[a.len]; omega),if_neg (by unfold Dc; simp),if_pos (a.N8 o e4)]
    rw[this,if_neg (by decide)]
    split at h
    ·cases h
    ·rename_i h4
     have h4:=Classical.not_not.1 h4
     refine if_neg fun w=>w fun u hu p=> ?_
     obtain⟨k,hk⟩:=List.mem_iff_getElem?.1 hu
     obtain⟨i,t,rfl,ht⟩:=a.fro hk
     obtain⟨q1,q2,q3,q4,q5⟩:=a.at' i t u ht hk
     rw[(q4 (q3.1 p)).1]
     exact h4 t (List.mem_of_getElem? ht) (q3.1 p)
end
end Go.Proofs.YtijnknjopjmiiaaGreatDoor.Zq
end
