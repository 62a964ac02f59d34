/- Part 10 of the proof of ViewCalls: what its row stands on (lemmas about the model, the evaluator, contracts of functions), put together and cut to what is used. -/
import Derived.Test.YtijnknjopjmiiaaGreatDoorKViewCalls9
section
namespace Go.Proofs.YtijnknjopjmiiaaGreatDoor.Zq
open Zv
section
variable{H:Heap}{ts:List Tg}
theorem adX{x:dG}{a:Sl}{Q:Bool×Unit->Heap->Prop}(hq:∀r,Q (r,()) H):CALL P [ah] wO [bY.enc x,a.v] H Q:=by
 apply RU
 unfold xB
 exact aO (fun _ H'=>H'=H) (fun j hj=>bG (fun _=>hj _ _ rfl) (fun _=>bG (fun _=>hj _ _ rfl) (fun _=>bG (fun _=>hj _ _ rfl) (fun _=>hj _ _ rfl)))) (fun y H' e=>by subst e; exact hq _)
structure akd(H:Heap)(x:dG)(a:Sl)(gs:List aA)(mks:List au)(ts:List Tg):Prop where
 c:dB TC H x.Cards gs
 cl:gs.length≤1048576
 cg:∀g∈gs,InC H g
 m:dB TM H x.Marks mks
 ml:mks.length≤1048576
 s:dB gX H a ts
 fl:Flat H a
 okt:∀t∈ts,t.Stamp≤9223372036854775807
 tl:ts.length≤1048576
theorem ake{T:Tag}{s1 s2 s3:Sl}{l1 l2 l3 p1 p2 p3:List T.α}{n1 n2:Nat}(o1:Ow T H s1 l1 p1)(o2:Ow T H s2 l2 p2)(o3:Ow T H s3 l3 p3)(h1:∀d,s1.p=some ⟨d,0,none⟩->d<n1)(h2:∀d,s2.p=some ⟨d,0,none⟩->n1≤d∧d<n2)(h3:∀d,s3.p=some ⟨d,0,none⟩->n2≤d){x:Sl}(hx:dB aH H x [s1,s2,s3])(h12:n1≤n2):Apt T H x [s1,s2,s3]:=by
 have zero:∀{s:Sl} {l sp:List T.α},Ow T H s l sp->∀c,s.p=some c->∃d,c=⟨d,0,none⟩:=fun h c hc=>by
  obtain⟨_,_,_,⟨w,_⟩|⟨d,w,_⟩⟩:=h
  ·rw[hc]at w; cases w
  ·rw[hc]at w; cases w; exact⟨d,rfl⟩
 have k12:∀c,s1.p=some c->s2.p≠some c:=fun c e1 e2=>by
  obtain⟨d,rfl⟩:=zero o1 c e1
  have:=h1 d e1; have:=h2 d e2; omega
 have k13:∀c,s1.p=some c->s3.p≠some c:=fun c e1 e2=>by
  obtain⟨d,rfl⟩:=zero o1 c e1
  have:=h1 d e1; have:=h3 d e2; omega
 have k23:∀c,s2.p=some c->s3.p≠some c:=fun c e1 e2=>by
  obtain⟨d,rfl⟩:=zero o2 c e1
  have:=h2 d e1; have:=h3 d e2; omega
 refine⟨hx,by simp,fun s hs=> ?_,fun i j u v c hij hi hj hu hv=> ?_⟩
 ·simp at hs
  rcases hs with rfl|rfl|rfl
  ·exact⟨_,_,o1⟩
  ·exact⟨_,_,o2⟩
  ·exact⟨_,_,o3⟩
 ·have hil:=(List.getElem?_eq_some_iff.1 hi).1
  have hjl:=(List.getElem?_eq_some_iff.1 hj).1
  simp at hil hjl
  have hi3:i=0∨i=1∨i=2:=by omega
  have hj3:j=0∨j=1∨j=2:=by omega
  rcases hi3 with rfl|rfl|rfl<;>rcases hj3 with rfl|rfl|rfl<;>simp at hi hj<;>subst hi<;>subst hj
  ·exact hij rfl
  ·exact k12 c hu hv
  ·exact k13 c hu hv
  ·exact k12 c hv hu
  ·exact hij rfl
  ·exact k23 c hu hv
  ·exact k13 c hv hu
  ·exact k23 c hv hu
  ·exact hij rfl
theorem af8{x:dG}{a:Sl}{gs:List aA}{mks:List au}(hin:akd H x a gs mks ts){k n:Int}{Q:Bool×Unit->Heap->Prop}(hq:∀H',Q (true,()) H'):
  CALL P [ah] nG [bY.enc x,a.v,.int .i64 k,.int .i64 n] H Q:=by
 apply Iu
 unfold nS
 refine ahP (bC rfl (adX fun r=>bG (fun _=>hq _) (fun _=> ?_)))
 refine ag1 hin.c hin.cl hin.cg hin.m hin.ml fun H3 pa pb m se B ms bk=>bC rfl ?_
 have tl:=hin.tl
 have hxt:=hin.s.1
 have s3:=hin.s.bP bk.f (by simp)
 refine KThings.ajh s3 (by omega) fun x4 H4 sp4 n4 ⟨d4,e4⟩=> ?_
 refine n4.1.j.take KThings.tyS (n:=ts.length) (by rw[hxt]) (by simp) (by rw[e4]; simp) fun o5=> ?_
 rw[List.take_left]at o5
 have fl5:Flat H4 ⟨x4.p,ts.length,x4.cap⟩:=fun d off e=>by
  obtain⟨_,_,_,⟨w,_⟩|⟨c,w,hc⟩⟩:=n4.1
  ·rw[show x4.p=_ from e]at w; cases w
  ·rw[show x4.p=_ from e]at w; cases w
   refine⟨_,_,_,_,_,hc,fun v hv=> ?_⟩
   obtain⟨y,_,hy⟩:=List.mem_flatMap.1 hv
   exact afA y v hy
 have p4:=bk.p.new n4.2.2
 have bts:ts.length≤1048600:=by omega
 have s5:=o5.jH
 refine ajV p4 bk.ok bk.og s5 fl5 hin.okt bts fun xa Ha spa la na=> ?_
 have fa:=na.2.2
 refine ajU (p4.new fa) bk.ok bk.og (s5.bP fa (by simp)) (fl5.bP fa) hin.okt bts fun xb Hb spb lb nb=> ?_
 have fb:=fa.trans nb.2.2
 refine ajW (p4.new fb) bk.ok bk.og (s5.bP fb (by simp)) (fl5.bP fb) hin.okt bts fun xc Hc spc lc nc=> ?_
 have fc:=fb.trans nc.2.2
 refine ajX (p4.new fc) bk.ok bk.og (s5.bP fc (by simp)) (fl5.bP fc) hin.okt bts fun xd Hd spd ld nd=> ?_
 have fd:=fc.trans nd.2.2
 refine ajV (p4.new fd) bk.ok bk.og (s5.bP fd (by simp)) (fl5.bP fd) hin.okt bts fun xe He spe le ne=> ?_
 have fe:=fd.trans ne.2.2
 refine ajW (p4.new fe) bk.ok bk.og (s5.bP fe (by simp)) (fl5.bP fe) hin.okt bts fun xf Hf spf lf nf=> ?_
 have ff:=fe.trans nf.2.2
 have n4':=n4.new ff
 refine KThings.aji n4'.1.jH (s3.bP (n4.2.2.trans ff) (by simp)) (by simp; omega) (by omega) fun r H11 hr f11=> ?_
 rw[hr.2 rfl]
 refine bC rfl ?_
 have n4'':=n4'.new f11
 refine KThings.ajj n4''.1 (by simp; omega) fun H12 o12 k12=> ?_
 have l12:=k12.1
 have x4lt:∀d,x4.p=some ⟨d,0,none⟩->d<H4.length:=fun d e=>n4.1.lt e
 have f312:bK [] H3 H12:=n4''.2.2.then (k12.bP (B:=[d4]) fun d e=>by rw[e4]at e; cases e; simp) fun d hd=>by simp at hd; subst hd; exact .inr (n4.2.1 _ e4)
 have stay:∀{T:Tag} {s:Sl} {l sp:List T.α} {H0:Heap},H4.length≤H0.length->aW T H0 s H11 l sp->Ow T H12 s l sp:=fun{T s l sp H0} h0 no=>no.1.after k12 fun d e1 e2=>by have:=no.2.1 d e1; have:=x4lt d e2; omega
 have gb:=nb.2.2.trans (nc.2.2.trans (nd.2.2.trans (ne.2.2.trans (nf.2.2.trans f11))))
 have gc:=nc.2.2.trans (nd.2.2.trans (ne.2.2.trans (nf.2.2.trans f11)))
 have gd:=nd.2.2.trans (ne.2.2.trans (nf.2.2.trans f11))
 have ge:=ne.2.2.trans (nf.2.2.trans f11)
 have gf:=nf.2.2.trans f11
 have oa:=stay (Nat.le_refl _) (na.new gb)
 have ob:=stay fa.1 (nb.new gc)
 have oc:=stay fb.1 (nc.new gd)
 have od:=stay fc.1 (nd.new ge)
 have oe:=stay fd.1 (ne.new gf)
 have of':=stay fe.1 (nf.new f11)
 have r12:=bk.r.new f312
 have s12:=s3.bP f312 (by simp)
 refine akD r12 bk.ok bk.og s12 bts fun ya Hp spp _ na'=> ?_
 have fp:=na'.2.2
 refine ah9 (r12.new fp) bk.ok bk.og (s12.bP fp (by simp)) bts fun yb Hq' spq _ nb'=> ?_
 have fq:=fp.trans nb'.2.2
 refine akE (r12.new fq) bk.ok bk.og (s12.bP fq (by simp)) fun yc Hr spr _ nc'=> ?_
 have fr:=fq.trans nc'.2.2
 refine ajT (r12.new fr) bk.ok bk.og (s12.bP fr (by simp)) bts fun yd Hs sps _ nd'=> ?_
 have fs':=fr.trans nd'.2.2
 have to:∀{T:Tag} {s:Sl} {l sp:List T.α},Ow T H12 s l sp->Ow T Hs s l sp:=fun h=>h.bP fs' (by simp[Sl.off])
 have qa:=(na'.new (nb'.2.2.trans (nc'.2.2.trans nd'.2.2))).1
 have qb:=(nb'.new (nc'.2.2.trans nd'.2.2)).1
 have qc:=(nc'.new nd'.2.2).1
 refine aO (fun(y:(Bool×Unit)×Unit) H'=>H'=Hs∧y.1.1=false) (fun j hj=> ?_) ?_
 ·exact bC (bne_self_eq_false _) (bC (bne_self_eq_false _) (bC (bne_self_eq_false _) (bC (bne_self_eq_false _) (bC (bne_self_eq_false _) (hj _ _ ⟨rfl,bne_self_eq_false _⟩)))))
 rintro⟨⟨r0,_⟩,_⟩ H17 ⟨rfl,hr0⟩
 simp only at hr0; subst hr0
 refine bC rfl ?_
 refine aO (fun(y:(Bool×Unit)×Unit) H'=>H'=H17∧y.1.1=false) (fun j hj=> ?_) ?_
 ·refine KFeatures.Bh (to oa).jH qa.jH (by omega) fun r1 h1=> ?_
  rw[h1.2 rfl]
  refine bC rfl (KFeatures.Bh (to ob).jH qb.jH (by omega) fun r2 h2=> ?_)
  rw[h2.2 rfl]
  refine bC rfl (KStandings.Bh (to oc).jH qc.jH (by omega) fun r3 h3=> ?_)
  rw[h3.2 rfl]
  refine bC rfl (KStandings.Bh (to od).jH nd'.1.jH (by omega) fun r4 h4=> ?_)
  rw[h4.2 rfl]
  refine bC rfl (KFeatures.Bh (to oe).jH qa.jH (by omega) fun r5 h5=> ?_)
  rw[h5.2 rfl]
  refine bC rfl (KStandings.Bh (to of').jH qc.jH (by omega) fun r6 h6=> ?_)
  rw[h6.2 rfl]
  exact hj _ _ ⟨rfl,rfl⟩
 rintro⟨⟨r0,_⟩,_⟩ H18 ⟨rfl,hr0⟩
 simp only at hr0; subst hr0
 refine bC rfl ?_
 refine aO (fun(y:(Bool×Unit)×Unit) _=>y.1.1=true) (fun j28 hj28=> ?_) (fun y H' hy=>by rw[hy]; exact hq _)
 refine wG fun H26 r26 f26 l26=> ?_
 have up:∀{T:Tag} {s:Sl} {l sp:List T.α},Ow T H12 s l sp->Ow T H26 s l sp:=fun h=>(to h).bP f26 (by simp[Sl.off])
 have ltA:∀d,xa.p=some ⟨d,0,none⟩->d<Ha.length:=fun d e=>na.1.lt e
 have ltB:∀d,xb.p=some ⟨d,0,none⟩->Ha.length≤d∧d<Hd.length:=fun d e=>⟨nb.2.1 d e,by have:=nb.1.lt e; have:=nc.2.2.1; have:=nd.2.2.1; omega⟩
 have ltE:∀d,xe.p=some ⟨d,0,none⟩->Hd.length≤d:=fun d e=>ne.2.1 d e
 have hAD:Ha.length≤Hd.length:=by have:=nb.2.2.1; have:=nc.2.2.1; have:=nd.2.2.1; omega
 have x26:dB aH H26 ⟨some ⟨H18.length,0,none⟩,3,3⟩ [xa,xb,xe]:=⟨rfl,.inr (.inr ⟨H18.length,[],[],_,_,_,rfl,r26⟩)⟩
 refine KFeatures.Yb (ake (up oa) (up ob) (up oe) ltA ltB ltE x26 hAD) fun H27 l27 fr27=>dI rfl ?_
 have keep:∀{s:Sl} {l sp:List Sg},Ow eU H12 s l sp->Ow eU H27 s l sp:=fun{s l sp} h=>by
  have h':=up h
  obtain⟨g1,g2,g0,g|⟨c,g3,g4⟩⟩:=id h'
  ·exact⟨g1,g2,g0,.inl g⟩
  ·refine⟨g1,g2,g0,.inr ⟨c,g3,?_⟩⟩
   rw[fr27 c (cZ g4) fun u hu=> ?_]
   ·exact g4
   ·simp at hu
    rcases hu with rfl|rfl|rfl
    ·exact oC h' (up oa) (by decide) c g3
    ·exact oC h' (up ob) (by decide) c g3
    ·exact oC h' (up oe) (by decide) c g3
 refine wG fun H28 r28 f28 l28=> ?_
 have up2:∀{s:Sl} {l sp:List Sg},Ow eU H12 s l sp->Ow eU H28 s l sp:=fun h=>(keep h).bP f28 (by simp[Sl.off])
 have x28:dB aH H28 ⟨some ⟨H27.length,0,none⟩,3,3⟩ [xc,xd,xf]:=⟨rfl,.inr (.inr ⟨H27.length,[],[],_,_,_,rfl,r28⟩)⟩
 have ltC:∀d,xc.p=some ⟨d,0,none⟩->d<Hc.length:=fun d e=>nc.1.lt e
 have ltD:∀d,xd.p=some ⟨d,0,none⟩->Hc.length≤d∧d<He.length:=fun d e=>⟨nd.2.1 d e,by have:=nd.1.lt e; have:=ne.2.2.1; omega⟩
 have ltF:∀d,xf.p=some ⟨d,0,none⟩->He.length≤d:=fun d e=>nf.2.1 d e
 have hCE:Hc.length≤He.length:=by have:=nd.2.2.1; have:=ne.2.2.1; omega
 exact KStandings.Yb (ake (up2 oc) (up2 od) (up2 of') ltC ltD ltF x28 hCE) fun H' _ _=>hj28 _ _ rfl
theorem ahQ{x:dG}{a:Sl}(h:Ld bY x∧SlX TC (fun x=>Ld TC x∧SlX TP (fun x=>Ld TP x) H x.Parts) H x.Cards∧SlX TM (fun x=>Ld TM x) H x.Marks)(g:SlX gX (fun x=>Ld gX x) H a):∃gs mks ts,akd H x a gs mks ts:=by
 obtain⟨_,⟨gs,c1,c2,_,c3⟩,⟨mks,m1,m2,_,_⟩⟩:=h
 obtain⟨ts,t1,t2,t3,t4⟩:=g
 exact⟨gs,mks,ts,c1,c2,fun g hg=>akz (c3 g hg),m1,m2,t1,t3.flat afA,fun t ht=>(aiY (t4 t ht (.int .i64 t.Stamp) (by simp))).2,t2⟩
theorem abP{x:dG}{a:Sl}(h:Ld bY x∧SlX TC (fun x=>Ld TC x∧SlX TP (fun x=>Ld TP x) H x.Parts) H x.Cards∧SlX TM (fun x=>Ld TM x) H x.Marks)(g:SlX gX (fun x=>Ld gX x) H a){k n:Int}:
  CALL P [ah] nG [bY.enc x,a.v,.int .i64 k,.int .i64 n] H fun x _=>x.1=true:=by
 obtain⟨gs,mks,ts,hin⟩:=ahQ h g
 exact af8 hin fun _=>rfl
end
end Go.Proofs.YtijnknjopjmiiaaGreatDoor.Zq
end
