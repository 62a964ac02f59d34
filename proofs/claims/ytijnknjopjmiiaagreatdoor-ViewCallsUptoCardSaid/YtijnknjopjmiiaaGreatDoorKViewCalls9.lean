/- Part 9 of the proof of ViewCalls: what its row stands on (lemmas about the model, the evaluator, contracts of functions), put together and cut to what is used. -/
import Derived.Test.YtijnknjopjmiiaaGreatDoorKViewCalls8
import Derived.KernelRfl
section
namespace Go.Proofs.YtijnknjopjmiiaaGreatDoor.Zq
open Zv
section
variable{H:Heap}{b m:Nat}{se:Bool}{B:List Cd}{ms:List au}{a1 a2 a3:Sl}{ts:List Tg}{fs:List Ft}{ol:List Int}{l:List Sg}
theorem wG{H:Heap}{c:List Value}{z:Nat}{K:Heap->Prop}(hk:∀H',H'[H.length]? =some (.row c z false false true)->bK [] H H'->H'.length=H.length+1->K H'):NEW H c z K:=by
 unfold NEW
 obtain⟨r,f,l⟩:=ajI H c z
 exact hk _ r f l
open Classical in
theorem ajP(h:BP m H b se B ms)(okB:rD B)(og:Jr B)(hs:dB gX H a1 ts)(fla:Flat H a1)(okt:∀t∈ts,t.Stamp≤9223372036854775807)(bts:ts.length≤1048600){Q:Sl×Int×Unit->Heap->Prop}(q1:∀s H',bD se B ts≠0->bK [] H H'->Q (s,bD se B ts,()) H')
  (q0:∀s H' sp,bD se B ts=0->se=true->ts.length≤2048->dn se B ts (Ol B ts)=0->sF ts->aW TF H s H' (Ol B ts) sp->Q (s,0,()) H'):CALL P [aH,dX] tV [.pointer (some ⟨b,0,none⟩),a1.v] H Q:=by
 apply P5
 unfold uz
 have hsl:=hs.1
 have bad:∀(r:Int) s H',r≠0->bD se B ts=r->bK [] H H'->Q (s,r,()) H':=fun r s H' hr he f=>by have:=q1 s H' (by rw[he]; exact hr) f; rwa [he]at this
 refine cu (fun q=> ?_) (fun hlen=> ?_)
 ·have e3:dn se B ts []=3:=by unfold dn; rw[if_pos (by omega)]
  have s3:bD se B ts=3:=by unfold bD; rw[if_pos (by omega)]
  refine abr h okB (⟨hs,⟨rfl,.inl ⟨rfl,rfl,rfl⟩⟩,fla,okt,by simp,bts⟩:Gv H a1 ⟨none,0,0⟩ ts []) (fun H' e f=> ?_) (fun H' e _ _=>absurd e (by rw[e3]; decide)) (fun _ _ _ _ _ _ e=>absurd e (by rw[e3]; decide))
  have:=bad 3 ⟨none,0,0⟩ H' (by decide) s3 f
  rw[e3]; exact this
 have ZT:∀H',bK [] H H'->(se=true->¬∀t∈ts,Jf B t)->Q (⟨none,0,0⟩,2,()) H':=fun H' f hn=>by
  refine bad 2 _ H' (by decide) ?_ f
  unfold bD
  rw[if_neg (by omega)]
  cases hse:se with
  |false=>rw[if_pos rfl]
  |true=>rw[if_neg (by decide),if_pos (hn hse)]
 refine JQ tyF (n:=ts.length) (m:=ts.length) (by rw[hsl]) (by rw[hsl]) (Nat.le_refl _) (by omega) fun s1 e1 n1=> ?_
 have p1:s1.p=some ⟨H.length,0,none⟩:=by rw[e1]
 have n1':aW TF H s1 (mk H (fl TF (List.replicate ts.length zF)) TF.n false) (List.replicate ts.length zF) []:=by simpa using n1
 generalize mk H (fl TF (List.replicate ts.length zF)) TF.n false=H1 at n1'
 refine aO (fun _ H'=>(∀t∈ts,se=true∧Jf B t)∧aW TF H s1 H' (ts.map (VE B)) []) (fun j hj=> ?_) ?_
 ·refine aY (fun(y:(Int×Unit)×Unit) H'=>∃(n:Nat) (cur:List Ft),y.1.1=n∧n≤ts.length∧aW TF H s1 H' cur []∧cur.length=ts.length∧(∀(i:Nat) t,i<n->ts[i]? =some t->cur[i]? =some (VE B t)∧se=true∧Jf B t)∧(∀i:Nat,n≤i->i<ts.length->cur[i]? =some zF)) (fun y=>ts.length-y.1.1.toNat) ?_
   ⟨0,_,rfl,Nat.zero_le _,n1',by simp,fun i t h=>by omega,fun i _ hi=>by rw[List.getElem?_replicate,if_pos hi]⟩
  rintro G ⟨⟨i,_⟩,_⟩ H2 ⟨n,cur,hi,hn,no,hcl,h1,h2⟩ hG
  simp only at hi; subst hi
  dsimp only at hG ⊢
  have f2:=no.2.2
  refine cu (fun hlt=> ?_) (fun hge=>hj _ _ ?_)
  ·have hlt:n<ts.length:=by omega
   have hx:ts[n]? =some ts[n]:=List.getElem?_eq_getElem hlt
   have hm:ts[n]∈ts:=List.getElem_mem hlt
   generalize ts[n]=t at hx hm
   have hs2:=hs.bP f2 (by simp)
   refine aZ (T:=gX) GX hs2 rfl hx rfl ?_
   refine ajM (h.new f2) okB (fun f e H3 he he1 nk f3=> ?_) fun H3 hse hok f3=>bC rfl (bC rfl ?_)
   ·exact bC (by simpa using he1) (dI (by simpa using he) (ZT _ (f2.trans f3) fun hs k=>nk hs (k t hm)))
   have no3:=no.new f3
   refine aO (fun _ H'=>∃cur',aW TF H s1 H' cur' []∧cur'.length=ts.length∧(∀(i:Nat) u,i<n+1->ts[i]? =some u->cur'[i]? =some (VE B u)∧se=true∧Jf B u)∧(∀i:Nat,n+1≤i->i<ts.length->cur'[i]? =some zF)) (fun j2 hj2=>eP (fun e4=> ?_) (fun e4=>hj2 _ _ ⟨cur,no3,hcl,fun i u w1 w2=> ?_,fun i w1 w2=>h2 i (by omega) w2⟩)) ?_
   ·refine no3.1.put (n:=n) KZ (fun x=>rfl) rfl (by omega) (prT B t) rfl fun c0 H6 hc0 o6 f6 l6=> ?_
    rw[p1]at hc0; cases hc0
    have ep:VE B t=prT B t:=by unfold VE; rw[if_pos e4]
    refine hj2 _ _ ⟨cur.set n (prT B t),⟨o6,no3.2.1,no3.2.2.then f6 fun d hd=>by simp at hd; subst hd; exact .inr (Nat.le_refl _)⟩,by simpa using hcl,fun i u w1 w2=> ?_,fun i w1 w2=> ?_⟩
    ·by_cases ei:i=n
     ·subst ei; rw[hx]at w2; cases w2
      rw[List.getElem?_set_self (by omega),ep]; exact⟨rfl,hse,hok⟩
     ·rw[List.getElem?_set_ne (fun q=>ei q.symm)]; exact h1 i u (by omega) w2
    ·rw[List.getElem?_set_ne (by omega)]; exact h2 i (by omega) w2
   ·by_cases ei:i=n
    ·subst ei; rw[hx]at w2; cases w2
     have ep:VE B t=zF:=by unfold VE; rw[if_neg e4]
     rw[ep]; exact⟨h2 i (Nat.le_refl _) hlt,hse,hok⟩
    ·exact h1 i u (by omega) w2
   ·rintro _ H4 ⟨cur',no4,c1,c2,c3⟩
    rw[bT (by omega) (by omega)]
    exact hG _ _ ⟨n+1,cur',by simp,hlt,no4,c1,c2,c3⟩ (by simp; omega)
  ·have:n=ts.length:=by omega
   subst this
   have ec:cur=ts.map (VE B):=by
    refine yZ (by simpa using hcl) fun i a c w1 w2 w3=> ?_
    have hit:ts[i]? =some (ts[i]'(by omega)):=List.getElem?_eq_getElem (by omega)
    have:=(h1 i _ (by omega) hit).1
    rw[List.getElem?_map,hit]at w3
    rw[this]at w2
    simp at w3
    cases w2; exact w3
   subst ec
   refine⟨fun t ht=> ?_,no⟩
   obtain⟨i,hi⟩:=List.mem_iff_getElem?.1 ht
   exact(h1 i t (List.getElem?_eq_some_iff.1 hi).1 hi).2
 ·rintro _ H3 ⟨hok,n3⟩
  have n3:aW TF H s1 H3 (Ol B ts) []:=n3
  have f3:=n3.2.2
  have gv3:Gv H3 a1 s1 ts (Ol B ts):=⟨hs.bP f3 (by simp),n3.1.jH,fla.bP f3,okt,fun f hf=>by
   obtain⟨t,_,rfl⟩:=List.mem_map.1 hf
   exact afv og t,bts⟩
  have est:bD se B ts=if dn se B ts (Ol B ts)≠0 then dn se B ts (Ol B ts)else if ¬sF ts then 2 else 0:=by
   unfold bD
   rw[if_neg (by omega)]
   cases hse:se with
   |false=>
    rw[if_pos rfl]
    have:dn false B ts (Ol B ts)=2:=by unfold dn; rw[if_neg (by omega),if_pos (.inl rfl)]
    rw[this,if_pos (by decide)]
   |true=>rw[if_neg (by decide),if_neg (fun k=>k fun t ht=>(hok t ht).2)]
  refine abr (h.new f3) okB gv3 (fun H4 e f=>dI (by simpa using e) (bad _ _ _ e (by rw[est,if_pos e]) (f3.trans f))) (fun H4 _ hk _=>by omega) fun s r ol H8 sp sr e0 _ _ _ n8 _ _=>bC rfl ?_
  obtain⟨e1,e2,e3,e4⟩:=iM (e:=e0)
  have f8:=f3.trans n8.2.2
  have n8':=n3.new n8.2.2
  refine aO (fun _ H'=>bK [] H8 H'∧sF ts) (fun j16 hj16=> ?_) (fun _ H' hh=>q0 s1 H' [] (by rw[est,if_neg (by simpa using e0),if_neg (fun q=>q hh.2)]) e1 e3 e0 hh.2 (n8'.new hh.1))
  refine aY (fun(y:(Int×Unit)×Unit) H'=>bK [] H8 H'∧∃n:Nat,y.1.1=n∧n≤ts.length∧∀(i:Nat) t,i<n->ts[i]? =some t->t.Place=4->uX t.Marks) (fun y=>ts.length-y.1.1.toNat) ?_ ⟨.refl _ _,0,rfl,Nat.zero_le _,fun i t h=>by omega⟩
  rintro G ⟨⟨i,_⟩,_⟩ H10 ⟨f10,n,hi,hn,inv⟩ hG
  simp only at hi; subst hi
  dsimp only at hG ⊢
  refine cu (fun hlt=> ?_) (fun hge=>hj16 _ _ ⟨f10,fun t ht hp=> ?_⟩)
  ·have hlt:n<ts.length:=by omega
   have hx:ts[n]? =some ts[n]:=List.getElem?_eq_getElem hlt
   have hxm:=List.getElem_mem hlt
   generalize ts[n]=v at hx hxm
   have f010:=f8.trans f10
   refine aZ (T:=gX) GX (hs.bP f010 (by simp)) rfl hx rfl ?_
   obtain⟨vc,vo,vp,vs,vh,⟨m1,m2,m3,m4⟩,vd,vf⟩:=v
   refine wG fun H11 r11 f11 l11=> ?_
   refine qE [] [.int .i64 0,.int .i64 0,.int .u8 0,.int .i64 0,.int .i64 0,.int .i64 0,.int .i64 0,.int .i64 0,.int .i64 0,.int .i64 0,.bool false] [] r11 rfl rfl rfl rfl ?_
   have r12:(H11.set H10.length (.row ([]++(gX.cells (⟨vc,vo,vp,vs,vh,(m1,m2,m3,m4),vd,vf⟩:Tg)++[])) 11 false false true))[H10.length]? =some (.row (gX.cells (⟨vc,vo,vp,vs,vh,(m1,m2,m3,m4),vd,vf⟩:Tg)) 11 false false true):=by rw[List.getElem?_set_self (by omega),List.nil_append,List.append_nil]
   have f12:bK [] H10 (H11.set H10.length (.row ([]++(gX.cells (⟨vc,vo,vp,vs,vh,(m1,m2,m3,m4),vd,vf⟩:Tg)++[])) 11 false false true)):=f11.then (bK.set (B:=[H10.length]) _ _ (by simp)) fun d hd=>by simp at hd; subst hd; exact .inr (Nat.le_refl _)
   generalize H11.set H10.length (.row ([]++(gX.cells (⟨vc,vo,vp,vs,vh,(m1,m2,m3,m4),vd,vf⟩:Tg)++[])) 11 false false true)=H12 at r12 f12
   refine aO (fun(y:(Bool×Unit)×Unit) H'=>H'=H12∧(y.1.1=true↔(vp=4∧¬uX (m1,m2,m3,m4)))) (fun j23 hj23=> ?_) ?_
   ·refine dV (T:=aj .u8) vp [.int .i64 vc,.int .i64 vo] [.int .i64 vs,.int .i64 vh,.int .i64 m1,.int .i64 m2,.int .i64 m3,.int .i64 m4,.int .i64 vd,.bool vf] r12 rfl rfl rfl ?_
    refine eP (fun e4=> ?_) (fun e4=>hj23 _ _ ⟨rfl,by simp[e4]⟩)
    have sl:dB dX H12 ⟨some ⟨H10.length,5,none⟩,4,4⟩ [m1,m2,m3,m4]:=⟨rfl,.inr (.inr ⟨H10.length,[.int .i64 vc,.int .i64 vo,.int .u8 vp,.int .i64 vs,.int .i64 vh],[.int .i64 vd,.bool vf],_,_,_,rfl,r12⟩)⟩
    have key:uX (m1,m2,m3,m4)↔∀x∈[m1,m2,m3,m4],0≤x∧x≤99:=by
     unfold uX
     constructor
     ·intro w
      have w0:=w 0 (by omega); have w1:=w 1 (by omega); have w2:=w 2 (by omega); have w3:=w 3 (by omega)
      intro x hx
      simp at hx
      rcases hx with rfl|rfl|rfl|rfl
      ·exact w0
      ·exact w1
      ·exact w2
      ·exact w3
     ·intro w n hn
      have:n=0∨n=1∨n=2∨n=3:=by omega
      rcases this with rfl|rfl|rfl|rfl
      ·exact w m1 (by simp)
      ·exact w m2 (by simp)
      ·exact w m3 (by simp)
      ·exact w m4 (by simp)
    refine⟨⟨some ⟨H10.length,5,none⟩,4,4⟩,rfl,?_⟩
    refine ajN sl (by simp) (by simp) fun r hr1 hr2=>cu (fun w=>hj23 _ _ ⟨rfl,?_⟩) (fun w=> ?_)
    ·simp only[true_iff]
     exact⟨e4,fun q=>by have:=(key.1 q r hr1).1; omega⟩
    ·refine⟨⟨some ⟨H10.length,5,none⟩,4,4⟩,rfl,?_⟩
     refine ajO sl (by simp) (by simp) fun q hq1 hq2=>hj23 _ _ ⟨rfl,?_⟩
     simp only[decide_eq_true_eq]
     constructor
     ·exact fun w2=>⟨e4,fun k=>by have:=(key.1 k q hq1).2; omega⟩
     ·rintro⟨_,k⟩
      refine Classical.byContradiction fun w2=>k (key.2 fun x hx=> ?_)
      have h1:=hr2 x hx
      have h2:=hq2 x hx
      omega
   ·rintro⟨⟨r,_⟩,_⟩ H13 ⟨rfl,hr⟩
    dsimp only at hr ⊢
    refine bG (fun w=>bad 2 _ _ (by decide) ?_ (f010.trans f12)) (fun w=> ?_)
    ·have q:=hr.1 w
     rw[est,if_neg (by simpa using e0),if_pos (fun k=>q.2 (k _ hxm q.1))]
    ·rw[bT (by omega) (by omega)]
     refine hG _ _ ⟨f10.trans f12,n+1,by simp,hlt,fun i u w1 w2 w3=> ?_⟩ (by simp; omega)
     by_cases ei:i=n
     ·subst ei; rw[hx]at w2; cases w2
      refine Classical.byContradiction fun k=> ?_
      have w:r=false:=w
      rw[hr.2 ⟨w3,k⟩]at w; cases w
     ·exact inv i u (by omega) w2 w3
  ·obtain⟨i,hi⟩:=List.mem_iff_getElem?.1 ht
   exact inv i t (by have:=(List.getElem?_eq_some_iff.1 hi).1; omega) hi hp
theorem ajQ(h:BP m H b se B ms)(hs:dB gX H a1 ts)(hf:dB TF H a2 fs)(hfe:fs.length=ts.length)(hlen:ts.length≤2048){Q:Sl×Unit->Heap->Prop}(hq:∀s H' sp,aW TF H s H' (Jg ms ts fs) sp->Q (s,()) H'):CALL P [aH] wR [.pointer (some ⟨b,0,none⟩),a1.v,a2.v] H Q:=by
 apply SY
 unfold xM
 have hsl:=hs.1
 have hfl:=hf.1
 refine JQ tyF (n:=ts.length) (m:=ts.length) (by rw[hfl,hfe]) (by rw[hfl,hfe]) (Nat.le_refl _) (by omega) fun s1 e1 n1=> ?_
 have p1:s1.p=some ⟨H.length,0,none⟩:=by rw[e1]
 have n1':aW TF H s1 (mk H (fl TF (List.replicate ts.length zF)) TF.n false) (List.replicate ts.length zF) []:=by simpa using n1
 generalize mk H (fl TF (List.replicate ts.length zF)) TF.n false=H1 at n1'
 refine aO (fun _ H'=>aW TF H s1 H' (Jg ms ts fs) []) (fun j hj=> ?_) (fun _ H' hh=>hq _ _ _ hh)
 refine aY (fun(y:(Int×Unit)×Unit) H'=>∃(n:Nat) (cur:List Ft),y.1.1=n∧n≤ts.length∧aW TF H s1 H' cur []∧cur.length=ts.length∧(∀(i:Nat) t f,i<n->ts[i]? =some t->fs[i]? =some f->cur[i]? =some (mkT ms t f))∧(∀i:Nat,n≤i->i<ts.length->cur[i]? =some zF)) (fun y=>ts.length-y.1.1.toNat) ?_
  ⟨0,_,rfl,Nat.zero_le _,n1',by simp,fun i t f h=>by omega,fun i _ hi=>by rw[List.getElem?_replicate,if_pos hi]⟩
 rintro G ⟨⟨i,_⟩,_⟩ H2 ⟨n,cur,hi,hn,no,hcl,h1,h2⟩ hG
 simp only at hi; subst hi
 dsimp only at hG ⊢
 have f2:=no.2.2
 refine cu (fun hlt=> ?_) (fun hge=>hj _ _ ?_)
 ·have hlt:n<ts.length:=by omega
  have hx:ts[n]? =some ts[n]:=List.getElem?_eq_getElem hlt
  have hy:fs[n]? =some (fs[n]'(by omega)):=List.getElem?_eq_getElem (by omega)
  generalize ts[n]=t at hx
  generalize (fs[n]'(by omega))=f at hy
  have hs2:=hs.bP f2 (by simp)
  have hf2:=hf.bP f2 (by simp)
  refine aZ (T:=gX) GX hs2 rfl hx rfl ?_
  refine aO (fun _ H'=>∃cur',aW TF H s1 H' cur' []∧cur'.length=ts.length∧(∀(i:Nat) t f,i<n+1->ts[i]? =some t->fs[i]? =some f->cur'[i]? =some (mkT ms t f))∧(∀i:Nat,n+1≤i->i<ts.length->cur'[i]? =some zF)) (fun j2 hj2=>eP (fun e4=> ?_) (fun e4=>hj2 _ _ ⟨cur,no,hcl,fun i u g w1 w2 w3=> ?_,fun i w1 w2=>h2 i (by omega) w2⟩)) ?_
  ·have put:∀(g:Ft),g=mkT ms t f->bQ s1.p s1.len (n:Int) 5 fun b18 o19=>ST H2 b18 o19 (TF.cells g) fun H6=>j2 ((),()) H6:=fun g eg=>by
    refine no.1.put (n:=n) KZ (fun x=>rfl) rfl (by omega) g rfl fun c0 H6 hc0 o6 f6 l6=> ?_
    rw[p1]at hc0; cases hc0
    refine hj2 _ _ ⟨cur.set n g,⟨o6,no.2.1,no.2.2.then f6 fun d hd=>by simp at hd; subst hd; exact .inr (Nat.le_refl _)⟩,by simpa using hcl,fun i u g' w1 w2 w3=> ?_,fun i w1 w2=> ?_⟩
    ·by_cases ei:i=n
     ·subst ei; rw[hx]at w2; cases w2; rw[hy]at w3; cases w3
      rw[List.getElem?_set_self (by omega),eg]
     ·rw[List.getElem?_set_ne (fun q=>ei q.symm)]; exact h1 i u g' (by omega) w2 w3
    ·rw[List.getElem?_set_ne (by omega)]; exact h2 i (by omega) w2
   refine aZ (T:=TF) KZ hf2 rfl hy rfl (ajL (h.new f2) (fun nk=>put _ ?_) (fun ok=>put _ ?_))
   ·unfold mkT; rw[if_neg (fun q=>nk q.2)]
   ·unfold mkT; rw[if_pos ⟨e4,ok⟩]
  ·by_cases ei:i=n
   ·subst ei; rw[hx]at w2; cases w2
    have ep:mkT ms t g=zF:=by unfold mkT; rw[if_neg (fun q=>e4 q.1)]
    rw[ep]; exact h2 i (Nat.le_refl _) hlt
   ·exact h1 i u g (by omega) w2 w3
  ·rintro _ H4 ⟨cur',no4,c1,c2,c3⟩
   rw[bT (by omega) (by omega)]
   exact hG _ _ ⟨n+1,cur',by simp,hlt,no4,c1,c2,c3⟩ (by simp; omega)
 ·have:n=ts.length:=by omega
  subst this
  have ec:cur=Jg ms ts fs:=by
   refine yZ (by unfold Jg; rw[List.length_zipWith]; omega) fun i a c w1 w2 w3=> ?_
   have hit:ts[i]? =some (ts[i]'(by omega)):=List.getElem?_eq_getElem (by omega)
   have hif:fs[i]? =some (fs[i]'(by omega)):=List.getElem?_eq_getElem (by omega)
   have:=h1 i _ _ (by omega) hit hif
   unfold Jg at w3
   rw[List.getElem?_zipWith,hit,hif]at w3
   rw[this]at w2
   simp at w3
   cases w2; exact w3
  subst ec; exact no
end
end Go.Proofs.YtijnknjopjmiiaaGreatDoor.Zq
end
section
namespace Go.Proofs.YtijnknjopjmiiaaGreatDoor.Zq
open Zv
section
variable{H:Heap}{b m:Nat}{se:Bool}{B:List Cd}{ms:List au}{a1 a2 a3:Sl}{ts:List Tg}{fs:List Ft}{ol:List Int}{l:List Sg}
noncomputable def vF(ms:List au)(B:List Cd)(ts:List Tg)(ol:List Int)(n:Nat):List Ft:=if n≤5 then mZ B ts ol n else Jg ms ts (mZ B ts ol 5)
def je(B:List Cd)(ts:List Tg)(ol:List Int)(n:Nat):List Sg:=sD B ts (mZ B ts ol n) ol ((n:Int)+1)
def Ri(B:List Cd)(ts:List Tg)(ol:List Int)(n i:Nat):List Ft×List Sg×List Sg:=eG B ts ol (mZ B ts ol n) (je B ts ol n) i
def sI(B:List Cd)(ts:List Tg)(ol:List Int)(n i:Nat):Sg:=yX (Ri B ts ol n i).2.1 (FH B ts ol (mZ B ts ol n) (je B ts ol n) i)
def vS(B:List Cd)(ts:List Tg)(ol:List Int)(n:Nat):List Sg:=if n<5 then(Ri B ts ol n (je B ts ol n).length).2.2 else []
def jw(B:List Cd)(ts:List Tg)(ol:List Int):Nat->List Sg
 |0=>[]
 |n+1=>jw B ts ol n++vS B ts ol n
def NY(B:List Cd)(ts:List Tg)(ol:List Int)(q:Int)(n:Nat):Nat->List Sg
 |0=>[]
 |i+1=>NY B ts ol q n i++if q∈fB B ts (Ri B ts ol n i).1 ol (sI B ts ol n i)then [sI B ts ol n i]else []
def Bc(B:List Cd)(ts:List Tg)(ol:List Int)(q:Int):Nat->List Sg
 |0=>[]
 |n+1=>Bc B ts ol q n++NY B ts ol q n (je B ts ol n).length
structure Wk(H:Heap)(b:Nat)(a1:Sl)(c0 c1 c2 c3 n:Nat)(x:Sl):Prop where
 k:H[c0]? =some (.row [.int .i64 (n:Int)] 1 false false true)
 f:H[c1]? =some (.row [x.v] 1 false false true)
 p:H[c2]? =some (.row [.pointer (some ⟨b,0,none⟩)] 1 false false true)
 t:H[c3]? =some (.row [a1.v] 1 false false true)
 n1:c0≠c1
 n2:c0≠c2
 n3:c0≠c3
 n4:c1≠c2
 n5:c1≠c3
theorem Wk.new{H':Heap}{c0 c1 c2 c3 n:Nat}{x:Sl}(w:Wk H b a1 c0 c1 c2 c3 n x)(f:bK [] H H'):Wk H' b a1 c0 c1 c2 c3 n x:=
 ⟨f.get (by simp) w.k,f.get (by simp) w.f,f.get (by simp) w.p,f.get (by simp) w.t,w.n1,w.n2,w.n3,w.n4,w.n5⟩
theorem Wk.ajR{c0 c1 c2 c3 n:Nat}{x x':Sl}(w:Wk H b a1 c0 c1 c2 c3 n x){K:Heap->Prop}(hk:∀H',Wk H' b a1 c0 c1 c2 c3 n x'->bK [c1] H H'->K H'):ST H c1 0 [x'.v] K:=by
 refine qE [] [x.v] [] w.f rfl rfl rfl rfl (hk _ ⟨?_,?_,?_,?_,w.n1,w.n2,w.n3,w.n4,w.n5⟩ (bK.set _ _ (by simp)))
 ·rw[List.getElem?_set_ne (fun e=>w.n1 e.symm)]; exact w.k
 ·rw[fV (cZ w.f)]; rfl
 ·rw[List.getElem?_set_ne w.n4]; exact w.p
 ·rw[List.getElem?_set_ne w.n5]; exact w.t
theorem Wk.akA{c0 c1 c2 c3 n:Nat}{x:Sl}(w:Wk H b a1 c0 c1 c2 c3 n x){K:Heap->Prop}(hk:∀H',Wk H' b a1 c0 c1 c2 c3 (n+1) x->bK [c0] H H'->K H'):ST H c0 0 [.int .i64 ((n:Int)+1)] K:=by
 refine qE [] [.int .i64 (n:Int)] [] w.k rfl rfl rfl rfl (hk _ ⟨?_,?_,?_,?_,w.n1,w.n2,w.n3,w.n4,w.n5⟩ (bK.set _ _ (by simp)))
 ·rw[fV (cZ w.k)]; rfl
 ·rw[List.getElem?_set_ne w.n1]; exact w.f
 ·rw[List.getElem?_set_ne w.n2]; exact w.p
 ·rw[List.getElem?_set_ne w.n3]; exact w.t
theorem XP{H0:Heap}(h:BP m H0 b true B ms)(okB:rD B)(og:Jr B)(hs:dB gX H0 a1 ts)(fla:Flat H0 a1)(okt:∀t∈ts,t.Stamp≤9223372036854775807)(e0:dn true B ts (Ol B ts)=0)(ot:iU B ts ol)(f0:bK [] H0 H){c0 c1 c2 c3 n:Nat}{x:Sl}{sp:List Ft}(w:Wk H b a1 c0 c1 c2 c3 n x)(hn:n≤6)(hx:Ow TF H x (vF ms B ts ol n) sp)(lo0:H0.length≤c0)(lo1:H0.length≤c1)(xl:∀d,x.p=some ⟨d,0,none⟩->d≠c0∧d≠c1){Q:Sl×Sl×Unit->Heap->Prop}
  (hq:∀x' l' H' sp' sl,Wk H' b a1 c0 c1 c2 c3 (n+1) x'->Ow TF H' x' (vF ms B ts ol (n+1)) sp'->(∀d,x'.p=some ⟨d,0,none⟩->d≠c0∧d≠c1)->Ow TF H' x (vF ms B ts ol n) sp->Ow eU H' l' (vS B ts ol n) sl->(∀d,l'.p=some ⟨d,0,none⟩->H.length≤d)->bK [c0,c1] H H'->Q (x,l',()) H'):
  CALL P [aH,aH] jI [.pointer (some ⟨c0,0,none⟩),.pointer (some ⟨c1,0,none⟩),.pointer (some ⟨c2,0,none⟩),.pointer (some ⟨c3,0,none⟩)] H Q:=by
 refine SS (c0:=(c0,0)) (c1:=(c1,0)) (c2:=(c2,0)) (c3:=(c3,0)) ?_
 unfold xK
 obtain⟨_,_,hl2,_⟩:=iM (e:=e0)
 refine dV (T:=dX) (n:Int) [] [] w.k rfl rfl rfl ?_
 rw[bT (by omega) (by omega)]
 refine w.akA fun H1 w1 fr1=> ?_
 have f01:bK [] H0 H1:=f0.then fr1 fun d hd=>by simp at hd; subst hd; exact .inr lo0
 have hx1:Ow TF H1 x (vF ms B ts ol n) sp:=hx.bP fr1 fun d hd e=>by simp at hd; subst hd; exact(xl _ e).1 rfl
 have g1:bK [c0,c1] H H1:=fr1.mono fun d hd=>by simp at hd; simp[hd]
 have l1:=fr1.1
 refine dV (T:=aH) x [] [] w1.f rfl rfl rfl (dV (T:=dX) ((n:Int)+1) [] [] w1.k rfl rfl rfl ?_)
 have hc0:=cZ w1.k
 have hc1:=cZ w1.f
 refine aO (fun(y:(Sl×Unit)×Unit) H'=>∃x' sp' sl,Wk H' b a1 c0 c1 c2 c3 (n+1) x'∧Ow TF H' x' (vF ms B ts ol (n+1)) sp'∧(∀d,x'.p=some ⟨d,0,none⟩->d≠c0∧d≠c1)∧Ow TF H' x (vF ms B ts ol n) sp∧Ow eU H' y.1.1 (vS B ts ol n) sl∧(∀d,y.1.1.p=some ⟨d,0,none⟩->H.length≤d)∧bK [c0,c1] H H') (fun j4 hj4=> ?_) (fun y H' hh=>by obtain⟨x',sp',sl,p1,p2,p3,p4,p5,p6,p7⟩:=hh; exact hq x' _ H' sp' sl p1 p2 p3 p4 p5 p6 p7)
 refine cu (fun h5=> ?_) (fun h5=> ?_)
 ·have h5:n<5:=by omega
  have evF:vF ms B ts ol n=mZ B ts ol n:=by unfold vF; rw[if_pos (by omega)]
  have evF1:vF ms B ts ol (n+1)=mZ B ts ol (n+1):=by unfold vF; rw[if_pos (by omega)]
  have jn:=Ba og e0 ot n
  have cn:=jn.dn e0
  have gv:Gv H1 a1 x ts (mZ B ts ol n):=⟨hs.bP f01 (by simp),evF▸hx1.jH,fla.bP f01,okt,jn.nn,by omega⟩
  refine dV (T:=fG) (some ⟨b,0,none⟩) [] [] w1.p rfl rfl rfl (dV (T:=aH) a1 [] [] w1.t rfl rfl rfl (dV (T:=aH) x [] [] w1.f rfl rfl rfl (dV (T:=dX) ((n:Int)+1) [] [] w1.k rfl rfl rfl ?_)))
  refine abr (h.new f01) okB gv (fun _ e _=>absurd cn e) (fun _ _ hk _=>by omega) fun s r ol' H3 sp3 sr _ _ _ ot' nf ns hd=> ?_
  have:=ot'.uniq ot; subst this
  have f13:=nf.2.2
  have w3:=w1.new f13
  have hx3:Ow TF H3 x (vF ms B ts ol' n) sp:=hx1.bP f13 (by simp[Sl.off])
  refine w3.ajR (x':=s) fun H4 w4 fr4=>hj4 _ _ ⟨s,sp3,sr,w4,?_,fun d e=> ?_,?_,?_,fun d e=> ?_,?_⟩
  ·rw[evF1]
   exact nf.1.bP fr4 fun d hd e=>by simp at hd; subst hd; have:=nf.2.1 _ e; omega
  ·have:=nf.2.1 d e
   constructor<;>omega
  ·exact hx3.bP fr4 fun d hd e=>by simp at hd; subst hd; exact(xl _ e).2 rfl
  ·unfold vS; rw[if_pos h5]
   exact ns.1.bP fr4 fun d hd e=>by simp at hd; subst hd; have:=ns.2.1 _ e; omega
  ·have:=ns.2.1 d e; omega
  ·exact(g1.trans (f13.mono (by simp))).trans (fr4.mono fun d hd=>by simp at hd; simp[hd])
 ·have evS:vS B ts ol n=[]:=by unfold vS; rw[if_neg (by omega)]
  refine dV (T:=dX) ((n:Int)+1) [] [] w1.k rfl rfl rfl ?_
  refine aO (fun _ H'=>∃x' sp',Wk H' b a1 c0 c1 c2 c3 (n+1) x'∧Ow TF H' x' (vF ms B ts ol (n+1)) sp'∧(∀d,x'.p=some ⟨d,0,none⟩->d≠c0∧d≠c1)∧Ow TF H' x (vF ms B ts ol n) sp∧bK [c0,c1] H H') (fun j12 hj12=>eP (fun e6=> ?_) (fun e6=> ?_)) ?_
  ·have n5:n=5:=by omega
   subst n5
   have evF:vF ms B ts ol 5=mZ B ts ol 5:=by unfold vF; rw[if_pos (by omega)]
   have evF1:vF ms B ts ol (5+1)=Jg ms ts (mZ B ts ol 5):=by unfold vF; rw[if_neg (by omega)]
   have jn:=Ba og e0 ot 5
   refine dV (T:=fG) (some ⟨b,0,none⟩) [] [] w1.p rfl rfl rfl (dV (T:=aH) a1 [] [] w1.t rfl rfl rfl (dV (T:=aH) x [] [] w1.f rfl rfl rfl ?_))
   refine ajQ (h.new f01) (hs.bP f01 (by simp)) (evF▸hx1.jH) jn.len hl2 fun s H3 sp3 nf=> ?_
   have f13:=nf.2.2
   have w3:=w1.new f13
   have hx3:Ow TF H3 x (vF ms B ts ol 5) sp:=hx1.bP f13 (by simp[Sl.off])
   refine w3.ajR (x':=s) fun H4 w4 fr4=>hj12 _ _ ⟨s,sp3,w4,?_,fun d e=> ?_,?_,?_⟩
   ·rw[evF1]
    exact nf.1.bP fr4 fun d hd e=>by simp at hd; subst hd; have:=nf.2.1 _ e; omega
   ·have:=nf.2.1 d e
    constructor<;>omega
   ·exact hx3.bP fr4 fun d hd e=>by simp at hd; subst hd; exact(xl _ e).2 rfl
   ·exact(g1.trans (f13.mono (by simp))).trans (fr4.mono fun d hd=>by simp at hd; simp[hd])
  ·have n6:n=6:=by omega
   subst n6
   have e7:vF ms B ts ol (6+1)=vF ms B ts ol 6:=by unfold vF; rw[if_neg (by omega),if_neg (by omega)]
   exact hj12 _ _ ⟨x,sp,w1,by rw[e7]; exact hx1,xl,hx1,g1⟩
  ·rintro _ H5 ⟨x',sp',p1,p2,p3,p4,p5⟩
   exact hj4 _ _ ⟨x',sp',[],p1,p2,p3,p4,by rw[evS]; exact Ow.nil eU H5,by simp,p5⟩
theorem abu(h:BP m H b se B ms)(okB:rD B)(og:Jr B)(hs:dB gX H a1 ts)(fla:Flat H a1)(okt:∀t∈ts,t.Stamp≤9223372036854775807)(bts:ts.length≤1048600){Q:Value×Int×Unit->Heap->Prop}(q1:∀v H',bD se B ts≠0->bK [] H H'->Q (v,bD se B ts,()) H')
  (q0:∀c0 c1 c2 c3 x sp H',bD se B ts=0->se=true->ts.length≤2048->dn se B ts (Ol B ts)=0->sF ts->Wk H' b a1 c0 c1 c2 c3 0 x->Ow TF H' x (Ol B ts) sp->(∀d,x.p=some ⟨d,0,none⟩->d≠c0∧d≠c1)->H.length≤c0->H.length≤c1->bK [] H H'->Q (.func (.func jI) #[] #[.pointer (some ⟨c0,0,none⟩),.pointer (some ⟨c1,0,none⟩),.pointer (some ⟨c2,0,none⟩),.pointer (some ⟨c3,0,none⟩)],0,()) H'):
  CALL P [vX,dX] qG [.pointer (some ⟨b,0,none⟩),a1.v] H Q:=by
 apply Y8
 unfold Dn
 refine wG fun H1 r1 f1 l1=>wG fun H2 r2 f2 l2=> ?_
 have f02:=f1.trans f2
 refine dV (T:=fG) (some ⟨b,0,none⟩) [] [] (f2.get (by simp) r1) rfl rfl rfl (dV (T:=aH) a1 [] [] r2 rfl rfl rfl ?_)
 have tail:∀(e:Int) (x3:Sl) (H3:Heap),bK [] H2 H3->(∀c0 c1 H',H3.length≤c0->H3.length≤c1->Wk H' b a1 c0 c1 H.length H1.length 0 x3->bK [] H3 H'->Q (.func (.func jI) #[] #[.pointer (some ⟨c0,0,none⟩),.pointer (some ⟨c1,0,none⟩),.pointer (some ⟨H.length,0,none⟩),.pointer (some ⟨H1.length,0,none⟩)],e,()) H')->NEW H3 [(.slice none 0 0)] 1 fun H4=>ST H4 H3.length 0 [(.slice x3.p x3.len x3.cap)] fun H5=>NEW H5 [(.int .i64 0)] 1 fun H6=>ST H6 H5.length 0 [(.int .i64 0)] fun H7=>Q ((.func (.func jI) #[] #[(.pointer (some ⟨H5.length,0,none⟩)),(.pointer (some ⟨H3.length,0,none⟩)),(.pointer (some ⟨H.length,0,none⟩)),(.pointer (some ⟨H1.length,0,none⟩))]),e,()) H7:=fun e x3 H3 f3 hq=>by
  refine wG fun H4 r4 f4 l4=> ?_
  refine qE [] [(.slice none 0 0)] [] r4 rfl rfl rfl rfl ?_
  have r5:(H4.set H3.length (.row ([]++([(.slice x3.p x3.len x3.cap)]++[])) 1 false false true))[H3.length]? =some (.row [x3.v] 1 false false true):=by rw[List.getElem?_set_self (by omega)]; rfl
  have f5:bK [] H3 (H4.set H3.length (.row ([]++([(.slice x3.p x3.len x3.cap)]++[])) 1 false false true)):=f4.then (bK.set (B:=[H3.length]) _ _ (by simp)) fun d hd=>by simp at hd; subst hd; exact .inr (Nat.le_refl _)
  have l5:(H4.set H3.length (.row ([]++([(.slice x3.p x3.len x3.cap)]++[])) 1 false false true)).length=H3.length+1:=by simp[l4]
  generalize H4.set H3.length (.row ([]++([(.slice x3.p x3.len x3.cap)]++[])) 1 false false true)=H5 at r5 f5 l5
  refine wG fun H6 r6 f6 l6=> ?_
  refine qE [] [(.int .i64 0)] [] r6 rfl rfl rfl rfl ?_
  have r7:(H6.set H5.length (.row ([]++([(.int .i64 0)]++[])) 1 false false true))[H5.length]? =some (.row [.int .i64 ((0:Nat):Int)] 1 false false true):=by rw[List.getElem?_set_self (by omega)]; rfl
  have f7:bK [] H5 (H6.set H5.length (.row ([]++([(.int .i64 0)]++[])) 1 false false true)):=f6.then (bK.set (B:=[H5.length]) _ _ (by simp)) fun d hd=>by simp at hd; subst hd; exact .inr (Nat.le_refl _)
  generalize H6.set H5.length (.row ([]++([(.int .i64 0)]++[])) 1 false false true)=H7 at r7 f7
  have f37:=f5.trans f7
  have l3:=f3.1
  exact hq _ _ H7 (by omega) (Nat.le_refl _) ⟨r7,f7.get (by simp) r5,(f3.trans f37).get (by simp) (f2.get (by simp) r1),(f3.trans f37).get (by simp) r2,by omega,by omega,by omega,by omega,by omega⟩ f37
 refine ajP (h.new f02) okB og (hs.bP f02 (by simp)) (fla.bP f02) okt bts (fun s H3 e f3=> ?_) fun s H3 sp e e1 e2 e3 e4 n3=> ?_
 ·exact tail _ s H3 f3 fun c0 c1 H' _ _ _ f7=>q1 _ _ e ((f02.trans f3).trans f7)
 ·have f3:=n3.2.2
  refine tail 0 s H3 f3 fun c0 c1 H' h0 h1 w f7=>q0 c0 c1 _ _ s sp H' e e1 e2 e3 e4 w (n3.1.bP f7 (by simp[Sl.off])) (fun d e=> ?_) (by have:=f02.1; have:=f3.1; omega) (by have:=f02.1; have:=f3.1; omega) ((f02.trans f3).trans f7)
  have:=n3.1.lt e
  constructor<;>omega
theorem vF0:vF ms B ts ol 0=Ol B ts:=by unfold vF; rw[if_pos (by omega)]; rfl
theorem XQ(og:Jr B)(e0:dn true B ts (Ol B ts)=0)(ot:iU B ts ol)(n:Nat):(vF ms B ts ol n).length=ts.length:=by
 unfold vF
 split
 ·exact(Ba og e0 ot n).len
 ·unfold Jg; rw[List.length_zipWith,(Ba og e0 ot 5).len,Nat.min_self]
theorem afC(h:BP m H b se B ms)(okB:rD B)(og:Jr B)(hs:dB gX H a1 ts)(fla:Flat H a1)(okt:∀t∈ts,t.Stamp≤9223372036854775807)(bts:ts.length≤1048600){k:Int}{Q:Sl×Int×Unit->Heap->Prop}(q1:∀H',bD se B ts≠0->bK [] H H'->Q (⟨none,0,0⟩,bD se B ts,()) H')(q2:∀H',bD se B ts=0->(k<0∨6<k)->bK [] H H'->Q (⟨none,0,0⟩,2,()) H')
  (q0:∀s ol H' sp,bD se B ts=0->se=true->dn se B ts (Ol B ts)=0->sF ts->iU B ts ol->0≤k->k≤6->aW TF H s H' (vF ms B ts ol k.toNat) sp->Q (s,0,()) H'):CALL P [aH,dX] lK [.pointer (some ⟨b,0,none⟩),a1.v,.int .i64 k] H Q:=by
 apply RY
 unfold xC
 refine abu h okB og hs fla okt bts (fun v H' e f=>dI (by simpa using e) (q1 H' e f)) fun c0 c1 c2 c3 x sp H1 es hse e2 e3 e4 w hx xl lo0 lo1 f1=>bC rfl ?_
 subst hse
 obtain⟨ol,ot⟩:=D7 okB e3
 refine hJ (k<0∨6<k) (fun j hj=>cu (fun e=>hj _ (by simp; omega)) (fun e=>hj _ (by simp; omega))) (fun c=>q2 _ es c f1) (fun c=> ?_)
 have fr2:∀{H' H'':Heap},bK [] H H'->bK [c0,c1] H' H''->bK [] H H'':=fun f g=>f.then g fun d hd=>by simp at hd; rcases hd with rfl|rfl; exact .inr lo0; exact .inr lo1
 refine .inl ⟨_,#[],_,rfl,?_⟩
 refine XP h okB og hs fla okt e3 ot f1 w (by omega) (by rw[vF0]; exact hx) lo0 lo1 xl fun x' l' H3 sp' sl w3 hx3 xl3 hy3 _ _ f3=> ?_
 refine aO (fun(y:(Sl×Unit)×Unit) H'=>bK [] H H'∧∃sq,Ow TF H' y.1.1 (vF ms B ts ol k.toNat) sq) (fun j5 hj5=> ?_) ?_
 ·refine aY (fun(y:(Sl×Int×Unit)×Unit) H'=>bK [] H H'∧∃(n:Nat) (z:Sl) (sq sz:List Ft),y.1.2.1=n∧(n:Int)≤k∧Ow TF H' y.1.1 (vF ms B ts ol n) sq∧Wk H' b a1 c0 c1 c2 c3 (n+1) z∧Ow TF H' z (vF ms B ts ol (n+1)) sz∧∀d,z.p=some ⟨d,0,none⟩->d≠c0∧d≠c1) (fun y=>k.toNat-y.1.2.1.toNat) ?_
   ⟨fr2 f1 f3,0,x',sp,sp',rfl,by omega,hy3,w3,hx3,xl3⟩
  rintro G ⟨⟨cur,i,_⟩,_⟩ H5 ⟨f5,n,z,sq,sz,hi,hn,hc,w5,hz,zl⟩ hG
  simp only at hi hc; subst hi
  dsimp only at hG ⊢
  refine cu (fun hlt=> ?_) (fun hge=>hj5 _ _ ⟨f5,sq,?_⟩)
  ·refine .inl ⟨_,#[],_,rfl,?_⟩
   refine XP h okB og hs fla okt e3 ot f5 w5 (by omega) hz lo0 lo1 zl fun x6 l6 H6 sp6 sl6 w6 hx6 xl6 hz6 _ _ f6=> ?_
   rw[bT (by omega) (by omega)]
   exact hG _ _ ⟨fr2 f5 f6,n+1,x6,sz,sp6,by simp,by omega,hz6,w6,hx6,xl6⟩ (by simp; omega)
  ·rw[show k.toNat=n by omega]; exact hc
 ·rintro⟨⟨y,_⟩,_⟩ H4 ⟨f4,sq,hy⟩
  simp only at hy
  dsimp only
  refine wG fun H7 r7 f7 l7=> ?_
  have o7:Ow TF H7 ⟨some ⟨H4.length,0,none⟩,0,0⟩ [] []:=⟨rfl,rfl,by simp,.inr ⟨_,rfl,r7⟩⟩
  have n7:aW TF H ⟨some ⟨H4.length,0,none⟩,0,0⟩ H7 [] []:=⟨o7,fun d hd=>by cases hd; exact f4.1,f4.trans f7⟩
  refine JO tyF rfl (fun _=>by simp) (hy.bP f7 (by simp[Sl.off])).jH (by have:=XQ (ms:=ms) og e3 ot k.toNat; simp only[List.length_nil]; omega) o7 fun s8 H8 sp8 k1 k2 k3=> ?_
  exact q0 s8 ol H8 sp8 es rfl e3 e4 ot (by omega) (by omega) (n7.app k1 k2 k3)
theorem ajS(h:BP m H b se B ms)(okB:rD B)(og:Jr B)(hs:dB gX H a1 ts)(fla:Flat H a1)(okt:∀t∈ts,t.Stamp≤9223372036854775807)(bts:ts.length≤1048600){Q:Sl×Int×Unit->Heap->Prop}(q1:∀H',bD se B ts≠0->bK [] H H'->Q (⟨none,0,0⟩,bD se B ts,()) H')
  (q0:∀s ol H' sp,bD se B ts=0->se=true->dn se B ts (Ol B ts)=0->sF ts->iU B ts ol->aW TF H s H' (vF ms B ts ol 6) sp->Q (s,0,()) H'):CALL P [aH,dX] yV [.pointer (some ⟨b,0,none⟩),a1.v] H Q:=by
 apply ade
 unfold JR
 exact afC h okB og hs fla okt bts q1 (fun _ _ hk _=>by omega) fun s ol H' sp e1 e2 e3 e4 ot _ _ n=>q0 s ol H' sp e1 e2 e3 e4 ot n
theorem afD(ot:iU B ts ol)(n:Nat):(vS B ts ol n).length≤64:=by
 unfold vS
 split
 ·have:=(lU B ts ol (mZ B ts ol n) (je B ts ol n) (je B ts ol n).length (Nat.le_refl _)).2.2.2
  unfold Ri
  rw[this]
  exact uV ot _ _
 ·simp
theorem Bd(ot:iU B ts ol):∀n,(jw B ts ol n).length≤64*n
 |0=>by simp[jw]
 |n+1=>by
  have:=Bd ot n
  have:=afD ot n
  unfold jw; rw[List.length_append]; omega
theorem afE(h:BP m H b se B ms)(okB:rD B)(og:Jr B)(hs:dB gX H a1 ts)(fla:Flat H a1)(okt:∀t∈ts,t.Stamp≤9223372036854775807)(bts:ts.length≤1048600){Q:Sl×Int×Unit->Heap->Prop}(q1:∀H',bD se B ts≠0->bK [] H H'->Q (⟨none,0,0⟩,bD se B ts,()) H')
  (q0:∀s ol H' sp,bD se B ts=0->iU B ts ol->aW eU H s H' (jw B ts ol 5) sp->Q (s,0,()) H'):CALL P [aH,dX] nH [.pointer (some ⟨b,0,none⟩),a1.v] H Q:=by
 apply Ws
 unfold Ac
 refine abu h okB og hs fla okt bts (fun v H' e f=>dI (by simpa using e) (q1 H' e f)) fun c0 c1 c2 c3 x sp H1 es hse e2 e3 e4 w hx xl lo0 lo1 f1=>bC rfl ?_
 subst hse
 obtain⟨ol,ot⟩:=D7 okB e3
 have fr2:∀{H' H'':Heap},bK [] H H'->bK [c0,c1] H' H''->bK [] H H'':=fun f g=>f.then g fun d hd=>by simp at hd; rcases hd with rfl|rfl; exact .inr lo0; exact .inr lo1
 refine aO (fun(y:(Sl×Unit)×Unit) H'=>∃so,aW eU H y.1.1 H' (jw B ts ol 5) so) (fun j2 hj2=> ?_) (fun y H' hh=>by obtain⟨so,hh⟩:=hh; exact q0 _ ol H' so es ot hh)
 refine aY (fun(y:(Sl×Int×Unit)×Unit) H'=>∃(n:Nat) (z:Sl) (so:List Sg) (sz:List Ft),y.1.2.1=n∧n≤5∧aW eU H y.1.1 H' (jw B ts ol n) so∧(∀d,y.1.1.p=some ⟨d,0,none⟩->d≠c0∧d≠c1∧z.p≠some ⟨d,0,none⟩)∧Wk H' b a1 c0 c1 c2 c3 n z∧c2<H'.length∧c3<H'.length∧(∀d,y.1.1.p=some ⟨d,0,none⟩->d≠c2∧d≠c3)∧Ow TF H' z (vF ms B ts ol n) sz∧∀d,z.p=some ⟨d,0,none⟩->d≠c0∧d≠c1) (fun y=>5-y.1.2.1.toNat) ?_
  ⟨0,x,[],sp,rfl,by omega,(aW.nil' eU H1).older f1,by simp,w,cZ w.p,cZ w.t,by simp,by rw[vF0]; exact hx,xl⟩
 rintro G ⟨⟨out,i,_⟩,_⟩ H3 ⟨n,z,so,sz,hi,hn,no,ol0,w3,hc2,hc3,ol1,hz,zl⟩ hG
 simp only at hi no ol0 ol1; subst hi
 dsimp only at hG ⊢
 refine cu (fun hlt=> ?_) (fun hge=>hj2 _ _ ⟨so,?_⟩)
 ·refine .inl ⟨_,#[],_,rfl,?_⟩
  refine XP h okB og hs fla okt e3 ot no.2.2 w3 (by omega) hz lo0 lo1 zl fun x' l' H4 sp' sl w4 hx4 xl4 hz4 hl4 ll f4=> ?_
  have no4:aW eU H out H4 (jw B ts ol n) so:=⟨no.1.bP f4 fun d hd e=>by have:=ol0 d e; simp at hd; omega,no.2.1,fr2 no.2.2 f4⟩
  have l34:=f4.1
  have hc0:=cZ w4.k
  have hc1:=cZ w4.f
  refine JO BO rfl (fun _=>by simp) hl4.jH (by have:=Bd ot n; have:=afD ot n; omega) no4.1 fun s5 H5 sp5 k1 k2 k3=> ?_
  have no5:aW eU H s5 H5 (jw B ts ol (n+1)) sp5:=no4.app k1 k2 k3
  have keep:∀c:Nat,c<H4.length->(∀d,out.p=some ⟨d,0,none⟩->d≠c)->H5[c]? =H4[c]? :=fun c hc hne=>k3.2 c hc fun e=>hne c e rfl
  have w5:Wk H5 b a1 c0 c1 c2 c3 (n+1) x':=⟨by rw[keep c0 hc0 fun d e=>(ol0 d e).1]; exact w4.k,by rw[keep c1 hc1 fun d e=>(ol0 d e).2.1]; exact w4.f,by rw[keep c2 (by omega) fun d e=>(ol1 d e).1]; exact w4.p,by rw[keep c3 (by omega) fun d e=>(ol1 d e).2]; exact w4.t,w4.n1,w4.n2,w4.n3,w4.n4,w4.n5⟩
  have l45:=k3.1
  by_cases hxo:∃d,out.p=some ⟨d,0,none⟩∧x'.p=some ⟨d,0,none⟩
  ·
   obtain⟨d,h1,h2⟩:=hxo
   obtain⟨_,_,_,⟨q,_⟩|⟨d',q,r⟩⟩:=no4.1
   ·rw[h1]at q; cases q
   ·rw[h1]at q; cases q
    obtain⟨_,_,_,⟨q,_⟩|⟨d',q,r'⟩⟩:=hx4
    ·rw[h2]at q; cases q
    ·rw[h2]at q; cases q
     rw[r]at r'
     simp at r'
  ·have hx5:Ow TF H5 x' (vF ms B ts ol (n+1)) sp':=hx4.after k3 fun d e1 e2=>hxo ⟨d,e2,e1⟩
   rw[bT (by omega) (by omega)]
   refine hG _ _ ⟨n+1,x',sp5,sp',by simp,by omega,no5,fun d e=> ?_,w5,by omega,by omega,fun d e=> ?_,hx5,xl4⟩ (by simp; omega)
   ·dsimp only at e
    rcases k2 with q|⟨q,_⟩
    ·rw[q]at e
     exact⟨(ol0 d e).1,(ol0 d e).2.1,fun e2=>hxo ⟨d,e,e2⟩⟩
    ·rw[q]at e; cases e
     exact⟨by omega,by omega,fun e2=>by have:=hx4.lt e2; omega⟩
   ·dsimp only at e
    rcases k2 with q|⟨q,_⟩
    ·rw[q]at e; exact ol1 d e
    ·rw[q]at e; cases e
     exact⟨by omega,by omega⟩
 ·have:n=5:=by omega
  subst this; exact no
end
end Go.Proofs.YtijnknjopjmiiaaGreatDoor.Zq
end
section
namespace Go.Proofs.YtijnknjopjmiiaaGreatDoor.Zq
open Zv
section
variable{H:Heap}{b m:Nat}{se:Bool}{B:List Cd}{ms:List au}{a1 a2 a3:Sl}{ts:List Tg}{fs:List Ft}{ol:List Int}{l:List Sg}
theorem contains_c{s:Sl}{l:List Int}(hs:dB dX H s l)(hl:l.length≤1048600){q:Int}{Q:Bool×Unit->Heap->Prop}(hq:Q (decide (q∈l),()) H):CALL P [ah] iq [s.v,.int .i64 q] H Q:=by
 apply vH
 unfold iC
 apply Ak
 unfold jl
 have h1:=hs.1
 have fin:∀r:Int,(0≤r↔q∈l)->Q (decide (r≥0),()) H:=fun r hr=>by
  have:decide (r≥0)=decide (q∈l):=by simp only[decide_eq_decide]; exact hr
  rw[this]; exact hq
 refine aO (fun _ H'=>H'=H∧q∉l) (fun j hj=> ?_) (fun _ H' hh=>by obtain⟨rfl,n⟩:=hh; exact fin (-1) ⟨fun w=>by omega,fun w=>absurd w n⟩)
 refine aY (fun(y:(Int×Unit)×Unit) H'=>H'=H∧∃n:Nat,y.1.1=n∧n≤l.length∧∀(i:Nat) x,i<n->l[i]? =some x->x≠q) (fun y=>l.length-y.1.1.toNat) ?_ ⟨rfl,0,rfl,Nat.zero_le _,fun i x h=>by omega⟩
 rintro G ⟨⟨i,_⟩,_⟩ H' ⟨rfl,n,hi,hn,inv⟩ hG
 simp only at hi; subst hi
 dsimp only at hG ⊢
 refine cu (fun hlt=> ?_) (fun hge=>hj _ _ ⟨rfl,fun w=> ?_⟩)
 ·have hlt:n<l.length:=by omega
  have hx:l[n]? =some l[n]:=List.getElem?_eq_getElem hlt
  have hxm:=List.getElem_mem hlt
  generalize l[n]=x at hx hxm
  refine aZ (T:=dX) uP hs rfl hx rfl (eP (fun e=>fin _ ⟨fun _=>by rw[e]; exact hxm,fun _=>by omega⟩) (fun e=> ?_))
  rw[bT (by omega) (by omega)]
  refine hG _ _ ⟨rfl,n+1,by simp,hlt,fun i u w hu=> ?_⟩ (by simp; omega)
  by_cases ei:i=n
  ·subst ei; rw[hx]at hu; cases hu; exact fun q=>e q.symm
  ·exact inv i u (by omega) hu
 ·obtain⟨i,hi⟩:=List.mem_iff_getElem?.1 w
  exact inv i q (by have:=(List.getElem?_eq_some_iff.1 hi).1; omega) hi rfl
theorem afF{n i:Nat}(hi:i<(je B ts ol n).length):sI B ts ol n i∈je B ts ol n:=by
 obtain⟨_,_,i3,_⟩:=lU B ts ol (mZ B ts ol n) (je B ts ol n) i (by omega)
 obtain⟨k,hk,hkl⟩:=VD (B:=B) (ts:=ts) (ol:=ol) (fs:=mZ B ts ol n) hi
 refine i3 _ (ahi ?_)
 rw[hk]; simpa using hkl
theorem acF(ot:iU B ts ol){n:Nat}{s:Sg}(h:s∈je B ts ol n):D8 B ts s∧XJ s.What.Verb=(n:Int)+1:=by
 obtain⟨h1,i,h2,h3,h4,h5,h6⟩:=D5 h
 obtain⟨kx,t,c,e1,e2,e3,_⟩:=ot.at' _ h1
 exact⟨⟨by omega,⟨t,by rw[show(s.Thing-1).toNat=kx by omega]; exact e2,e3⟩,by omega,by rw[show s.Place.toNat=i by omega]; exact h3,h4⟩,h5⟩
theorem ah7(og:Jr B)(e0:dn se B ts (Ol B ts)=0)(ot:iU B ts ol){n i:Nat}(hi:i≤(je B ts ol n).length):UZ ts (Ri B ts ol n i).1:=
 UZ.all ot (Ba og e0 ot n) (fun _ hs=>(D5 hs).1) i hi
theorem Rj(q:Int)(n:Nat):∀i,(NY B ts ol q n i).length≤i
 |0=>by simp[NY]
 |i+1=>by
  have:=Rj q n i
  unfold NY; rw[List.length_append]
  split<;>simp<;>omega
theorem Jh(ot:iU B ts ol)(q:Int):∀n,(Bc B ts ol q n).length≤64*n
 |0=>by simp[Bc]
 |n+1=>by
  have h1:=Jh ot q n
  have h2:=Rj (B:=B) (ts:=ts) (ol:=ol) q n (je B ts ol n).length
  have h3:=uV ot (mZ B ts ol n) ((n:Int)+1)
  unfold Bc; rw[List.length_append]
  unfold je at h2 ⊢
  omega
theorem keepW{H H':Heap}{out:Sl}{c0 c1 c2 c3 n:Nat}{x:Sl}(w:Wk H b a1 c0 c1 c2 c3 n x)(k:After out H H')(h:∀d,out.p=some ⟨d,0,none⟩->d≠c0∧d≠c1∧d≠c2∧d≠c3):Wk H' b a1 c0 c1 c2 c3 n x:=by
 have keep:∀c:Nat,c<H.length->(∀d,out.p=some ⟨d,0,none⟩->d≠c)->H'[c]? =H[c]? :=fun c hc hne=>k.2 c hc fun e=>hne c e rfl
 exact⟨by rw[keep c0 (cZ w.k) fun d e=>(h d e).1]; exact w.k,by rw[keep c1 (cZ w.f) fun d e=>(h d e).2.1]; exact w.f,by rw[keep c2 (cZ w.p) fun d e=>(h d e).2.2.1]; exact w.p,by rw[keep c3 (cZ w.t) fun d e=>(h d e).2.2.2]; exact w.t,w.n1,w.n2,w.n3,w.n4,w.n5⟩
theorem oC{T T':Tag}{H:Heap}{s u:Sl}{l sp:List T.α}{k sq:List T'.α}(h:Ow T H s l sp)(g:Ow T' H u k sq)(hn:T.n≠T'.n):∀d,s.p=some ⟨d,0,none⟩->u.p≠some ⟨d,0,none⟩:=fun d h1 h2=>by
 obtain⟨_,_,_,⟨q,_⟩|⟨d',q,r⟩⟩:=h
 ·rw[h1]at q; cases q
 ·rw[h1]at q; cases q
  obtain⟨_,_,_,⟨q,_⟩|⟨d',q,r'⟩⟩:=g
  ·rw[h2]at q; cases q
  ·rw[h2]at q; cases q
   rw[r]at r'
   simp at r'
   exact hn r'.2
theorem aiZ(h:BP m H b se B ms)(okB:rD B)(og:Jr B)(hs:dB gX H a1 ts)(fla:Flat H a1)(okt:∀t∈ts,t.Stamp≤9223372036854775807)(bts:ts.length≤1048600){q:Int}{Q:Sl×Int×Unit->Heap->Prop}(q1:∀H',bD se B ts≠0->bK [] H H'->Q (⟨none,0,0⟩,bD se B ts,()) H')
  (q2:∀H',bD se B ts=0->¬(1≤q∧∃t,ts[(q-1).toNat]? =some t∧t.Place=4)->bK [] H H'->Q (⟨none,0,0⟩,6,()) H')
  (q0:∀s ol H' sp,bD se B ts=0->iU B ts ol->1≤q->(∃t,ts[(q-1).toNat]? =some t∧t.Place=4)->aW eU H s H' (Bc B ts ol q 5) sp->Q (s,0,()) H'):CALL P [aH,dX] zJ [.pointer (some ⟨b,0,none⟩),a1.v,.int .i64 q] H Q:=by
 apply aaY
 unfold Gm
 have hsl:=hs.1
 refine abu h okB og hs fla okt bts (fun v H' e f=>dI (by simpa using e) (q1 H' e f)) fun c0 c1 c2 c3 x sp H1 es hse e2 e3 e4 w hx xl lo0 lo1 f1=>bC rfl ?_
 subst hse
 obtain⟨ol,ot⟩:=D7 okB e3
 have fr2:∀{H' H'':Heap},bK [] H H'->bK [c0,c1] H' H''->bK [] H H'':=fun f g=>f.then g fun d hd=>by simp at hd; rcases hd with rfl|rfl; exact .inr lo0; exact .inr lo1
 refine hJ (¬(1≤q∧∃t,ts[(q-1).toNat]? =some t∧t.Place=4)) (fun j hj=> ?_) (fun c=>q2 _ es c f1) (fun c=> ?_)
 ·refine cu (fun w1=>hj _ ?_) (fun w1=>cu (fun w2=>hj _ ?_) (fun w2=> ?_))
  ·simp only[true_iff]; exact fun k=>by have:=k.1; omega
  ·simp only[true_iff]; exact fun k=>by obtain⟨_,t,k2,_⟩:=k; have:=(List.getElem?_eq_some_iff.1 k2).1; omega
  ·have ht:ts[(q-1).toNat]? =some (ts[(q-1).toNat]'(by omega)):=List.getElem?_eq_getElem (by omega)
   generalize (ts[(q-1).toNat]'(by omega))=t at ht
   refine kS (hs.bP f1 (by simp)) (n:=(q-1).toNat) (by rw[bT (by omega) (by omega)]; omega) ht (hj _ ?_)
   simp only[bne_iff_ne,ne_eq]
   constructor
   ·rintro k ⟨_,t',k2,k3⟩
    rw[ht]at k2; cases k2; exact k k3
   ·exact fun k k3=>k ⟨by omega,t,ht,k3⟩
 obtain⟨hq1,hq2⟩:=Classical.not_not.1 c
 refine aO (fun(y:(Sl×Unit)×Unit) H'=>∃so,aW eU H y.1.1 H' (Bc B ts ol q 5) so) (fun j2 hj2=> ?_) (fun y H' hh=>by obtain⟨so,hh⟩:=hh; exact q0 _ ol H' so es ot hq1 hq2 hh)
 refine aY (fun(y:(Sl×Int×Unit)×Unit) H'=>∃(n:Nat) (z:Sl) (so:List Sg) (sz:List Ft),y.1.2.1=n∧n≤5∧aW eU H y.1.1 H' (Bc B ts ol q n) so∧(∀d,y.1.1.p=some ⟨d,0,none⟩->d≠c0∧d≠c1∧d≠c2∧d≠c3)∧Wk H' b a1 c0 c1 c2 c3 n z∧Ow TF H' z (vF ms B ts ol n) sz∧∀d,z.p=some ⟨d,0,none⟩->d≠c0∧d≠c1) (fun y=>5-y.1.2.1.toNat) ?_
  ⟨0,x,[],sp,rfl,by omega,(aW.nil' eU H1).older f1,by simp,w,by rw[vF0]; exact hx,xl⟩
 rintro G ⟨⟨out,i,_⟩,_⟩ H3 ⟨n,z,so,sz,hi,hn,no,ol0,w3,hz,zl⟩ hG
 simp only at hi no ol0; subst hi
 dsimp only at hG ⊢
 refine cu (fun hlt=> ?_) (fun hge=>hj2 _ _ ⟨so,?_⟩)
 ·have hn5:n<5:=by omega
  refine aO (fun(y:(Sl×Unit)×Unit) H'=>∃(z':Sl) (so':List Sg) (sz':List Ft),aW eU H y.1.1 H' (Bc B ts ol q (n+1)) so'∧(∀d,y.1.1.p=some ⟨d,0,none⟩->d≠c0∧d≠c1∧d≠c2∧d≠c3)∧Wk H' b a1 c0 c1 c2 c3 (n+1) z'∧Ow TF H' z' (vF ms B ts ol (n+1)) sz'∧∀d,z'.p=some ⟨d,0,none⟩->d≠c0∧d≠c1) (fun j11 hj11=> ?_) ?_
  ·refine .inl ⟨_,#[],_,rfl,?_⟩
   refine XP h okB og hs fla okt e3 ot no.2.2 w3 (by omega) hz lo0 lo1 zl fun x' l' H4 sp' sl w4 hx4 xl4 hz4 hl4 ll f4=> ?_
   have no4:aW eU H out H4 (Bc B ts ol q n) so:=⟨no.1.bP f4 fun d hd e=>by have:=ol0 d e; simp at hd; omega,no.2.1,fr2 no.2.2 f4⟩
   have evF:vF ms B ts ol n=(Ri B ts ol n 0).1:=by unfold vF; rw[if_pos (by omega)]; rfl
   have evS:vS B ts ol n=(Ri B ts ol n (je B ts ol n).length).2.2:=by unfold vS; rw[if_pos hn5]
   have hLl:(je B ts ol n).length≤64:=uV ot _ _
   have hSl:(vS B ts ol n).length=(je B ts ol n).length:=by rw[evS]; exact(lU B ts ol (mZ B ts ol n) (je B ts ol n) (je B ts ol n).length (Nat.le_refl _)).2.2.2
   have hat:∀k,k<(je B ts ol n).length->(vS B ts ol n)[k]? =some (sI B ts ol n k):=fun k hk=>by rw[evS]; exact Lc (mZ B ts ol n) (je B ts ol n) _ (Nat.le_refl _) k hk
   have ao:∀d,out.p=some ⟨d,0,none⟩->l'.p≠some ⟨d,0,none⟩:=fun d e1 e2=>by have:=ll d e2; have:=no.1.lt e1; omega
   have hll:=hl4.1
   refine aO (fun(y:(Sl×Unit)×Unit) H'=>∃(so':List Sg),aW eU H y.1.1 H' (Bc B ts ol q (n+1)) so'∧(∀d,y.1.1.p=some ⟨d,0,none⟩->d≠c0∧d≠c1∧d≠c2∧d≠c3)∧Wk H' b a1 c0 c1 c2 c3 (n+1) x'∧Ow TF H' x' (vF ms B ts ol (n+1)) sp') (fun j14 hj14=> ?_) (fun y H' hh=>by obtain⟨so',p1,p2,p3,p4⟩:=hh; exact hj11 _ _ ⟨x',so',sp',p1,p2,p3,p4,xl4⟩)
   refine aY (fun(y:(Sl×Sl×Int×Unit)×Unit) H'=>∃(k:Nat) (so':List Sg) (sc:List Ft),y.1.2.2.1=k∧k≤(je B ts ol n).length∧aW eU H y.1.1 H' (Bc B ts ol q n++NY B ts ol q n k) so'∧(∀d,y.1.1.p=some ⟨d,0,none⟩->(d≠c0∧d≠c1∧d≠c2∧d≠c3)∧l'.p≠some ⟨d,0,none⟩)∧Wk H' b a1 c0 c1 c2 c3 (n+1) x'∧Ow TF H' x' (vF ms B ts ol (n+1)) sp'∧Ow eU H' l' (vS B ts ol n) sl∧Ow TF H' y.1.2.1 (Ri B ts ol n k).1 sc) (fun y=>(je B ts ol n).length-y.1.2.2.1.toNat) ?_
    ⟨0,so,sz,rfl,Nat.zero_le _,by simpa[NY]using no4,fun d e=>⟨ol0 d e,ao d e⟩,w4,hx4,hl4,by rw[←evF]; exact hz4⟩
   rintro G2 ⟨⟨out2,cur,i2,_⟩,_⟩ H8 ⟨k,so2,sc,hk,hkl,no8,olk,w8,hx8,hl8,hc8⟩ hG2
   simp only at hk no8 olk hc8; subst hk
   dsimp only at hG2 ⊢
   refine cu (fun hlt2=> ?_) (fun hge2=>hj14 _ _ ⟨so2,?_,fun d e=>(olk d e).1,w8,hx8⟩)
   ·have hlt2:k<(je B ts ol n).length:=by omega
    have hx:=hat k hlt2
    have hmem:=afF hlt2
    obtain⟨hmay,_⟩:=acF ot hmem
    have hm:=hmay.mem ot
    have jn:=ah7 og e3 ot (n:=n) (Nat.le_of_lt hlt2)
    have cn:=jn.dn e3
    have f8:=no8.2.2
    have gv8:Gv H8 a1 cur ts (Ri B ts ol n k).1:=⟨hs.bP f8 (by simp),hc8.jH,fla.bP f8,okt,jn.nn,bts⟩
    have enx:(Ri B ts ol n (k+1)).1=jq B ts (Ri B ts ol n k).1 ol (sI B ts ol n k):=rfl
    have ewp:NY B ts ol q n (k+1)=NY B ts ol q n k++if q∈fB B ts (Ri B ts ol n k).1 ol (sI B ts ol n k)then [sI B ts ol n k]else []:=rfl
    have hwl:=Rj (B:=B) (ts:=ts) (ol:=ol) q n k
    have hwL:=Jh ot q n
    generalize sI B ts ol n k=s at hx hmay hm enx ewp
    generalize (Ri B ts ol n k).1=F at jn cn gv8 enx ewp hc8
    refine aZ (T:=eU) AZ hl8.jH rfl hx rfl ?_
    refine adE (h.new f8) okB gv8 (fun _ e _=>absurd cn e) (fun _ _ w _=>absurd hmay w) fun x21 ol2 H9 sp9 _ ot2 _ n9=> ?_
    have:=ot2.uniq ot; subst this
    refine contains_c n9.1.jH (by have:=pW B ts F ol2 s; have:=ot.few; omega) ?_
    have f89:=n9.2.2
    have no9:=no8.new f89
    refine aO (fun(y:(Sl×Unit)×Unit) H'=>∃(so':List Sg),aW eU H y.1.1 H' (Bc B ts ol2 q n++NY B ts ol2 q n (k+1)) so'∧(∀d,y.1.1.p=some ⟨d,0,none⟩->(d≠c0∧d≠c1∧d≠c2∧d≠c3)∧l'.p≠some ⟨d,0,none⟩)∧Wk H' b a1 c0 c1 c2 c3 (n+1) x'∧Ow TF H' x' (vF ms B ts ol2 (n+1)) sp'∧Ow eU H' l' (vS B ts ol2 n) sl∧Ow TF H' cur F sc) (fun j23 hj23=>cu (fun e=> ?_) (fun e=> ?_)) ?_
    ·rw[if_pos e]at ewp
     refine qF BO rfl (fun _=>by simp) (m:=1) [s] rfl rfl (by rw[List.length_append]; show 2*(_+1)*4096≤_; omega) no9.1 fun s5 H12 sp5 k1 k2 k3=> ?_
     have n12:=no9.app k1 k2 k3
     have w9:=w8.new f89
     refine hj23 _ _ ⟨sp5,by rw[ewp,←List.append_assoc]; exact n12,fun d e=> ?_,keepW w9 k3 fun d e=>(olk d e).1,(hx8.bP f89 (by simp[Sl.off])).after k3 fun d e1 e2=>oC no9.1 (hx8.bP f89 (by simp[Sl.off])) (by decide) d e2 e1,(hl8.bP f89 (by simp[Sl.off])).after k3 fun d e1 e2=>(olk d e2).2 e1,(hc8.bP f89 (by simp[Sl.off])).after k3 fun d e1 e2=>oC no9.1 (hc8.bP f89 (by simp[Sl.off])) (by decide) d e2 e1⟩
     dsimp only at e
     rcases k2 with w|⟨w,_⟩
     ·rw[w]at e; exact olk d e
     ·rw[w]at e; cases e
      have t0:=cZ w9.k; have t1:=cZ w9.f; have t2:=cZ w9.p; have t3:=cZ w9.t
      exact⟨by omega,fun e2=>by have:=hl8.lt e2; have:=f89.1; omega⟩
    ·rw[if_neg e,List.append_nil]at ewp
     exact hj23 _ _ ⟨so2,by rw[ewp]; exact no9,olk,w8.new f89,hx8.bP f89 (by simp[Sl.off]),hl8.bP f89 (by simp[Sl.off]),hc8.bP f89 (by simp[Sl.off])⟩
    ·rintro⟨⟨out3,_⟩,_⟩ H11 ⟨so3,no11,ol11,w11,hx11,hl11,hc11⟩
     dsimp only at no11 ol11 ⊢
     have f11:=no11.2.2
     have gv11:Gv H11 a1 cur ts F:=⟨hs.bP f11 (by simp),hc11.jH,fla.bP f11,okt,jn.nn,bts⟩
     refine adF (h.new f11) okB gv11 (fun _ e _=>absurd cn e) (fun _ _ w _=>absurd hmay w) fun x26 ol3 H13 sp13 _ ot3 _ n13=> ?_
     have:=ot3.uniq ot; subst this
     have f13:=n13.2.2
     rw[bT (by omega) (by omega)]
     exact hG2 _ _ ⟨k+1,so3,sp13,by simp,hlt2,no11.new f13,ol11,w11.new f13,hx11.bP f13 (by simp[Sl.off]),hl11.bP f13 (by simp[Sl.off]),by rw[enx]; exact n13.1⟩ (by simp; omega)
   ·have:k=(je B ts ol n).length:=by omega
    subst this
    exact no8
  ·rintro⟨⟨out2,_⟩,_⟩ H5 ⟨z',so',sz',p1,p2,p3,p4,p5⟩
   rw[bT (by omega) (by omega)]
   exact hG _ _ ⟨n+1,z',so',sz',by simp,by omega,p1,p2,p3,p4,p5⟩ (by simp; omega)
 ·have:n=5:=by omega
  subst this; exact no
end
end Go.Proofs.YtijnknjopjmiiaaGreatDoor.Zq
end
section
namespace Go.Proofs.YtijnknjopjmiiaaGreatDoor.Zq
open Zv
section
variable{H:Heap}{b m:Nat}{se:Bool}{B:List Cd}{ms:List au}{a1 a2 a3:Sl}{ts:List Tg}{fs:List Ft}{ol:List Int}{l:List Sg}{s o:Sg}
theorem adK{x y:Pt}{Q:Bool×Unit->Heap->Prop}(hq:∀r,(r=true↔x=y)->Q (r,()) H):CALL P [ah] zY [TP.enc x,TP.enc y] H Q:=by
 apply Xw
 unfold AO
 have key:x=y↔(x.When=y.When∧x.Verb=y.Verb∧x.Whom=y.Whom∧x.Count=y.Count∧x.Suit=y.Suit∧x.Trait=y.Trait∧x.Mark=y.Mark∧x.Name=y.Name):=by
  obtain⟨x1,x2,x3,x4,x5,x6,x7,x8⟩:=x
  obtain⟨y1,y2,y3,y4,y5,y6,y7,y8⟩:=y
  simp
 have no:∀j:(Bool×Unit)×Unit->Heap->Prop,(∀r,(r=true↔x=y)->j ((r,()),()) H)->¬x=y->j ((false,()),()) H:=fun j hj h=>hj false ⟨fun e=>(by cases e),fun e=>absurd e h⟩
 refine aO (fun(z:(Bool×Unit)×Unit) H'=>H'=H∧(z.1.1=true↔x=y)) (fun j hj=> ?_) (fun z H' hh=>by obtain⟨rfl,e⟩:=hh; exact hq _ e)
 have hj':∀r,(r=true↔x=y)->j ((r,()),()) H:=fun r hr=>hj _ _ ⟨rfl,hr⟩
 refine eP (fun e1=> ?_) (fun e1=>no j hj' fun q=>e1 (key.1 q).1)
 refine eP (fun e2=> ?_) (fun e2=>no j hj' fun q=>e2 (key.1 q).2.1)
 refine eP (fun e3=> ?_) (fun e3=>no j hj' fun q=>e3 (key.1 q).2.2.1)
 refine eP (fun e4=> ?_) (fun e4=>no j hj' fun q=>e4 (key.1 q).2.2.2.1)
 refine eP (fun e5=> ?_) (fun e5=>no j hj' fun q=>e5 (key.1 q).2.2.2.2.1)
 refine eP (fun e6=> ?_) (fun e6=>no j hj' fun q=>e6 (key.1 q).2.2.2.2.2.1)
 refine eP (fun e7=>hj' _ ?_) (fun e7=>no j hj' fun q=>e7 (key.1 q).2.2.2.2.2.2.1)
 rw[key]
 simp[e1,e2,e3,e4,e5,e6,e7,abq]
theorem afG(h:Rt m H b B ms a1 ts ol){Q:Bool×Unit->Heap->Prop}(hq:∀r H',(r=true↔D8 B ts s)->bK [] H H'->Q (r,()) H'):CALL P [ah] wz [.pointer (some ⟨b,0,none⟩),a1.v,eU.enc s] H Q:=by
 apply Zw
 unfold DJ
 have hlen:=h.ot.len
 have hsl:=h.s.1
 have rf:=bK.refl [] H
 by_cases h1:s.Thing<1
 ·exact aX (dI (by simpa using h1) (dI rfl (hq _ _ ⟨fun q=>(by cases q),fun q=>by have:=q.1; omega⟩ rf)))
 by_cases h2:(ts.length:Int)<s.Thing
 ·refine aX (bC (by simpa using h1) (dI (by simp; omega) (dI rfl (hq _ _ ⟨fun q=>(by cases q),fun q=> ?_⟩ rf))))
  obtain⟨_,⟨t,q,_⟩,_⟩:=q
  have:=(List.getElem?_eq_some_iff.1 q).1; omega
 have hw:IntKind.wrap .i64 (s.Thing-1)=((s.Thing-1).toNat:Int):=by rw[bT (by omega) (by omega)]; omega
 rw[hw]
 have ht:ts[(s.Thing-1).toNat]? =some (ts[(s.Thing-1).toNat]'(by omega)):=List.getElem?_eq_getElem (by omega)
 generalize (ts[(s.Thing-1).toNat]'(by omega))=t at ht
 refine aX (bC (by simpa using h1) (bC (by simp; omega) (kS h.s rfl ht (yO (fun q=> ?_) (fun q=> ?_)))))
 ·refine hq _ _ ⟨fun q=>(by cases q),fun w=> ?_⟩ rf
  obtain⟨_,⟨t',w1,w2⟩,_⟩:=w
  rw[ht]at w1; cases w1; exact absurd w2 q
 ·have hm:=h.ot.all _ t ht q
  obtain⟨k,t',c,e1,e2,e3,e4,e5,e6,e7,e8,e9⟩:=h.card hm
  have:k=(s.Thing-1).toNat:=by omega
  subst this
  rw[ht]at e2; cases e2
  rw[show(((s.Thing-1).toNat:Nat):Int)=s.Thing-1 by omega]at e6
  have key:D8 B ts s↔0≤s.Place∧c.ps[s.Place.toNat]? =some s.What∧s.What.When=5:=by
   unfold D8
   rw[e6]
   exact⟨fun w=>w.2.2,fun w=>⟨by omega,⟨t,ht,q⟩,w⟩⟩
  refine Vz h.s rfl ht (abm h e4 e5 fun g H2 cr f2=> ?_)
  have hps:=cr.p
  have hpl:=hps.1
  refine hJ (s.Place<0∨(c.ps.length:Int)≤s.Place) (fun j hj=>cu (fun w=>hj _ (by simp; omega)) (fun w=>hj _ (by simp; omega))) (fun w=>hq _ _ ⟨fun q=>(by cases q),fun v=> ?_⟩ f2) (fun w=> ?_)
  ·obtain⟨v1,v2,_⟩:=key.1 v
   have:=(List.getElem?_eq_some_iff.1 v2).1; omega
  ·have hp:c.ps[s.Place.toNat]? =some (c.ps[s.Place.toNat]'(by omega)):=List.getElem?_eq_getElem (by omega)
   generalize (c.ps[s.Place.toNat]'(by omega))=p at hp
   have pn:s.Place=(s.Place.toNat:Int):=by omega
   refine QX hps pn hp (aX (eP (fun w5=>adK fun r hr=>hq r _ ?_ f2) (fun w5=>hq _ _ ⟨fun q=>(by cases q),fun v=> ?_⟩ f2)))
   ·rw[hr,key,hp]
    constructor
    ·rintro rfl; exact⟨by omega,rfl,w5⟩
    ·rintro⟨_,v,_⟩; simpa using v
   ·obtain⟨_,v1,v2⟩:=key.1 v
    rw[hp]at v1; simp at v1; subst v1; exact absurd v2 w5
theorem abv(h:BD m H b se B ms)(okB:rD B)(hs:dB gX H a1 ts)(hf:dB TF H a2 fs){Q:Sl×Int×Unit->Heap->Prop}(q1:∀H',dn se B ts fs≠0->bK [] H H'->Q (⟨none,0,0⟩,dn se B ts fs,()) H')(q2:∀H',dn se B ts fs=0->¬D8 B ts s->bK [] H H'->Q (⟨none,0,0⟩,2,()) H')
  (q0:∀r ol H' sp,dn se B ts fs=0->iU B ts ol->D8 B ts s->aW dX H r H' (fB B ts fs ol s) sp->Q (r,0,()) H'):CALL P [aH,dX] wV [.pointer (some ⟨b,0,none⟩),a1.v,a2.v,eU.enc s] H Q:=by
 apply TL
 unfold xW
 refine QZ h okB hs hf fun H1 f1=>yO (fun e=>q1 H1 e f1) (fun e=> ?_)
 obtain⟨e1,e2,e3,e4⟩:=iM (e:=e)
 obtain⟨ol,ot⟩:=D7 okB e
 subst e1
 have rt:Rt m H1 b B ms a1 ts ol:=⟨h.new f1,okB,hs.bP f1 (by simp),ot⟩
 refine afG rt fun r H2 hr f2=>bG (fun w=>q2 _ e (fun q=> ?_) (f1.trans f2)) (fun w=> ?_)
 ·have w:(!r)=true:=w
  rw[hr.2 q]at w; cases w
 ·have w:(!r)=false:=w
  have hm:=hr.1 (by simpa using w)
  exact XL (rt.new f2) (hf.bP (f1.trans f2) (by simp)) e2 (hm.mem ot) fun x H3 sp no=>q0 x ol H3 sp e ot hm (no.older (f1.trans f2))
theorem abw(h:BD m H b se B ms)(okB:rD B)(hs:dB gX H a1 ts)(hf:dB TF H a2 fs){Q:Sl×Int×Unit->Heap->Prop}(q1:∀H',dn se B ts fs≠0->bK [] H H'->Q (⟨none,0,0⟩,dn se B ts fs,()) H')(q2:∀H',dn se B ts fs=0->¬D8 B ts s->bK [] H H'->Q (⟨none,0,0⟩,2,()) H')
  (q0:∀r ol H' sp,dn se B ts fs=0->iU B ts ol->D8 B ts s->aW TF H r H' (jq B ts fs ol s) sp->Q (r,0,()) H'):CALL P [aH,dX] wW [.pointer (some ⟨b,0,none⟩),a1.v,a2.v,eU.enc s] H Q:=by
 apply TR
 unfold xX
 refine QZ h okB hs hf fun H1 f1=>yO (fun e=>q1 H1 e f1) (fun e=> ?_)
 obtain⟨e1,e2,e3,e4⟩:=iM (e:=e)
 obtain⟨ol,ot⟩:=D7 okB e
 subst e1
 have rt:Rt m H1 b B ms a1 ts ol:=⟨h.new f1,okB,hs.bP f1 (by simp),ot⟩
 refine afG rt fun r H2 hr f2=>bG (fun w=>q2 _ e (fun q=> ?_) (f1.trans f2)) (fun w=> ?_)
 ·have w:(!r)=true:=w
  rw[hr.2 q]at w; cases w
 ·have w:(!r)=false:=w
  have hm:=hr.1 (by simpa using w)
  exact Q5 (rt.new f2) (hf.bP (f1.trans f2) (by simp)) e2 (hm.mem ot) fun x H3 sp no=>q0 x ol H3 sp e ot hm (no.older (f1.trans f2))
end
end Go.Proofs.YtijnknjopjmiiaaGreatDoor.Zq
end
section
namespace Go.Proofs.YtijnknjopjmiiaaGreatDoor.Zq
open Zv
section
variable{H:Heap}{b m:Nat}{se:Bool}{B:List Cd}{ms:List au}{a1 a2 a3:Sl}{ts:List Tg}{fs:List Ft}{ol:List Int}{l:List Sg}
abbrev U1:Tag:=CQ
abbrev NZ:=zI
theorem ahp(x:NZ):(U1.cells x).length=U1.n:=rfl
theorem akC:Jq E U1 110 (⟨⟨0,0,⟨0,0,0,0,0,0,0,ByteArray.mk #[]⟩⟩,⟨none,0,0⟩⟩:NZ):=⟨⟨_,_,_,rfl,rfl,rfl,rfl,by decide,by decide,rfl⟩,by decide,ahp,fun _=>rfl⟩
def trP(B:List Cd)(ts:List Tg)(ol:List Int)(n:Nat):Nat->List (List Ft×Sg)
 |0=>[]
 |i+1=>trP B ts ol n i++[((Ri B ts ol n i).1,sI B ts ol n i)]
def Ho(B:List Cd)(ts:List Tg)(ol:List Int):Nat->List (List Ft×Sg)
 |0=>[]
 |n+1=>Ho B ts ol n++trP B ts ol n (je B ts ol n).length
theorem XR(n:Nat):∀i,(trP B ts ol n i).length=i
 |0=>rfl
 |i+1=>by unfold trP; rw[List.length_append,XR n i]; rfl
theorem acG(n:Nat):∀i,i≤(je B ts ol n).length->(trP B ts ol n i).map (·.2)=(Ri B ts ol n i).2.2
 |0,_=>rfl
 |i+1,h=>by
  unfold trP
  rw[List.map_append,acG n i (by omega)]
  rfl
theorem acH:∀n,n≤5->(Ho B ts ol n).map (·.2)=jw B ts ol n
 |0,_=>rfl
 |n+1,h=>by
  unfold Ho jw vS
  rw[List.map_append,acH n (by omega),acG n _ (Nat.le_refl _),if_pos (by omega)]
theorem Om(ot:iU B ts ol):∀n,(Ho B ts ol n).length≤64*n
 |0=>by simp[Ho]
 |n+1=>by
  have h1:=Om ot n
  have h2:(je B ts ol n).length≤64:=uV ot _ _
  unfold Ho; rw[List.length_append,XR]; omega
def Ji(B:List Cd)(ts:List Tg)(ol:List Int)(q:Int)(p:List Ft×Sg):List Sg:=if q∈fB B ts p.1 ol p.2 then [p.2]else []
theorem acI(q:Int)(n:Nat):∀i,NY B ts ol q n i=(trP B ts ol n i).flatMap (Ji B ts ol q)
 |0=>rfl
 |i+1=>by
  unfold NY trP
  rw[List.flatMap_append,acI q n i]
  simp[Ji]
theorem acJ(q:Int):∀n,Bc B ts ol q n=(Ho B ts ol n).flatMap (Ji B ts ol q)
 |0=>rfl
 |n+1=>by
  unfold Bc Ho
  rw[List.flatMap_append,acJ q n,acI]
def StR(H:Heap)(B:List Cd)(ts:List Tg)(ol:List Int)(p:List Ft×Sg)(x:NZ):Prop:=x.S=p.2∧∃sp,Ow dX H x.About (fB B ts p.1 ol p.2) sp
def StL(H:Heap)(B:List Cd)(ts:List Tg)(ol:List Int)(tr:List (List Ft×Sg))(ll:List NZ):Prop:=ll.length=tr.length∧∀(i:Nat) p x,tr[i]? =some p->ll[i]? =some x->StR H B ts ol p x
theorem StL.new{H':Heap}{tr:List (List Ft×Sg)}{ll:List NZ}(h:StL H B ts ol tr ll)(f:bK [] H H'):StL H' B ts ol tr ll:=
 ⟨h.1,fun i p x h1 h2=>by obtain⟨e,sp,o⟩:=h.2 i p x h1 h2; exact⟨e,sp,o.bP f (by simp[Sl.off])⟩⟩
theorem StL.add{H':Heap}{out:Sl}{tr:List (List Ft×Sg)}{ll so:List NZ}(h:StL H B ts ol tr ll)(o:Ow U1 H out ll so)(k:After out H H'){p:List Ft×Sg}{x:NZ}(hx:StR H B ts ol p x):StL H' B ts ol (tr++[p]) (ll++[x]):=by
 have keep:∀{p x},StR H B ts ol p x->StR H' B ts ol p x:=fun{p x} ⟨e,sp,w⟩=>⟨e,sp,w.after k fun d e1 e2=>oC w o (by decide) d e1 e2⟩
 refine⟨by simp[h.1],fun i p' x' h1 h2=> ?_⟩
 by_cases hi:i<tr.length
 ·rw[List.getElem?_append_left hi]at h1
  rw[List.getElem?_append_left (by have:=h.1; omega)]at h2
  exact keep (h.2 i p' x' h1 h2)
 ·have hl:i<(tr++[p]).length:=(List.getElem?_eq_some_iff.1 h1).1
  have:i=tr.length:=by simp at hl; omega
  subst this
  rw[List.getElem?_append_right (Nat.le_refl _)]at h1
  rw[List.getElem?_append_right (by have:=h.1; omega),h.1]at h2
  simp at h1 h2
  subst h1; subst h2
  exact keep hx
theorem acK(h:BD m H b se B ms)(okB:rD B)(og:Jr B)(hs:dB gX H a1 ts){Q:Sl×Int×Unit->Heap->Prop}(q1:∀H',bD se B ts≠0->bK [] H H'->Q (⟨none,0,0⟩,bD se B ts,()) H')
  (q0:∀s ol H' ll sp,bD se B ts=0->iU B ts ol->aW U1 H s H' ll sp->StL H' B ts ol (Ho B ts ol 5) ll->Q (s,0,()) H'):CALL P [aH,dX] qm [.pointer (some ⟨b,0,none⟩),a1.v] H Q:=by
 apply SL
 unfold xJ
 refine Rh h okB hs (fun s H' e f=>dI (by simpa using e) (q1 H' e f)) fun s1 H1 sp1 es hse hlen e0 hmk n1=>bC rfl ?_
 subst hse
 obtain⟨ol,ot⟩:=D7 okB e0
 refine aO (fun(y:(Sl×Unit)×Unit) H'=>∃ll so,aW U1 H y.1.1 H' ll so∧StL H' B ts ol (Ho B ts ol 5) ll) (fun j2 hj2=> ?_) (fun y H' hh=>by obtain⟨ll,so,w1,w2⟩:=hh; exact q0 _ ol H' ll so es ot w1 w2)
 refine aY (fun(y:(Sl×Sl×Int×Unit)×Unit) H'=>∃(n:Nat) (ll so:List NZ) (sz:List Ft),y.1.2.2.1=(n:Int)+1∧n≤5∧aW TF H y.1.1 H' (mZ B ts ol n) sz∧aW U1 H y.1.2.1 H' ll so∧StL H' B ts ol (Ho B ts ol n) ll) (fun y=>6-y.1.2.2.1.toNat) ?_
  ⟨0,[],[],sp1,rfl,by omega,n1,(aW.nil' U1 H1).older n1.2.2,rfl,fun i p x h=>by simp[Ho]at h⟩
 rintro G ⟨⟨cur,out,i,_⟩,_⟩ H3 ⟨n,ll,so,sz,hi,hn,nf,no,hst⟩ hG
 simp only at hi nf no; subst hi
 dsimp only at hG ⊢
 refine cu (fun hlt=> ?_) (fun hge=>hj2 _ _ ⟨ll,so,no,?_⟩)
 ·have hn5:n<5:=by omega
  refine aO (fun(y:(Sl×Sl×Unit)×Unit) H'=>∃(ll' so':List NZ) (sz':List Ft),aW TF H y.1.1 H' (mZ B ts ol (n+1)) sz'∧aW U1 H y.1.2.1 H' ll' so'∧StL H' B ts ol (Ho B ts ol (n+1)) ll') (fun j6 hj6=> ?_) ?_
  ·have f3:=nf.2.2
   have jn:=Ba og e0 ot n
   have cn:=jn.dn e0
   refine afk (h.new f3) okB (hs.bP f3 (by simp)) nf.1.jH (fun _ e _=>absurd cn e) (fun _ _ hk _=>by omega) fun x8 r8 ol2 H5 s8 sr8 _ _ _ ot2 n8 nr8 _=> ?_
   have:=ot2.uniq ot; subst this
   have hLl:(je B ts ol2 n).length≤64:=uV ot _ _
   have nr8:aW eU H3 r8 H5 (Ri B ts ol2 n (je B ts ol2 n).length).2.2 sr8:=nr8
   have hat:∀k,k<(je B ts ol2 n).length->(Ri B ts ol2 n (je B ts ol2 n).length).2.2[k]? =some (sI B ts ol2 n k):=fun k hk=>Lc (mZ B ts ol2 n) (je B ts ol2 n) _ (Nat.le_refl _) k hk
   have hrl:r8.len=(je B ts ol2 n).length:=by rw[nr8.1.1]; exact(lU B ts ol2 (mZ B ts ol2 n) (je B ts ol2 n) _ (Nat.le_refl _)).2.2.2
   have f35:=n8.2.2
   generalize (Ri B ts ol2 n (je B ts ol2 n).length).2.2=W at nr8 hat
   refine aO (fun(y:(Sl×Sl×Unit)×Unit) H'=>∃(ll' so':List NZ) (sz':List Ft),aW TF H y.1.1 H' (mZ B ts ol2 (n+1)) sz'∧aW U1 H y.1.2.1 H' ll' so'∧StL H' B ts ol2 (Ho B ts ol2 (n+1)) ll') (fun j9 hj9=> ?_) (fun y H' hh=>hj6 _ _ hh)
   refine aY (fun(y:(Sl×Sl×Int×Unit)×Unit) H'=>∃(k:Nat) (ll' so':List NZ) (sz':List Ft),y.1.2.2.1=k∧k≤(je B ts ol2 n).length∧aW TF H y.1.1 H' (Ri B ts ol2 n k).1 sz'∧aW U1 H y.1.2.1 H' ll' so'∧StL H' B ts ol2 (Ho B ts ol2 n++trP B ts ol2 n k) ll'∧Ow eU H' r8 W sr8) (fun y=>(je B ts ol2 n).length-y.1.2.2.1.toNat) ?_
    ⟨0,ll,so,sz,rfl,Nat.zero_le _,nf.new f35,no.new f35,by simpa[trP]using hst.new f35,nr8.1⟩
   rintro G2 ⟨⟨cur2,out2,i2,_⟩,_⟩ H7 ⟨k,ll2,so2,sz2,hk,hkl,nf7,no7,hst7,r7⟩ hG2
   simp only at hk nf7 no7; subst hk
   dsimp only at hG2 ⊢
   refine cu (fun hlt2=> ?_) (fun hge2=>hj9 _ _ ⟨ll2,so2,sz2,?_,no7,?_⟩)
   ·have hlt2:k<(je B ts ol2 n).length:=by omega
    have hx:=hat k hlt2
    obtain⟨hmay,_⟩:=acF ot (afF hlt2)
    have jk:=ah7 og e0 ot (n:=n) (Nat.le_of_lt hlt2)
    have ck:=jk.dn e0
    have enx:(Ri B ts ol2 n (k+1)).1=jq B ts (Ri B ts ol2 n k).1 ol2 (sI B ts ol2 n k):=rfl
    have etp:trP B ts ol2 n (k+1)=trP B ts ol2 n k++[((Ri B ts ol2 n k).1,sI B ts ol2 n k)]:=rfl
    have hl2:ll2.length≤400:=by
     rw[hst7.1,List.length_append,XR]
     have:=Om ot n
     omega
    generalize sI B ts ol2 n k=s at hx hmay enx etp
    generalize (Ri B ts ol2 n k).1=F at jk ck enx etp nf7
    have f7:=nf7.2.2
    refine aZ (T:=eU) AZ r7.jH rfl hx rfl ?_
    refine abv (h.new f7) okB (hs.bP f7 (by simp)) nf7.1.jH (fun _ e _=>absurd ck e) (fun _ _ w _=>absurd hmay w) fun x16 ol3 H8 sp16 _ ot3 _ n16=> ?_
    have:=ot3.uniq ot; subst this
    have f78:=n16.2.2
    have r8':=r7.bP f78 (by simp[Sl.off])
    refine aZ (T:=eU) AZ r8'.jH rfl hx rfl ?_
    have no8:=no7.new f78
    refine qF akC rfl (fun _=>by simp) (m:=1) [(⟨s,x16⟩:NZ)] rfl rfl (by show 2*(_+1)*4096≤_; omega) no8.1 fun x20 H9 sp20 k1 k2 k3=> ?_
    have no9:=no8.app k1 k2 k3
    have st9:=(hst7.new f78).add no8.1 k3 (p:=(F,s)) (x:=⟨s,x16⟩) ⟨rfl,sp16,n16.1⟩
    have r9:=r8'.after k3 fun d e1 e2=>oC r8' no8.1 (by decide) d e1 e2
    have c9:Ow TF H9 cur2 F sz2:=(nf7.new f78).1.after k3 fun d e1 e2=>oC (nf7.new f78).1 no8.1 (by decide) d e1 e2
    refine aZ (T:=eU) AZ r9.jH rfl hx rfl ?_
    have f9:=no9.2.2
    refine abw (h.new f9) okB (hs.bP f9 (by simp)) c9.jH (fun _ e _=>absurd ck e) (fun _ _ w _=>absurd hmay w) fun x24 ol4 H10 sp24 _ ot4 _ n24=> ?_
    have:=ot4.uniq ot; subst this
    have f910:=n24.2.2
    rw[bT (by omega) (by omega)]
    exact hG2 _ _ ⟨k+1,_,sp20,sp24,by simp,hlt2,by rw[enx]; exact n24.older f9,no9.new f910,by rw[etp,←List.append_assoc]; exact st9.new f910,r9.bP f910 (by simp[Sl.off])⟩ (by simp; omega)
   ·have:k=(je B ts ol2 n).length:=by omega
    subst this; exact nf7
   ·have:k=(je B ts ol2 n).length:=by omega
    subst this; exact hst7
  ·rintro⟨⟨cur2,out2,_⟩,_⟩ H4 ⟨ll',so',sz',w1,w2,w3⟩
   dsimp only
   rw[bT (by omega) (by omega)]
   exact hG _ _ ⟨n+1,ll',so',sz',by simp,by omega,w1,w2,w3⟩ (by simp; omega)
 ·have:n=5:=by omega
  subst this; exact hst
theorem aby(h:BD m H b se B ms)(okB:rD B)(og:Jr B)(hs:dB gX H a1 ts){Q:Sl×Int×Unit->Heap->Prop}(q1:∀H',bD se B ts≠0->bK [] H H'->Q (⟨none,0,0⟩,bD se B ts,()) H')
  (q0:∀s ol H' sp,bD se B ts=0->iU B ts ol->aW eU H s H' (jw B ts ol 5) sp->Q (s,0,()) H'):CALL P [aH,dX] qj [.pointer (some ⟨b,0,none⟩),a1.v] H Q:=by
 apply Sj
 unfold xE
 refine acK h okB og hs (fun H' e f=> ?_) fun s ol H1 ll sp es ot n1 st=> ?_
 ·refine aO (fun(y:(Sl×Unit)×Unit) H2=>H2=H'∧y.1.1=⟨none,0,0⟩) (fun j hj=> ?_) (fun y H2 hh=>by obtain⟨rfl,hy⟩:=hh; dsimp only; rw[hy]; exact q1 _ e f)
  refine aY (fun(y:(Sl×Int×Unit)×Unit) H2=>H2=H'∧y.1.1=⟨none,0,0⟩∧y.1.2.1=0) (fun _=>0) ?_ ⟨rfl,rfl,rfl⟩
  rintro G ⟨⟨o,i,_⟩,_⟩ H2 ⟨rfl,ho,hi⟩ hG
  simp only at ho hi; subst ho; subst hi
  exact bC (by simp) (hj _ _ ⟨rfl,rfl⟩)
 ·have hl:ll.length≤320:=by rw[st.1]; exact Om ot 5
  have hsl:=n1.1.1
  have e5:=acH (B:=B) (ts:=ts) (ol:=ol) 5 (Nat.le_refl _)
  refine aO (fun(y:(Sl×Unit)×Unit) H'=>∃so,aW eU H y.1.1 H' (jw B ts ol 5) so) (fun j hj=> ?_) (fun y H' hh=>by obtain⟨so,hh⟩:=hh; exact q0 _ ol H' so es ot hh)
  refine aY (fun(y:(Sl×Int×Unit)×Unit) H'=>∃(n:Nat) (so:List Sg),y.1.2.1=n∧n≤ll.length∧aW eU H y.1.1 H' ((jw B ts ol 5).take n) so∧Ow U1 H' s ll sp) (fun y=>ll.length-y.1.2.1.toNat) ?_
   ⟨0,[],rfl,Nat.zero_le _,by simpa using(aW.nil' eU H1).older n1.2.2,n1.1⟩
  rintro G ⟨⟨out,i,_⟩,_⟩ H3 ⟨n,so,hi,hn,no,o3⟩ hG
  simp only at hi no; subst hi
  dsimp only at hG ⊢
  refine cu (fun hlt=> ?_) (fun hge=>hj _ _ ⟨so,?_⟩)
  ·have hlt:n<ll.length:=by omega
   have hx:ll[n]? =some ll[n]:=List.getElem?_eq_getElem hlt
   have hp:(Ho B ts ol 5)[n]? =some ((Ho B ts ol 5)[n]'(by have:=st.1; omega)):=List.getElem?_eq_getElem _
   have hr:=(st.2 n _ _ hp hx).1
   generalize ll[n]=x at hx hr
   generalize ((Ho B ts ol 5)[n]'_)=p at hp hr
   have hs5:(jw B ts ol 5)[n]? =some x.S:=by rw[←e5,List.getElem?_map,hp]; simp[hr]
   refine jr (T:=U1) (T1:=eU) (of:=0) ahp o3.jH rfl hx rfl [] ((U1.cells x).drop 10) (v:=x.S) rfl rfl rfl ?_
   refine qF BO rfl (fun _=>by simp) (m:=1) [x.S] rfl rfl (by rw[List.length_take]; show 2*(_+1)*4096≤_; omega) no.1 fun s4 H4 sp4 k1 k2 k3=> ?_
   rw[bT (by omega) (by omega)]
   refine hG _ _ ⟨n+1,sp4,by simp,hlt,?_,o3.after k3 fun d e1 e2=>oC o3 no.1 (by decide) d e1 e2⟩ (by simp; omega)
   rw[List.take_add_one,hs5]
   exact no.app k1 k2 k3
  ·have:n=(jw B ts ol 5).length:=by rw[←e5,List.length_map,←st.1]; omega
   rw[this,List.take_length]at no; exact no
theorem afH(h:BD m H b se B ms)(okB:rD B)(og:Jr B)(hs:dB gX H a1 ts)(bts:ts.length≤1048600){q:Int}{Q:Sl×Int×Unit->Heap->Prop}(q1:∀H',bD se B ts≠0->bK [] H H'->Q (⟨none,0,0⟩,bD se B ts,()) H')
  (q2:∀H',bD se B ts=0->¬(1≤q∧∃t,ts[(q-1).toNat]? =some t∧t.Place=4)->bK [] H H'->Q (⟨none,0,0⟩,6,()) H')
  (q0:∀s ol H' sp,bD se B ts=0->iU B ts ol->1≤q->(∃t,ts[(q-1).toNat]? =some t∧t.Place=4)->aW eU H s H' (Bc B ts ol q 5) sp->Q (s,0,()) H'):CALL P [aH,dX] vZ [.pointer (some ⟨b,0,none⟩),a1.v,.int .i64 q] H Q:=by
 apply Y5
 unfold Dh
 have hsl:=hs.1
 refine acK h okB og hs (fun H' e f=>dI (by simpa using e) (q1 H' e f)) fun s ol H1 ll sp es ot n1 st=>bC rfl ?_
 have f1:=n1.2.2
 refine hJ (¬(1≤q∧∃t,ts[(q-1).toNat]? =some t∧t.Place=4)) (fun j hj=> ?_) (fun c=>q2 _ es c f1) (fun c=> ?_)
 ·refine cu (fun w1=>hj _ ?_) (fun w1=>cu (fun w2=>hj _ ?_) (fun w2=> ?_))
  ·simp only[true_iff]; exact fun k=>by have:=k.1; omega
  ·simp only[true_iff]; exact fun k=>by obtain⟨_,t,k2,_⟩:=k; have:=(List.getElem?_eq_some_iff.1 k2).1; omega
  ·have ht:ts[(q-1).toNat]? =some (ts[(q-1).toNat]'(by omega)):=List.getElem?_eq_getElem (by omega)
   generalize (ts[(q-1).toNat]'(by omega))=t at ht
   refine kS (hs.bP f1 (by simp)) (n:=(q-1).toNat) (by rw[bT (by omega) (by omega)]; omega) ht (hj _ ?_)
   simp only[bne_iff_ne,ne_eq]
   constructor
   ·rintro k ⟨_,t',k2,k3⟩
    rw[ht]at k2; cases k2; exact k k3
   ·exact fun k k3=>k ⟨by omega,t,ht,k3⟩
 obtain⟨hq1,hq2⟩:=Classical.not_not.1 c
 have hl:ll.length≤320:=by rw[st.1]; exact Om ot 5
 have hsl1:=n1.1.1
 have e5:=acJ (B:=B) (ts:=ts) (ol:=ol) q 5
 refine aO (fun(y:(Sl×Unit)×Unit) H'=>∃so,aW eU H y.1.1 H' (Bc B ts ol q 5) so) (fun j7 hj7=> ?_) (fun y H' hh=>by obtain⟨so,hh⟩:=hh; exact q0 _ ol H' so es ot hq1 hq2 hh)
 refine aY (fun(y:(Sl×Int×Unit)×Unit) H'=>∃(n:Nat) (so:List Sg),y.1.2.1=n∧n≤ll.length∧aW eU H y.1.1 H' (((Ho B ts ol 5).take n).flatMap (Ji B ts ol q)) so∧Ow U1 H' s ll sp∧StL H' B ts ol (Ho B ts ol 5) ll) (fun y=>ll.length-y.1.2.1.toNat) ?_
  ⟨0,[],rfl,Nat.zero_le _,by simpa using(aW.nil' eU H1).older f1,n1.1,st⟩
 rintro G ⟨⟨out,i,_⟩,_⟩ H4 ⟨n,so,hi,hn,no,o4,st4⟩ hG
 simp only at hi no; subst hi
 dsimp only at hG ⊢
 refine cu (fun hlt=> ?_) (fun hge=>hj7 _ _ ⟨so,?_⟩)
 ·have hlt:n<ll.length:=by omega
  have hx:ll[n]? =some ll[n]:=List.getElem?_eq_getElem hlt
  have hp:(Ho B ts ol 5)[n]? =some ((Ho B ts ol 5)[n]'(by have:=st.1; omega)):=List.getElem?_eq_getElem _
  obtain⟨hr,spa,oa⟩:=st4.2 n _ _ hp hx
  generalize ll[n]=x at hx hr oa
  generalize ((Ho B ts ol 5)[n]'_)=p at hp hr oa
  have tk:=A8 (Ji B ts ol q) hp
  have hpre:(((Ho B ts ol 5).take n).flatMap (Ji B ts ol q)).length≤320:=by
   have:=uU (f:=Ji B ts ol q) (c:=1) (l:=(Ho B ts ol 5).take n) fun y _=>by unfold Ji; split<;>simp
   rw[List.length_take]at this; have:=st.1; omega
  have hal:=pW B ts p.1 ol p.2
  have few:=ot.few
  have hla:=oa.1
  refine aO (fun(y:(Sl×Unit)×Unit) H'=>∃so',aW eU H y.1.1 H' (((Ho B ts ol 5).take (n+1)).flatMap (Ji B ts ol q)) so'∧Ow U1 H' s ll sp∧StL H' B ts ol (Ho B ts ol 5) ll) (fun j11 hj11=> ?_) ?_
  ·refine aO (fun(y:(Sl×Unit)×Unit) H'=>∃so',aW eU H y.1.1 H' (((Ho B ts ol 5).take (n+1)).flatMap (Ji B ts ol q)) so'∧Ow U1 H' s ll sp∧StL H' B ts ol (Ho B ts ol 5) ll) (fun j13 hj13=> ?_) (fun y H' hh=>hj11 _ _ hh)
   have abl:∀{K:Sl->Prop},K x.About->bQ s.p s.len (n:Int) 11 fun b o=>LD aH H4 b (o+10) K:=fun hK=>jr (T:=U1) (T1:=aH) (of:=10) ahp o4.jH rfl hx rfl ((U1.cells x).take 10) [] (v:=x.About) rfl rfl rfl hK
   refine aY (fun(y:(Sl×Int×Unit)×Unit) H'=>H'=H4∧y.1.1=out∧∃k:Nat,y.1.2.1=k∧k≤(fB B ts p.1 ol p.2).length∧∀(i:Nat) z,i<k->(fB B ts p.1 ol p.2)[i]? =some z->z≠q) (fun y=>(fB B ts p.1 ol p.2).length-y.1.2.1.toNat) ?_ ⟨rfl,rfl,0,rfl,Nat.zero_le _,fun i z h=>by omega⟩
   rintro G2 ⟨⟨out2,i2,_⟩,_⟩ H7 ⟨rfl,rfl,k,hk,hkl,inv⟩ hG2
   simp only at hk; subst hk
   dsimp only at hG2 ⊢
   refine abl (cu (fun hlt2=> ?_) (fun hge2=>hj13 _ _ ⟨so,?_,o4,st4⟩))
   ·have hlt2:k<(fB B ts p.1 ol p.2).length:=by omega
    have hz:(fB B ts p.1 ol p.2)[k]? =some (fB B ts p.1 ol p.2)[k]:=List.getElem?_eq_getElem hlt2
    have hzm:=List.getElem_mem hlt2
    generalize (fB B ts p.1 ol p.2)[k]=z at hz hzm
    refine abl (aZ (T:=dX) uP oa.jH rfl hz rfl (eP (fun e=> ?_) (fun e=> ?_)))
    ·have ew:Ji B ts ol q p=[p.2]:=by unfold Ji; rw[if_pos (e▸hzm)]
     refine jr (T:=U1) (T1:=eU) (of:=0) ahp o4.jH rfl hx rfl [] ((U1.cells x).drop 10) (v:=x.S) rfl rfl rfl ?_
     refine qF BO rfl (fun _=>by simp) (m:=1) [x.S] rfl rfl (by show 2*(_+1)*4096≤_; omega) no.1 fun s4 H8 sp4 k1 k2 k3=> ?_
     refine hj13 _ _ ⟨sp4,by rw[tk,ew,←hr]; exact no.app k1 k2 k3,o4.after k3 fun d e1 e2=>oC o4 no.1 (by decide) d e1 e2,st4.1,fun i p' x' h1 h2=> ?_⟩
     obtain⟨w1,w2,w3⟩:=st4.2 i p' x' h1 h2
     exact⟨w1,w2,w3.after k3 fun d e1 e2=>oC w3 no.1 (by decide) d e1 e2⟩
    ·rw[bT (by omega) (by omega)]
     refine hG2 _ _ ⟨rfl,rfl,k+1,by simp,hlt2,fun i u w hu=> ?_⟩ (by simp; omega)
     by_cases ei:i=k
     ·subst ei; rw[hz]at hu; cases hu; exact e
     ·exact inv i u (by omega) hu
   ·have ew:Ji B ts ol q p=[]:=by
     unfold Ji
     rw[if_neg fun w=> ?_]
     obtain⟨i,hi⟩:=List.mem_iff_getElem?.1 w
     exact inv i q (by have:=(List.getElem?_eq_some_iff.1 hi).1; omega) hi rfl
    rw[tk,ew,List.append_nil]; exact no
  ·rintro⟨⟨out2,_⟩,_⟩ H5 ⟨so',w1,w2,w3⟩
   rw[bT (by omega) (by omega)]
   exact hG _ _ ⟨n+1,so',by simp,hlt,w1,w2,w3⟩ (by simp; omega)
 ·have:n=(Ho B ts ol 5).length:=by have:=st.1; omega
  rw[this,List.take_length,←e5]at no; exact no
end
end Go.Proofs.YtijnknjopjmiiaaGreatDoor.Zq
end
section
namespace Go.Proofs.YtijnknjopjmiiaaGreatDoor.Zq
open Zv
section
variable{H:Heap}{b m:Nat}{se:Bool}{B:List Cd}{ms:List au}{a1 a2 a3:Sl}{ts:List Tg}{fs:List Ft}{ol:List Int}{l:List Sg}
open Classical in
noncomputable def olC(B:List Cd)(ts:List Tg):List Int:=if h:∃ol,iU B ts ol then h.choose else []
theorem G6(ot:iU B ts ol):olC B ts=ol:=by
 unfold olC
 have h:∃ol,iU B ts ol:=⟨ol,ot⟩
 rw[dif_pos h]
 exact h.choose_spec.uniq ot
noncomputable def LOf(se:Bool)(B:List Cd)(ms:List au)(ts:List Tg):List Ft:=if bD se B ts=0 then vF ms B ts (olC B ts) 6 else []
noncomputable def Jj(se:Bool)(B:List Cd)(ms:List au)(ts:List Tg)(k:Int):List Ft:=if uZ se B ts k=0 then vF ms B ts (olC B ts) k.toNat else []
noncomputable def N7(se:Bool)(B:List Cd)(ts:List Tg):List Sg:=if bD se B ts=0 then jw B ts (olC B ts) 5 else []
def onT(ts:List Tg)(q:Int):Prop:=1≤q∧∃t,ts[(q-1).toNat]? =some t∧t.Place=4
open Classical in
noncomputable def G7(se:Bool)(B:List Cd)(ts:List Tg)(q:Int):Int:=if bD se B ts≠0 then bD se B ts else if onT ts q then 0 else 6
noncomputable def Fj(se:Bool)(B:List Cd)(ts:List Tg)(q:Int):List Sg:=if G7 se B ts q=0 then Bc B ts (olC B ts) q 5 else []
theorem ahq{k:Int}(h0:0≤k)(h6:k≤6):afw B ms ts ol k=vF ms B ts ol k.toNat:=by
 unfold afw vF
 by_cases e:k=6
 ·rw[if_pos e,if_neg (by omega)]
 ·rw[if_neg e,if_pos (by omega)]
theorem abz{k:Int}(e:bD se B ts=0)(h0:0≤k)(h6:k≤6):uZ se B ts k=0:=by unfold uZ; rw[if_neg (by simpa using e),if_neg (by omega)]
theorem afI{k:Int}(e:bD se B ts=0)(h:k<0∨6<k):uZ se B ts k=2:=by unfold uZ; rw[if_neg (by simpa using e),if_pos h]
theorem XT{k:Int}(e:bD se B ts≠0):uZ se B ts k=bD se B ts:=by unfold uZ; rw[if_pos e]
theorem afJ{k:Int}(e:uZ se B ts k=0):bD se B ts=0∧0≤k∧k≤6:=by
 unfold uZ at e
 split at e
 ·rename_i h; exact absurd e h
 ·rename_i h
  split at e
  ·cases e
  ·exact⟨by simpa using h,by omega,by omega⟩
theorem ah9(h:BD m H b se B ms)(okB:rD B)(og:Jr B)(hs:dB gX H a1 ts)(bts:ts.length≤1048600){k:Int}{Q:Sl×Int×Unit->Heap->Prop}(hq:∀s H' sp,(Jj se B ms ts k).length≤1048600->aW TF H s H' (Jj se B ms ts k) sp->Q (s,uZ se B ts k,()) H'):CALL P [aH,dX] jY [.pointer (some ⟨b,0,none⟩),a1.v,.int .i64 k] H Q:=by
 refine afx h okB og hs (fun H' e f=>hq _ _ [] ?_ ?_) fun s ol H' sp e e0 hmk ot n=> ?_
 ·unfold Jj; rw[if_neg e]; simp
 ·unfold Jj; rw[if_neg e]; exact(aW.nil' TF H').older f
 ·obtain⟨_,h0,h6⟩:=afJ e
  have el:Jj se B ms ts k=vF ms B ts ol k.toNat:=by unfold Jj; rw[if_pos e,G6 ot]
  obtain⟨rfl,_⟩:=iM (e:=e0)
  have:=hq s H' sp (by rw[el,XQ og e0 ot]; omega) (by rw[el,←ahq h0 h6]; exact n)
  rwa [e]at this
theorem akD(h:BD m H b se B ms)(okB:rD B)(og:Jr B)(hs:dB gX H a1 ts)(bts:ts.length≤1048600){Q:Sl×Int×Unit->Heap->Prop}(hq:∀s H' sp,(LOf se B ms ts).length≤1048600->aW TF H s H' (LOf se B ms ts) sp->Q (s,bD se B ts,()) H'):CALL P [aH,dX] Gf [.pointer (some ⟨b,0,none⟩),a1.v] H Q:=by
 apply aa1
 unfold Gn
 have e1:Jj se B ms ts 6=LOf se B ms ts:=by
  unfold Jj LOf
  by_cases e:bD se B ts=0
  ·rw[if_pos e,if_pos (abz e (by omega) (by omega))]; rfl
  ·rw[if_neg e,if_neg (by rw[XT e]; exact e)]
 have e2:uZ se B ts 6=bD se B ts:=by
  by_cases e:bD se B ts=0
  ·rw[e,abz e (by omega) (by omega)]
  ·exact XT e
 refine ah9 h okB og hs bts fun s H' sp hl n=> ?_
 rw[e1]at hl n
 have:=hq s H' sp hl n
 rw[←e2]at this
 exact this
theorem akE(h:BD m H b se B ms)(okB:rD B)(og:Jr B)(hs:dB gX H a1 ts){Q:Sl×Int×Unit->Heap->Prop}(hq:∀s H' sp,(N7 se B ts).length≤1048600->aW eU H s H' (N7 se B ts) sp->Q (s,bD se B ts,()) H'):CALL P [aH,dX] qj [.pointer (some ⟨b,0,none⟩),a1.v] H Q:=by
 refine aby h okB og hs (fun H' e f=>hq _ _ [] ?_ ?_) fun s ol H' sp e ot n=> ?_
 ·unfold N7; rw[if_neg e]; simp
 ·unfold N7; rw[if_neg e]; exact(aW.nil' eU H').older f
 ·have el:N7 se B ts=jw B ts ol 5:=by unfold N7; rw[if_pos e,G6 ot]
  have:=hq s H' sp (by rw[el]; have:=Bd ot 5; omega) (by rw[el]; exact n)
  rwa [e]at this
theorem ajT(h:BD m H b se B ms)(okB:rD B)(og:Jr B)(hs:dB gX H a1 ts)(bts:ts.length≤1048600){q:Int}{Q:Sl×Int×Unit->Heap->Prop}(hq:∀s H' sp,(Fj se B ts q).length≤1048600->aW eU H s H' (Fj se B ts q) sp->Q (s,G7 se B ts q,()) H'):CALL P [aH,dX] vZ [.pointer (some ⟨b,0,none⟩),a1.v,.int .i64 q] H Q:=by
 refine afH h okB og hs bts (fun H' e f=> ?_) (fun H' e hn f=> ?_) fun s ol H' sp e ot h1 h2 n=> ?_
 ·have ee:G7 se B ts q=bD se B ts:=by unfold G7; rw[if_pos e]
  have el:Fj se B ts q=[]:=by unfold Fj; rw[if_neg (by rw[ee]; exact e)]
  have:=hq ⟨none,0,0⟩ H' [] (by rw[el]; simp) (by rw[el]; exact(aW.nil' eU H').older f)
  rwa [ee]at this
 ·have ee:G7 se B ts q=6:=by unfold G7; rw[if_neg (by simpa using e),if_neg (show ¬onT ts q from hn)]
  have el:Fj se B ts q=[]:=by unfold Fj; rw[if_neg (by rw[ee]; decide)]
  have:=hq ⟨none,0,0⟩ H' [] (by rw[el]; simp) (by rw[el]; exact(aW.nil' eU H').older f)
  rwa [ee]at this
 ·have ee:G7 se B ts q=0:=by unfold G7; rw[if_neg (by simpa using e),if_pos (show onT ts q from⟨h1,h2⟩)]
  have el:Fj se B ts q=Bc B ts ol q 5:=by unfold Fj; rw[if_pos ee,G6 ot]
  have:=hq s H' sp (by rw[el]; have:=Jh ot q 5; omega) (by rw[el]; exact n)
  rwa [ee]at this
theorem ajU(h:BP m H b se B ms)(okB:rD B)(og:Jr B)(hs:dB gX H a1 ts)(fla:Flat H a1)(okt:∀t∈ts,t.Stamp≤9223372036854775807)(bts:ts.length≤1048600){k:Int}{Q:Sl×Int×Unit->Heap->Prop}(hq:∀s H' sp,(Jj se B ms ts k).length≤1048600->aW TF H s H' (Jj se B ms ts k) sp->Q (s,uZ se B ts k,()) H'):CALL P [aH,dX] lK [.pointer (some ⟨b,0,none⟩),a1.v,.int .i64 k] H Q:=by
 have nil:∀H',uZ se B ts k≠0->bK [] H H'->Q (⟨none,0,0⟩,uZ se B ts k,()) H':=fun H' e f=>by
  have el:Jj se B ms ts k=[]:=by unfold Jj; rw[if_neg e]
  exact hq ⟨none,0,0⟩ H' [] (by rw[el]; simp) (by rw[el]; exact(aW.nil' TF H').older f)
 refine afC h okB og hs fla okt bts (fun H' e f=> ?_) (fun H' e hk f=> ?_) fun s ol H' sp e _ e0 _ ot h0 h6 n=> ?_
 ·have:=nil H' (by rw[XT e]; exact e) f
  rwa [XT e]at this
 ·have:=nil H' (by rw[afI e hk]; decide) f
  rwa [afI e hk]at this
 ·have eb:=abz e h0 h6
  have el:Jj se B ms ts k=vF ms B ts ol k.toNat:=by unfold Jj; rw[if_pos eb,G6 ot]
  obtain⟨rfl,_⟩:=iM (e:=e0)
  have:=hq s H' sp (by rw[el,XQ og e0 ot]; omega) (by rw[el]; exact n)
  rwa [eb]at this
theorem ajV(h:BP m H b se B ms)(okB:rD B)(og:Jr B)(hs:dB gX H a1 ts)(fla:Flat H a1)(okt:∀t∈ts,t.Stamp≤9223372036854775807)(bts:ts.length≤1048600){Q:Sl×Int×Unit->Heap->Prop}(hq:∀s H' sp,(LOf se B ms ts).length≤1048600->aW TF H s H' (LOf se B ms ts) sp->Q (s,bD se B ts,()) H'):CALL P [aH,dX] yV [.pointer (some ⟨b,0,none⟩),a1.v] H Q:=by
 refine ajS h okB og hs fla okt bts (fun H' e f=> ?_) fun s ol H' sp e _ e0 _ ot n=> ?_
 ·have el:LOf se B ms ts=[]:=by unfold LOf; rw[if_neg e]
  exact hq ⟨none,0,0⟩ H' [] (by rw[el]; simp) (by rw[el]; exact(aW.nil' TF H').older f)
 ·have el:LOf se B ms ts=vF ms B ts ol 6:=by unfold LOf; rw[if_pos e,G6 ot]
  obtain⟨rfl,_⟩:=iM (e:=e0)
  have:=hq s H' sp (by rw[el,XQ og e0 ot]; omega) (by rw[el]; exact n)
  rwa [e]at this
theorem ajW(h:BP m H b se B ms)(okB:rD B)(og:Jr B)(hs:dB gX H a1 ts)(fla:Flat H a1)(okt:∀t∈ts,t.Stamp≤9223372036854775807)(bts:ts.length≤1048600){Q:Sl×Int×Unit->Heap->Prop}(hq:∀s H' sp,(N7 se B ts).length≤1048600->aW eU H s H' (N7 se B ts) sp->Q (s,bD se B ts,()) H'):CALL P [aH,dX] nH [.pointer (some ⟨b,0,none⟩),a1.v] H Q:=by
 refine afE h okB og hs fla okt bts (fun H' e f=>hq _ _ [] ?_ ?_) fun s ol H' sp e ot n=> ?_
 ·unfold N7; rw[if_neg e]; simp
 ·unfold N7; rw[if_neg e]; exact(aW.nil' eU H').older f
 ·have el:N7 se B ts=jw B ts ol 5:=by unfold N7; rw[if_pos e,G6 ot]
  have:=hq s H' sp (by rw[el]; have:=Bd ot 5; omega) (by rw[el]; exact n)
  rwa [e]at this
theorem ajX(h:BP m H b se B ms)(okB:rD B)(og:Jr B)(hs:dB gX H a1 ts)(fla:Flat H a1)(okt:∀t∈ts,t.Stamp≤9223372036854775807)(bts:ts.length≤1048600){q:Int}{Q:Sl×Int×Unit->Heap->Prop}(hq:∀s H' sp,(Fj se B ts q).length≤1048600->aW eU H s H' (Fj se B ts q) sp->Q (s,G7 se B ts q,()) H'):CALL P [aH,dX] zJ [.pointer (some ⟨b,0,none⟩),a1.v,.int .i64 q] H Q:=by
 refine aiZ h okB og hs fla okt bts (fun H' e f=> ?_) (fun H' e hn f=> ?_) fun s ol H' sp e ot h1 h2 n=> ?_
 ·have ee:G7 se B ts q=bD se B ts:=by unfold G7; rw[if_pos e]
  have el:Fj se B ts q=[]:=by unfold Fj; rw[if_neg (by rw[ee]; exact e)]
  have:=hq ⟨none,0,0⟩ H' [] (by rw[el]; simp) (by rw[el]; exact(aW.nil' eU H').older f)
  rwa [ee]at this
 ·have ee:G7 se B ts q=6:=by unfold G7; rw[if_neg (by simpa using e),if_neg (show ¬onT ts q from hn)]
  have el:Fj se B ts q=[]:=by unfold Fj; rw[if_neg (by rw[ee]; decide)]
  have:=hq ⟨none,0,0⟩ H' [] (by rw[el]; simp) (by rw[el]; exact(aW.nil' eU H').older f)
  rwa [ee]at this
 ·have ee:G7 se B ts q=0:=by unfold G7; rw[if_neg (by simpa using e),if_pos (show onT ts q from⟨h1,h2⟩)]
  have el:Fj se B ts q=Bc B ts ol q 5:=by unfold Fj; rw[if_pos ee,G6 ot]
  have:=hq s H' sp (by rw[el]; have:=Jh ot q 5; omega) (by rw[el]; exact n)
  rwa [ee]at this
end
end Go.Proofs.YtijnknjopjmiiaaGreatDoor.Zq
end
section
namespace Go.Proofs.YtijnknjopjmiiaaGreatDoor.Zq
noncomputable def ob{α β:Type}(x:Option α)(f:α->Option β):Option β:=Option.rec none f x
abbrev FL:=List (Nat×Option Value)
noncomputable def FI(l:FL)(t:Nat):Option Value:=List.rec none (fun p _ ih=>Prod.rec (fun i v=>Bool.rec ih v (Nat.beq i t)) p) l
noncomputable def XU(l:FL)(d:Option Nat)(v:Value):FL:=Option.rec l (fun t=>(t,some v)::l) d
abbrev R:=Bool
inductive Tr where
 |nil
 |node (v:Option iF) (a b:Tr)
noncomputable def jA(t:Tr):Nat->Option iF:=
 Tr.rec (fun _=>none) (fun v _ _ fa fb i=>Bool.rec (Bool.rec (fb (Nat.sub (Nat.div i 2) 1)) (fa (Nat.div i 2)) (Nat.beq (Nat.mod i 2) 1)) v (Nat.beq i 0)) t
noncomputable def sS(d:Nat):Tr->Nat->iF->Tr:=
 Nat.rec (fun t _ _=>t) (fun _ ih t i x=>
  Tr.rec
   (Bool.rec (Bool.rec (.node none .nil (ih .nil (Nat.sub (Nat.div i 2) 1) x)) (.node none (ih .nil (Nat.div i 2) x) .nil) (Nat.beq (Nat.mod i 2) 1)) (.node (some x) .nil .nil) (Nat.beq i 0))
   (fun v a b _ _=>Bool.rec (Bool.rec (.node v a (ih b (Nat.sub (Nat.div i 2) 1) x)) (.node v (ih a (Nat.div i 2) x) b) (Nat.beq (Nat.mod i 2) 1)) (.node (some x) a b) (Nat.beq i 0)) t) d
inductive Dl where
 |keep
 |push (x:iF)
 |set (b:Nat) (x:iF)
 |kpush (b:Nat) (k x:iF)
def jB(H:Heap):Dl->Heap
 | .keep=>H
 | .push x=>H++[x]
 | .set b x=>H.set b x
 | .kpush b k x=>(H.set b k)++[x]
noncomputable def G8(n:Nat)(t:Tr)(d:Dl)(K:Nat->Tr->Option R):Option R:=
 Dl.rec (K n t) (fun x=>Bool.rec none (K (Nat.succ n) (sS 25 t n x)) (Nat.ble (Nat.succ n) 16777216)) (fun b x=>Bool.rec none (K n (sS 25 t b x)) (Nat.ble (Nat.succ b) n))
  (fun b k x=>Bool.rec none (Bool.rec none (K (Nat.succ n) (sS 25 (sS 25 t b k) n x)) (Nat.ble (Nat.succ b) n)) (Nat.ble (Nat.succ n) 16777216)) d
noncomputable def acL(l:List Value):Nat->Option (List Value):=
 List.rec (fun n=>Nat.rec (some []) (fun _ _=>none) n) (fun x r ih n=>Nat.rec (some (x::r)) (fun n _=>ih n) n) l
noncomputable def acM(l:List Value):Nat->Option (List Value):=
 List.rec (fun n=>Nat.rec (some []) (fun _ _=>none) n) (fun x _ ih n=>Nat.rec (some []) (fun n _=>ob (ih n) fun q=>some (x::q)) n) l
noncomputable def Rk(l:List Value):List Value->Option (List Value):=
 List.rec (fun vs=>List.rec (some []) (fun _ _ _=>none) vs) (fun x r ih vs=>List.rec (some (x::r)) (fun v vs _=>ob (ih vs) fun q=>some (v::q)) vs) l
noncomputable def VF(l:List Value):Nat->List Value->Option (List Value):=
 List.rec (fun n vs=>Nat.rec (Rk [] vs) (fun _ _=>none) n) (fun x r ih n vs=>Nat.rec (Rk (x::r) vs) (fun n _=>ob (ih n vs) fun q=>some (x::q)) n) l
noncomputable def ajY(m off:Nat):Option iF->Option (List Value)
 |some (.row c _ _ _ true)=>(acL c off).bind fun c=>acM c m
 |_=>none
noncomputable def frd(t:Tr)(b off m:Nat):Option (List Value):=ajY m off (jA t b)
noncomputable def aj0(b off:Nat)(vs:List Value):Option iF->Option Dl
 |some (.row c sz o false true)=>if vs.all cell1 then(VF c off vs).bind fun c=>some (.set b (.row c sz o false true))else none
 |_=>none
noncomputable def fwr(t:Tr)(b off:Nat)(vs:List Value):Option Dl:=aj0 b off vs (jA t b)
noncomputable def aj1(x:Operand):FL->Option Value:=
 Operand.rec (fun t l=>FI l t) (fun v _=>Bool.rec none (some v) (flat v)) (fun _ _=>none) (fun f _=>some (.func (.func f) #[] #[])) x
noncomputable def dM(l:FL)(x:Operand):Option Value:=aj1 x l
noncomputable def sH(l:FL):List Operand->Option (List Value)
 |[]=>some []
 |x::r=>ob (dM l x) fun v=>ob (sH l r) fun vs=>some (v::vs)
noncomputable def L8(l:FL):Option Operand->Option (Option Value)
 |none=>some none
 |some x=>ob (dM l x) fun v=>some (some v)
noncomputable def G9(l:FL):List (Nat×Operand)->Option (List (Nat×Value))
 |[]=>some []
 |(i,x)::r=>ob (dM l x) fun v=>ob (G9 l r) fun vs=>some ((i,v)::vs)
noncomputable def aam(E:Env)(ty:TypeId)(addr:Value)(t:Tr):Option Value:=
 match addr with
 | .pointer (some ⟨b,off,none⟩)=>(E.ty ty).bind fun ti=>(frd t b off ti.size).bind fun cs=>iG ti.k cs
 |_=>none
noncomputable def XV(E:Env)(ty:TypeId)(addr v:Value)(t:Tr):Option Dl:=
 match addr with
 | .pointer (some ⟨b,off,none⟩)=>(E.ty ty).bind fun ti=>if v.cells.toList.length=ti.size then fwr t b off v.cells.toList else none
 |_=>none
noncomputable def Le(E:Env)(ty:TypeId)(n:Nat):Option (Value×Dl):=
 (E.ty ty).bind fun ti=>some (.pointer (some ⟨n,0,none⟩),.push (.row ti.zero ti.size false false true))
noncomputable def ahr(v:Value)(n:Nat):Option (Value×Dl):=
 some (.pointer (some ⟨n,0,none⟩),.push (.row v.cells.toList v.cells.toList.length false false true))
noncomputable def wH(E:Env)(ty:TypeId)(len:Nat)(parts:List (Nat×Value))(n:Nat):Option (Value×Dl):=
 (E.ty ty).bind fun ti=>
  match ti.k with
  | .slice e=>(E.ty e).bind fun te=>
   if len*te.size≤16777216 then
    (Lm (fun i=>some (i*te.size,te.size)) (rep len te.zero) parts).bind fun cs=>some (.slice (some ⟨n,0,none⟩) len len,.push (.row cs te.size false false true))
   else none
  |_=>none
noncomputable def Bf(E:Env)(ty:TypeId)(len cap:Value)(n:Nat):Option (Value×Dl):=
 match len,cap with
 | .int _ l,.int _ c=>
  (E.ty ty).bind fun ti=>
   match ti.k with
   | .slice e=>(E.ty e).bind fun te=>
    if 0≤l∧l≤c∧te.bytes*c≤281474976710656∧c≤9223372036854775807 then
     some (.slice (some ⟨n,0,none⟩) l.toNat c.toNat,.push (.row (rep c.toNat te.zero) te.size false false true))
    else none
   |_=>none
 |_,_=>none
noncomputable def Rn(t:Tr)(b off cap:Nat):Option Bool:=
 match jA t b with
 |some (.row c sz opn _ _)=>some (!opn||decide (off+cap*sz<c.length))
 |_=>none
noncomputable def abA(t:Tr)(b size:Nat):Option Bool:=
 match jA t b with
 |some (.row _ sz _ _ _)=>some (decide (sz=size))
 |_=>none
noncomputable def XW(E:Env)(ty:TypeId)(x:Value)(lo hi mx:Option Value)(t:Tr):Option Value:=
 if mx.isSome&&hi.isNone then none else
 (E.ty ty).bind fun ti=>
  match ti.k,x with
  | .array n e,.pointer (some ⟨b,off,none⟩)=>(E.ty e).bind fun te=>
   (dQ mx n).bind fun m=>(dQ hi n).bind fun h=>(dQ lo 0).bind fun l=>
    if m≤n∧h≤m∧l≤h then some (.slice (some ⟨b,if m=l then off else off+l*te.size,none⟩) (h-l) (m-l))else none
  | .slice e,.slice (some ⟨b,off,none⟩) len cap=>(E.ty e).bind fun te=>
   (dQ mx cap).bind fun m=>(dQ hi len).bind fun h=>(dQ lo 0).bind fun l=>
    if m≤cap∧h≤m∧l≤h then
     (if mx.isSome then some (.slice (some ⟨b,if m=l then off else off+l*te.size,none⟩) (h-l) (m-l))
     else(Rn t b off cap).bind fun ex=>if ex then
      some (.slice (some ⟨b,if m=l then off else off+l*te.size,none⟩) (h-l) (m-l))
     else(abA t b te.size).bind fun hs=>if hs then
      (if l<m then some (.slice (some ⟨b,off+l*te.size,none⟩) (h-l) (m-l))
      else some (.slice (some ⟨b,off,some 0⟩) 0 0))
     else none)
    else none
  | .slice e,.slice none 0 0=>(E.ty e).bind fun _=>
   (dQ mx 0).bind fun m=>(dQ hi 0).bind fun h=>(dQ lo 0).bind fun l=>if m≤0∧h≤m∧l≤h then some (.slice none 0 0)else none
  | .slice e,.slice (some ⟨b,off,some 0⟩) 0 0=>(E.ty e).bind fun _=>
   if mx.isSome then none else
   (dQ hi 0).bind fun h=>(dQ lo 0).bind fun l=>if h≤0∧l≤h then some (.slice (some ⟨b,off,some 0⟩) 0 0)else none
  | .string,.string s=>
   if mx.isSome then none else
   (dQ hi s.size).bind fun h=>(dQ lo 0).bind fun l=>if h≤s.size∧l≤h then some (.string (s.extract l h))else none
  |_,_=>none
noncomputable def ai0(E:Env)(ty:TypeId)(x:Value)(t:Tr):Option Value:=
 (E.ty ty).bind fun ti=>
  match ti.k,x with
  | .string,.string s=>some (.int .i64 s.size)
  | .array n _,_=>some (.int .i64 n)
  | .slice _,.slice _ n _=>some (.int .i64 n)
  | .map _ _,.map none=>some (.int .i64 0)
  | .map _ _,.map (some r)=>
   match jA t r with
   |some (.map es _)=>some (.int .i64 es.length)
   |_=>none
  |_,_=>none
noncomputable def ai1(E:Env)(ty:TypeId)(x:Value)(t:Tr):Option Value:=
 (E.ty ty).bind fun ti=>
  match ti.k,x with
  | .array n _,_=>some (.int .i64 n)
  | .slice _,.slice none 0 0=>some (.int .i64 0)
  | .slice _,.slice (some ⟨b,off,none⟩) _ cap=>
   (Rn t b off cap).bind fun ex=>if ex then some (.int .i64 cap)else none
  |_,_=>none
noncomputable def XY(x:Value)(n size:Nat)(t:Tr):Option (List Value):=
 match x with
 | .slice none _ _=>if n=0 then some []else none
 | .slice (some ⟨b,off,none⟩) _ _=>frd t b off (n*size)
 | .slice (some ⟨_,_,some 0⟩) 0 0=>if n=0 then some []else none
 | .string s=>if n≤s.size then some ((s.data.toList.take n).map fun b=>.int .u8 b.toNat)else none
 |_=>none
noncomputable def afK(E:Env)(ts:List TypeId)(s:Value)(n:Nat)(xs:List Value)(hn:Nat)(t:Tr):Option (Value×Dl):=
 match ts with
 |[ts,tx]=>
 (E.ty ts).bind fun ti=>(E.ty tx).bind fun tj=>
  match ti.k,tj.k with
  |_,.int _=>none
  | .slice e,_=>(E.ty e).bind fun te=>
    if te.size=0∨xs.length≠n*te.size then none else
    match s with
    | .slice none 0 0=>
     if n=0 then some (.slice none 0 0,.keep)
     else if 2*n*te.bytes≤281474976710656∧te.bytes≠0∧xs.all cell1=true then some (.slice (some ⟨hn,0,none⟩) n n,.push (.row xs te.size true false true))else none
    | .slice (some ⟨b,off,none⟩) len cap=>
     if n=0 then(if len≤cap then some (s,.keep)else none)
     else if len+n≤cap then(fwr t b (off+len*te.size) xs).bind fun d=>some (.slice (some ⟨b,off,none⟩) (len+n) cap,d)
     else if 2*(len+n)*te.bytes≤281474976710656∧te.bytes≠0∧xs.all cell1=true then
      (frd t b off (len*te.size)).bind fun old=>
       (Rn t b off cap).bind fun ex=>if ex then
        some (.slice (some ⟨hn,0,none⟩) (len+n) (len+n),.push (.row (old++xs) te.size true false true))
       else
        match jA t b with
        |some (.row c sz o false true)=>if sz=te.size then some (.slice (some ⟨hn,0,none⟩) (len+n) (len+n),.kpush b (.row c sz o false false) (.row (old++xs) te.size true false true))else none
        |_=>none
     else none
    | .slice (some ⟨b,off,some 0⟩) 0 0=>if n=0 then some (.slice (some ⟨b,off,some 0⟩) 0 0,.keep)else none
    |_=>none
  |_,_=>none
 |_=>none
noncomputable def XZ(E:Env)(ts:List TypeId)(s x:Value)(hn:Nat)(t:Tr):Option (Value×Dl):=
 match ts with
 |[t1,t2]=>
 (E.ty t1).bind fun ti=>
  match ti.k with
  | .slice e=>(E.ty e).bind fun te=>(lX x).bind fun n=>(XY x n te.size t).bind fun xs=>afK E [t1,t2] s n xs hn t
  |_=>none
 |_=>none
noncomputable def fCopy(E:Env)(ts:List TypeId)(d x:Value)(t:Tr):Option (Value×Dl):=
 match ts with
 |td::_=>
 (E.ty td).bind fun ti=>
  match ti.k,d with
  | .slice e,.slice base dl _=>(E.ty e).bind fun te=>(lX x).bind fun n=>
   (XY x (min n dl) te.size t).bind fun xs=>
    match base with
    |none=>some (.int .i64 ↑(min n dl),.keep)
    |some ⟨_,_,some _⟩=>if min n dl=0 then some (.int .i64 0,.keep)else none
    |some ⟨b,off,none⟩=>if min n dl=0 then some (.int .i64 0,.keep)else(fwr t b off xs).bind fun d=>some (.int .i64 ↑(min n dl),d)
  |_,_=>none
 |_=>none
noncomputable def abB(E:Env)(ts:List TypeId)(x:Value)(t:Tr):Option Dl:=
 match ts with
 |ty::_=>(E.ty ty).bind fun ti=>
  match ti.k,x with
  | .slice _,.slice none _ _=>some .keep
  | .slice e,.slice (some ⟨b,off,none⟩) n _=>(E.ty e).bind fun te=>if n=0 then some .keep else fwr t b off (rep n te.zero)
  | .slice _,.slice (some ⟨_,_,some 0⟩) 0 _=>some .keep
  |_,_=>none
 |_=>none
noncomputable def Ro(x:Value)(t:Tr):Option (List MapEntry):=
 match x with
 | .map none=>some []
 | .map (some r)=>match jA t r with|some (.map es _)=>some es|_=>none
 |_=>none
noncomputable def Oo(E:Env)(ty:TypeId)(x i:Value)(ok:Bool)(t:Tr):Option Value:=
 (E.ty ty).bind fun ti=>
  match ti.k with
  | .map kt et=>(E.ty kt).bind fun tk=>(E.ty et).bind fun te=>(Ro x t).bind fun es=>
   if yR tk.k i then
    (Lp i es 0).bind fun r=>(iG te.k te.zero).bind fun z=>
     match r with
     |some (_,v)=>some (if ok then .tuple #[v,.bool true]else v)
     |none=>some (if ok then .tuple #[z,.bool false]else z)
   else none
  |_=>none
noncomputable def pX(E:Env)(ty:TypeId)(m k v:Value)(t:Tr):Option Dl:=
 match m with
 | .map (some r)=>
  match jA t r with
  |some (.map es clock)=>
   (E.ty ty).bind fun ti=>
    match ti.k with
    | .map kt _=>(E.ty kt).bind fun tk=>
     if yR tk.k k then
      (Lp k es 0).bind fun q=>
       match q with
       |some (i,_)=>some (.set r (.map (es.modify i fun e=>{ e with key:=k,val:=v }) clock))
       |none=>some (.set r (.map (es++[{ key:=k,val:=v,born:=clock }]) (clock+1)))
     else none
    |_=>none
  |_=>none
 |_=>none
noncomputable def X0(E:Env)(ty:TypeId)(v:Value)(n:Nat):Option (Value×Dl):=
 match v with
 | .string s=>(E.ty ty).bind fun ti=>
  match ti.k with
  | .string=>some (.pointer (some ⟨n,0,none⟩),.push (.iter s 0))
  |_=>none
 |_=>none
noncomputable def fNext(v:Value)(t:Tr):Option (Value×Dl):=
 match v with
 | .pointer (some ⟨b,0,none⟩)=>
  match jA t b with
  |some (.iter s pos)=>
   match BZ s pos with
   |some x=>some (x.1,.set b x.2)
   |none=>some (.tuple #[.bool false],.keep)
  |_=>none
 |_=>none
def fQ(v:Value):Option (Value×Dl):=some (v,.keep)
noncomputable def ai2(v:Value):Option (Value×Dl):=
 match v with
 | .pointer (some a)=>some (.pointer (some a),.keep)
 | .func (.func f) xs ys=>some (.func (.func f) xs ys,.keep)
 | .func (.yield l) ⟨[]⟩ ⟨[]⟩=>some (.func (.yield l) #[] #[],.keep)
 |_=>none
noncomputable def Rq(c:Call)(E:Env)(l:FL)(n:Nat)(t:Tr):Option (Value×Dl):=
 match c.callee with
 | .builtin .append=>ob (sH l c.args.toList) fun vs=>match vs with|[s,x]=>XZ E c.argTypes.toList s x n t|_=>none
 | .builtin .copy=>ob (sH l c.args.toList) fun vs=>match vs with|[d,x]=>fCopy E c.argTypes.toList d x t|_=>none
 | .builtin .len=>ob (sH l c.args.toList) fun vs=>match vs,c.argTypes.toList with|[x],[ty]=>ob (ai0 E ty x t) fQ|_,_=>none
 | .builtin .cap=>ob (sH l c.args.toList) fun vs=>match vs,c.argTypes.toList with|[x],[ty]=>ob (ai1 E ty x t) fQ|_,_=>none
 | .builtin .min=>ob (sH l c.args.toList) fun vs=>match vs with|x::r=>ob (BX false x r) fQ|_=>none
 | .builtin .max=>ob (sH l c.args.toList) fun vs=>match vs with|x::r=>ob (BX true x r) fQ|_=>none
 | .builtin .clear=>ob (sH l c.args.toList) fun vs=>match vs with|[x]=>ob (abB E c.argTypes.toList x t) fun d=>some (undef,d)|_=>none
 |_=>none
noncomputable def aj2(E:Env)(l:FL)(n:Nat)(t:Tr)(o:Op):Option (Value×Dl):=
 match o with
 | .move x| .assign x=>ob (dM l x) fQ
 | .pick c a b=>ob (dM l c) fun c=>Yc c (ob (dM l a) fQ) (ob (dM l b) fQ)
 | .alloc ty=>Le E ty n
 | .box _ x=>ob (dM l x) fun v=>ahr v n
 | .build ty ps=>ob (G9 l ps.toList) fun ps=>ob (Jt E ty ps) fQ
 | .buildSlice ty m ps=>ob (G9 l ps.toList) fun ps=>wH E ty m ps n
 | .load ty x=>ob (dM l x) fun a=>ob (aam E ty a t) fQ
 | .store ty x y=>ob (dM l x) fun a=>ob (dM l y) fun v=>ob (XV E ty a v t) fun d=>some (undef,d)
 | .nilCheck x=>ob (dM l x) ai2
 | .binOp op ty x y _=>ob (dM l x) fun a=>ob (dM l y) fun b=>ob (wJ E op ty a b) fQ
 | .unOp op _ x=>ob (dM l x) fun a=>ob (aUn op a) fQ
 | .convert s d x=>ob (dM l x) fun a=>ob (U4 E s d a) fQ
 | .makeFunc (.func f) first caps=>ob (sH l first.toList) fun xs=>ob (sH l caps.toList) fun ys=>some (.func (.func f) xs.toArray ys.toArray,.keep)
 | .makeSlice ty a c=>ob (dM l a) fun a=>ob (dM l c) fun c=>Bf E ty a c n
 | .slice ty x lo hi mx=>ob (dM l x) fun v=>ob (L8 l lo) fun lo=>ob (L8 l hi) fun hi=>ob (L8 l mx) fun mx=>ob (XW E ty v lo hi mx t) fQ
 | .makeMap _ none=>some (.map (some n),.push (.map [] 0))
 | .lookup ty x i ok=>ob (dM l x) fun a=>ob (dM l i) fun i=>ob (Oo E ty a i ok t) fQ
 | .mapUpdate ty m k x=>ob (dM l m) fun m=>ob (dM l k) fun k=>ob (dM l x) fun x=>ob (pX E ty m k x t) fun d=>some (undef,d)
 | .fieldAddr ty x i=>ob (dM l x) fun a=>ob (oI E ty a i) fQ
 | .field ty x i=>ob (dM l x) fun a=>ob (Ju E ty a i) fQ
 | .indexAddr ty x i=>ob (dM l x) fun a=>ob (dM l i) fun i=>ob (lW E ty a i) fQ
 | .index ty x i=>ob (dM l x) fun a=>ob (dM l i) fun i=>ob (dZ E ty a i) fQ
 | .extract x i=>ob (dM l x) fun a=>ob (yQ a i) fQ
 | .range ty x=>ob (dM l x) fun v=>X0 E ty v n
 | .next x true=>ob (dM l x) fun v=>fNext v t
 | .insert ty m k x=>ob (dM l m) fun m=>ob (dM l k) fun k=>ob (dM l x) fun x=>ob (pX E ty m k x t) fun d=>some (undef,d)
 | .call c=>Rq c E l n t
 |_=>none
abbrev vN:=Env->FL->Nat->Tr->Option (Value×Dl)
noncomputable def ai3(x:Operand):vN:=fun _ l _ _=>ob (dM l x) fQ
noncomputable def afL(x:Operand):vN:=fun _ l _ _=>ob (dM l x) fQ
noncomputable def ai4(c a b:Operand):vN:=fun _ l _ _=>ob (dM l c) fun c=>Yc c (ob (dM l a) fQ) (ob (dM l b) fQ)
noncomputable def ahs(ty:TypeId):vN:=fun E _ n _=>Le E ty n
noncomputable def aj3(_ty:TypeId)(x:Operand):vN:=fun _ l n _=>ob (dM l x) fun v=>ahr v n
noncomputable def aht(ty:TypeId)(ps:Array (Nat×Operand)):vN:=fun E l _ _=>ob (G9 l ps.toList) fun ps=>ob (Jt E ty ps) fQ
noncomputable def X3(ty:TypeId)(m:Nat)(ps:Array (Nat×Operand)):vN:=fun E l n _=>ob (G9 l ps.toList) fun ps=>wH E ty m ps n
noncomputable def afM(ty:TypeId)(m k x:Operand):vN:=fun E l _ t=>ob (dM l m) fun m=>ob (dM l k) fun k=>ob (dM l x) fun x=>ob (pX E ty m k x t) fun d=>some (undef,d)
noncomputable def ai5(ty:TypeId)(x:Operand):vN:=fun E l _ t=>ob (dM l x) fun a=>ob (aam E ty a t) fQ
noncomputable def ahu(ty:TypeId)(x y:Operand):vN:=fun E l _ t=>ob (dM l x) fun a=>ob (dM l y) fun v=>ob (XV E ty a v t) fun d=>some (undef,d)
noncomputable def ahv(_g:Nat):vN:=fun _ _ _ _=>none
noncomputable def ahw(_g:Nat):vN:=fun _ _ _ _=>none
noncomputable def abC(x:Operand):vN:=fun _ l _ _=>ob (dM l x) ai2
noncomputable def ahx(op:BinOp)(ty:TypeId)(x y:Operand)(_u:TypeId):vN:=fun E l _ _=>ob (dM l x) fun a=>ob (dM l y) fun b=>ob (wJ E op ty a b) fQ
noncomputable def ai6(op:UnOp)(_ty:TypeId)(x:Operand):vN:=fun _ l _ _=>ob (dM l x) fun a=>ob (aUn op a) fQ
noncomputable def adL(s d:TypeId)(x:Operand):vN:=fun E l _ _=>ob (dM l x) fun a=>ob (U4 E s d a) fQ
noncomputable def BQ(_d:TypeId)(_x:Operand):vN:=fun _ _ _ _=>none
noncomputable def N8(_ty:TypeId)(_x:Operand):vN:=fun _ _ _ _=>none
noncomputable def abD(f:Fn)(first caps:Array Operand):vN:=fun _ l _ _=>match f with| .func f=>ob (sH l first.toList) fun xs=>ob (sH l caps.toList) fun ys=>some (.func (.func f) xs.toArray ys.toArray,.keep)|_=>none
noncomputable def adM(_ty:TypeId)(r:Option Operand):vN:=fun _ _ n _=>match r with|none=>some (.map (some n),.push (.map [] 0))|_=>none
noncomputable def abE(_ty:TypeId)(_x:Operand):vN:=fun _ _ _ _=>none
noncomputable def aan(ty:TypeId)(a c:Operand):vN:=fun E l n _=>ob (dM l a) fun a=>ob (dM l c) fun c=>Bf E ty a c n
noncomputable def ahy(ty:TypeId)(x:Operand)(lo hi mx:Option Operand):vN:=fun E l _ t=>ob (dM l x) fun v=>ob (L8 l lo) fun lo=>ob (L8 l hi) fun hi=>ob (L8 l mx) fun mx=>ob (XW E ty v lo hi mx t) fQ
noncomputable def aao(ty:TypeId)(x:Operand)(i:Nat):vN:=fun E l _ _=>ob (dM l x) fun a=>ob (oI E ty a i) fQ
noncomputable def ahz(ty:TypeId)(x:Operand)(i:Nat):vN:=fun E l _ _=>ob (dM l x) fun a=>ob (Ju E ty a i) fQ
noncomputable def aap(ty:TypeId)(x i:Operand):vN:=fun E l _ _=>ob (dM l x) fun a=>ob (dM l i) fun i=>ob (lW E ty a i) fQ
noncomputable def ahA(ty:TypeId)(x i:Operand):vN:=fun E l _ _=>ob (dM l x) fun a=>ob (dM l i) fun i=>ob (dZ E ty a i) fQ
noncomputable def afN(ty:TypeId)(x i:Operand)(ok:Bool):vN:=fun E l _ t=>ob (dM l x) fun a=>ob (dM l i) fun i=>ob (Oo E ty a i ok t) fQ
noncomputable def aaq(ty:TypeId)(m k x:Operand):vN:=fun E l _ t=>ob (dM l m) fun m=>ob (dM l k) fun k=>ob (dM l x) fun x=>ob (pX E ty m k x t) fun d=>some (undef,d)
noncomputable def abG(_ty:TypeId)(_m _k:Operand):vN:=fun _ _ _ _=>none
noncomputable def X4(_ty:TypeId)(_m _s _x:Operand):vN:=fun _ _ _ _=>none
noncomputable def ahB(ty:TypeId)(x:Operand):vN:=fun E l n _=>ob (dM l x) fun v=>X0 E ty v n
noncomputable def ai7(x:Operand)(st:Bool):vN:=fun _ l _ t=>match st with|true=>ob (dM l x) fun v=>fNext v t|false=>none
noncomputable def ahC(_x:Operand):vN:=fun _ _ _ _=>none
noncomputable def X5(_x:Operand)(_a _b:TypeId)(_ok:Bool):vN:=fun _ _ _ _=>none
noncomputable def adN(x:Operand)(i:Nat):vN:=fun _ l _ _=>ob (dM l x) fun a=>ob (yQ a i) fQ
noncomputable def ai8(c:Call):vN:=fun E l n t=>Rq c E l n t
noncomputable def akF(_c:Call):vN:=fun _ _ _ _=>none
noncomputable def ahD(_c:Call):vN:=fun _ _ _ _=>none
noncomputable def ahE(_x:Operand):vN:=fun _ _ _ _=>none
noncomputable def ai9(_c _x:Operand):vN:=fun _ _ _ _=>none
noncomputable def ai_(_ty:TypeId)(_c:Operand)(_ok:Bool):vN:=fun _ _ _ _=>none
noncomputable def afO(_cs:Array SelectCase)(_b:Bool):vN:=fun _ _ _ _=>none
noncomputable def akG(o:Op):vN:=
 Op.rec (motive:=fun _=>vN) ai3 afL ai4 ahs aj3 aht X3 afM ai5 ahu ahv ahw abC ahx ai6 adL BQ N8 abD adM abE aan ahy aao ahz aap ahA afN aaq abG X4 ahB ai7 ahC X5 adN ai8 akF ahD ahE ai9 ai_ afO o
noncomputable def fOp(E:Env)(l:FL)(n:Nat)(t:Tr)(o:Op):Option (Value×Dl):=akG o E l n t
abbrev VC:=Option (Operand×Array Operand)
noncomputable def vcC(c:Call):VC:=Callee.rec (motive:=fun _=>VC) (fun f=>some (f,c.args)) (fun _ _=>none) (fun _=>none) c.callee
noncomputable def aja(o:Op):VC:=
 Op.rec (motive:=fun _=>VC) (fun _=>none) (fun _=>none) (fun _ _ _=>none) (fun _=>none) (fun _ _=>none) (fun _ _=>none) (fun _ _ _=>none) (fun _ _ _ _=>none) (fun _ _=>none) (fun _ _ _=>none) (fun _=>none) (fun _=>none) (fun _=>none) (fun _ _ _ _ _=>none) (fun _ _ _=>none) (fun _ _ _=>none) (fun _ _=>none) (fun _ _=>none) (fun _ _ _=>none) (fun _ _=>none) (fun _ _=>none) (fun _ _ _=>none) (fun _ _ _ _ _=>none) (fun _ _ _=>none) (fun _ _ _=>none) (fun _ _ _=>none) (fun _ _ _=>none) (fun _ _ _ _=>none) (fun _ _ _ _=>none) (fun _ _ _=>none) (fun _ _ _ _=>none) (fun _ _=>none) (fun _ _=>none) (fun _=>none) (fun _ _ _ _=>none) (fun _ _=>none) vcC (fun _=>none) (fun _=>none) (fun _=>none) (fun _ _=>none) (fun _ _ _=>none) (fun _ _=>none) o
abbrev qL:=Tgt->List Value->Nat->Tr->(Value->Nat->Tr->Option R)->Option R
abbrev FK:=Ex->FL->Nat->Tr->Option R
noncomputable def Ru(g:Option (Nat×Bool)):Array Oper->FL->Option Bool:=
 Option.rec (motive:=fun _=>Array Oper->FL->Option Bool) (fun _ _=>some true) (fun g ops l=>
  match (ops[g.1]?).bind (·.dst)with
  |none=>some false
  |some d=>ob (FI l d) fun v=>
   match v with
   | .bool b=>some (b==g.2)
   |_=>some false) g
noncomputable def Jk(ops:Array Oper)(l:FL)(o:Oper):Option Bool:=Ru o.guard ops l
noncomputable def Lh(N:Nat)(d:Option Nat):Bool:=Option.rec true (fun d=>Nat.ble (Nat.succ d) N) d
noncomputable def fGo(call:qL)(l:FL)(n:Nat)(t:Tr)(d:Option Nat)(vs:List Value)(f:Value)(K:FL->Nat->Tr->Option R):Option R:=
 match f with
 | .func (.func g) xs ys=>call (.fn g) (xs.toList++vs++ys.toList) n t fun v n t=>K (XU l d v) n t
 | .func (.yield q) ⟨[]⟩ ⟨[]⟩=>call (.round q) vs n t fun v n t=>K (XU l d v) n t
 |_=>none
abbrev aj7:=Op->Env->qL->FL->Nat->Tr->Option Nat->(FL->Nat->Tr->Option R)->Option R
noncomputable def aj8(x:VC):aj7:=
 Option.rec (motive:=fun _=>aj7) (fun o E _ l n t d K=>ob (fOp E l n t o) fun x=>Prod.rec (fun v dl=>G8 n t dl fun n t=>K (XU l d v) n t) x)
  (fun x _ _ call l n t d K=>ob (sH l x.2.toList) fun vs=>ob (dM l x.1) fun f=>fGo call l n t d vs f K) x
noncomputable def ahF(E:Env)(call:qL)(l:FL)(n:Nat)(t:Tr)(d:Option Nat)(o:Op)(K:FL->Nat->Tr->Option R):Option R:=aj8 (aja o) o E call l n t d K
noncomputable def afP(E:Env)(call:qL)(N:Nat)(ops:Array Oper)(o:Oper)(l:FL)(n:Nat)(t:Tr)(K:FL->Nat->Tr->Option R):Option R:=
 Bool.rec none (ob (Jk ops l o) fun b=>Bool.rec (K (XU l o.dst undef) n t) (ahF E call l n t o.dst o.op K) b) (Lh N o.dst)
abbrev aj9:=Env->qL->Nat->Array Oper->FL->Nat->Tr->(FL->Nat->Tr->Option R)->Option R
noncomputable def aj_(os:List Oper):aj9:=
 List.rec (motive:=fun _=>aj9) (fun _ _ _ _ l n t K=>K l n t) (fun o _ ih E call N ops l n t K=>afP E call N ops o l n t fun l n t=>ih E call N ops l n t K) os
noncomputable def afQ(E:Env)(call:qL)(N:Nat)(ops:Array Oper)(os:List Oper)(l:FL)(n:Nat)(t:Tr)(K:FL->Nat->Tr->Option R):Option R:=aj_ os E call N ops l n t K
noncomputable def aar(E:Env)(os:List Oper):Nat->Tr->(List (Option Value)->Nat->Tr->Option R)->Option R:=
 List.rec (fun n t K=>K [] n t) (fun o _ ih n t K=>
  match o.op with
  | .alloc ty=>ob (Le E ty n) fun x=>G8 n t x.2 fun n t=>ih n t fun ps n t=>K (some x.1::ps) n t
  |_=>ih n t fun ps n t=>K (none::ps) n t) os
noncomputable def abH(E:Env)(call:qL)(N:Nat)(ops:Array Oper)(p:Option Value)(o:Oper)(l:FL)(n:Nat)(t:Tr)(K:FL->Nat->Tr->Option R):Option R:=
 Bool.rec none (ob (Jk ops l o) fun b=>Bool.rec (K (XU l o.dst undef) n t) (Option.rec (ahF E call l n t o.dst o.op K) (fun v=>K (XU l o.dst v) n t) p) b) (Lh N o.dst)
noncomputable def acN(E:Env)(call:qL)(N:Nat)(ops:Array Oper)(os:List Oper):List (Option Value)->FL->Nat->Tr->(List (FL×Nat×Tr)->Option R)->Option R:=
 List.rec (fun _ l n t K=>K [(l,n,t)]) (fun o _ ih ps l n t K=>abH E call N ops (ps.headD none) o l n t fun l' n' t'=>ih ps.tail l' n' t' fun tr=>K ((l,n,t)::tr)) os
noncomputable def abI(E:Env)(ops:Array Oper)(tr:List (FL×Nat×Tr))(j c:Nat):Bool:=
 match ops[j]?,tr[j]?,tr[j+1]?,tr[c]? with
 |some o,some (l,_,_),some (l',_,_),some (_,n,t)=>
  match Jk ops l o with
  |some true=>
   match fOp E l n t o.op,o.dst with
   |some (v,_),some d=>(match FI l' d with|some u=>abR v u|none=>false)
   |_,_=>false
  |some false=>true
  |none=>false
 |_,_,_,_=>false
noncomputable def afR(E:Env)(call:qL)(N:Nat)(ops:Array Oper)(l:FL)(n:Nat)(t:Tr)(K:FL->Nat->Tr->Option R):Option R:=
 Bool.rec none (aar E ops.toList n t fun ps n t=>acN E call N ops ops.toList ps l n t fun tr=>
  Bool.rec none (ob tr.getLast? fun x=>K x.1 x.2.1 x.2.2) ((Ce ops).all (fun p=>p.2.all fun c=>abI E ops tr p.1 c))) (Jv ops)
noncomputable def fmk(live:List Nat)(l:FL):FL:=List.rec [] (fun t _ ih=>(t,FI l t)::ih) live
noncomputable def VG(j:Option (List Nat))(K:FK):FK:=Option.rec K (fun live e l n t=>K e (fmk live l) n t) j
noncomputable def afS(k:Nat)(f:FL->Nat->Tr->FK->Option R)(live:List Nat):FL->Nat->Tr->FK->Option R:=
 Nat.rec (fun _ _ _ _=>none) (fun _ ih l n t K=>f (fmk live l) n t fun e l n t=>Ex.rec (ih l n t K) (fun i=>K (.exit i) (fmk live l) n t) (K .ret (fmk live l) n t) e) k
noncomputable def fIf(v:Value)(x y:Option R):Option R:=Yc v x y
abbrev acO:=Env->qL->Nat->Nat->Bool->Hint->FL->Nat->Tr->FK->Option R
noncomputable def afT(ops:Array Oper)(d:Bool):acO:=fun E call N _ _ _ l n t K=>Bool.rec (afQ E call N ops ops.toList l n t (K .normal)) (afR E call N ops l n t (K .normal)) d
noncomputable def ahH(f:Operand)(ps:Array Tmp)(asg body:Code):acO:=fun _ call N _ out h l n t K=>Bool.rec none (ob (dM l f) fun fv=>
   match fv with
   | .func (.func g) xs ys=>
    G8 n t (.push (.loop .ready none ⟨N,l⟩ ps.toList asg body h.a)) fun n1 t1=>call (.fn g) (xs.toList++[.func (.yield n) #[] #[]]++ys.toList) n1 t1 fun _ n2 t2=>
     match jA t2 n with
     |some (.loop st pend fr' ps' asg' body' hb')=>
      if st= .busy then none else G8 n2 t2 (.set n (.loop .exhausted pend fr' ps' asg' body' hb')) fun n3 t3=>K (pend.getD .normal) l n3 t3
     |_=>none
   |_=>none) out
noncomputable def ajb(c:Code):acO:=
 Code.rec (motive:=fun _=>acO)
  (fun _ _ _ _ _ _ l n t K=>K .normal l n t)
  (fun _ ops d=>afT ops d)
  (fun _ _ fa fb E call N k out h l n t K=>fa E call N k out h.a l n t fun e l n t=>Ex.rec (fb E call N k out h.b l n t K) (fun i=>K (.exit i) l n t) (K .ret l n t) e)
  (fun c _ _ fx fy E call N k out h l n t K=>ob (dM l c) fun v=>fIf v (fx E call N k out h.a l n t (VG h.j K)) (fy E call N k out h.b l n t (VG h.j K)))
  (fun id _ fc E call N k out h l n t K=>fc E call N k out h.a l n t fun e l n t=>VG h.j K (Ex.rec .normal (fun i=>Bool.rec (.exit i) .normal (Nat.beq i id)) .ret e) l n t)
  (fun _ fc E call N k out h l n t K=>Option.rec none (fun live=>afS k (fc E call N k out h.a) live l n t K) h.j)
  (fun f ps asg body _ _=>ahH f ps asg body)
  (fun id _ _ _ _ _ _ l n t K=>K (.exit id) l n t)
  (fun _ fc E call N k out h l n t K=>fc E call N k out h.a l n t K)
  (fun _ _ _ _ _ _ _ l n t K=>K .normal l n t)
  (fun _ _ _ _ _ _ _ _ _ _ _=>none)
  (fun _ _ _ _ _ _ l n t K=>K .ret l n t)
  (fun _ _ _ _ _ _ _ _ _ _ _=>none)
  c
noncomputable def D9(E:Env)(call:qL)(N k:Nat)(out:Bool)(c:Code)(h:Hint)(l:FL)(n:Nat)(t:Tr)(K:FK):Option R:=ajb c E call N k out h l n t K
noncomputable def Jl(E:Env)(l:FL)(t:Tr):List ResultVar->Option (List Value)
 |[]=>some []
 | .tmp a::rs=>ob (FI l a) fun v=>ob (Jl E l t rs) fun vs=>some (v::vs)
 | .cell a ty::rs=>ob (FI l a) fun p=>ob (aam E ty p t) fun v=>ob (Jl E l t rs) fun vs=>some (v::vs)
noncomputable def ah_(E:Env)(k:Nat)(ih:qL):qL:=fun tg args n t K=>Tgt.rec
  (fun f=>Option.rec (ob (E.fn f) fun fn=>ob fn.body fun c=>
    D9 E ih (args.length+(fn.ntmps-args.length)) k true c (E.hint f) (FP 0 args) n t fun e l n t=>Ex.rec (ob (Jl E l t fn.results.toList) fun vs=>K (iI vs) n t) (fun _=>none) (ob (Jl E l t fn.results.toList) fun vs=>K (iI vs) n t) e)
   (fun _=>none) (E.ext f))
  (fun q=>
   match jA t q with
   |some (.loop _ _ fr ps asg body hb)=>ob (VN fr ps args) fun fr=>
    D9 E ih fr.n k false asg .leaf fr.l n t fun e l n t=>
     match e,jA t q with
     | .normal,some (.loop .ready p fr0 ps0 asg0 body0 hb0)=>
      G8 n t (.set q (.loop .busy p fr0 ps0 asg0 body0 hb0)) fun n t=>D9 E ih fr.n k false body hb l n t fun e _ n t=>
       match jA t q with
       |some (.loop _ _ fr1 ps1 asg1 body1 hb1)=>
        Ex.rec (G8 n t (.set q (.loop .ready none fr1 ps1 asg1 body1 hb1)) fun n t=>K (.bool true) n t)
         (fun i=>G8 n t (.set q (.loop .done (some (.exit i)) fr1 ps1 asg1 body1 hb1)) fun n t=>K (.bool false) n t)
         (G8 n t (.set q (.loop .done (some .ret) fr1 ps1 asg1 body1 hb1)) fun n t=>K (.bool false) n t) e
       |_=>none
     |_,_=>none
   |_=>none) tg
noncomputable def fFn(E:Env)(k:Nat):qL:=
 Nat.rec (fun _ _ _ _ _=>none) (fun k ih=>ah_ E k ih) k
def acP:Value->Nat->Tr->Option Bool
 | .bool b,_,_=>some b
 |_,_,_=>none
def yes:Option Bool->Bool
 |some b=>b
 |none=>false
section
theorem gZ{α β:Type}(x:Option α)(f:α->Option β):ob x f=x.bind f:=by cases x<;>rfl
theorem kT{R:Type}{b:Bool}{y:Option R}{r:R}(h:(Bool.rec none y b:Option R)=some r):b=true∧y=some r:=by
 cases b with
 |false=>cases h
 |true=>exact⟨rfl,h⟩
theorem ahI(i t:Nat):Nat.beq i t=decide (i=t):=by
 cases h:Nat.beq i t with
 |false=>exact(decide_eq_false (Nat.ne_of_beq_eq_false h)).symm
 |true=>exact(decide_eq_true (Nat.eq_of_beq_eq_true h)).symm
theorem vg:∀(l:FL) (t:Nat),FI l t=look l t
 |[],t=>rfl
 |(i,v)::r,t=>by
  have e:FI ((i,v)::r) t=Bool.rec (FI r t) v (Nat.beq i t):=rfl
  rw[e,vg r t,ahI]
  simp only[look]
  by_cases h:i=t
  ·simp[h]
  ·simp[h]
theorem three(i:Nat):i=0∨(∃q,i=2*q+1)∨∃q,i=2*q+2:=by
 by_cases h:i=0
 ·exact .inl h
 ·by_cases h2:i%2=1
  ·exact .inr (.inl ⟨i/2,by omega⟩)
  ·exact .inr (.inr ⟨i/2-1,by omega⟩)
theorem m1(q:Nat):Nat.beq (Nat.mod (2*q+1) 2) 1=true:=by rw[ahI]; exact decide_eq_true (by show(2*q+1)%2=1; omega)
theorem m2(q:Nat):Nat.beq (Nat.mod (2*q+2) 2) 1=false:=by rw[ahI]; exact decide_eq_false (by show ¬(2*q+2)%2=1; omega)
theorem d1(q:Nat):Nat.div (2*q+1) 2=q:=by show(2*q+1)/2=q; omega
theorem d2(q:Nat):Nat.sub (Nat.div (2*q+2) 2) 1=q:=by show(2*q+2)/2-1=q; omega
theorem afU(i:Nat):jA .nil i=none:=rfl
theorem abJ(v:Option iF)(a b:Tr):jA (.node v a b) 0=v:=rfl
theorem X6(v:Option iF)(a b:Tr)(q:Nat):jA (.node v a b) (2*q+1)=jA a q:=by
 have e:jA (.node v a b) (2*q+1)=Bool.rec (jA b (Nat.sub (Nat.div (2*q+1) 2) 1)) (jA a (Nat.div (2*q+1) 2)) (Nat.beq (Nat.mod (2*q+1) 2) 1):=rfl
 rw[e,m1,d1]
theorem X7(v:Option iF)(a b:Tr)(q:Nat):jA (.node v a b) (2*q+2)=jA b q:=by
 have e:jA (.node v a b) (2*q+2)=Bool.rec (jA b (Nat.sub (Nat.div (2*q+2) 2) 1)) (jA a (Nat.div (2*q+2) 2)) (Nat.beq (Nat.mod (2*q+2) 2) 1):=rfl
 rw[e,m2,d2]
def ta:Tr->Tr| .nil=>.nil| .node _ a _=>a
def tb:Tr->Tr| .nil=>.nil| .node _ _ b=>b
def tv:Tr->Option iF| .nil=>none| .node v _ _=>v
theorem acQ(t:Tr):jA t 0=tv t:=by cases t<;>rfl
theorem X8(t:Tr)(q:Nat):jA t (2*q+1)=jA (ta t) q:=by cases t; rfl; exact X6 _ _ _ _
theorem X9(t:Tr)(q:Nat):jA t (2*q+2)=jA (tb t) q:=by cases t; rfl; exact X7 _ _ _ _
theorem ajc(d:Nat)(t:Tr)(x:iF):sS (d+1) t 0 x= .node (some x) (ta t) (tb t):=by cases t<;>rfl
theorem ajd(d:Nat)(t:Tr)(q:Nat)(x:iF):sS (d+1) t (2*q+1) x= .node (tv t) (sS d (ta t) q x) (tb t):=by
 cases t with
 |nil=>
  have e:sS (d+1) .nil (2*q+1) x=Bool.rec (.node none .nil (sS d .nil (Nat.sub (Nat.div (2*q+1) 2) 1) x)) (.node none (sS d .nil (Nat.div (2*q+1) 2) x) .nil) (Nat.beq (Nat.mod (2*q+1) 2) 1):=rfl
  rw[e,m1,d1]; rfl
 |node v a b=>
  have e:sS (d+1) (.node v a b) (2*q+1) x=Bool.rec (.node v a (sS d b (Nat.sub (Nat.div (2*q+1) 2) 1) x)) (.node v (sS d a (Nat.div (2*q+1) 2) x) b) (Nat.beq (Nat.mod (2*q+1) 2) 1):=rfl
  rw[e,m1,d1]; rfl
theorem aje(d:Nat)(t:Tr)(q:Nat)(x:iF):sS (d+1) t (2*q+2) x= .node (tv t) (ta t) (sS d (tb t) q x):=by
 cases t with
 |nil=>
  have e:sS (d+1) .nil (2*q+2) x=Bool.rec (.node none .nil (sS d .nil (Nat.sub (Nat.div (2*q+2) 2) 1) x)) (.node none (sS d .nil (Nat.div (2*q+2) 2) x) .nil) (Nat.beq (Nat.mod (2*q+2) 2) 1):=rfl
  rw[e,m2,d2]; rfl
 |node v a b=>
  have e:sS (d+1) (.node v a b) (2*q+2) x=Bool.rec (.node v a (sS d b (Nat.sub (Nat.div (2*q+2) 2) 1) x)) (.node v (sS d a (Nat.div (2*q+2) 2) x) b) (Nat.beq (Nat.mod (2*q+2) 2) 1):=rfl
  rw[e,m2,d2]; rfl
theorem Em:∀(d:Nat) (t:Tr) (i:Nat) (x:iF) (j:Nat),i+1<2 ^ d->jA (sS d t i x) j=if i=j then some x else jA t j
 |0,_,i,_,_,h=>by simp at h
 |d+1,t,i,x,j,h=>by
  rw[Nat.pow_succ]at h
  rcases three i with rfl|⟨q,rfl⟩|⟨q,rfl⟩
  ·rw[ajc]
   rcases three j with rfl|⟨p,rfl⟩|⟨p,rfl⟩
   ·rw[abJ,if_pos rfl]
   ·rw[X6,if_neg (by omega),X8]
   ·rw[X7,if_neg (by omega),X9]
  ·rw[ajd]
   rcases three j with rfl|⟨p,rfl⟩|⟨p,rfl⟩
   ·rw[abJ,if_neg (by omega),acQ]
   ·rw[X6,Em d _ _ _ _ (by omega),X8]
    by_cases hq:q=p
    ·rw[if_pos hq,if_pos (by omega)]
    ·rw[if_neg hq,if_neg (by omega)]
   ·rw[X7,if_neg (by omega),X9]
  ·rw[aje]
   rcases three j with rfl|⟨p,rfl⟩|⟨p,rfl⟩
   ·rw[abJ,if_neg (by omega),acQ]
   ·rw[X6,if_neg (by omega),X8]
   ·rw[X7,Em d _ _ _ _ (by omega),X9]
    by_cases hq:q=p
    ·rw[if_pos hq,if_pos (by omega)]
    ·rw[if_neg hq,if_neg (by omega)]
structure Rl(n:Nat)(t:Tr)(H:Heap):Prop where
 len:H.length=n
 bnd:n≤16777216
 get:∀(b:Nat) (x:iF),jA t b=some x->H[b]? =some x
variable{E:Env}{n:Nat}{t:Tr}{H:Heap}{N:Nat}{l:FL}
theorem Rl.nil:Rl 0 .nil []:=⟨rfl,by omega,fun b x h=>by simp[afU]at h⟩
theorem Rl.push(h:Rl n t H)(x:iF)(hb:n+1≤16777216):Rl (n+1) (sS 25 t n x) (H++[x]):=by
 refine⟨by simp[h.len],hb,fun b y=> ?_⟩
 rw[Em _ _ _ _ _ (by show n+1<33554432; omega)]
 by_cases hq:n=b
 ·rw[if_pos hq,←hq,←h.len,List.getElem?_append_right (Nat.le_refl _),Nat.sub_self]; exact id
 ·rw[if_neg hq]
  intro hy
  have:=h.get b y hy
  rw[List.getElem?_append_left (List.getElem?_eq_some_iff.1 this).1]; exact this
theorem Rl.set(h:Rl n t H){b:Nat}(x:iF)(hb:b+1≤n):Rl n (sS 25 t b x) (H.set b x):=by
 have:=h.len
 have:=h.bnd
 refine⟨by simp[h.len],h.bnd,fun c y=> ?_⟩
 rw[Em _ _ _ _ _ (by show b+1<33554432; omega)]
 by_cases hq:b=c
 ·subst hq; rw[if_pos rfl,List.getElem?_set_self (by omega)]; exact id
 ·rw[if_neg hq,List.getElem?_set_ne hq]; exact h.get c y
theorem wI{d:Dl}{K:Nat->Tr->Option R}{r:R}(h:Rl n t H)(hk:G8 n t d K=some r):∃n' t',Rl n' t' (jB H d)∧K n' t'=some r:=by
 cases d with
 |keep=>exact⟨n,t,h,hk⟩
 |push x=>
  obtain⟨h1,h2⟩:=kT (b:=Nat.ble (Nat.succ n) 16777216) hk
  exact⟨_,_,h.push x (Nat.le_of_ble_eq_true h1),h2⟩
 |set b x=>
  obtain⟨h1,h2⟩:=kT (b:=Nat.ble (Nat.succ b) n) hk
  exact⟨_,_,h.set x (Nat.le_of_ble_eq_true h1),h2⟩
 |kpush b k x=>
  obtain⟨h1,h2⟩:=kT (b:=Nat.ble (Nat.succ n) 16777216) hk
  obtain⟨h3,h4⟩:=kT (b:=Nat.ble (Nat.succ b) n) h2
  exact⟨_,_,(h.set k (Nat.le_of_ble_eq_true h3)).push x (Nat.le_of_ble_eq_true h1),h4⟩
theorem aas:∀(l:List Value) (n:Nat),acL l n=if n≤l.length then some (l.drop n)else none
 |[],0=>rfl
 |[],n+1=>by rw[if_neg (by simp)]; rfl
 |x::r,0=>rfl
 |x::r,n+1=>by
  have e:acL (x::r) (n+1)=acL r n:=rfl
  rw[e,aas r n]; simp
theorem aat:∀(l:List Value) (n:Nat),acM l n=if n≤l.length then some (l.take n)else none
 |[],0=>rfl
 |[],n+1=>by rw[if_neg (by simp)]; rfl
 |x::r,0=>rfl
 |x::r,n+1=>by
  have e:acM (x::r) (n+1)=ob (acM r n) fun q=>some (x::q):=rfl
  rw[e,gZ,aat r n]
  by_cases h:n≤r.length<;>simp[h]
theorem Rw:∀(l vs:List Value),Rk l vs=if vs.length≤l.length then some (vs++l.drop vs.length)else none
 |[],[]=>rfl
 |[],v::vs=>by rw[if_neg (by simp)]; rfl
 |x::r,[]=>rfl
 |x::r,v::vs=>by
  have e:Rk (x::r) (v::vs)=ob (Rk r vs) fun q=>some (v::q):=rfl
  rw[e,gZ,Rw r vs]
  by_cases h:vs.length≤r.length<;>simp[h]
theorem aau:∀(l:List Value) (n:Nat) (vs:List Value),VF l n vs=if n+vs.length≤l.length then some (patch l n vs)else none
 |[],0,vs=>by
  have e:VF [] 0 vs=Rk [] vs:=rfl
  rw[e,Rw]; simp[patch]
 |[],n+1,vs=>by rw[if_neg (by simp)]; rfl
 |x::r,0,vs=>by
  have e:VF (x::r) 0 vs=Rk (x::r) vs:=rfl
  rw[e,Rw]; simp[patch]
 |x::r,n+1,vs=>by
  have e:VF (x::r) (n+1) vs=ob (VF r n vs) fun q=>some (x::q):=rfl
  rw[e,gZ,aau r n vs]
  by_cases h:n+vs.length≤r.length
  ·rw[if_pos h,if_pos (by simp; omega)]
   simp[patch,show n+1+vs.length=(n+vs.length)+1 by omega]
  ·rw[if_neg h,if_neg (by simp; omega)]; rfl
theorem abK(h:Rl n t H){b off m:Nat}{cs:List Value}(hk:frd t b off m=some cs):rd H b off m=some cs:=by
 unfold frd at hk
 unfold rd
 cases hg:jA t b with
 |none=>rw[hg]at hk; cases hk
 |some k=>
  rw[hg]at hk
  rw[h.get b k hg]
  cases k with
  |row c sz o ro live=>
   cases live with
   |false=>cases hk
   |true=>
    simp only[ajY,aas]at hk
    by_cases hq:off≤c.length
    ·rw[if_pos hq,Option.bind_some,aat]at hk
     by_cases hm:off+m≤c.length
     ·rw[if_pos (by simp; omega)]at hk
      dsimp only
      rw[if_pos hm]; exact hk
     ·rw[if_neg (by simp; omega)]at hk; cases hk
    ·rw[if_neg hq]at hk; cases hk
  |map es c=>cases hk
  |iter=>cases hk
  |loop=>cases hk
theorem Ya(h:Rl n t H){b off:Nat}{vs:List Value}{d:Dl}(hk:fwr t b off vs=some d):wr H b off vs=some (jB H d):=by
 unfold fwr at hk
 unfold wr
 cases hg:jA t b with
 |none=>rw[hg]at hk; cases hk
 |some k=>
  rw[hg]at hk
  rw[h.get b k hg]
  cases k with
  |row c sz o ro live=>
   cases ro<;>cases live<;>try (cases hk; done)
   simp only[aj0,aau]at hk
   by_cases hv:vs.all cell1=true
   ·rw[if_pos hv]at hk
    by_cases hq:off+vs.length≤c.length
    ·rw[if_pos hq]at hk
     cases hk
     dsimp only
     rw[if_pos hq,if_pos hv]; rfl
    ·rw[if_neg hq]at hk; cases hk
   ·rw[if_neg hv]at hk; cases hk
  |map es c=>cases hk
  |iter=>cases hk
  |loop=>cases hk
theorem Lj(h:Rl n t H){b off cap:Nat}{x:Bool}(hk:Rn t b off cap=some x):exact H b off cap=x:=by
 unfold Rn at hk
 unfold exact
 split at hk
 ·rename_i hg
  rw[h.get b _ hg]; cases hk; rfl
 ·cases hk
theorem adO(h:Rl n t H){b sz:Nat}{x:Bool}(hk:abA t b sz=some x):Yh H b sz=x:=by
 unfold abA at hk
 unfold Yh
 split at hk
 ·rename_i hg
  rw[h.get b _ hg]; cases hk; rfl
 ·cases hk
theorem Bg(l:FL)(x:Operand):dM l x=pY ⟨N,l⟩ x:=by
 cases x with
 |tmp t=>exact vg l t
 |const v=>
  have e:dM l (.const v)=Bool.rec none (some v) (flat v):=rfl
  rw[e]; simp only[pY]
  cases flat v<;>rfl
 |global g=>rfl
 |func f=>rfl
theorem Rx(l:FL):∀xs:List Operand,sH l xs=L9 ⟨N,l⟩ xs
 |[]=>rfl
 |x::r=>by simp only[sH,L9,gZ,Bg (N:=N),Rx l r]
theorem afV(l:FL)(x:Option Operand):L8 l x=Oq ⟨N,l⟩ x:=by
 cases x with
 |none=>rfl
 |some x=>simp only[L8,Oq,gZ,Bg (N:=N)]
theorem VH(l:FL):∀ps:List (Nat×Operand),G9 l ps=sV ⟨N,l⟩ ps
 |[]=>rfl
 |(i,x)::r=>by simp only[G9,sV,gZ,Bg (N:=N),VH l r]
theorem VI(h:Rl n t H)(ty:TypeId):zh E ty H=(Le E ty n).map fun x=>(x.1,jB H x.2):=by
 unfold zh Le
 rw[h.len]
 cases E.ty ty<;>rfl
theorem ahJ(h:Rl n t H)(v:Value):ad2 v H=(ahr v n).map fun x=>(x.1,jB H x.2):=by
 unfold ad2 ahr
 rw[h.len]; rfl
theorem bU{α β γ:Type}{x:Option α}{F:α->Option β}{G:α->Option γ}{y:β}{z:γ}(h:∀a,F a=some y->G a=some z)(hk:x.bind F=some y):x.bind G=some z:=by
 cases x with
 |none=>cases hk
 |some a=>exact h a hk
theorem bJ{α β γ:Type}{x:Option α}{F:α->Option β}{G:α->Option γ}{y:β}{z:γ}(h:∀a,F a=some y->G a=some z)(hk:ob x F=some y):x.bind G=some z:=by
 rw[gZ]at hk; exact bU h hk
theorem ahK{β γ:Type}{c:Value}{x y:Option β}{x' y':Option γ}{r:β}{r':γ}(h1:x=some r->x'=some r')(h2:y=some r->y'=some r')(hk:Yc c x y=some r):Yc c x' y'=some r':=by
 unfold Yc at hk ⊢
 split at hk
 ·exact h1 hk
 ·exact h2 hk
 ·cases hk
theorem aav(h:Rl n t H){ty:TypeId}{a v:Value}(hk:aam E ty a t=some v):Ll E ty a H=some v:=by
 unfold aam at hk
 unfold Ll
 split at hk
 ·refine bU (fun ti hk=> ?_) hk
  obtain⟨cs,h1,h2⟩:=ak hk
  rw[abK h h1]; exact h2
 ·cases hk
theorem adP(h:Rl n t H){ty:TypeId}{a v:Value}{d:Dl}(hk:XV E ty a v t=some d):Js E ty a v H=some (jB H d):=by
 unfold XV at hk
 unfold Js
 split at hk
 ·refine bU (fun ti hk=> ?_) hk
  split at hk
  ·rename_i hq
   rw[if_pos hq]; exact Ya h hk
  ·cases hk
 ·cases hk
theorem adQ(h:Rl n t H){ty:TypeId}{x:Value}{lo hi mx:Option Value}{v:Value}(hk:XW E ty x lo hi mx t=some v):dH E ty x lo hi mx H=some v:=by
 unfold XW at hk
 unfold dH
 split at hk
 ·cases hk
 ·rename_i hmx
  rw[if_neg hmx]
  refine bU (fun ti hk=> ?_) hk
  split at hk
  ·rename_i he _
   rw[he]; exact hk
  ·rename_i he _
   rw[he]
   dsimp only
   refine bU (fun te hk=>bU (fun m hk=>bU (fun q hk=>bU (fun l hk=> ?_) hk) hk) hk) hk
   split at hk
   ·rename_i hc
    rw[if_pos hc]
    by_cases hm:mx.isSome=true
    ·rw[if_pos hm]at hk
     rw[if_pos (.inl hm)]; exact hk
    ·rw[if_neg hm]at hk
     obtain⟨ex,h1,hk⟩:=ak hk
     have e1:=Lj h h1
     cases ex with
     |true=>rw[if_pos (.inr e1)]; exact hk
     |false=>
      rw[if_neg (by simp[hm,e1])]
      simp only[Bool.false_eq_true,if_false]at hk
      obtain⟨hs,h2,hk⟩:=ak hk
      have e2:=adO h h2
      cases hs with
      |true=>rw[if_pos e2]; exact hk
      |false=>cases hk
   ·cases hk
  ·rename_i he _
   rw[he]; exact hk
  ·rename_i he _
   rw[he]; exact hk
  ·rename_i he _
   rw[he]; exact hk
  ·cases hk
theorem ahL(h:Rl n t H){ty:TypeId}{x v:Value}(hk:ai0 E ty x t=some v):sJ E ty x H=some v:=by
 unfold ai0 at hk
 unfold sJ
 refine bU (fun ti hk=> ?_) hk
 rcases ti with⟨k1,a1,a2,a3⟩
 cases k1 with
 |map k e=>
  cases x with
  |map r=>
   cases r with
   |none=>exact hk
   |some r=>
    dsimp only at hk ⊢
    split at hk
    ·rename_i hg
     rw[h.get _ _ hg]; exact hk
    ·cases hk
  |_=>cases hk
 |_=>cases x<;>exact hk
theorem ahM(h:Rl n t H){ty:TypeId}{x v:Value}(hk:ai1 E ty x t=some v):Mc E ty x H=some v:=by
 unfold ai1 at hk
 unfold Mc
 refine bU (fun ti hk=> ?_) hk
 split at hk
 ·rename_i he _
  rw[he]; exact hk
 ·rename_i he _
  rw[he]; exact hk
 ·rename_i he _
  rw[he]
  obtain⟨ex,h1,hk⟩:=ak hk
  have e1:=Lj h h1
  dsimp only
  rw[e1]; exact hk
 ·cases hk
theorem VJ(h:Rl n t H){x:Value}{m sz:Nat}{xs:List Value}(hk:XY x m sz t=some xs):iH x m sz H=some xs:=by
 unfold XY at hk
 unfold iH
 split at hk
 ·exact hk
 ·exact abK h hk
 ·exact hk
 ·exact hk
 ·cases hk
theorem aaw(h:Rl n t H){x:Value}{es:List MapEntry}(hk:Ro x t=some es):entriesOf x H=some es:=by
 unfold Ro at hk
 unfold entriesOf
 split at hk
 ·exact hk
 ·dsimp only
  split at hk
  ·rename_i hg
   rw[h.get _ _ hg]; exact hk
  ·cases hk
 ·cases hk
theorem abL(h:Rl n t H){ty:TypeId}{x i:Value}{ok:Bool}{v:Value}(hk:Oo E ty x i ok t=some v):qg E ty x i ok H=some v:=by
 unfold Oo at hk
 unfold qg
 refine bU (fun ti hk=> ?_) hk
 split at hk
 ·rename_i he
  rw[he]
  refine bU (fun tk hk=>bU (fun te hk=> ?_) hk) hk
  obtain⟨es,h1,hk⟩:=ak hk
  rw[aaw h h1]; exact hk
 ·cases hk
theorem Ry(h:Rl n t H){ty:TypeId}{m:Nat}{ps:List (Nat×Value)}{v:Value}{d:Dl}(hk:wH E ty m ps n=some (v,d)):gq E ty m ps H=some (v,jB H d):=by
 unfold wH at hk
 unfold gq
 refine bU (fun ti hk=> ?_) hk
 split at hk
 ·rename_i he
  rw[he]
  refine bU (fun te hk=> ?_) hk
  split at hk
  ·rename_i hq
   rw[if_pos hq]
   refine bU (fun cs hk=> ?_) hk
   rw[h.len]; cases hk; rfl
  ·cases hk
 ·cases hk
theorem U2(h:Rl n t H){ty:TypeId}{a c:Value}{v:Value}{d:Dl}(hk:Bf E ty a c n=some (v,d)):dY E ty a c H=some (v,jB H d):=by
 unfold Bf at hk
 unfold dY
 split at hk
 ·refine bU (fun ti hk=> ?_) hk
  split at hk
  ·rename_i he
   rw[he]
   refine bU (fun te hk=> ?_) hk
   split at hk
   ·rename_i hq
    rw[if_pos hq]
    rw[h.len]; cases hk; rfl
   ·cases hk
  ·cases hk
 ·cases hk
theorem afW(h:Rl n t H){ts:List TypeId}{s:Value}{m:Nat}{xs:List Value}{v:Value}{d:Dl}(hk:afK E ts s m xs n t=some (v,d)):yP E ts s m xs H=some (v,jB H d):=by
 unfold afK at hk
 unfold yP
 split at hk
 ·rename_i t1 t2
  refine bU (fun ti hk=> ?_) hk
  refine bU (fun tj hk=> ?_) hk
  rcases ti with⟨k1,a1,a2,a3⟩
  rcases tj with⟨k2,b1,b2,b3⟩
  cases k1<;>cases k2<;>first|(cases hk; done)|skip
  all_goals
   dsimp only at hk ⊢
   refine bU (fun te hk=> ?_) hk
   split at hk
   ·cases hk
   ·rename_i hq
    rw[if_neg hq]
    split at hk
    ·split at hk
     ·rename_i hm
      cases hk; (try dsimp only); rw[if_pos hm]; rfl
     ·rename_i hm
      split at hk
      ·rename_i hc
       cases hk; (try dsimp only); rw[if_neg hm,if_pos hc,h.len]; rfl
      ·cases hk
    ·try dsimp only
     split at hk
     ·rename_i hm
      rw[if_pos hm]
      split at hk
      ·rename_i hc
       cases hk; rw[if_pos hc]; rfl
      ·cases hk
     ·rename_i hm
      rw[if_neg hm]
      split at hk
      ·rename_i hc
       rw[if_pos hc]
       obtain⟨q,h1,h2⟩:=ak hk
       rw[Ya h h1]; cases h2; rfl
      ·rename_i hc
       rw[if_neg hc]
       split at hk
       ·rename_i hz
        rw[if_pos hz]
        obtain⟨old,h1,hk⟩:=ak hk
        rw[abK h h1,Option.bind_some]
        obtain⟨ex,h2,hk⟩:=ak hk
        rw[Lj h h2]
        cases ex with
        |true=>
         rw[if_pos rfl,h.len]; cases hk; rfl
        |false=>
         rw[if_neg (by simp)]
         simp only[Bool.false_eq_true,if_false]at hk
         split at hk
         ·rename_i hb
          rw[h.get _ _ hb]; try dsimp only
          split at hk
          ·rename_i hs
           rw[if_pos hs,h.len]; cases hk
           unfold kill
           rw[h.get _ _ hb]; rfl
          ·cases hk
         ·cases hk
       ·cases hk
    ·split at hk
     ·rename_i hm
      cases hk; simp[hm,jB]
     ·cases hk
    ·cases hk
 ·cases hk
theorem abM(h:Rl n t H){ts:List TypeId}{s x:Value}{v:Value}{d:Dl}(hk:XZ E ts s x n t=some (v,d)):Hq E ts s x H=some (v,jB H d):=by
 unfold XZ at hk
 unfold Hq
 split at hk
 ·refine bU (fun ti hk=> ?_) hk
  split at hk
  ·rename_i he
   rw[he]
   refine bU (fun te hk=> ?_) hk
   refine bU (fun m hk=> ?_) hk
   obtain⟨xs,h1,hk⟩:=ak hk
   rw[VJ h h1]
   exact afW h hk
  ·cases hk
 ·cases hk
theorem afX(h:Rl n t H){ts:List TypeId}{s x:Value}{v:Value}{d:Dl}(hk:fCopy E ts s x t=some (v,d)):U3 E ts s x H=some (v,jB H d):=by
 unfold fCopy at hk
 unfold U3
 split at hk
 ·refine bU (fun ti hk=> ?_) hk
  split at hk
  ·rename_i he _
   rw[he]
   refine bU (fun te hk=> ?_) hk
   refine bU (fun m hk=> ?_) hk
   obtain⟨xs,h1,hk⟩:=ak hk
   rw[VJ h h1,Option.bind_some]
   split at hk
   ·cases hk; rfl
   ·try dsimp only
    split at hk
    ·rename_i hz
     rw[if_pos hz]; cases hk; rfl
    ·cases hk
   ·try dsimp only
    split at hk
    ·rename_i hz
     rw[if_pos hz]; cases hk; rfl
    ·rename_i hz
     rw[if_neg hz]
     obtain⟨q,h1,h2⟩:=ak hk
     rw[Ya h h1]; cases h2; rfl
  ·cases hk
 ·cases hk
theorem FM(h:Rl n t H){ty:TypeId}{m k v:Value}{d:Dl}(hk:pX E ty m k v t=some d):lY E ty m k v H=some (jB H d):=by
 unfold pX at hk
 unfold lY
 split at hk
 ·split at hk
  ·rename_i hg
   dsimp only
   rw[h.get _ _ hg]
   dsimp only
   refine bU (fun ti hk=> ?_) hk
   split at hk
   ·rename_i he
    rw[he]
    refine bU (fun tk hk=> ?_) hk
    split at hk
    ·rename_i hq
     rw[if_pos hq]
     refine bU (fun q hk=> ?_) hk
     split at hk
     ·cases hk; rfl
     ·cases hk; rfl
    ·cases hk
   ·cases hk
  ·cases hk
 ·cases hk
theorem adR(h:Rl n t H){ty:TypeId}{x v:Value}{d:Dl}(hk:X0 E ty x n=some (v,d)):FN E ty x H=some (v,jB H d):=by
 unfold X0 at hk
 unfold FN
 split at hk
 ·refine bU (fun ti hk=> ?_) hk
  split at hk
  ·rename_i he
   rw[he,h.len]
   cases hk; rfl
  ·cases hk
 ·cases hk
theorem afY(h:Rl n t H){x v:Value}{d:Dl}(hk:fNext x t=some (v,d)):Cb x H=some (v,jB H d):=by
 cases x with
 |pointer p=>
  cases p with
  |none=>cases hk
  |some q=>
   rcases q with⟨b,off,sp⟩
   cases off with
   |succ k=>cases hk
   |zero=>
    cases sp with
    |some _=>cases hk
    |none=>
     have hk2:(match jA t b with
      |some (.iter s pos)=>(match BZ s pos with|some x=>some (x.1,Dl.set b x.2)|none=>some (.tuple #[.bool false],Dl.keep))
      |_=>none)=some (v,d):=hk
     have g:Cb (.pointer (some ⟨b,0,none⟩)) H=(match H[b]? with
      |some (.iter s pos)=>(match BZ s pos with|some x=>some (x.1,H.set b x.2)|none=>some (.tuple #[.bool false],H))
      |_=>none):=rfl
     rw[g]
     split at hk2
     ·rename_i s pos hb
      rw[h.get _ _ hb]
      dsimp only
      cases hq:BZ s pos with
      |none=>rw[hq]at hk2; cases hk2; rfl
      |some y=>rw[hq]at hk2; cases hk2; rfl
     ·cases hk2
 |_=>cases hk
theorem adS(h:Rl n t H){ts:List TypeId}{x:Value}{d:Dl}(hk:abB E ts x t=some d):zi E ts x H=some (jB H d):=by
 cases ts with
 |nil=>cases hk
 |cons ty r=>
  unfold abB at hk
  unfold zi
  refine bU (fun ti hk=> ?_) hk
  rcases ti with⟨k1,a1,a2,a3⟩
  cases k1 with
  |slice e=>
   cases x with
   |slice p len cap=>
    cases p with
    |none=>cases hk; rfl
    |some q=>
     rcases q with⟨b,off,sp⟩
     cases sp with
     |none=>
      dsimp only at hk ⊢
      refine bU (fun te hk=> ?_) hk
      split at hk
      ·rename_i h0
       rw[if_pos h0]; cases hk; rfl
      ·rename_i h0
       rw[if_neg h0]; exact Ya h hk
     |some z=>
      cases z with
      |succ z=>cases hk
      |zero=>
       cases len with
       |zero=>cases hk; rfl
       |succ len=>cases hk
   |_=>cases hk
  |_=>cases hk
end
section
variable{E:Env}{n:Nat}{t:Tr}{H:Heap}{N:Nat}{l:FL}{call:jC}
theorem fA{v v':Value}{d:Dl}(hk:fQ v=some (v',d)):some (v,H)=some (v',jB H d):=by cases hk; rfl
theorem afZ(o:Op):fOp E l n t o=aj2 E l n t o:=by
 cases o with
 |makeFunc f a b=>cases f<;>rfl
 |makeMap ty r=>cases r<;>rfl
 |next x st=>cases st<;>rfl
 |_=>rfl
theorem af0(h:Rl n t H){o:Op}{v:Value}{d:Dl}(hk:fOp E l n t o=some (v,d)):jd E call ⟨N,l⟩ o H=some (v,jB H d):=by
 rw[afZ]at hk
 unfold aj2 at hk
 split at hk<;>simp only[jd,←Bg (N:=N),←Rx (N:=N),←afV (N:=N),←VH (N:=N)]
 case h_1=>exact bJ (fun a hk=>fA hk) hk
 case h_2=>exact bJ (fun a hk=>fA hk) hk
 case h_3=>exact bJ (fun c hk=>ahK (fun hk=>bJ (fun a hk=>fA hk) hk) (fun hk=>bJ (fun a hk=>fA hk) hk) hk) hk
 case h_4=>rw[VI h,hk]; rfl
 case h_5=>exact bJ (fun a hk=>by rw[ahJ h,hk]; rfl) hk
 case h_6=>exact bJ (fun a hk=>bJ (fun b hk=>fA hk) hk) hk
 case h_7=>exact bJ (fun a hk=>Ry h hk) hk
 case h_8=>exact bJ (fun a hk=>by rw[gZ]at hk; obtain⟨q,h1,h2⟩:=ak hk; rw[aav h h1]; exact fA h2) hk
 case h_9=>
  refine bJ (fun a hk=>bJ (fun b hk=> ?_) hk) hk
  rw[gZ]at hk
  obtain⟨q,h1,h2⟩:=ak hk
  rw[adP h h1]; cases h2; rfl
 case h_10=>
  refine bJ (fun a hk=> ?_) hk
  unfold ai2 at hk
  split at hk
  ·cases hk; rfl
  ·cases hk; rfl
  ·cases hk; rfl
  ·cases hk
 case h_11=>exact bJ (fun a hk=>bJ (fun b hk=>bJ (fun c hk=>fA hk) hk) hk) hk
 case h_12=>exact bJ (fun a hk=>bJ (fun b hk=>fA hk) hk) hk
 case h_13=>exact bJ (fun a hk=>bJ (fun b hk=>fA hk) hk) hk
 case h_14=>exact bJ (fun a hk=>bJ (fun b hk=>by cases hk; rfl) hk) hk
 case h_15=>exact bJ (fun a hk=>bJ (fun b hk=>U2 h hk) hk) hk
 case h_16=>exact bJ (fun a hk=>bJ (fun b hk=>bJ (fun c hk=>bJ (fun d hk=>by rw[gZ]at hk; obtain⟨q,h1,h2⟩:=ak hk; rw[adQ h h1]; exact fA h2) hk) hk) hk) hk
 case h_17=>cases hk; rw[h.len]; rfl
 case h_18=>exact bJ (fun a hk=>bJ (fun b hk=>by rw[gZ]at hk; obtain⟨q,h1,h2⟩:=ak hk; rw[abL h h1]; exact fA h2) hk) hk
 case h_19=>
  refine bJ (fun a hk=>bJ (fun b hk=>bJ (fun c hk=> ?_) hk) hk) hk
  rw[gZ]at hk
  obtain⟨q,h1,h2⟩:=ak hk
  rw[FM h h1]; cases h2; rfl
 case h_20=>exact bJ (fun a hk=>bJ (fun b hk=>fA hk) hk) hk
 case h_21=>exact bJ (fun a hk=>bJ (fun b hk=>fA hk) hk) hk
 case h_22=>exact bJ (fun a hk=>bJ (fun b hk=>bJ (fun c hk=>fA hk) hk) hk) hk
 case h_23=>exact bJ (fun a hk=>bJ (fun b hk=>bJ (fun c hk=>fA hk) hk) hk) hk
 case h_24=>exact bJ (fun a hk=>bJ (fun b hk=>fA hk) hk) hk
 case h_25=>exact bJ (fun a hk=>adR h hk) hk
 case h_26=>exact bJ (fun a hk=>afY h hk) hk
 case h_27=>
  refine bJ (fun a hk=>bJ (fun b hk=>bJ (fun c hk=> ?_) hk) hk) hk
  rw[gZ]at hk
  obtain⟨q,h1,h2⟩:=ak hk
  rw[FM h h1]; cases h2; rfl
 case h_28=>
  rename_i c
  rcases c with⟨ce,args,ats⟩
  unfold Rq at hk
  dsimp only at hk ⊢
  split at hk
  case h_1=>
   refine bJ (fun vs hk=> ?_) hk
   split at hk
   ·exact abM h hk
   ·cases hk
  case h_2=>
   refine bJ (fun vs hk=> ?_) hk
   split at hk
   ·exact afX h hk
   ·cases hk
  case h_3=>
   refine bJ (fun vs hk=> ?_) hk
   split at hk
   ·dsimp only
    split
    ·rename_i e1 e2
     simp_all
     rw[gZ]at hk
     obtain⟨q,h1,h2⟩:=ak hk
     rw[ahL h h1]
     exact fA h2
    ·simp_all
   ·cases hk
  case h_4=>
   refine bJ (fun vs hk=> ?_) hk
   split at hk
   ·dsimp only
    split
    ·simp_all
     rw[gZ]at hk
     obtain⟨q,h1,h2⟩:=ak hk
     rw[ahM h h1]
     exact fA h2
    ·simp_all
   ·cases hk
  case h_5=>
   refine bJ (fun vs hk=> ?_) hk
   split at hk
   ·exact bJ (fun b hk=>fA hk) hk
   ·cases hk
  case h_6=>
   refine bJ (fun vs hk=> ?_) hk
   split at hk
   ·exact bJ (fun b hk=>fA hk) hk
   ·cases hk
  case h_7=>
   refine bJ (fun vs hk=> ?_) hk
   split at hk
   ·rw[gZ]at hk
    obtain⟨q,h1,h2⟩:=ak hk
    have g1:=adS h h1
    dsimp only
    rw[g1]; cases h2; rfl
   ·cases hk
  case h_8=>cases hk
 case h_29=>cases hk
theorem Hg{ops:Array Oper}{o:Oper}:Jk ops l o=iV ops ⟨N,l⟩ o:=by
 have e:Jk ops l o=Ru o.guard ops l:=rfl
 rw[e]
 unfold iV
 cases o.guard with
 |none=>rfl
 |some g=>
  rcases g with⟨j,want⟩
  unfold Ru
  dsimp only
  cases (ops[j]?).bind (·.dst)with
  |none=>rfl
  |some d=>
   dsimp only
   rw[gZ,vg]; rfl
theorem adT{o:Op}{x:Operand×Array Operand}(h:aja o=some x):∃ats,o= .call ⟨.value x.1,x.2,ats⟩:=by
 cases o with
 |call c=>
  rcases c with⟨ce,args,ats⟩
  cases ce with
  |value f=>cases h; exact⟨ats,rfl⟩
  |_=>cases h
 |_=>cases h
theorem VK{d:Option Nat}:Lh N d=Ht ⟨N,l⟩ d:=by
 cases d with
 |none=>rfl
 |some d=>
  have e:Lh N (some d)=Nat.ble (Nat.succ d) N:=rfl
  rw[e]
  simp only[Ht]
  by_cases h:d<N
  ·rw[decide_eq_true h]; exact Nat.ble_eq_true_of_le h
  ·rw[decide_eq_false h]
   cases hb:Nat.ble (Nat.succ d) N with
   |false=>rfl
   |true=>exact absurd (Nat.le_of_ble_eq_true hb) h
theorem Jm{d:Option Nat}{v:Value}:eX.fF ⟨N,l⟩ d v=⟨N,XU l d v⟩:=by cases d<;>rfl
def acR(call:jC)(fc:qL):Prop:=∀tg args n t K r,fc tg args n t K=some r->∀H,Rl n t H->∃v n' t' H',Rl n' t' H'∧call tg args H=some (v,H')∧K v n' t'=some r
variable{fc:qL}(hC:acR call fc)
include hC
theorem acS(h:Rl n t H){d:Option Nat}{o:Op}{K:FL->Nat->Tr->Option R}{r:R}(hk:ahF E fc l n t d o K=some r):
  ∃v n' t' H',Rl n' t' H'∧K (XU l d v) n' t'=some r∧jd E call ⟨N,l⟩ o H=some (v,H'):=by
 unfold ahF at hk
 cases hvc:aja o with
 |none=>
  rw[hvc]at hk
  have hk2:(ob (fOp E l n t o) fun x=>Prod.rec (fun v dl=>G8 n t dl fun n t=>K (XU l d v) n t) x)=some r:=hk
  rw[gZ]at hk2
  obtain⟨x,h1,hk⟩:=ak hk2
  obtain⟨v,dl⟩:=x
  obtain⟨n',t',g1,g2⟩:=wI h hk
  exact⟨v,n',t',_,g1,g2,af0 h h1⟩
 |some x=>
  rw[hvc]at hk
  obtain⟨f,args⟩:=x
  obtain⟨ats,rfl⟩:=adT hvc
  have hk2:(ob (sH l args.toList) fun vs=>ob (dM l f) fun f=>fGo fc l n t d vs f K)=some r:=hk
  rw[gZ]at hk2
  obtain⟨vs,h1,hk2⟩:=ak hk2
  rw[gZ]at hk2
  obtain⟨fv,h2,hk2⟩:=ak hk2
  rw[Rx (N:=N)]at h1
  rw[Bg (N:=N)]at h2
  simp only[jd,h1,h2,Option.bind_some]
  unfold fGo at hk2
  split at hk2
  ·obtain⟨v,n',t',H',g1,g2,g3⟩:=hC _ _ _ _ _ _ hk2 H h
   exact⟨v,n',t',H',g1,g3,g2⟩
  ·obtain⟨v,n',t',H',g1,g2,g3⟩:=hC _ _ _ _ _ _ hk2 H h
   exact⟨v,n',t',H',g1,g3,g2⟩
  ·cases hk2
theorem af2(h:Rl n t H){ops:Array Oper}{o:Oper}{K:FL->Nat->Tr->Option R}{r:R}(hk:afP E fc N ops o l n t K=some r):
  ∃l' n' t' H',Rl n' t' H'∧K l' n' t'=some r∧Ot E call ops o ⟨N,l⟩ H=some (⟨N,l'⟩,H'):=by
 obtain⟨h1,h2⟩:=kT (b:=Lh N o.dst) hk
 rw[gZ]at h2
 obtain⟨b,h3,h4⟩:=ak h2
 rw[VK (l:=l)]at h1
 rw[Hg (N:=N)]at h3
 simp only[Ot,h1,if_true,h3,Option.bind_some]
 cases b with
 |false=>exact⟨_,n,t,H,h,h4,by simp[Jm]⟩
 |true=>
  obtain⟨v,n',t',H',g1,g2,g3⟩:=acS (N:=N) hC h h4
  exact⟨_,n',t',H',g1,g2,by simp[g3,Jm]⟩
theorem acT{ops:Array Oper}{r:R}:∀(os:List Oper) (l:FL) (n:Nat) (t:Tr) (H:Heap) (K:FL->Nat->Tr->Option R),Rl n t H->afQ E fc N ops os l n t K=some r→
  ∃l' n' t' H',Rl n' t' H'∧K l' n' t'=some r∧Ou E call ops os ⟨N,l⟩ H=some (⟨N,l'⟩,H')
 |[],l,n,t,H,K,h,hk=>⟨l,n,t,H,h,hk,rfl⟩
 |o::os,l,n,t,H,K,h,hk=>by
  have e:afQ E fc N ops (o::os) l n t K=afP E fc N ops o l n t fun l n t=>afQ E fc N ops os l n t K:=rfl
  rw[e]at hk
  obtain⟨l1,n1,t1,H1,g1,g2,g3⟩:=af2 hC h hk
  obtain⟨l2,n2,t2,H2,q1,q2,q3⟩:=acT os l1 n1 t1 H1 K g1 g2
  exact⟨l2,n2,t2,H2,q1,q2,by simp only[Ou,g3,Option.bind_some,q3]⟩
omit hC in
theorem Rz{r:R}:∀(os:List Oper) (n:Nat) (t:Tr) (H:Heap) (K:List (Option Value)->Nat->Tr->Option R),Rl n t H->aar E os n t K=some r→
  ∃ps n' t' H',Rl n' t' H'∧K ps n' t'=some r∧Bo E os H=some (ps,H')
 |[],n,t,H,K,h,hk=>⟨[],n,t,H,h,hk,rfl⟩
 |o::os,n,t,H,K,h,hk=>by
  have e:aar E (o::os) n t K=(match o.op with
   | .alloc ty=>ob (Le E ty n) fun x=>G8 n t x.2 fun n t=>aar E os n t fun ps n t=>K (some x.1::ps) n t
   |_=>aar E os n t fun ps n t=>K (none::ps) n t):=rfl
  rw[e]at hk
  simp only[Bo]
  split at hk
  ·rename_i ty heq
   rw[gZ]at hk
   obtain⟨x,h1,hk⟩:=ak hk
   obtain⟨n1,t1,g1,g2⟩:=wI h hk
   obtain⟨ps,n2,t2,H2,q1,q2,q3⟩:=Rz os n1 t1 _ _ g1 g2
   refine⟨_,n2,t2,H2,q1,q2,?_⟩
   simp only[heq,VI h,h1,Option.map_some,Option.bind_some,q3]
  ·obtain⟨ps,n2,t2,H2,q1,q2,q3⟩:=Rz os n t H _ h hk
   refine⟨_,n2,t2,H2,q1,q2,?_⟩
   split
   ·rename_i hne _ ty heq
    exact absurd heq (hne ty)
   ·simp only[q3,Option.bind_some]
theorem adU(h:Rl n t H){ops:Array Oper}{p:Option Value}{o:Oper}{K:FL->Nat->Tr->Option R}{r:R}(hk:abH E fc N ops p o l n t K=some r):
  ∃l' n' t' H',Rl n' t' H'∧K l' n' t'=some r∧Cc E call ops p o ⟨N,l⟩ H=some (⟨N,l'⟩,H'):=by
 obtain⟨h1,h2⟩:=kT (b:=Lh N o.dst) hk
 rw[gZ]at h2
 obtain⟨b,h3,h4⟩:=ak h2
 rw[VK (l:=l)]at h1
 rw[Hg (N:=N)]at h3
 simp only[Cc,h1,if_true,h3,Option.bind_some]
 cases b with
 |false=>exact⟨_,n,t,H,h,h4,by simp[Jm]⟩
 |true=>
  cases p with
  |some v=>exact⟨_,n,t,H,h,h4,by simp[aaA,Jm]⟩
  |none=>
   obtain⟨v,n',t',H',g1,g2,g3⟩:=acS (N:=N) hC h h4
   exact⟨_,n',t',H',g1,g2,by simp[aaA,g3,Jm]⟩
def TrR(N:Nat)(x:FL×Nat×Tr)(y:eX×Heap):Prop:=y.1=⟨N,x.1⟩∧Rl x.2.1 x.2.2 y.2
def TrL(N:Nat)(a:List (FL×Nat×Tr))(b:List (eX×Heap)):Prop:=a.length=b.length∧∀(i:Nat) x y,a[i]? =some x->b[i]? =some y->TrR N x y
omit hC in
theorem TrL.cons{x y a b}(h:TrR N x y)(k:TrL N a b):TrL N (x::a) (y::b):=by
 refine⟨by simp[k.1],fun i u v hu hv=> ?_⟩
 cases i with
 |zero=>simp at hu hv; subst hu; subst hv; exact h
 |succ i=>exact k.2 i u v (by simpa using hu) (by simpa using hv)
omit hC in
theorem TrL.get{a b}(h:TrL N a b){i:Nat}{x}(hx:a[i]? =some x):∃y,b[i]? =some y∧TrR N x y:=by
 have hl:=(List.getElem?_eq_some_iff.1 hx).1
 have hb:i<b.length:=by rw[←h.1]; exact hl
 exact⟨b[i],List.getElem?_eq_getElem hb,h.2 i x _ hx (List.getElem?_eq_getElem hb)⟩
theorem aax{ops:Array Oper}{r:R}:∀(os:List Oper) (ps:List (Option Value)) (l:FL) (n:Nat) (t:Tr) (H:Heap) (K:List (FL×Nat×Tr)->Option R),Rl n t H->acN E fc N ops os ps l n t K=some r→
  ∃tr tr',TrL N tr tr'∧K tr=some r∧Lr E call ops os ps ⟨N,l⟩ H=some tr'
 |[],ps,l,n,t,H,K,h,hk=>⟨_,[(⟨N,l⟩,H)],TrL.cons ⟨rfl,h⟩ ⟨rfl,fun i x y hx=>by simp at hx⟩,hk,rfl⟩
 |o::os,ps,l,n,t,H,K,h,hk=>by
  have e:acN E fc N ops (o::os) ps l n t K=abH E fc N ops (ps.headD none) o l n t fun l' n' t'=>acN E fc N ops os ps.tail l' n' t' fun tr=>K ((l,n,t)::tr):=rfl
  rw[e]at hk
  obtain⟨l1,n1,t1,H1,g1,g2,g3⟩:=adU hC h hk
  obtain⟨tr,tr',q1,q2,q3⟩:=aax os ps.tail l1 n1 t1 H1 _ g1 g2
  exact⟨_,_,TrL.cons (y:=(⟨N,l⟩,H)) ⟨rfl,h⟩ q1,q2,by simp only[Lr,g3,Option.bind_some,q3]⟩
omit hC in
theorem adV{ops:Array Oper}{tr:List (FL×Nat×Tr)}{tr':List (eX×Heap)}(h:TrL N tr tr'){j c:Nat}(hk:abI E ops tr j c=true):Oy E ops tr' j c=true:=by
 unfold abI at hk
 split at hk
 ·rename_i o l1 n1 t1 l2 n2 t2 l3 n3 t3 h1 h2 h3 h4
  obtain⟨⟨f1,G1⟩,g1,r1⟩:=h.get h2
  obtain⟨⟨f2,G2⟩,g2,r2⟩:=h.get h3
  obtain⟨⟨f3,G3⟩,g3,r3⟩:=h.get h4
  have e1:f1=⟨N,l1⟩:=r1.1
  have e2:f2=⟨N,l2⟩:=r2.1
  subst e1; subst e2
  unfold Oy
  rw[h1,g1,g2,g3]
  dsimp only
  rw[←Hg]
  split at hk
  ·rename_i hw
   rw[hw]
   dsimp only
   split at hk
   ·rename_i v dl d ho hd
    rw[af0 (call:=fun _ _ _=>none) (N:=N) r3.2 ho,hd]
    dsimp only
    split at hk
    ·rename_i u hu
     have:eX.get ⟨N,l2⟩ d=some u:=by rw[←hu,vg]; rfl
     rw[this]; exact hk
    ·cases hk
   ·cases hk
  ·rename_i hw
   rw[hw]
  ·cases hk
 ·cases hk
theorem af4(h:Rl n t H){ops:Array Oper}{K:FL->Nat->Tr->Option R}{r:R}(hk:afR E fc N ops l n t K=some r):
  ∃l' n' t' H',Rl n' t' H'∧K l' n' t'=some r∧Ls E call ops ⟨N,l⟩ H=some (⟨N,l'⟩,H'):=by
 obtain⟨h1,h2⟩:=kT (b:=Jv ops) hk
 obtain⟨ps,n1,t1,H1,g1,g2,g3⟩:=Rz _ _ _ _ _ h h2
 obtain⟨tr,tr',q1,q2,q3⟩:=aax hC _ _ _ _ _ _ _ g1 g2
 obtain⟨p1,p2⟩:=kT q2
 rw[gZ]at p2
 obtain⟨x,k1,k2⟩:=ak p2
 obtain⟨lx,nx,tx⟩:=x
 rw[List.getLast?_eq_getElem?]at k1
 obtain⟨⟨fy,Hy⟩,y1,y2,y3⟩:=q1.get k1
 have e:fy=⟨N,lx⟩:=y2
 subst e
 refine⟨lx,nx,tx,Hy,y3,k2,?_⟩
 unfold Ls
 rw[if_pos h1,g3]
 simp only[Option.bind_some]
 rw[q3]
 simp only[Option.bind_some]
 rw[if_pos,List.getLast?_eq_getElem?,←q1.1,y1]
 rw[List.all_eq_true]at p1 ⊢
 intro p hp
 have:=p1 p hp
 rw[List.all_eq_true]at this ⊢
 exact fun c hc=>adV q1 (this c hc)
omit hC in
theorem af5(l:FL):∀(live:List Nat) (j:Nat) (pre:List (Option Value)),pre.length=j->mkL live j (pre++live.map (eX.get ⟨N,l⟩))=fmk live l
 |[],_,_,_=>rfl
 |a::r,j,pre,hj=>by
  have e:fmk (a::r) l=(a,FI l a)::fmk r l:=rfl
  rw[e]
  simp only[mkL]
  have h2:=af5 l r (j+1) (pre++[eX.get ⟨N,l⟩ a]) (by simp[hj])
  rw[List.append_assoc]at h2
  simp only[List.map_cons]at h2 ⊢
  rw[show pre++eX.get ⟨N,l⟩ a::List.map (eX.get ⟨N,l⟩) r=pre++([eX.get ⟨N,l⟩ a]++List.map (eX.get ⟨N,l⟩) r)from rfl,h2]
  congr 1
  subst hj
  rw[List.getElem?_append_right (Nat.le_refl _),Nat.sub_self,vg]; rfl
omit hC in
theorem Jo(live:List Nat)(l:FL):qM N live (live.map (eX.get ⟨N,l⟩))=⟨N,fmk live l⟩:=by
 unfold qM
 have:=af5 (N:=N) l live 0 [] rfl
 rw[List.nil_append]at this
 rw[this]
def akb(E:Env)(call:jC)(fc:qL)(k:Nat)(out:Bool)(c:Code):Prop:=
 ∀(N:Nat) (h:Hint) (l:FL) (n:Nat) (t:Tr) (K:FK) (r:R),D9 E fc N k out c h l n t K=some r->∀H,Rl n t H→
  ∃e l' n' t' H',Rl n' t' H'∧K e l' n' t'=some r∧∀(R':Type) (K':Ex->eX->Heap->Option R'),dU E call k out c h ⟨N,l⟩ H R' K'=K' e ⟨N,l'⟩ H'
omit hC in
theorem abN{m:∀R:Type,(Ex->eX->Heap->Option R)->Option R}{j:Option (List Nat)}{K:FK}{r:R}{e:Ex}{l':FL}{n':Nat}{t':Tr}{H':Heap}(h1:Rl n' t' H')(h2:VG j K e l' n' t'=some r)
  (hm:∀(R':Type) (K':Ex->eX->Heap->Option R'),m R' K'=K' e ⟨N,l'⟩ H'):
  ∃e l' n' t' H',Rl n' t' H'∧K e l' n' t'=some r∧∀(R':Type) (K':Ex->eX->Heap->Option R'),U5 N j m K'=K' e ⟨N,l'⟩ H':=by
 cases j with
 |none=>exact⟨e,l',n',t',H',h1,h2,hm⟩
 |some live=>
  refine⟨e,fmk live l',n',t',H',h1,h2,fun R' K'=> ?_⟩
  simp only[U5,hm,Option.bind_some]
  rw[Jo]
omit hC in
theorem af6{live:List Nat}{f:FL->Nat->Tr->FK->Option R}{g:List (Option Value)×Heap->Option (Ex×List (Option Value)×Heap)}{r:R}{K:FK}
  (hf:∀l n t K r,f l n t K=some r->∀H,Rl n t H->∀s,qM N live s=⟨N,l⟩->∃e l' n' t' H',Rl n' t' H'∧K e l' n' t'=some r∧g (s,H)=some (e,live.map (eX.get ⟨N,l'⟩),H')):
  ∀(k:Nat) (l:FL) (n:Nat) (t:Tr) (H:Heap),Rl n t H->afS k f live l n t K=some r->∃e s n' t' H',Rl n' t' H'∧K e (qM N live s).l n' t'=some r∧Oz k g (live.map (eX.get ⟨N,l⟩),H)=some (e,s,H'):=by
 intro k
 induction k with
 |zero=>intro l n t H h hk; cases hk
 |succ k ih=>
  intro l n t H h hk
  obtain⟨e,l1,n1,t1,H1,g1,g2,g3⟩:=hf _ _ _ _ _ hk H h (live.map (eX.get ⟨N,l⟩)) (Jo live l)
  simp only[Oz,g3,Option.bind_some]
  cases e with
  |normal=>exact ih l1 n1 t1 H1 g1 g2
  |exit i=>exact⟨.exit i,_,n1,t1,H1,g1,by rw[Jo]; exact g2,rfl⟩
  |ret=>exact⟨.ret,_,n1,t1,H1,g1,by rw[Jo]; exact g2,rfl⟩
theorem RD(k:Nat)(out:Bool):∀c:Code,akb E call fc k out c:=by
 intro c
 induction c with
 |skip=>exact fun N h l n t K r hk H hr=>⟨.normal,l,n,t,H,hr,hk,fun R' K'=>rfl⟩
 |label q=>exact fun N h l n t K r hk H hr=>⟨.normal,l,n,t,H,hr,hk,fun R' K'=>rfl⟩
 |exit id=>exact fun N h l n t K r hk H hr=>⟨.exit id,l,n,t,H,hr,hk,fun R' K'=>rfl⟩
 |ret=>exact fun N h l n t K r hk H hr=>⟨.ret,l,n,t,H,hr,hk,fun R' K'=>rfl⟩
 |goto q=>intro N h l n t K r hk; cases hk
 |refuse q=>intro N h l n t K r hk; cases hk
 |region id ops draw=>
  intro N h l n t K r hk H hr
  cases draw with
  |false=>
   obtain⟨l1,n1,t1,H1,g1,g2,g3⟩:=acT hC _ _ _ _ _ _ hr (show afQ E fc N ops ops.toList l n t (K .normal)=some r from hk)
   exact⟨.normal,l1,n1,t1,H1,g1,g2,fun R' K'=>by simp only[dU,g3,Option.bind_some]⟩
  |true=>
   obtain⟨l1,n1,t1,H1,g1,g2,g3⟩:=af4 hC hr (show afR E fc N ops l n t (K .normal)=some r from hk)
   exact⟨.normal,l1,n1,t1,H1,g1,g2,fun R' K'=>by simp only[dU,g3,Option.bind_some]⟩
 |seq a b iha ihb=>
  intro N h l n t K r hk H hr
  obtain⟨e,l1,n1,t1,H1,g1,g2,g3⟩:=iha N h.a l n t _ r hk H hr
  cases e with
  |normal=>
   obtain⟨e2,l2,n2,t2,H2,q1,q2,q3⟩:=ihb N h.b l1 n1 t1 _ r g2 H1 g1
   exact⟨e2,l2,n2,t2,H2,q1,q2,fun R' K'=>by simp only[dU,g3,q3]⟩
  |exit i=>exact⟨_,l1,n1,t1,H1,g1,g2,fun R' K'=>by simp only[dU,g3]⟩
  |ret=>exact⟨_,l1,n1,t1,H1,g1,g2,fun R' K'=>by simp only[dU,g3]⟩
 |cond c x y ihx ihy=>
  intro N h l n t K r hk H hr
  have hk2:(ob (dM l c) fun v=>fIf v (D9 E fc N k out x h.a l n t (VG h.j K)) (D9 E fc N k out y h.b l n t (VG h.j K)))=some r:=hk
  rw[gZ]at hk2
  obtain⟨v,h1,h2⟩:=ak hk2
  rw[Bg (N:=N)]at h1
  unfold fIf Yc at h2
  split at h2
  ·obtain⟨e,l1,n1,t1,H1,g1,g2,g3⟩:=ihx N h.a l n t _ r h2 H hr
   obtain⟨e2,l2,n2,t2,H2,q1,q2,q3⟩:=abN (N:=N) (m:=fun R K=>(pY ⟨N,l⟩ c).bind fun v=>Yc v (dU E call k out x h.a ⟨N,l⟩ H R K) (dU E call k out y h.b ⟨N,l⟩ H R K)) g1 g2 (fun R' K'=>by simp only[h1,Option.bind_some,Yc,g3])
   exact⟨e2,l2,n2,t2,H2,q1,q2,fun R' K'=>by simp only[dU]; exact q3 R' K'⟩
  ·obtain⟨e,l1,n1,t1,H1,g1,g2,g3⟩:=ihy N h.b l n t _ r h2 H hr
   obtain⟨e2,l2,n2,t2,H2,q1,q2,q3⟩:=abN (N:=N) (m:=fun R K=>(pY ⟨N,l⟩ c).bind fun v=>Yc v (dU E call k out x h.a ⟨N,l⟩ H R K) (dU E call k out y h.b ⟨N,l⟩ H R K)) g1 g2 (fun R' K'=>by simp only[h1,Option.bind_some,Yc,g3])
   exact⟨e2,l2,n2,t2,H2,q1,q2,fun R' K'=>by simp only[dU]; exact q3 R' K'⟩
  ·cases h2
 |block id c ih=>
  intro N h l n t K r hk H hr
  obtain⟨e,l1,n1,t1,H1,g1,g2,g3⟩:=ih N h.a l n t _ r hk H hr
  have key:∀(R':Type) (K':Ex->eX->Heap->Option R'),(dU E call k out c h.a ⟨N,l⟩ H R' fun e fr H=>match e with| .exit i=>if i=id then K' .normal fr H else K' (.exit i) fr H|e=>K' e fr H)=K' (Ex.rec .normal (fun i=>Bool.rec (.exit i) .normal (Nat.beq i id)) .ret e:Ex) ⟨N,l1⟩ H1:=by
   intro R' K'
   rw[g3]
   cases e with
   |normal=>rfl
   |ret=>rfl
   |exit i=>
    dsimp only
    rw[ahI]
    by_cases hi:i=id<;>simp[hi]
  obtain⟨e2,l2,n2,t2,H2,q1,q2,q3⟩:=abN (N:=N) (m:=fun R' K'=>dU E call k out c h.a ⟨N,l⟩ H R' fun e fr H=>match e with| .exit i=>if i=id then K' .normal fr H else K' (.exit i) fr H|e=>K' e fr H) g1 g2 key
  exact⟨e2,l2,n2,t2,H2,q1,q2,fun R' K'=>by simp only[dU]; exact q3 R' K'⟩
 |loop c ih=>
  intro N h l n t K r hk H hr
  have hk2:(Option.rec none (fun live=>afS k (D9 E fc N k out c h.a) live l n t K) h.j:Option R)=some r:=hk
  cases hj:h.j with
  |none=>rw[hj]at hk2; cases hk2
  |some live=>
   rw[hj]at hk2
   obtain⟨e,s,n1,t1,H1,g1,g2,g3⟩:=af6 (N:=N) (live:=live) (f:=D9 E fc N k out c h.a) (g:=fun s=>dU E call k out c h.a (qM N live s.1) s.2 (Ex×List (Option Value)×Heap) fun e fr H=>some (e,live.map fr.get,H)) (fun l n t K r hk H hr s hs=>by
    obtain⟨e,l1,n1,t1,H1,g1,g2,g3⟩:=ih N h.a l n t K r hk H hr
    refine⟨e,l1,n1,t1,H1,g1,g2,?_⟩
    simp only[hs,g3]) k l n t H hr hk2
   refine⟨e,_,n1,t1,H1,g1,g2,fun R' K'=> ?_⟩
   simp only[dU,hj]
   rw[g3]
   rfl
 |scope c ih=>
  intro N h l n t K r hk H hr
  obtain⟨e,l1,n1,t1,H1,g1,g2,g3⟩:=ih N h.a l n t _ r hk H hr
  exact⟨e,l1,n1,t1,H1,g1,g2,fun R' K'=>by simp only[dU,g3]⟩
 |rangeFunc f ps asg body _ _=>
  intro N h l n t K r hk H hr
  obtain⟨ho,hk2⟩:=kT (b:=out) hk
  clear hk
  subst ho
  rw[gZ]at hk2
  obtain⟨fv,h1,hk⟩:=ak hk2
  rw[Bg (N:=N)]at h1
  split at hk
  ·rename_i g xs ys
   obtain⟨n1,t1,g1,g2⟩:=wI hr hk
   obtain⟨v,n2,t2,H2,q1,q2,q3⟩:=hC _ _ _ _ _ _ g2 _ g1
   split at q3
   ·rename_i st pend fr' ps' asg' body' hb' hl
    have hl:=q1.get _ _ hl
    split at q3
    ·cases q3
    ·rename_i hst
     obtain⟨n3,t3,p1,p2⟩:=wI q1 q3
     refine⟨_,l,n3,t3,_,p1,p2,fun R' K'=> ?_⟩
     simp only[dU,if_true,h1,Option.bind_some]
     have e1:=hr.len
     subst e1
     simp only[jB]at q2
     rw[q2]
     simp only[Option.bind_some,hl,if_neg hst]
     rfl
   ·cases q3
  ·cases hk
omit hC in
theorem Jp(h:Rl n t H)(l:FL):∀(rs:List ResultVar) (vs:List Value),Jl E l t rs=some vs->ng E ⟨N,l⟩ H rs=some vs
 |[],vs,hk=>hk
 | .tmp a::rs,vs,hk=>by
  simp only[Jl,gZ,vg]at hk
  simp only[ng,Hu]
  obtain⟨v,h1,hk⟩:=ak hk
  obtain⟨us,h2,hk⟩:=ak hk
  have e:eX.get ⟨N,l⟩ a=some v:=h1
  rw[e,Option.bind_some,Jp h l rs us h2]; exact hk
 | .cell a ty::rs,vs,hk=>by
  simp only[Jl,gZ,vg]at hk
  simp only[ng,Hu]
  obtain⟨p,h1,hk⟩:=ak hk
  obtain⟨v,h3,hk⟩:=ak hk
  obtain⟨us,h2,hk⟩:=ak hk
  have e:eX.get ⟨N,l⟩ a=some p:=h1
  rw[e,Option.bind_some,aav h h3,Option.bind_some,Jp h l rs us h2]; exact hk
omit hC in
theorem af7{k:Nat}(hC:acR (aFn E k) fc):acR (aFn E (k+1)) (ah_ E k fc):=by
 intro tg args n t K r hk H hr
 cases tg with
 |fn f=>
  have hk2:(Option.rec (ob (E.fn f) fun fn=>ob fn.body fun c=>
   D9 E (fc) (args.length+(fn.ntmps-args.length)) k true c (E.hint f) (FP 0 args) n t fun e l n t=>Ex.rec (ob (Jl E l t fn.results.toList) fun vs=>K (iI vs) n t) (fun _=>none) (ob (Jl E l t fn.results.toList) fun vs=>K (iI vs) n t) e)
   (fun _=>none) (E.ext f):Option R)=some r:=hk
  cases hx:E.ext f with
  |some x=>rw[hx]at hk2; cases hk2
  |none=>
   rw[hx]at hk2
   simp only[gZ]at hk2
   obtain⟨fn,h1,hk2⟩:=ak hk2
   obtain⟨c,h2,hk2⟩:=ak hk2
   obtain⟨e,l1,n1,t1,H1,g1,g2,g3⟩:=RD hC k true c _ _ _ _ _ _ _ hk2 H hr
   simp only[aFn,hx,h1,h2,Option.bind_some,Ea,g3]
   cases e with
   |normal=>
    obtain⟨vs,q1,q2⟩:=ak g2
    have q1:=Jp (N:=args.length+(fn.ntmps-args.length)) g1 _ _ _ q1
    exact⟨_,n1,t1,H1,g1,by simp only[q1,Option.bind_some],q2⟩
   |ret=>
    obtain⟨vs,q1,q2⟩:=ak g2
    have q1:=Jp (N:=args.length+(fn.ntmps-args.length)) g1 _ _ _ q1
    exact⟨_,n1,t1,H1,g1,by simp only[q1,Option.bind_some],q2⟩
   |exit i=>cases g2
 |round q=>
  have hk2:(match jA t q with
   |some (.loop _ _ fr ps asg body hb)=>ob (VN fr ps args) fun fr=>
    D9 E (fc) fr.n k false asg .leaf fr.l n t fun e l n t=>
     match e,jA t q with
     | .normal,some (.loop .ready p fr0 ps0 asg0 body0 hb0)=>
      G8 n t (.set q (.loop .busy p fr0 ps0 asg0 body0 hb0)) fun n t=>D9 E (fc) fr.n k false body hb l n t fun e _ n t=>
       match jA t q with
       |some (.loop _ _ fr1 ps1 asg1 body1 hb1)=>
        Ex.rec (G8 n t (.set q (.loop .ready none fr1 ps1 asg1 body1 hb1)) fun n t=>K (.bool true) n t)
         (fun i=>G8 n t (.set q (.loop .done (some (.exit i)) fr1 ps1 asg1 body1 hb1)) fun n t=>K (.bool false) n t)
         (G8 n t (.set q (.loop .done (some .ret) fr1 ps1 asg1 body1 hb1)) fun n t=>K (.bool false) n t) e
       |_=>none
     |_,_=>none
   |_=>none:Option R)=some r:=hk
  split at hk2
  ·rename_i st pend fr ps asg body hb hl
   rw[gZ]at hk2
   obtain⟨fr1,h1,hk2⟩:=ak hk2
   obtain⟨e,l1,n1,t1,H1,g1,g2,g3⟩:=RD hC k false asg _ _ _ _ _ _ _ hk2 H hr
   have hl:=hr.get _ _ hl
   split at g2
   ·rename_i p fr0 ps0 asg0 body0 hb0 hl1
    have hl1:=g1.get _ _ hl1
    obtain⟨n2,t2,q1,q2⟩:=wI g1 g2
    obtain⟨e2,l3,n3,t3,H3,k1,k2,k3⟩:=RD hC k false body _ _ _ _ _ _ _ q2 _ q1
    split at k2
    ·rename_i st3 pd3 fr3 ps3 asg3 body3 hb3 hl3
     have hl3:=k1.get _ _ hl3
     have base:aFn E (k+1) (.round q) args H=(if e2= .normal then some (.bool true,H3.set q (.loop .ready none fr3 ps3 asg3 body3 hb3))else some (.bool false,H3.set q (.loop .done (some e2) fr3 ps3 asg3 body3 hb3))):=by
      have g3':=fun R' K'=>g3 R' K'
      have k3':=fun R' K'=>k3 R' K'
      have en:(⟨fr1.n,fr1.l⟩:eX)=fr1:=rfl
      simp only[en,jB]at g3' k3'
      simp only[aFn,hl,h1,Option.bind_some,g3',hl1,k3',hl3]
     rw[base]
     cases e2 with
     |normal=>
      obtain⟨n4,t4,p1,p2⟩:=wI k1 k2
      exact⟨_,n4,t4,_,p1,rfl,p2⟩
     |exit i=>
      obtain⟨n4,t4,p1,p2⟩:=wI k1 k2
      exact⟨_,n4,t4,_,p1,rfl,p2⟩
     |ret=>
      obtain⟨n4,t4,p1,p2⟩:=wI k1 k2
      exact⟨_,n4,t4,_,p1,rfl,p2⟩
    ·cases k2
   ·cases g2
  ·cases hk2
omit hC in
theorem ajf(E:Env):∀k,acR (aFn E k) (fFn E k):=by
 intro k
 induction k with
 |zero=>intro tg args n t K r hk; cases hk
 |succ k ih=>exact af7 ih
omit hC in
theorem abO{k:Nat}{f:FuncId}{args:List Value}(h:yes (fFn E k (.fn f) args 0 .nil acP)=true):∃H,aFn E k (.fn f) args []=some (.bool true,H):=by
 unfold yes at h
 split at h
 ·rename_i b hb
  subst h
  obtain⟨v,n,t,H,h1,h2,h3⟩:=ajf E k _ _ _ _ _ _ hb [] Rl.nil
  unfold acP at h3
  split at h3
  ·cases h3; exact⟨H,h2⟩
  ·cases h3
 ·cases h
omit hC in
theorem adW{k:Nat}{f:FuncId}(h:yes (fFn E k (.fn f) [] 0 .nil acP)=true):∃H,aFn E k (.fn f) [] []=some (.bool true,H):=abO h
end
section
variable{E:Env}{n:Nat}{t:Tr}{H:Heap}
end
end Go.Proofs.YtijnknjopjmiiaaGreatDoor.Zq
end
section
namespace Go.Proofs.YtijnknjopjmiiaaGreatDoor.Zq
variable{P:Program}
theorem BR.sameAll{M:Mp}{e:jL}{k:iF}{w w':World}(h:BR M e k w)(f:∀c:Nat,c<w.heap.size->w'.heap[c]? =w.heap[c]?):BR M e k w':=by
 have key:∀o,w.heap[e.blk]? =some o->w'.heap[e.blk]? =some o:=fun o ho=>by
  rw[f e.blk (Array.getElem?_eq_some_iff.1 ho).1]; exact ho
 cases k with
 |row cells sz opn ro live=>
  obtain⟨h1,h2,h3,h4⟩:=h
  refine⟨h1,h2,h3,fun hl=> ?_⟩
  obtain⟨c,t,fz,g1,g2⟩:=h4 hl
  exact⟨c,t,fz,key _ g1,g2⟩
 |map es clock=>
  obtain⟨es',g1,g2⟩:=h
  exact⟨es',key _ g1,g2⟩
 |iter s pos=>exact⟨h.1,key _ h.2⟩
 |loop st pend fr ps asg body hb=>
  obtain⟨L,g1,g2⟩:=h
  exact⟨L,key _ g1,g2⟩
theorem EV.closed{g:FuncId}(h:EV P g [] [] fun v _=>v= .bool true){H:Heap}{Q:Value->Heap->Prop}(hq:Q (.bool true) H):EV P g [] H Q:=by
 refine⟨h.1,fun n M w args' hr hv=> ?_⟩
 have ha:=hv.of_nil
 subst ha
 refine(h.2 n [] w [] (HR.nil w) (VL.nil _)).mono ?_
 rintro e w' ⟨v,v',M',H',rfl,hs,hb,rfl⟩
 have:=hb.of_bool
 subst this
 have hf:∀c:Nat,c<w.heap.size->w'.heap[c]? =w.heap[c]? :=fun c hc=>hs.frame c hc fun b e hb=>by simp at hb
 refine⟨_,_,M,H,rfl,⟨.refl M,⟨hr.len,fun b e k h1 h2=>(hr.blk b e k h1 h2).sameAll hf,hr.sep⟩,hs.os,hs.output,hs.tape,hs.size,hs.dr,fun c hc _=>hf c hc,fun b e h1 h2 _=>⟨b,e,h1,h2,rfl⟩,fun _ h1=>⟨h1,rfl⟩,fun b e h1 h2 _=>⟨b,e,h1,h2,rfl⟩⟩,.bool _,hq⟩
theorem CALL.closed{call:jC}(hC:lZ P call){g:FuncId}{Hx:Heap}(h:call (.fn g) [] []=some (.bool true,Hx)){H:Heap}{k:Bool×Unit->Heap->Prop}(hk:k (true,()) H):CALL P [ah] g [] H k:=by
 refine EV.closed ?_ ⟨(true,()),rfl,hk⟩
 have:=agF hC (rs:=[ah]) (x:=(true,())) (k:=fun x _=>x.1=true) h rfl
 refine EV.mono this ?_
 rintro v H' ⟨x,rfl,hx⟩
 show Value.bool x.1=_
 rw[hx]
theorem CALL.ahO{E:Env}{n:Nat}(hC:lZ P (aFn E n)){g:FuncId}(h:yes (fFn E n (.fn g) [] 0 .nil acP)=true){H:Heap}{k:Bool×Unit->Heap->Prop}(hk:k (true,()) H):CALL P [ah] g [] H k:=by
 obtain⟨Hx,hx⟩:=adW h
 exact CALL.closed hC hx hk
end Go.Proofs.YtijnknjopjmiiaaGreatDoor.Zq
end
section
namespace Go.Proofs.YtijnknjopjmiiaaGreatDoor.Zq
open Zv
section
theorem ahP{H:Heap}{Q:Bool×Unit->Heap->Prop}(hq:Q (true,()) H):CALL P [ah] Fz [] H Q:=
 CALL.ahO (Tryz.akt 100) (by kernel_rfl) hq
end
end Go.Proofs.YtijnknjopjmiiaaGreatDoor.Zq
end
section
namespace Go.Proofs.YtijnknjopjmiiaaGreatDoor.Zq
open Go Zv
namespace KThings
abbrev T:Tag:=aV
abbrev X:=T.α
theorem hT(x:X):(T.cells x).length=T.n:=rfl
theorem same_iff(x y:bf):(!((x.Card==y.Card)&&((x.Owner==y.Owner)&&((x.Place==y.Place)&&((x.Stamp==y.Stamp)&&((x.Hurt==y.Hurt)&&(((x.Marks.1==y.Marks.1)&&((x.Marks.2.1==y.Marks.2.1)&&((x.Marks.2.2.1==y.Marks.2.2.1)&&((x.Marks.2.2.2==y.Marks.2.2.2)&&true))))&&((x.Done==y.Done)&&((x.Fresh==y.Fresh)&&true)))))))))=false↔x=y:=by
 cases x; cases y; simp[Prod.ext_iff]
theorem Bh{H:Heap}{a b:Sl}{l m:List X}(ha:dB T H a l)(hb:dB T H b m)(hl:l.length≤4611686018427387904){Q:Bool×Unit->Heap->Prop}(hq:∀r:Bool,(r=true↔l=m)->Q (r,()) H):CALL P [ah] oU [a.v,b.v] H Q:=by
 apply KD
 unfold pJ
 exact aaT (T:=T) hT same_iff rfl ha hb hl hq
def o:X:=(bf.mk (-99) 0 0 0 0 (0,0,0,0) 0 false:bf)
def w:X:=(bf.mk (-77) 0 0 0 0 (0,0,0,0) 0 false:bf)
def z:X:=(bf.mk 0 0 0 0 0 (0,0,0,0) 0 false:bf)
theorem tyS:Jq E T 26 z:=⟨⟨_,_,_,rfl,rfl,rfl,rfl,by decide,by decide,rfl⟩,by decide,hT,fun _=>rfl⟩
theorem ajg{H:Heap}{a:Sl}{l:List X}(ha:dB T H a l)(hl:l.length≤1048600){Q:Sl×Unit->Heap->Prop}(hq:∀s' H' sp,aW T H s' H' l sp->Q (s',()) H'):CALL P [aH] oN [a.v] H Q:=by
 apply J8
 unfold pz
 exact F8 tyS rfl (fun _=>by simp) ha hl hq
theorem ajh{H:Heap}{a:Sl}{l:List X}(ha:dB T H a l)(hl:l.length≤1048600){Q:Sl×Unit->Heap->Prop}(hq:∀s' H' sp,aW T H s' H' (l++[w,w]) sp->(∃d,s'.p=some ⟨d,0,none⟩)->Q (s',()) H'):CALL P [aH] oK [a.v] H Q:=by
 apply JW
 unfold oW
 exact air tyS rfl (fun _=>by simp) ha hl [w,w] rfl rfl hq
theorem aji{H:Heap}{a b:Sl}{l m:List X}(ha:dB T H a l)(hb:dB T H b m)(hl:l.length≤1048600)(hm:m.length≤1048600){Q:Bool×Unit->Heap->Prop}(hq:∀(r:Bool) H',(r=true↔l=m++[w,w])->bK [] H H'->Q (r,()) H'):CALL P [ah] oL [a.v,b.v] H Q:=by
 apply JZ
 unfold oZ
 refine ajg hb hm fun s1 H1 sp1 n1=> ?_
 refine qF tyS rfl (fun _=>by simp) (m:=2) [w,w] rfl rfl (by show 2*(m.length+2)*4096≤_; omega) n1.1 fun s2 H2 sp2 k1 k2 k3=> ?_
 have n2:=n1.app k1 k2 k3
 exact Bh (ha.bP n2.2.2 (by simp)) k1.jH (by omega) fun r hr=>hq r H2 hr n2.2.2
theorem ajj{H:Heap}{a:Sl}{l sp:List X}(ha:Ow T H a l sp)(hl:l.length≤4611686018427387904){Q:Unit->Heap->Prop}(hq:∀H',Ow T H' a (List.replicate l.length o) sp->After a H H'->Q () H'):CALL P [] oM [a.v] H Q:=by
 apply J5
 unfold pq
 exact ais (T:=T) hT (fun _=>rfl) o rfl rfl ha hl hq
end KThings
end Go.Proofs.YtijnknjopjmiiaaGreatDoor.Zq
end
section
namespace Go.Proofs.YtijnknjopjmiiaaGreatDoor.Zq
open Go Zv
namespace KFeatures
abbrev T:Tag:=aI
abbrev X:=T.α
theorem hT(x:X):(T.cells x).length=T.n:=rfl
theorem same_iff(x y:aB):(!((x.Holder==y.Holder)&&((x.Suit==y.Suit)&&((x.Traits==y.Traits)&&((x.Power==y.Power)&&((x.Health==y.Health)&&true))))))=false↔x=y:=by
 cases x; cases y; simp
theorem Bh{H:Heap}{a b:Sl}{l m:List X}(ha:dB T H a l)(hb:dB T H b m)(hl:l.length≤4611686018427387904){Q:Bool×Unit->Heap->Prop}(hq:∀r:Bool,(r=true↔l=m)->Q (r,()) H):CALL P [ah] gQ [a.v,b.v] H Q:=by
 apply Gl
 unfold mG
 exact aaT (T:=T) hT same_iff rfl ha hb hl hq
def z:X:=(⟨0,0,0,0,0⟩:aB)
theorem tyS:Jq E T 30 z:=⟨⟨_,_,_,rfl,rfl,rfl,rfl,by decide,by decide,rfl⟩,by decide,hT,fun _=>rfl⟩
theorem tyL:Jq E aH 76 ⟨none,0,0⟩:=⟨⟨_,_,_,rfl,rfl,rfl,rfl,by decide,by decide,rfl⟩,by decide,fun _=>rfl,fun _=>rfl⟩
def mkf(i k:Int):X:=((aB.mk (IntKind.wrap .i64 ((IntKind.wrap .i64 (0-i))-1)) 0 0 k 0):aB)
theorem RG(i k:Int)(H:Heap)(Q:X×Unit->Heap->Prop)(hq:Q (mkf i k,()) H):CALL P [T] fM [.int .i64 i,.int .i64 k] H Q:=by
 apply Gx
 unfold mM
 exact hq
theorem Yb{H:Heap}{a:Sl}{ls:List Sl}(h:Apt T H a ls){Q:Bool×Unit->Heap->Prop}(hq:∀H',H.length≤H'.length->(∀d,d<H.length->(∀s∈ls,s.p≠some ⟨d,0,none⟩)->H'[d]? =H[d]?)->Q (true,()) H'):CALL P [ah] kU [a.v] H Q:=by
 apply EC
 unfold lg
 refine ae1 tyS tyL rfl (fun _=>by simp) h.lst h.own h.few fun s' H1 sp n1=> ?_
 obtain⟨f,hf⟩:=h.rws n1.2.2
 refine ae4 (T:=T) (mk:=mkf) (C:=fun i k H Q=>CALL P [T] fM [.int .i64 i,.int .i64 k] H Q) hT (fun _=>rfl) RG n1.1 (by simpa using h.few) hf (ZQ h.dst) (fun v hv c hp hs=> ?_) rfl fun H2 how hl hfr hrw=> ?_
 ·obtain⟨s,hs',rfl⟩:=List.mem_map.1 hv
  obtain⟨l,lsp,hown⟩:=h.own s hs'
  obtain⟨_,_,_,⟨q,_⟩|⟨d,q,q2⟩⟩:=hown
  ·rw[show(full s).p=s.p from rfl,q]at hp; cases hp
  ·rw[show(full s).p=s.p from rfl,q]at hp; cases hp
   have:=n1.2.1 d hs
   have:=cZ q2
   omega
 ·refine ae5 (T:=T) (mk:=mkf) (C:=fun i k H Q=>CALL P [T] fM [.int .i64 i,.int .i64 k] H Q) hT RG same_iff how.jH (by simpa using h.few) hrw (fun v hv=>by obtain⟨s,_,rfl⟩:=List.mem_map.1 hv; rfl) rfl ?_
  refine hq H2 (by rw[hl]; exact n1.2.2.1) fun d hd hs=> ?_
  rw[hfr d (Nat.lt_of_lt_of_le hd n1.2.2.1) (fun v hv=>by obtain⟨s,hs',rfl⟩:=List.mem_map.1 hv; exact hs s hs'),n1.2.2.2 d hd (by simp)]
end KFeatures
end Go.Proofs.YtijnknjopjmiiaaGreatDoor.Zq
end
section
namespace Go.Proofs.YtijnknjopjmiiaaGreatDoor.Zq
open Go Zv
namespace KStandings
abbrev T:Tag:=ay
abbrev X:=T.α
theorem hT(x:X):(T.cells x).length=T.n:=rfl
theorem same_iff(x y:aF):(!((x.Thing==y.Thing)&&((x.Place==y.Place)&&(((x.What.When==y.What.When)&&((x.What.Verb==y.What.Verb)&&((x.What.Whom==y.What.Whom)&&((x.What.Count==y.What.Count)&&((x.What.Suit==y.What.Suit)&&((x.What.Trait==y.What.Trait)&&((x.What.Mark==y.What.Mark)&&((x.What.Name.toList==y.What.Name.toList)&&true))))))))&&true))))=false↔x=y:=by
 obtain⟨_,_,⟨_,_,_,_,_,_,_,_⟩⟩:=x; obtain⟨_,_,⟨_,_,_,_,_,_,_,_⟩⟩:=y; simp[abq]
theorem Bh{H:Heap}{a b:Sl}{l m:List X}(ha:dB T H a l)(hb:dB T H b m)(hl:l.length≤4611686018427387904){Q:Bool×Unit->Heap->Prop}(hq:∀r:Bool,(r=true↔l=m)->Q (r,()) H):CALL P [ah] gB [a.v,b.v] H Q:=by
 apply Ew
 unfold kZ
 exact aaT (T:=T) hT same_iff rfl ha hb hl hq
def z:X:=(⟨0,0,⟨0,0,0,0,0,0,0,ByteArray.mk #[]⟩⟩:aF)
theorem tyS:Jq E T 37 z:=⟨⟨_,_,_,rfl,rfl,rfl,rfl,by decide,by decide,rfl⟩,by decide,hT,fun _=>rfl⟩
theorem tyL:Jq E aH 78 ⟨none,0,0⟩:=⟨⟨_,_,_,rfl,rfl,rfl,rfl,by decide,by decide,rfl⟩,by decide,fun _=>rfl,fun _=>rfl⟩
def mkf(i k:Int):X:=((aF.mk (IntKind.wrap .i64 ((IntKind.wrap .i64 (0-i))-1)) k (aU.mk 0 0 0 0 0 0 0 (ByteArray.mk #[]))):aF)
theorem RG(i k:Int)(H:Heap)(Q:X×Unit->Heap->Prop)(hq:Q (mkf i k,()) H):CALL P [T] fD [.int .i64 i,.int .i64 k] H Q:=by
 apply EJ
 unfold lu
 exact hq
theorem Yb{H:Heap}{a:Sl}{ls:List Sl}(h:Apt T H a ls){Q:Bool×Unit->Heap->Prop}(hq:∀H',H.length≤H'.length->(∀d,d<H.length->(∀s∈ls,s.p≠some ⟨d,0,none⟩)->H'[d]? =H[d]?)->Q (true,()) H'):CALL P [ah] jZ [a.v] H Q:=by
 apply Dk
 unfold kF
 refine ae1 tyS tyL rfl (fun _=>by simp) h.lst h.own h.few fun s' H1 sp n1=> ?_
 obtain⟨f,hf⟩:=h.rws n1.2.2
 refine ae4 (T:=T) (mk:=mkf) (C:=fun i k H Q=>CALL P [T] fD [.int .i64 i,.int .i64 k] H Q) hT (fun _=>rfl) RG n1.1 (by simpa using h.few) hf (ZQ h.dst) (fun v hv c hp hs=> ?_) rfl fun H2 how hl hfr hrw=> ?_
 ·obtain⟨s,hs',rfl⟩:=List.mem_map.1 hv
  obtain⟨l,lsp,hown⟩:=h.own s hs'
  obtain⟨_,_,_,⟨q,_⟩|⟨d,q,q2⟩⟩:=hown
  ·rw[show(full s).p=s.p from rfl,q]at hp; cases hp
  ·rw[show(full s).p=s.p from rfl,q]at hp; cases hp
   have:=n1.2.1 d hs
   have:=cZ q2
   omega
 ·refine ae5 (T:=T) (mk:=mkf) (C:=fun i k H Q=>CALL P [T] fD [.int .i64 i,.int .i64 k] H Q) hT RG same_iff how.jH (by simpa using h.few) hrw (fun v hv=>by obtain⟨s,_,rfl⟩:=List.mem_map.1 hv; rfl) rfl ?_
  refine hq H2 (by rw[hl]; exact n1.2.2.1) fun d hd hs=> ?_
  rw[hfr d (Nat.lt_of_lt_of_le hd n1.2.2.1) (fun v hv=>by obtain⟨s,hs',rfl⟩:=List.mem_map.1 hv; exact hs s hs'),n1.2.2.2 d hd (by simp)]
end KStandings
end Go.Proofs.YtijnknjopjmiiaaGreatDoor.Zq
end
