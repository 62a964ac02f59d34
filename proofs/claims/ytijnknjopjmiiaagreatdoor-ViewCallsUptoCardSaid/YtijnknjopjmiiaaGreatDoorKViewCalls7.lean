/- Part 7 of the proof of ViewCalls: what its row stands on (lemmas about the model, the evaluator, contracts of functions), put together and cut to what is used. -/
import Derived.Test.YtijnknjopjmiiaaGreatDoorKViewCalls6
import Derived.Shelf.SlSortCmp.NoneTotal
import Derived.Deep.Draws
section
namespace Go.Proofs.YtijnknjopjmiiaaGreatDoor.Zq
section
variable{E:Env}{T:Tag}{ts:TypeId}{z:T.α}
theorem AY(hT:∀x,(T.cells x).length=T.n){H:Heap}{s:Sl}{l:List T.α}(h:dB T H s l){i:Int}{n:Nat}{x:T.α}(hi:i=n)(hx:l[n]? =some x){sz:Nat}(hz:sz=T.n){K:Nat->Nat->Prop}
  (hk:∀b o,(∀k:T.α->Prop,k x->LD T H b o k)->K b o):bQ s.p s.len i sz K:=by
 have hl:=(List.getElem?_eq_some_iff.1 hx).1
 obtain⟨h1,⟨_,h2,_⟩|⟨_,_,_,h2,_⟩|⟨b,A,B,w,o,ro,h3,h4⟩⟩:=h
 ·subst h2; simp at hl
 ·subst h2; simp at hl
 ·unfold bQ NIL
  rw[h3]
  refine⟨⟨by omega,by omega⟩,hk _ _ fun k hk=> ?_⟩
  refine dV x (A++fl T (l.take n)) (fl T (l.drop (n+1))++B) h4 ?_ ?_ (hT x) hk
  ·rw[iZ l n x hx]; simp[List.append_assoc]
  ·rw[List.length_append,dD hT,hi,hz,List.length_take,Nat.min_eq_left (by omega)]; simp
theorem hTs(x:Sl):(aH.cells x).length=aH.n:=rfl
def full(s:Sl):Sl:=⟨s.p,s.cap,s.cap⟩
theorem ajA(ty:Jq E T ts z){H:Heap}{s:Sl}{l sp:List T.α}(h:Ow T H s l sp){k:Int->Prop}(hk:k (s.cap:Int)):dW (aj .i64) (Mc E ts s.v H) k:=by
 obtain⟨⟨ti,e,te,e1,e2,e3,e4,e5,e6,e7⟩,hn,hT,hone⟩:=ty
 refine⟨(s.cap:Int),?_,hk⟩
 obtain⟨p,n,c⟩:=s
 obtain⟨g1,g2,g0,⟨g3,g4,g5⟩|⟨d,g3,g4⟩⟩:=h
 ·simp only at g1 g2 g3; subst g3; subst g4; subst g5; subst g1; subst g2
  unfold Mc
  simp only[e1,e2,Option.bind_some,Sl.v,List.length_nil]
  rfl
 ·simp only at g1 g2 g3; subst g3
  unfold Mc
  simp only[e1,e2,Option.bind_some,Sl.v]
  have hex:Zq.exact H d 0 c=true:=by unfold Zq.exact; rw[g4]; rfl
  rw[if_pos hex]
  rfl
theorem aa_(ty:Jq E T ts z){H:Heap}{s:Sl}{l sp:List T.α}(h:Ow T H s l sp){k:Sl->Prop}(hk:k (full s)):dW aH (dH E ts s.v none (some (.int .i64 (s.cap:Int))) none H) k:=by
 obtain⟨⟨ti,e,te,e1,e2,e3,e4,e5,e6,e7⟩,hn,hT,hone⟩:=ty
 refine⟨full s,?_,hk⟩
 obtain⟨p,n,c⟩:=s
 obtain⟨g1,g2,g0,⟨g3,g4,g5⟩|⟨d,g3,g4⟩⟩:=h
 ·simp only at g1 g2 g3; subst g3; subst g4; subst g5; subst g1; subst g2
  unfold dH
  simp only[e1,e2,e3,Option.bind_some,Sl.v,List.length_nil]
  rfl
 ·simp only at g1 g2 g3; subst g3
  unfold dH
  have hex:Zq.exact H d 0 c=true:=by unfold Zq.exact; rw[g4]; rfl
  simp only[e1,e2,e3,Option.bind_some,Sl.v,dQ,Option.isSome_none,Bool.false_and,Bool.false_eq_true,if_false,hex,or_true,if_true]
  rw[if_pos (by omega)]
  simp only[Option.bind_some]
  rw[if_pos (by omega)]
  simp[full,Tag.enc,RJ]
theorem ae1(ty:Jq E T ts z){tl:TypeId}(tyL:Jq E aH tl ⟨none,0,0⟩){tj:TI}(h2:E.ty tl=some tj)(h4:∀k,tj.k≠ .int k){H:Heap}{a:Sl}{ls:List Sl}(ha:dB aH H a ls)(hls:∀s∈ls,∃l sp,Ow T H s l sp)(hn:ls.length≤1048600)
  {k:(Sl×Unit)×Unit->Heap->Prop} (hk:∀s' H' sp,aW aH H s' H' (ls.map full) sp->k ((s',()),()) H'):
  JOIN (fun(j1:(Sl×Unit)×(Unit)->Heap->Prop)=>LOOP (fun(r3:(Sl×Int×Unit)×(Unit)->Heap->Prop) (s4:(Sl×Int×Unit)×(Unit)) H2=>
   aN (decide (s4.1.2.1<(a.len:Int))) (bQ a.p a.len s4.1.2.1 1 fun b5 o6=>LD aH H2 b5 o6 fun(x7:Sl)=>bQ a.p a.len s4.1.2.1 1 fun b8 o9=>LD aH H2 b8 o9 fun(x10:Sl)=>dW (aj .i64) (Mc E ts x10.v H2) fun(x11:Int)=>LD aH H2 b5 o6 fun(x12:Sl)=>qB (aH.enc x12=x7.v) (
    dW aH (dH E ts x7.v none (some (.int .i64 x11)) none H2) fun(x13:Sl)=>vk aH (lenV s4.1.1.v+1) (dR E [tl,tl] s4.1.1.v 1 [(.slice x13.p x13.len x13.cap)] H2) fun(x14:Sl) H3=>r3 ((x14,IntKind.wrap .i64 (s4.1.2.1+1),()),(())) H3)) (j1 ((s4.1.1,()),(())) H2)) (((Sl.mk none 0 0),0,()),(())) H) k:=by
 have ha1:a.len=ls.length:=ha.1
 refine aX ?_
 refine aY (fun(s:(Sl×Int×Unit)×Unit) H'=>∃(n:Nat) (sp:List Sl),s.1.2.1=n∧n≤ls.length∧aW aH H s.1.1 H' ((ls.take n).map full) sp) (fun s=>ls.length-s.1.2.1.toNat) ?_ ⟨0,[],rfl,Nat.zero_le _,⟨Ow.nil aH H,by simp,.refl _ _⟩⟩
 rintro G ⟨⟨s,i,_⟩,_⟩ H' ⟨n,sp,hi,hn',n1⟩ hG
 simp only at hi n1; subst hi
 dsimp only at hG ⊢
 refine bG (fun hlt=> ?_) (fun hge=> ?_)
 ·have hlt:n<ls.length:=by have:=of_decide_eq_true hlt; omega
  have ha':=ha.bP n1.2.2 (by simp)
  obtain⟨l,lsp,how⟩:=hls _ (List.getElem_mem hlt)
  have how':Ow T H' ls[n] l lsp:=how.bP n1.2.2 (by simp[Sl.off])
  refine AY (T:=aH) hTs ha' rfl (List.getElem?_eq_getElem hlt) rfl fun b5 o6 hld=> ?_
  refine hld _ (AY (T:=aH) hTs ha' rfl (List.getElem?_eq_getElem hlt) rfl fun b8 o9 hld2=>hld2 _ (ajA ty how' (hld _ ⟨rfl,aa_ ty how' ?_⟩)))
  refine qF tyL h2 h4 (m:=1) [full ls[n]] rfl rfl (by simp only[List.length_map,List.length_take,List.length_cons,List.length_nil]; omega) n1.1 fun s' H3 sp' k1 k2 k3=> ?_
  rw[bT (by omega) (by omega)]
  refine hG _ _ ⟨n+1,sp',by simp,hlt,?_⟩ (by simp; omega)
  have:=n1.app k1 k2 k3
  rw[List.take_succ_eq_append_getElem hlt,List.map_append]
  exact this
 ·have hge:n=ls.length:=by have:=of_decide_eq_false hge; omega
  subst hge
  rw[List.take_length]at n1
  exact hk _ _ _ n1
def Rws(T:Tag)(H:Heap)(vs:List Sl)(f:Nat->List T.α):Prop:=∀(j:Nat) (v:Sl),vs[j]? =some v->v.len=(f j).length∧v.len≤9223372036854775807∧((v.p=none∧f j=[])∨∃c,v.p=some ⟨c,0,none⟩∧H[c]? =some (.row (fl T (f j)) T.n false false true))
def Dst(vs:List Sl):Prop:=∀(i j:Nat) (u v:Sl) (c:Addr),i≠j->vs[i]? =some u->vs[j]? =some v->u.p=some c->v.p≠some c
def marks(mk:Int->Int->T.α)(i n:Nat):List T.α:=(List.range n).map fun(k:Nat)=>mk (i:Int) (k:Int)
theorem Vs(mk:Int->Int->T.α)(i n:Nat):(marks mk i n).length=n:=by simp[marks]
theorem ado(mk:Int->Int->T.α)(i n k:Nat)(h:k<n):(marks mk i n)[k]? =some (mk i k):=by simp[marks,h]
theorem Rws.jH{H:Heap}{vs:List Sl}{f:Nat->List T.α}(h:Rws T H vs f){j:Nat}{v:Sl}(hj:vs[j]? =some v)(hc:v.cap=v.len):dB T H v (f j):=by
 obtain⟨h1,_,⟨h2,h3⟩|⟨c,h2,h3⟩⟩:=h j v hj
 ·exact⟨h1,.inl ⟨h2,h3,by rw[hc,h1,h3]; rfl⟩⟩
 ·exact⟨h1,.inr (.inr ⟨c,[],[],T.n,false,false,h2,by simpa using h3⟩)⟩
theorem Rws.st(hT:∀x,(T.cells x).length=T.n)(hone:∀x,(T.cells x).all cell1=true){H:Heap}{vs:List Sl}{f:Nat->List T.α}(h:Rws T H vs f)(hd:Dst vs){j:Nat}{v:Sl}(hj:vs[j]? =some v){i:Int}{k:Nat}(hi:i=k)(hk:k<(f j).length)(x:T.α){sz:Nat}(hz:sz=T.n){K:Heap->Prop}
  (hK:∀c H',v.p=some ⟨c,0,none⟩->H'.length=H.length->(∀d,d≠c->H'[d]? =H[d]?)->Rws T H' vs (fun q=>if q=j then(f j).set k x else f q)->K H'):bQ v.p v.len i sz fun b o=>ST H b o (T.cells x) K:=by
 obtain⟨h1,h0,⟨h2,h3⟩|⟨c,h2,h3⟩⟩:=h j v hj
 ·rw[h3]at hk; simp at hk
 ·have hlt:=cZ h3
  unfold bQ NIL
  rw[h2]
  refine⟨⟨by omega,by omega⟩,?_⟩
  have hcut:=iZ (f j) k (f j)[k] (List.getElem?_eq_getElem hk)
  refine qE (fl T ((f j).take k)) (T.cells (f j)[k]) (fl T ((f j).drop (k+1))) h3 hcut ?_ (by rw[hT,hT]) (hone x) ?_
  ·rw[dD hT,List.length_take,Nat.min_eq_left (by omega),hi,hz]; simp
  ·refine hK c _ h2 (by simp) (fun d hd=>by rw[List.getElem?_set_ne (Ne.symm hd)]) ?_
   intro q u hq
   by_cases e:q=j
   ·subst e
    rw[hj]at hq; simp at hq; subst hq
    simp only[if_true]
    refine⟨by simp[h1],h0,.inr ⟨c,h2,?_⟩⟩
    rw[fV hlt,List.set_eq_take_append_cons_drop,if_pos hk]
    simp[fl]
   ·simp only[if_neg e]
    obtain⟨g1,g0,⟨g2,g3⟩|⟨c',g2,g3⟩⟩:=h q u hq
    ·exact⟨g1,g0,.inl ⟨g2,g3⟩⟩
    ·refine⟨g1,g0,.inr ⟨c',g2,?_⟩⟩
     have hne:c≠c':=fun e'=>by subst e'; exact hd j q v u _ (Ne.symm e) hj hq h2 g2
     rw[List.getElem?_set_ne hne]; exact g3
theorem ae3(mk:Int->Int->T.α)(i k:Nat)(r:List T.α)(hk:k<r.length)(hr:r=marks mk i k++(r.drop k)):r.set k (mk i k)=marks mk i (k+1)++(r.set k (mk i k)).drop (k+1):=by
 have h1:marks mk i (k+1)=marks mk i k++[mk i k]:=by simp[marks,List.range_succ]
 have h2:(r.set k (mk i k)).drop (k+1)=r.drop (k+1):=by rw[List.drop_set_of_lt (by omega)]
 rw[h1,h2,List.set_eq_take_append_cons_drop,if_pos hk]
 have h3:r.take k=marks mk i k:=by
  conv=>lhs; rw[hr]
  rw[List.take_left' (Vs mk i k)]
 rw[h3]; simp
theorem ae4(hT:∀x,(T.cells x).length=T.n)(hone:∀x,(T.cells x).all cell1=true){mk:Int->Int->T.α}{C:Int->Int->Heap->(T.α×Unit->Heap->Prop)->Prop}(hC:∀i k H Q,Q (mk i k,()) H->C i k H Q)
  {H:Heap} {a:Sl} {vs asp:List Sl} {f:Nat->List T.α} (ha:Ow aH H a vs asp) (hn:vs.length≤1048600) (hr:Rws T H vs f) (hd:Dst vs) (ho:∀v∈vs,∀c,v.p=some c->a.p≠some c) {n:Nat} (hn0:n=T.n)
  {k:Unit×Unit->Heap->Prop} (hk:∀H',Ow aH H' a vs asp->H'.length=H.length->(∀d,d<H.length->(∀v∈vs,v.p≠some ⟨d,0,none⟩)->H'[d]? =H[d]?)->Rws T H' vs (fun j=>marks mk j (f j).length)->k ((),()) H'):
  JOIN (fun(j15:(Unit)×(Unit)->Heap->Prop)=>LOOP (fun(r17:(Int×Unit)×(Unit)->Heap->Prop) (s18:(Int×Unit)×(Unit)) H5=>
   aN (decide (s18.1.1<(a.len:Int))) (JOIN (fun(j19:(Unit)×(Unit)->Heap->Prop)=>JOIN (fun(j21:(Unit)×(Unit)->Heap->Prop)=>LOOP (fun(r23:(Int×Unit)×(Unit)->Heap->Prop) (s24:(Int×Unit)×(Unit)) H8=>
    bQ a.p a.len s18.1.1 1 fun b25 o26=>LD aH H8 b25 o26 fun(x27:Sl)=>aN (decide (s24.1.1<(x27.len:Int))) (
     bQ a.p a.len s18.1.1 1 fun b28 o29=>LD aH H8 b28 o29 fun(x30:Sl)=>C s18.1.1 s24.1.1 H8 fun(x31:T.α×Unit) H9=>LD aH H9 b28 o29 fun(x32:Sl)=>qB (aH.enc x32=x30.v) (
      bQ x30.p x30.len s24.1.1 n fun b33 o34=>ST H9 b33 o34 (T.cells x31.1) fun H10=>r23 ((IntKind.wrap .i64 (s24.1.1+1),()),(())) H10)) (
     j21 ((()),(())) H8)) ((0,()),(())) H5) fun(_:(Unit)×(Unit)) H7=>j19 ((()),(())) H7) fun(_:(Unit)×(Unit)) H6=>r17 ((IntKind.wrap .i64 (s18.1.1+1),()),(())) H6) (
    j15 ((()),(())) H5)) ((0,()),(())) H) k:=by
 subst hn0
 have ha1:a.len=vs.length:=ha.1
 have keep:∀{H' H2:Heap} {i:Nat} {v:Sl} {c:Nat},vs[i]? =some v->v.p=some ⟨c,0,none⟩->Ow aH H' a vs asp->H2.length=H'.length->(∀d,d≠c->H2[d]? =H'[d]?)->Ow aH H2 a vs asp:=by
  intro H' H2 i v c hv hp how hl hf
  refine how.bP (B:=[c]) ⟨by omega,fun d _ hd=>hf d (by simpa using hd)⟩ fun b hb e=> ?_
  simp at hb; subst hb
  exact ho v (List.mem_of_getElem? hv) _ hp e
 refine aX ?_
 refine aY (fun(s:(Int×Unit)×Unit) H'=>∃(n:Nat),s.1.1=n∧n≤vs.length∧Ow aH H' a vs asp∧H'.length=H.length∧(∀d,d<H.length->(∀v∈vs,v.p≠some ⟨d,0,none⟩)->H'[d]? =H[d]?)∧Rws T H' vs (fun j=>if j<n then marks mk j (f j).length else f j)) (fun s=>vs.length-s.1.1.toNat) ?_ ⟨0,rfl,Nat.zero_le _,ha,rfl,fun _ _ _=>rfl,by simpa using hr⟩
 rintro G ⟨⟨i,_⟩,_⟩ H' ⟨n,hi,hn',how,hl,hf,hrw⟩ hG
 simp only at hi; subst hi
 dsimp only at hG ⊢
 refine bG (fun hlt=> ?_) (fun hge=> ?_)
 ·have hlt:n<vs.length:=by have:=of_decide_eq_true hlt; omega
  have hv:vs[n]? =some vs[n]:=List.getElem?_eq_getElem hlt
  obtain⟨hlen,hmax,_⟩:=hrw n _ hv
  simp only[Nat.lt_irrefl,if_false]at hlen
  refine aX (aX ?_)
  refine aY (fun(s:(Int×Unit)×Unit) H2=>∃(m:Nat) (r:List T.α),s.1.1=m∧m≤(f n).length∧r.length=(f n).length∧r=marks mk n m++r.drop m∧Ow aH H2 a vs asp∧H2.length=H.length∧(∀d,d<H.length->(∀v∈vs,v.p≠some ⟨d,0,none⟩)->H2[d]? =H[d]?)∧Rws T H2 vs (fun j=>if j<n then marks mk j (f j).length else if j=n then r else f j)) (fun s=>(f n).length-s.1.1.toNat) ?_ ⟨0,f n,rfl,Nat.zero_le _,rfl,by simp[marks],how,hl,hf,?_⟩
  ·rintro G2 ⟨⟨i2,_⟩,_⟩ H2 ⟨m,r,hi2,hm,hrl,hrm,how2,hl2,hf2,hrw2⟩ hG2
   simp only at hi2; subst hi2
   dsimp only at hG2 ⊢
   refine AY (T:=aH) hTs how2.jH rfl hv rfl fun b25 o26 hld=>hld _ ?_
   refine bG (fun hlt2=> ?_) (fun hge2=> ?_)
   ·have hlt2:m<(f n).length:=by have:=of_decide_eq_true hlt2; omega
    refine AY (T:=aH) hTs how2.jH rfl hv rfl fun b28 o29 hld2=>hld2 _ (hC _ _ _ _ (hld2 _ ⟨rfl,?_⟩))
    refine hrw2.st hT hone hd hv rfl (k:=m) (by simp only[Nat.lt_irrefl,if_false,if_true]; omega) _ rfl fun c H3 hp hl3 hf3 hrw3=> ?_
    rw[bT (by omega) (by omega)]
    refine hG2 _ _ ⟨m+1,r.set m (mk n m),by simp,hlt2,by simpa using hrl,ae3 mk n m r (by omega) hrm,keep hv hp how2 hl3 hf3,hl3.trans hl2,fun d hd' hnv=> ?_,?_⟩ (by simp; omega)
    ·rw[hf3 d (fun e=>hnv _ (List.getElem_mem hlt) (e▸hp)),hf2 d hd' hnv]
    ·have:(fun q=>if q=n then(if n<n then marks mk n (f n).length else if n=n then r else f n).set m (mk n m)else if q<n then marks mk q (f q).length else if q=n then r else f q)=fun j=>if j<n then marks mk j (f j).length else if j=n then r.set m (mk n m)else f j:=by
      funext q
      by_cases e:q=n
      ·subst e; simp
      ·simp[e]
     rw[this]at hrw3
     exact hrw3
   ·have hge2:m=(f n).length:=by have:=of_decide_eq_false hge2; omega
    subst hge2
    have hr2:r=marks mk n (f n).length:=by rw[hrm,List.drop_of_length_le (by omega),List.append_nil]
    rw[bT (by omega) (by omega)]
    refine hG _ _ ⟨n+1,by simp,hlt,how2,hl2,hf2,?_⟩ (by simp; omega)
    have:(fun j=>if j<n then marks mk j (f j).length else if j=n then r else f j)=fun j=>if j<n+1 then marks mk j (f j).length else f j:=by
     funext j
     by_cases e:j=n
     ·subst e; simp[hr2]
     ·by_cases e2:j<n
      ·simp[e2,show j<n+1 by omega]
      ·simp[e2,e,show ¬j<n+1 by omega]
    rw[this]at hrw2
    exact hrw2
  ·have:(fun j=>if j<n then marks mk j (f j).length else if j=n then f n else f j)=fun j=>if j<n then marks mk j (f j).length else f j:=by
    funext j
    by_cases e:j=n
    ·subst e; simp
    ·simp[e]
   rw[this]
   exact hrw
 ·have hge:n=vs.length:=by have:=of_decide_eq_false hge; omega
  subst hge
  refine hk H' how hl hf fun j v hj=> ?_
  have:=hrw j v hj
  have hjl:=(List.getElem?_eq_some_iff.1 hj).1
  simp only[hjl,if_true]at this
  exact this
theorem ae5(hT:∀x,(T.cells x).length=T.n){mk:Int->Int->T.α}{C:Int->Int->Heap->(T.α×Unit->Heap->Prop)->Prop}(hC:∀i k H Q,Q (mk i k,()) H->C i k H Q){ne:T.α->T.α->Bool}(hne:∀x y,ne x y=false↔x=y)
  {H:Heap} {a:Sl} {vs:List Sl} {g:Nat->Nat} (ha:dB aH H a vs) (hn:vs.length≤1048600) (hr:Rws T H vs fun j=>marks mk j (g j)) (hc:∀v∈vs,v.cap=v.len) {n:Nat} (hn0:n=T.n) {Q:Bool×Unit->Heap->Prop}
  {k:Unit×Unit->Heap->Prop} (hk:k ((),()) H):
  JOIN (fun(j35:(Unit)×(Unit)->Heap->Prop)=>LOOP (fun(r37:(Int×Unit)×(Unit)->Heap->Prop) (s38:(Int×Unit)×(Unit)) H12=>
   aN (decide (s38.1.1<(a.len:Int))) (JOIN (fun(j39:(Unit)×(Unit)->Heap->Prop)=>JOIN (fun(j41:(Unit)×(Unit)->Heap->Prop)=>LOOP (fun(r43:(Int×Unit)×(Unit)->Heap->Prop) (s44:(Int×Unit)×(Unit)) H15=>
    bQ a.p a.len s38.1.1 1 fun b45 o46=>LD aH H15 b45 o46 fun(x47:Sl)=>aN (decide (s44.1.1<(x47.len:Int))) (
     bQ a.p a.len s38.1.1 1 fun b48 o49=>LD aH H15 b48 o49 fun(x50:Sl)=>bQ x50.p x50.len s44.1.1 n fun b51 o52=>LD T H15 b51 o52 fun(x53:T.α)=>C s38.1.1 s44.1.1 H15 fun(x54:T.α×Unit) H16=>
      LD aH H16 b48 o49 fun(x55:Sl)=>qB (aH.enc x55=x50.v) (LD T H16 b51 o52 fun(x56:T.α)=>qB (T.enc x56=(T.enc x53)) (
       aN (ne x53 x54.1) (Q (false,()) H16) (r43 ((IntKind.wrap .i64 (s44.1.1+1),()),(())) H16)))) (
     j41 ((()),(())) H15)) ((0,()),(())) H12) fun(_:(Unit)×(Unit)) H14=>j39 ((()),(())) H14) fun(_:(Unit)×(Unit)) H13=>r37 ((IntKind.wrap .i64 (s38.1.1+1),()),(())) H13) (
    j35 ((()),(())) H12)) ((0,()),(())) H) k:=by
 subst hn0
 have ha1:a.len=vs.length:=ha.1
 refine aX ?_
 refine aY (fun(s:(Int×Unit)×Unit) H'=>H'=H∧∃(n:Nat),s.1.1=n∧n≤vs.length) (fun s=>vs.length-s.1.1.toNat) ?_ ⟨rfl,0,rfl,Nat.zero_le _⟩
 rintro G ⟨⟨i,_⟩,_⟩ H' ⟨rfl,n,hi,hn'⟩ hG
 simp only at hi; subst hi
 dsimp only at hG ⊢
 refine bG (fun hlt=> ?_) (fun hge=> ?_)
 ·have hlt:n<vs.length:=by have:=of_decide_eq_true hlt; omega
  have hv:vs[n]? =some vs[n]:=List.getElem?_eq_getElem hlt
  obtain⟨hlen,hmax,_⟩:=hr n _ hv
  rw[Vs]at hlen
  refine aX (aX ?_)
  refine aY (fun(s:(Int×Unit)×Unit) H2=>H2=H'∧∃(m:Nat),s.1.1=m∧m≤g n) (fun s=>g n-s.1.1.toNat) ?_ ⟨rfl,0,rfl,Nat.zero_le _⟩
  rintro G2 ⟨⟨i2,_⟩,_⟩ H2 ⟨rfl,m,hi2,hm⟩ hG2
  simp only at hi2; subst hi2
  dsimp only at hG2 ⊢
  refine AY (T:=aH) hTs ha rfl hv rfl fun b25 o26 hld=>hld _ ?_
  refine bG (fun hlt2=> ?_) (fun hge2=> ?_)
  ·have hlt2:m<g n:=by have:=of_decide_eq_true hlt2; omega
   refine AY (T:=aH) hTs ha rfl hv rfl fun b28 o29 hld2=>hld2 _ ?_
   refine AY (T:=T) hT (hr.jH hv (hc _ (List.getElem_mem hlt))) rfl (ado mk n _ m hlt2) rfl fun b51 o52 hld3=>hld3 _ (hC _ _ _ _ (hld2 _ ⟨rfl,hld3 _ ⟨rfl,?_⟩⟩))
   refine bC ((hne _ _).2 rfl) ?_
   rw[bT (by omega) (by omega)]
   exact hG2 _ _ ⟨rfl,m+1,by simp,hlt2⟩ (by simp; omega)
  ·rw[bT (by omega) (by omega)]
   exact hG _ _ ⟨rfl,n+1,by simp,hlt⟩ (by simp; omega)
 ·exact hk
structure Apt(T:Tag)(H:Heap)(a:Sl)(ls:List Sl):Prop where
 lst:dB aH H a ls
 few:ls.length≤1048600
 own:∀s∈ls,∃l sp,Ow T H s l sp
 dst:Dst ls
theorem Apt.rws{H:Heap}{a:Sl}{ls:List Sl}(h:Apt T H a ls){H':Heap}(fr:bK [] H H'):∃f:Nat->List T.α,Rws T H' (ls.map full) f:=by
 have hx:∀j:Nat,∃c:List T.α,∀s,ls[j]? =some s->∃l sp,c=l++sp∧Ow T H s l sp:=fun j=>by
  cases hj:ls[j]? with
  |none=>exact⟨[],fun s h=>by cases h⟩
  |some s=>
   obtain⟨l,sp,how⟩:=h.own s (List.mem_of_getElem? hj)
   exact⟨l++sp,fun s' h'=>by cases h'; exact⟨l,sp,rfl,how⟩⟩
 obtain⟨f,hf⟩:=Classical.axiomOfChoice hx
 refine⟨f,fun j v hv=> ?_⟩
 rw[List.getElem?_map]at hv
 obtain⟨s,hs,rfl⟩:=Option.map_eq_some_iff.1 hv
 obtain⟨l,sp,e,how⟩:=hf j s hs
 obtain⟨g1,g2,g0,⟨g3,g4,g5⟩|⟨d,g3,g4⟩⟩:=how.bP fr (by simp[Sl.off])
 ·exact⟨by rw[e,List.length_append]; exact g2,g0,.inl ⟨g3,by rw[e,g4,g5]; rfl⟩⟩
 ·exact⟨by rw[e,List.length_append]; exact g2,g0,.inr ⟨d,g3,by rw[e]; exact g4⟩⟩
theorem ZQ{ls:List Sl}(h:Dst ls):Dst (ls.map full):=fun i j u v c hij hi hj hu hv=>by
 rw[List.getElem?_map]at hi hj
 obtain⟨s,hs,rfl⟩:=Option.map_eq_some_iff.1 hi
 obtain⟨t,ht,rfl⟩:=Option.map_eq_some_iff.1 hj
 exact h i j s t c hij hs ht hu hv
end
end Go.Proofs.YtijnknjopjmiiaaGreatDoor.Zq
end
section
namespace Go.Proofs.YtijnknjopjmiiaaGreatDoor.Zq
section
end
section
def bl(B:Option Addr):List Nat:=match B with|some a=>[a.block]|none=>[]
def ZR(T:Tag)(H:Heap)(s:Sl)(l:List T.α):Prop:=
 s.len=l.length∧s.len≤s.cap∧s.cap≤9223372036854775807∧(s.p=none∧l=[]∧s.cap=0∨∃c r,s.p=some ⟨c,0,none⟩∧H[c]? =some (.row (fl T r) T.n false false true)∧s.cap≤r.length∧r.take s.len=l)
theorem Ow.j{T:Tag}{H:Heap}{s:Sl}{l sp:List T.α}(h:Ow T H s l sp):ZR T H s l:=by
 obtain⟨h1,h2,h0,⟨h3,h4,h5⟩|⟨c,h4,h5⟩⟩:=h
 ·subst h4; subst h5; exact⟨h1,by omega,h0,.inl ⟨h3,rfl,by simpa using h2⟩⟩
 ·exact⟨h1,by omega,h0,.inr ⟨c,l++sp,h4,h5,by simp[h2],by rw[h1]; simp⟩⟩
theorem ZR.nil(T:Tag)(H:Heap):ZR T H ⟨none,0,0⟩ []:=(Ow.nil T H).j
theorem ZR.jH{T:Tag}{H:Heap}{s:Sl}{l:List T.α}(h:ZR T H s l):dB T H s l:=by
 obtain⟨h1,_,_,⟨h3,h4,h5⟩|⟨c,r,h3,h4,_,h6⟩⟩:=h
 ·exact⟨h1,.inl ⟨h3,h4,h5⟩⟩
 ·refine⟨h1,.inr (.inr ⟨c,[],fl T (r.drop s.len),T.n,false,false,h3,?_⟩)⟩
  rw[h4,←h6,List.nil_append,←jf,List.take_append_drop]
theorem ZR.bP{T:Tag}{H H':Heap}{s:Sl}{l:List T.α}{B:List Nat}(h:ZR T H s l)(f:bK B H H')(o:∀d∈bl s.p,d∉B):ZR T H' s l:=by
 obtain⟨h1,h2,h0,h3|⟨c,r,h4,h5,h6⟩⟩:=h
 ·exact⟨h1,h2,h0,.inl h3⟩
 ·exact⟨h1,h2,h0,.inr ⟨c,r,h4,f.get (o c (by rw[h4]; simp[bl])) h5,h6⟩⟩
theorem ZR.lt{T:Tag}{H:Heap}{s:Sl}{l:List T.α}(h:ZR T H s l):∀d∈bl s.p,d<H.length:=by
 obtain⟨_,_,_,⟨h3,_⟩|⟨c,r,h4,h5,_⟩⟩:=h
 ·rw[h3]; simp[bl]
 ·rw[h4]; simp[bl]; exact cZ h5
theorem ZR.ptr{T:Tag}{H:Heap}{s:Sl}{l:List T.α}(h:ZR T H s l):s.p=none∨∃c,s.p=some ⟨c,0,none⟩∧bl s.p=[c]:=by
 obtain⟨_,_,_,⟨h3,_⟩|⟨c,r,h4,h5,_⟩⟩:=h
 ·exact .inl h3
 ·exact .inr ⟨c,h4,by rw[h4]; rfl⟩
theorem ZR.drop{E:Env}{T:Tag}{ts:TypeId}{z:T.α}(ty:Jq E T ts z){H:Heap}{s:Sl}{l:List T.α}(h:ZR T H s l){i:Int}{n:Nat}(hi:i=n)(hn:n≤l.length)(hp:s.p≠none){k:Sl->Prop}(hk:∀s',dB T H s' (l.drop n)->k s'):dW aH (dH E ts s.v (some (.int .i64 i)) none none H) k:=by
 obtain⟨⟨ti,e,te,e1,e2,e3,e4,e5,e6,e7⟩,hn0,hT,hone⟩:=ty
 subst hi
 obtain⟨p,m,c⟩:=s
 obtain⟨g1,g2,g0,⟨g3,g4,g5⟩|⟨d,r,g3,g4,g5,g6⟩⟩:=h
 ·exact absurd g3 hp
 ·simp only at g1 g2 g3 g5 g6 g0; subst g3
  refine⟨⟨some ⟨d,if c=n then 0 else 0+n*te.size,none⟩,m-n,c-n⟩,?_,hk _ ⟨by simp; omega,?_⟩⟩
  ·unfold dH
   have hex:Zq.exact H d 0 c=true:=by unfold Zq.exact; rw[g4]; rfl
   simp only[e1,e2,e3,Option.bind_some,Sl.v,dQ,Option.isSome_none,Bool.false_and,Bool.false_eq_true,if_false,hex,or_true,if_true]
   rw[if_pos (by omega)]
   simp only[Option.bind_some,Int.toNat_natCast]
   rw[if_pos (by omega)]
   simp[Tag.enc,RJ]
  ·refine .inr (.inr ?_)
   by_cases ec:c=n
   ·have:l.drop n=[]:=by rw[List.drop_eq_nil_iff]; omega
    exact⟨d,[],fl T r,T.n,false,false,by simp[ec],by rw[g4,this]; rfl⟩
   ·refine⟨d,fl T (r.take n),fl T (r.drop m),T.n,false,false,?_,?_⟩
    ·simp only[if_neg ec,dD hT,List.length_take,e4,Nat.zero_add]
     rw[Nat.min_eq_left (by omega)]
    ·have:r=r.take n++(l.drop n++r.drop m):=by
      rw[←g6]
      conv=>lhs; rw[←List.take_append_drop n r]
      congr 1
      rw[←List.take_append_drop m r,List.take_append_drop]
      conv=>lhs; rw[←List.take_append_drop m r]
      rw[List.drop_append_of_le_length (by simp; omega)]
     rw[g4]
     conv=>lhs; rw[this]
     rw[jf,jf]
theorem adp{E:Env}{T:Tag}{ts:TypeId}{z:T.α}(ty:Jq E T ts z){H:Heap}{s:Sl}{l sp:List T.α}(h:Ow T H s l sp){i:Int}{n:Nat}(hi:i=n)(hn:n≤l.length){k:Sl->Prop}(hk:k ⟨s.p,n,s.cap⟩):dW aH (dH E ts s.v none (some (.int .i64 i)) none H) k:=by
 obtain⟨⟨ti,e,te,e1,e2,e3,e4,e5,e6,e7⟩,hn0,hT,hone⟩:=ty
 subst hi
 refine⟨⟨s.p,n,s.cap⟩,?_,hk⟩
 obtain⟨p,m,c⟩:=s
 obtain⟨g1,g2,g0,⟨g3,g4,g5⟩|⟨d,g3,g4⟩⟩:=h
 ·simp only at g1 g2 g3; subst g3; subst g4; subst g5; subst g1; subst g2
  have:n=0:=by simpa using hn
  subst this
  unfold dH
  simp only[e1,e2,e3,Option.bind_some,Sl.v,List.length_nil]
  rfl
 ·simp only at g1 g2 g3; subst g3
  unfold dH
  have hex:Zq.exact H d 0 c=true:=by unfold Zq.exact; rw[g4]; rfl
  simp only[e1,e2,e3,Option.bind_some,Sl.v,dQ,Option.isSome_none,Bool.false_and,Bool.false_eq_true,if_false,hex,or_true,if_true]
  rw[if_pos (by omega)]
  simp only[Option.bind_some]
  rw[if_pos (by omega)]
  simp[Tag.enc,RJ]
theorem Ow.st{T:Tag}(hT:∀x,(T.cells x).length=T.n)(hone:∀x,(T.cells x).all cell1=true){H:Heap}{s:Sl}{l sp:List T.α}(h:Ow T H s l sp){i:Int}{k:Nat}(hi:i=k)(hk:k<l.length)(x:T.α){sz:Nat}(hz:sz=T.n){K:Heap->Prop}
  (hK:∀H',Ow T H' s (l.set k x) sp->After s H H'->H'.length=H.length->K H'):bQ s.p s.len i sz fun b o=>ST H b o (T.cells x) K:=by
 obtain⟨h1,h2,h0,⟨_,h3,_⟩|⟨c,h3,h4⟩⟩:=h
 ·rw[h3]at hk; simp at hk
 ·have hlt:=cZ h4
  unfold bQ NIL
  rw[h3]
  subst hi
  refine⟨⟨by omega,by omega⟩,?_⟩
  have hcut:=iZ l k l[k] (List.getElem?_eq_getElem hk)
  refine qE (fl T (l.take k)) (T.cells l[k]) (fl T (l.drop (k+1))++fl T sp) h4 (by rw[jf,hcut]; simp[List.append_assoc]) (by rw[dD hT,List.length_take,Nat.min_eq_left (by omega),hz]; simp) (by rw[hT,hT]) (hone x) ?_
  refine hK _ ⟨by simpa using h1,by simpa using h2,h0,.inr ⟨c,h3,?_⟩⟩ ⟨by simp,fun d _ hd=>by rw[List.getElem?_set_ne (by rintro rfl; exact hd h3)]⟩ (by simp)
  rw[fV hlt,jf,List.set_eq_take_append_cons_drop,if_pos hk]
  simp[fl]
end
end Go.Proofs.YtijnknjopjmiiaaGreatDoor.Zq
end
section
namespace Go.Proofs.YtijnknjopjmiiaaGreatDoor.Zq
open Zv
abbrev TP:Tag:=aQ
abbrev TC:Tag:=aG
theorem hTP(x:Pt):(TP.cells x).length=TP.n:=rfl
theorem hTC(x:aA):(TC.cells x).length=TC.n:=rfl
def zP:Pt:=⟨0,0,0,0,0,0,0,ByteArray.mk #[]⟩
theorem tyP:Jq E TP 95 zP:=⟨⟨_,_,_,rfl,rfl,rfl,rfl,by decide,by decide,rfl⟩,by decide,hTP,fun _=>rfl⟩
section
variable{H:Heap}
structure OkG(g:aA):Prop where
 nm:g.Name.size≤9223372036854775807
 s:0≤g.Suit∧g.Suit≤255
 k:0≤g.Kind∧g.Kind≤255
 t:0≤g.Traits∧g.Traits≤65535
theorem QD(l:List UInt8):((ByteArray.mk l.toArray).toList==(ByteArray.mk #[]).toList)=l.isEmpty:=by
 rw[ByteArray.toList_mk,DW]; cases l<;>rfl
theorem abb{s:Int}{Q:ByteArray×Unit->Heap->Prop}(hq:∀n:ByteArray,((n.toList==(ByteArray.mk #[]).toList)=true↔¬(1≤s∧s≤6))->Q (n,()) H):CALL P [eH] CY [.int .u8 s] H Q:=by
 apply Zz
 unfold DK
 refine eP (fun h=>hq _ ?_) (fun h1=>eP (fun h=>hq _ ?_) (fun h2=>eP (fun h=>hq _ ?_) (fun h3=>eP (fun h=>hq _ ?_) (fun h4=>eP (fun h=>hq _ ?_) (fun h5=>eP (fun h=>hq _ ?_) (fun h6=>hq _ ?_))))))
 ·rw[QD [97,105,114]]; simp; omega
 ·rw[QD [101,97,114,116,104]]; simp; omega
 ·rw[QD [102,105,114,101]]; simp; omega
 ·rw[QD [119,97,116,101,114]]; simp; omega
 ·rw[QD [118,111,105,100]]; simp; omega
 ·rw[QD [103,111,108,100]]; simp; omega
 ·rw[QD []]; simp; omega
theorem aiB{s:Int}{Q:ByteArray×Unit->Heap->Prop}(hq:∀n:ByteArray,((n.toList==(ByteArray.mk #[]).toList)=true↔¬(1≤s∧s≤3))->Q (n,()) H):CALL P [eH] CZ [.int .u8 s] H Q:=by
 apply ZC
 unfold DL
 refine eP (fun h=>hq _ ?_) (fun h1=>eP (fun h=>hq _ ?_) (fun h2=>eP (fun h=>hq _ ?_) (fun h3=>hq _ ?_)))
 ·rw[QD [117,110,105,116]]; simp; omega
 ·rw[QD [115,112,101,108,108]]; simp; omega
 ·rw[QD [114,101,108,105,99]]; simp; omega
 ·rw[QD []]; simp; omega
theorem KW{x m:Int}{Q:Bool×Unit->Heap->Prop}(hq:Q (decide (0≤x∧x≤m),()) H):CALL P [ah] lS [.int .i64 x,.int .i64 m] H Q:=by
 apply Ut
 unfold yw
 exact JD (H:=H) (0≤x∧x≤m) (fun j hj=>cu (fun h=>hj _ (by simp; omega)) (fun h=>hj _ (by simp; omega))) hq
theorem uO{x lo m:Int}{Q:Bool×Unit->Heap->Prop}(hq:Q (decide (lo≤x∧x≤m),()) H):CALL P [ah] gU [.int .i64 x,.int .i64 lo,.int .i64 m] H Q:=by
 apply Qj
 unfold uH
 exact JD (H:=H) (lo≤x∧x≤m) (fun j hj=>cu (fun h=>hj _ (by simp; omega)) (fun h=>hj _ (by simp; omega))) hq
theorem QE{x:Int}(h0:0≤x){Q:Bool×Unit->Heap->Prop}(hq:Q (decide (x<256),()) H):CALL P [ah] lN [.int .u16 x] H Q:=by
 apply Uc
 unfold yg
 refine⟨by omega,Qd (Q:=fun r=>Q r H) hq ?_⟩
 have e:(2:Int) ^ (min (8:Int).toNat (IntKind.bits .u16))=256:=by decide
 rw[e,Int.fdiv_eq_ediv_of_nonneg _ (by omega)]
 congr 1
 rw[Bool.eq_iff_iff]; simp only[decide_eq_true_eq,beq_iff_eq]; omega
theorem Vt{x:Int}{Q:Bool×Unit->Heap->Prop}(hq:Q (decide (x<256),()) H):CALL P [ah] qp [.int .u16 x] H Q:=by
 apply TU
 unfold xY
 exact hq
def adr(g:aA):Prop:=¬(1≤g.Suit∧g.Suit≤6)∨¬(1≤g.Kind∧g.Kind≤3)
def ZT(g:aA):Prop:=¬(0≤g.Cost∧g.Cost≤10)∨¬(0≤g.Power∧g.Power≤99)∨¬(0≤g.Health∧g.Health≤99)
def ads(g:aA):Prop:=g.Kind=1∧g.Health=0∨g.Kind≠1∧(g.Power≠0∨g.Health≠0)
def adt(g:aA):Prop:=¬(g.Traits<256)∨g.Kind=2∧g.Token=true
open Classical in
theorem aco(g:aA)(ps:List Pt):Ep ⟨g,ps⟩=if ¬qK g.Name then 4 else if adr g then 8 else if ZT g then 2 else if ads g then 8 else if adt g then 8 else if 4<ps.length then 3 else 0:=by
 unfold Ep adr ZT ads adt
 congr
theorem ae6{g:aA}{j:(Bool×Unit)×Unit->Heap->Prop}(hj:∀r:Bool,(r=true↔ads g)->j ((r,()),()) H):
  aN (g.Kind==1) (aN (g.Health==0) (j ((true,()),(())) H) (aN (!(g.Kind==1)) (aN (g.Power !=0) (j ((true,()),(())) H) (j ((g.Health !=0,()),(())) H)) (j ((false,()),(())) H))) (aN (!(g.Kind==1)) (aN (g.Power !=0) (j ((true,()),(())) H) (j ((g.Health !=0,()),(())) H)) (j ((false,()),(())) H)):=by
 unfold ads at hj
 refine eP (fun h=>eP (fun h2=>hj _ (by simp; omega)) (fun h2=>bC (by simp[h]) (hj _ (by simp; omega)))) (fun h=>dI (by simpa using h) (yO (fun h2=>hj _ (by simp; omega)) (fun h2=>hj _ (by simp; omega))))
theorem ah4{g:aA}{j:(Bool×Unit)×Unit->Heap->Prop}(hj:∀r:Bool,(r=true↔adt g)->j ((r,()),()) H):
  aN (!decide (g.Traits<256)) (j ((true,()),(())) H) (aN (g.Kind==2) (j ((g.Token,()),(())) H) (j ((false,()),(())) H)):=by
 unfold adt at hj
 refine XA (fun h=>hj _ (by simp; omega)) (fun h=>eP (fun h2=>hj _ ?_) (fun h2=>hj _ (by simp; omega)))
 constructor
 ·exact fun q=>.inr ⟨h2,q⟩
 ·rintro(q|q)
  ·exact absurd h q
  ·exact q.2
theorem aiC{g:aA}{ps:List Pt}(ok:OkG g)(hl:g.Parts.len=ps.length){Q:Int×Unit->Heap->Prop}(hq:Q (Ep ⟨g,ps⟩,()) H):CALL P [aj .i64] CX [TC.enc g] H Q:=by
 apply Zr
 unfold DI
 rw[aco]at hq
 refine aeP ok.nm (XA (fun h=>by rwa [if_pos h]at hq) (fun h0=> ?_))
 rw[if_neg (fun q=>q h0)]at hq
 refine hJ (adr g) (fun j hj=> ?_) (fun h=>by rwa [if_pos h]at hq) (fun h1=> ?_)
 ·unfold adr at hj
  refine abb fun n hn=>bG (fun e=>hj _ ?_) (fun e=>aiB fun m hm=>hj _ ?_)
  ·have:=hn.1 e; simp; omega
  ·have:1≤g.Suit∧g.Suit≤6:=Classical.byContradiction fun q=>by rw[hn.2 q]at e; cases e
   rw[hm]; omega
 rw[if_neg h1]at hq
 refine hJ (ZT g) (fun j hj=> ?_) (fun h=>by rwa [if_pos h]at hq) (fun h2=> ?_)
 ·unfold ZT at hj
  exact KW (XA (fun h=>hj _ (by simp; omega)) (fun h=>KW (XA (fun h=>hj _ (by simp; omega)) (fun h=>KW (hj _ (by simp; omega))))))
 rw[if_neg h2]at hq
 refine hJ (ads g) (fun j hj=>ae6 hj) (fun h=>by rwa [if_pos h]at hq) (fun h3=> ?_)
 rw[if_neg h3]at hq
 refine hJ (adt g) (fun j hj=>QE ok.t.1 (ah4 hj)) (fun h=>by rwa [if_pos h]at hq) (fun h4=> ?_)
 rw[if_neg h4]at hq
 exact cu (fun h=>by rwa [if_pos (by omega)]at hq) (fun h=>by rwa [if_neg (by omega)]at hq)
def XC(k:Int)(p:Pt):Prop:=k=2∧p.When≠1∨k=3∧p.When=4
open Classical in
theorem abd(k:Int)(p:Pt)(r:List Pt):Pz k (p::r)=if Me p≠0 then Me p else if XC k p then 8 else Pz k r:=by
 unfold XC
 rw[Pz]
 congr
theorem QF{k:Int}{ps:List Pt}{Qv:Int->Prop}{F:((Int×Unit)×Unit->Heap->Prop)->(Int×Unit)×Unit->Heap->Prop}
  (hF:∀(G:(Int×Unit)×Unit->Heap->Prop) (n:Nat),(∀p,ps[n]? =some p->(Me p≠0->Qv (Me p))->(Me p=0->XC k p->Qv 8)->(Me p=0->¬XC k p->G (((n:Int)+1,()),()) H)->F G (((n:Int),()),()) H)∧(n=ps.length->Qv 0->F G (((n:Int),()),()) H))
  (hq:Qv (Pz k ps)):LOOP F ((0,()),()) H:=by
 refine aY (fun(t:(Int×Unit)×Unit) H'=>H'=H∧∃n:Nat,t.1.1=n∧n≤ps.length∧Qv (Pz k (ps.drop n))) (fun t=>ps.length-t.1.1.toNat) ?_ ⟨rfl,0,rfl,Nat.zero_le _,by simpa using hq⟩
 rintro G ⟨⟨i,_⟩,_⟩ H' ⟨rfl,n,hi,hn,ha⟩ hG
 simp only at hi; subst hi
 dsimp only at hG
 obtain⟨k1,k2⟩:=hF G n
 by_cases e:n=ps.length
 ·refine k2 e ?_
  rw[e,List.drop_length]at ha
  exact ha
 ·have hlt:n<ps.length:=by omega
  rw[List.drop_eq_getElem_cons hlt,abd]at ha
  refine k1 _ (List.getElem?_eq_getElem hlt) (fun h=>by rwa [if_pos h]at ha) (fun h h2=>by rwa [if_neg (fun q=>q h),if_pos h2]at ha) (fun h h2=>hG _ _ ⟨rfl,n+1,by simp,hlt,by rwa [if_neg (fun q=>q h),if_neg h2]at ha⟩ (by simp; omega))
theorem agT{k:Int}{w:Int}{p:Pt}(hw:p.When=w){j:(Bool×Unit)×Unit->Heap->Prop}(hj:∀r:Bool,(r=true↔XC k p)->j ((r,()),()) H):
  aN (k==2) (aN (w !=1) (j ((true,()),(())) H) (aN (k==3) (j ((w==4,()),(())) H) (j ((false,()),(())) H))) (aN (k==3) (j ((w==4,()),(())) H) (j ((false,()),(())) H)):=by
 subst hw
 unfold XC at hj
 exact eP (fun h=>yO (fun h2=>hj _ (by simp; omega)) (fun h2=>eP (fun h3=>by omega) (fun h3=>hj _ (by simp; omega)))) (fun h=>eP (fun h3=>hj _ (by simp; omega)) (fun h3=>hj _ (by simp; omega)))
theorem ae7{g:aA}{ps:List Pt}(ok:OkG g)(hs:dB TP H g.Parts ps)(op:∀p∈ps,OkP p){Q:Int×Unit->Heap->Prop}(hq:Q (BH ⟨g,ps⟩,()) H):CALL P [aj .i64] zK [TC.enc g] H Q:=by
 apply WB
 unfold Ae
 have hl:=hs.1
 unfold BH at hq
 refine aiC ok hl (yO (fun h=>by rwa [if_neg h]at hq) (fun h=>aX ?_))
 dsimp only at h
 have h4:ps.length≤4:=um (c:=⟨g,ps⟩) h
 rw[if_pos h]at hq
 refine QF (k:=g.Kind) (ps:=ps) (Qv:=fun r=>Q (r,()) H) (fun G n=>⟨fun p hx k1 k2 k3=> ?_,fun e k=>bC (decide_eq_false (by simp only; omega)) k⟩) hq
 have hlt:=(List.getElem?_eq_some_iff.1 hx).1
 refine dI (decide_eq_true (by simp only; omega)) ?_
 refine aZ (T:=TP) hTP hs rfl hx rfl (aiz (op p (List.mem_of_getElem? hx)) (yO (fun h=>k1 h) (fun h=> ?_)))
 dsimp only at h
 refine hJ (XC g.Kind p) (fun j hj=>agT rfl hj) (fun h2=>k2 h h2) (fun h2=> ?_)
 dsimp only
 rw[bT (by omega) (by omega)]
 exact k3 h h2
theorem ZU{s:Sl}{ps:List Pt}(h:dB TP H s ps){n:Nat}{p:Pt}(hx:ps[n]? =some p){K:Int->Prop}(hk:K p.When):bQ s.p s.len (n:Int) 8 fun b o=>LD (aj .u8) H b (o+0) K:=by
 have hl:=(List.getElem?_eq_some_iff.1 hx).1
 obtain⟨h1,⟨_,h2,_⟩|⟨_,_,_,h2,_⟩|⟨b,A,B,z,o,ro,h3,h4⟩⟩:=h
 ·subst h2; simp at hl
 ·subst h2; simp at hl
 ·unfold bQ NIL
  rw[h3]
  refine⟨⟨by omega,by omega⟩,?_⟩
  refine dV (T:=aj .u8) p.When (A++fl TP (ps.take n)) ((TP.cells p).drop 1++(fl TP (ps.drop (n+1))++B)) h4 ?_ ?_ rfl hk
  ·rw[iZ (T:=TP) ps n p hx]; simp[List.append_assoc]
  ·rw[List.length_append,dD hTP,List.length_take,Nat.min_eq_left (by omega),Int.toNat_natCast]; rfl
theorem adu{g:aA}{ps:List Pt}(ok:OkG g)(hs:dB TP H g.Parts ps)(op:∀p∈ps,OkP p){Q:Int×Unit->Heap->Prop}(hq:Q (BH ⟨g,ps⟩,()) H):CALL P [aj .i64] wS [TC.enc g] H Q:=by
 apply Td
 unfold xO
 have hl:=hs.1
 have o1:=ok.s
 have o2:=ok.k
 unfold BH at hq
 have fin:∀r,r≠0->Ep ⟨g,ps⟩=r->Q (r,()) H:=fun r h e=>by rw[e,if_neg h]at hq; exact hq
 have e:=aco g ps
 refine aeU (XA (fun h=>fin 4 (by decide) (by rw[e,if_pos h])) (fun h0=> ?_))
 rw[if_neg (fun q=>q h0)]at e
 rw[bT (x:=g.Suit) (by omega) (by omega),bT (x:=g.Kind) (by omega) (by omega)]
 refine hJ (adr g) (fun j hj=> ?_) (fun h=>fin 8 (by decide) (by rw[e,if_pos h])) (fun h1=> ?_)
 ·unfold adr at hj
  exact uO (XA (fun h=>hj _ (by simp; omega)) (fun h=>uO (hj _ (by simp; omega))))
 rw[if_neg h1]at e
 refine hJ (ZT g) (fun j hj=> ?_) (fun h=>fin 2 (by decide) (by rw[e,if_pos h])) (fun h2=> ?_)
 ·unfold ZT at hj
  exact uO (XA (fun h=>hj _ (by simp; omega)) (fun h=>uO (XA (fun h=>hj _ (by simp; omega)) (fun h=>uO (hj _ (by simp; omega))))))
 rw[if_neg h2]at e
 refine hJ (ads g) (fun j hj=>ae6 hj) (fun h=>fin 8 (by decide) (by rw[e,if_pos h])) (fun h3=> ?_)
 rw[if_neg h3]at e
 refine hJ (adt g) (fun j hj=>Vt (ah4 hj)) (fun h=>fin 8 (by decide) (by rw[e,if_pos h])) (fun h4=> ?_)
 rw[if_neg h4]at e
 refine cu (fun h=>fin 3 (by decide) (by rw[e,if_pos (by omega)])) (fun h=>aX ?_)
 rw[if_neg (by omega)]at e
 have h4:ps.length≤4:=by omega
 rw[if_pos e]at hq
 refine QF (k:=g.Kind) (ps:=ps) (Qv:=fun r=>Q (r,()) H) (fun G n=>⟨fun p hx k1 k2 k3=> ?_,fun e k=>bC (decide_eq_false (by simp only; omega)) k⟩) hq
 have hlt:=(List.getElem?_eq_some_iff.1 hx).1
 refine dI (decide_eq_true (by simp only; omega)) ?_
 refine aZ (T:=TP) hTP hs rfl hx rfl (aiA (op p (List.mem_of_getElem? hx)) (yO (fun h=>k1 h) (fun h=> ?_)))
 dsimp only at h
 refine hJ (XC g.Kind p) (fun j hj=> ?_) (fun h2=>k2 h h2) (fun h2=> ?_)
 ·unfold XC at hj
  refine eP (fun h=>ZU hs hx (yO (fun h2=>hj _ (by simp; omega)) (fun h2=>eP (fun h3=>by omega) (fun h3=>hj _ (by simp; omega))))) (fun h=>eP (fun h3=>ZU hs hx (hj _ (by simp; omega))) (fun h3=>hj _ (by simp; omega)))
 ·dsimp only
  rw[bT (by omega) (by omega)]
  exact k3 h h2
end
end Go.Proofs.YtijnknjopjmiiaaGreatDoor.Zq
end
section
namespace Go.Proofs.YtijnknjopjmiiaaGreatDoor.Zq
open Zv
abbrev TM:Tag:=aT
theorem hTM(x:au):(TM.cells x).length=TM.n:=rfl
theorem ah5(x:ByteArray):(eH.cells x).length=eH.n:=rfl
section
variable{H:Heap}{b:Nat}
def QG(se:Bool)(n:Int)(cs:List aA)(ns:List ByteArray)(ms:List au):List Value:=.bool true:: .bool se:: .int .i64 n::(fl TC cs++(fl eH ns++fl TM ms))
structure BW(H:Heap)(b:Nat)(se:Bool)(n:Int)(cs:List aA)(ns:List ByteArray)(ms:List au):Prop where
 row:∃sz,H[b]? =some (.row (QG se n cs ns ms) sz false false true)
 c:cs.length=64
 n:ns.length=9
 m:ms.length=5
variable{se:Bool}{n:Int}{cs:List aA}{ns:List ByteArray}{ms:List au}
theorem BW.lt(h:BW H b se n cs ns ms):b<H.length:=by obtain⟨sz,r⟩:=h.row; exact cZ r
theorem BW.bP{H':Heap}{F:List Nat}(h:BW H b se n cs ns ms)(f:bK F H H')(hb:b∉F):BW H' b se n cs ns ms:=by
 obtain⟨sz,r⟩:=h.row
 exact⟨⟨sz,f.get hb r⟩,h.c,h.n,h.m⟩
theorem BW.XD(h:BW H b se n cs ns ms){o:Nat}(ho:o=0){K:Bool->Prop}(hk:K true):LD ah H b o K:=by
 obtain⟨sz,r⟩:=h.row
 exact dV (T:=ah) true [] _ r rfl ho rfl hk
theorem BW.FD(h:BW H b se n cs ns ms){o:Nat}(ho:o=1){K:Bool->Prop}(hk:K se):LD ah H b o K:=by
 obtain⟨sz,r⟩:=h.row
 exact dV (T:=ah) se [.bool true] _ r rfl ho rfl hk
theorem BW.adw(h:BW H b se n cs ns ms){o:Nat}(ho:o=2){K:Int->Prop}(hk:K n):LD (aj .i64) H b o K:=by
 obtain⟨sz,r⟩:=h.row
 exact dV (T:=aj .i64) n [.bool true,.bool se] _ r rfl ho rfl hk
theorem BW.cut(h:BW H b se n cs ns ms){i:Nat}{g:aA}(hx:cs[i]? =some g):QG se n cs ns ms=(.bool true:: .bool se:: .int .i64 n::fl TC (cs.take i))++(TC.cells g++(fl TC (cs.drop (i+1))++(fl eH ns++fl TM ms)))∧(.bool true:: .bool se:: .int .i64 n::fl TC (cs.take i):List Value).length=3+i*9:=by
 have hi:=(List.getElem?_eq_some_iff.1 hx).1
 have hc:=h.c
 refine⟨?_,?_⟩
 ·unfold QG
  rw[iZ (T:=TC) cs i g hx]; simp[List.append_assoc]
 ·simp only[List.length_cons]
  rw[dD hTC,List.length_take,Nat.min_eq_left (by omega)]
  show i*9+1+1+1=_; omega
theorem BW.Oh(h:BW H b se n cs ns ms){i:Nat}{g:aA}(hx:cs[i]? =some g){o:Nat}(ho:o=3+i*9){K:aA->Prop}(hk:K g):LD TC H b o K:=by
 obtain⟨sz,r⟩:=h.row
 obtain⟨e1,e2⟩:=h.cut hx
 exact dV (T:=TC) g _ _ r e1 (by rw[e2,ho]) rfl hk
theorem BW.ld_name(h:BW H b se n cs ns ms){i:Nat}{g:aA}(hx:cs[i]? =some g){o:Nat}(ho:o=3+i*9){K:ByteArray->Prop}(hk:K g.Name):LD eH H b o K:=by
 obtain⟨sz,r⟩:=h.row
 obtain⟨e1,e2⟩:=h.cut hx
 exact dV (T:=eH) g.Name _ ((TC.cells g).drop 1++(fl TC (cs.drop (i+1))++(fl eH ns++fl TM ms))) r (by rw[e1]; rfl) (by rw[e2,ho]) rfl hk
theorem BW.agU(h:BW H b se n cs ns ms){i:Nat}{g:aA}(hx:cs[i]? =some g){o:Nat}(ho:o=3+i*9+2){K:Int->Prop}(hk:K g.Kind):LD (aj .u8) H b o K:=by
 obtain⟨sz,r⟩:=h.row
 obtain⟨e1,e2⟩:=h.cut hx
 exact dV (T:=aj .u8) g.Kind ((.bool true:: .bool se:: .int .i64 n::fl TC (cs.take i))++[.string g.Name,.int .u8 g.Suit]) ((TC.cells g).drop 3++(fl TC (cs.drop (i+1))++(fl eH ns++fl TM ms))) r (by rw[e1]; simp[List.append_assoc]) (by rw[List.length_append,e2,ho]; rfl) rfl hk
theorem BW.ZV(h:BW H b se n cs ns ms){i:Nat}(hi:i<64)(g:aA){o:Nat}(ho:o=3+i*9){K:Heap->Prop}(hk:∀H',BW H' b se n (cs.set i g) ns ms->bK [b] H H'->K H'):ST H b o (TC.cells g) K:=by
 obtain⟨sz,r⟩:=h.row
 have hc:=h.c
 have hx:cs[i]? =some cs[i]:=List.getElem?_eq_getElem (by omega)
 obtain⟨e1,e2⟩:=h.cut hx
 refine qE _ (TC.cells cs[i]) _ r e1 (by rw[e2,ho]) rfl rfl (hk _ ⟨⟨sz,?_⟩,by simpa using hc,h.n,h.m⟩ (bK.set _ _ (by simp)))
 rw[fV (cZ r)]
 have hx2:(cs.set i g)[i]? =some g:=List.getElem?_set_self (by omega)
 have hb:BW (H.set b (.row (QG se n (cs.set i g) ns ms) sz false false true)) b se n (cs.set i g) ns ms:=⟨⟨sz,fV (cZ r)⟩,by simpa using hc,h.n,h.m⟩
 rw[(hb.cut hx2).1,List.take_set_of_le (Nat.le_refl _),List.drop_set_of_lt (by omega)]
theorem BW.ab4(h:BW H b se n cs ns ms)(n':Int){o:Nat}(ho:o=2){K:Heap->Prop}(hk:∀H',BW H' b se n' cs ns ms->bK [b] H H'->K H'):ST H b o [.int .i64 n'] K:=by
 obtain⟨sz,r⟩:=h.row
 exact qE [.bool true,.bool se] [.int .i64 n] _ r rfl ho rfl rfl (hk _ ⟨⟨sz,by rw[fV (cZ r)]; rfl⟩,h.c,h.n,h.m⟩ (bK.set _ _ (by simp)))
theorem BW.abe(h:BW H b se n cs ns ms)(se':Bool){o:Nat}(ho:o=1){K:Heap->Prop}(hk:∀H',BW H' b se' n cs ns ms->bK [b] H H'->K H'):ST H b o [.bool se'] K:=by
 obtain⟨sz,r⟩:=h.row
 exact qE [.bool true] [.bool se] _ r rfl ho rfl rfl (hk _ ⟨⟨sz,by rw[fV (cZ r)]; rfl⟩,h.c,h.n,h.m⟩ (bK.set _ _ (by simp)))
theorem nbl{T:Tag}{H H':Heap}{s:Sl}{l sp:List T.α}(n:aW T H s H' l sp):∀d∈bl s.p,H.length≤d:=fun d hd=>by
 obtain⟨_,_,_,⟨q,_⟩|⟨c,q,_⟩⟩:=n.1
 ·rw[q]at hd; simp[bl]at hd
 ·have:=n.2.1 c q
  rw[q]at hd; simp[bl]at hd; omega
structure CR(m:Nat)(H:Heap)(g:aA)(c:Cd):Prop where
 e:bare g=c.g
 p:dB TP H g.Parts c.ps
 lo:∀d∈bl g.Parts.p,m≤d
theorem CR.bP{m:Nat}{H':Heap}{F:List Nat}{g:aA}{c:Cd}(h:CR m H g c)(f:bK F H H')(hF:∀d∈F,d<m):CR m H' g c:=
 ⟨h.e,h.p.bP f fun d hd o e=>by have:=h.lo d (by rw[e]; simp[bl]); have:=hF d hd; omega,h.lo⟩
structure BP(m:Nat)(H:Heap)(b:Nat)(se:Bool)(B:List Cd)(ms:List au):Prop where
 w:∃cs ns,BW H b se B.length cs ns ms∧∀(i:Nat) (c:Cd),B[i]? =some c->∃g,cs[i]? =some g∧CR m H g c
 few:B.length≤64
 lt:b<m
 ml:m≤H.length
variable{m:Nat}{B:List Cd}
theorem BP.bP{H':Heap}{F:List Nat}(h:BP m H b se B ms)(f:bK F H H')(hF:∀d∈F,d<m∧d≠b):BP m H' b se B ms:=by
 obtain⟨⟨cs,ns,w,hc⟩,h2,h3,h4⟩:=h
 exact⟨⟨cs,ns,w.bP f fun hm=>(hF b hm).2 rfl,fun i c hx=>by obtain⟨g,q1,q2⟩:=hc i c hx; exact⟨g,q1,q2.bP f fun d hd=>(hF d hd).1⟩⟩,h2,h3,by have:=f.1; omega⟩
theorem BP.new{H':Heap}(h:BP m H b se B ms)(f:bK [] H H'):BP m H' b se B ms:=h.bP f (by simp)
theorem Jc(h:BP m H b se B ms){Q:Bool×Unit->Heap->Prop}(hq:Q (false,()) H):CALL P [ah] fO [.pointer (some ⟨b,0,none⟩)] H Q:=by
 obtain⟨⟨cs,ns,w,hc⟩,_⟩:=h
 apply KO
 unfold pR
 exact aX (bC rfl (w.XD rfl hq))
theorem XE(h:BP m H b se B ms){Q:Int×Unit->Heap->Prop}(hq:Q (if se then 7 else 0,()) H):CALL P [aj .i64] jc [.pointer (some ⟨b,0,none⟩)] H Q:=by
 apply KJ
 unfold pO
 refine Jc h (bC rfl ?_)
 obtain⟨⟨cs,ns,w,hc⟩,_⟩:=h
 refine w.FD rfl (bG (fun e=> ?_) (fun e=> ?_))
 ·rw[e]at hq; exact hq
 ·rw[e]at hq; exact hq
theorem Vu(h:BP m H b se B ms){Q:Bool×Unit->Heap->Prop}(hq:Q (se,()) H):CALL P [ah] jg [.pointer (some ⟨b,0,none⟩)] H Q:=by
 apply Gt
 unfold mJ
 refine Jc h (bC rfl ?_)
 obtain⟨⟨cs,ns,w,hc⟩,_⟩:=h
 exact w.FD rfl hq
def pV(B:List Cd)(s:ByteArray):Int:=match kY B s with|some i=>i|none=> -1
theorem LU{α:Type}{p:α->Bool}:∀{l:List α} {n:Nat},(∀(j:Nat) x,j<n->l[j]? =some x->p x=false)->(∀x,l[n]? =some x->p x=true)->n<l.length->l.findIdx? p=some n
 |[],_,_,_,h=>by simp at h
 |a::l,0,_,h2,_=>by
  have:=h2 a rfl
  simp[List.findIdx?_cons,this]
 |a::l,n+1,h1,h2,h=>by
  have ha:=h1 0 a (by omega) rfl
  have ih:=LU (l:=l) (n:=n) (fun j x hj hx=>h1 (j+1) x (by omega) (by simpa using hx)) (fun x hx=>h2 x (by simpa using hx)) (by simpa using h)
  simp[List.findIdx?_cons,ha,ih]
theorem Vw{B:List Cd}{s:ByteArray}{n:Nat}(h1:∀(j:Nat) x,j<n->B[j]? =some x->(x.g.Name.toList==s.toList)=false){c:Cd}(hx:B[n]? =some c)(h2:(c.g.Name.toList==s.toList)=true):pV B s=n:=by
 unfold pV kY
 rw[LU (n:=n) h1 (fun x hy=>by rw[hx]at hy; cases hy; exact h2) (List.getElem?_eq_some_iff.1 hx).1]
theorem LV{B:List Cd}{s:ByteArray}(h1:∀(j:Nat) x,j<B.length->B[j]? =some x->(x.g.Name.toList==s.toList)=false):pV B s= -1:=by
 have:kY B s=none:=by
  unfold kY
  rw[List.findIdx?_eq_none_iff]
  intro x hx
  obtain⟨j,hj⟩:=List.mem_iff_getElem?.1 hx
  exact h1 j x (List.getElem?_eq_some_iff.1 hj).1 hj
 unfold pV
 rw[this]
theorem QH(h:BP m H b se B ms){s:ByteArray}{Q:Int×Unit->Heap->Prop}(hq:Q (pV B s,()) H):CALL P [aj .i64] iL [.pointer (some ⟨b,0,none⟩),.string s] H Q:=by
 apply IQ
 unfold nX
 obtain⟨⟨cs,ns,w,hc⟩,few,_⟩:=h
 refine w.adw rfl (aX ?_)
 refine aY (fun(t:(Int×Unit)×Unit) H'=>H'=H∧∃n:Nat,t.1.1=n∧n≤B.length∧∀(j:Nat) x,j<n->B[j]? =some x->(x.g.Name.toList==s.toList)=false) (fun t=>B.length-t.1.1.toNat) ?_ ⟨rfl,0,rfl,Nat.zero_le _,fun j x hj=>by omega⟩
 rintro G ⟨⟨i,_⟩,_⟩ H' ⟨rfl,n,hi,hn,hno⟩ hG
 simp only at hi; subst hi
 dsimp only at hG ⊢
 refine cu (fun hlt=> ?_) (fun hge=> ?_)
 ·have hlt:n<B.length:=by omega
  have hx:B[n]? =some B[n]:=List.getElem?_eq_getElem hlt
  generalize B[n]=c at hx
  obtain⟨g,hg,cr⟩:=hc n c hx
  have hnm:g.Name=c.g.Name:=by rw[←cr.e]; rfl
  refine⟨⟨by omega,by omega⟩,w.ld_name hg (by simp) ?_⟩
  rw[hnm]
  refine bG (fun e=> ?_) (fun e=> ?_)
  ·rw[Vw hno hx e]at hq; exact hq
  ·rw[bT (by omega) (by omega)]
   refine hG _ _ ⟨rfl,n+1,by simp,hlt,fun j x hj hy=> ?_⟩ (by simp; omega)
   by_cases ej:j=n
   ·subst ej; rw[hx]at hy; cases hy; exact e
   ·exact hno j x (by omega) hy
 ·have hge:n=B.length:=by omega
  subst hge
  rw[LV hno]at hq; exact hq
theorem ZW(g h:aA)(ps qs:List Pt):Hl ⟨bare g,ps⟩ ⟨bare h,qs⟩=(decide (g.Suit<h.Suit)||(g.Suit==h.Suit&&Op.bytesLess g.Name.toList h.Name.toList)):=rfl
theorem ae8{g h:aA}{c d:Cd}(hg:bare g=c.g)(hh:bare h=d.g){Q:Bool×Unit->Heap->Prop}(hq:Q (Hl c d,()) H):CALL P [ah] zL [TC.enc g,TC.enc h] H Q:=by
 apply WG
 unfold Af
 obtain⟨c,cp⟩:=c
 obtain⟨d,dp⟩:=d
 simp only at hg hh; subst hg; subst hh
 rw[ZW]at hq
 refine yO (fun e=>Qd (Q:=fun r=>Q r H) hq ?_) (fun e=>Qd (Q:=fun r=>Q r H) hq ?_)
 ·congr 1
  rw[show(g.Suit==h.Suit)=false by simpa using e]; simp
 ·congr 1
  rw[show decide (g.Suit<h.Suit)=false by simp; omega,show(g.Suit==h.Suit)=true by simpa using e]; simp
theorem acp{g:aA}{ps:List Pt}(hs:dB TP H g.Parts ps)(hl:ps.length≤1048600){Q:aA×Unit->Heap->Prop}(hq:∀s H',dB TP H' s ps->(∀d∈bl s.p,H.length≤d)->bK [] H H'->Q ({ g with Parts:=s },()) H'):CALL P [TC] wu [TC.enc g] H Q:=by
 apply Zk
 unfold Du
 exact F8 tyP rfl (fun _=>by simp) hs hl fun s' H' sp n=>hq s' H' n.1.jH (nbl n) n.2.2
end
end Go.Proofs.YtijnknjopjmiiaaGreatDoor.Zq
end
section
namespace Go.Proofs.YtijnknjopjmiiaaGreatDoor.Zq
open Zv
section
variable{H:Heap}{b m:Nat}{B:List Cd}{ms:List au}
theorem Eh{B:List Cd}{s:ByteArray}:pV B s≥0↔(kY B s).isSome=true:=by
 unfold pV
 cases kY B s with
 |none=>simp
 |some i=>simp
set_option maxRecDepth 100000 in
theorem aiD{Q:(Option Addr)×Unit->Heap->Prop}(hq:∀H',(∀m,H.length<m->m≤H'.length->BP m H' H.length false [] (List.replicate 5 ⟨0,ByteArray.mk #[],0,0⟩))->bK [] H H'->H'.length=H.length+1->Q (some ⟨H.length,0,none⟩,()) H'):CALL P [fG] Gg [] H Q:=by
 apply aa4
 unfold Gp
 refine hq _ (fun m h1 h2=>⟨⟨List.replicate 64 ⟨ByteArray.mk #[],0,0,0,0,0,0,false,⟨none,0,0⟩⟩,List.replicate 9 (ByteArray.mk #[]),⟨⟨608,?_⟩,rfl,rfl,rfl⟩,fun i c h=>by simp at h⟩,by simp,h1,h2⟩) (bK.app _ _ _) (by show(H++[_]).length=_; rw[List.length_append]; rfl)
 show(H++[_])[H.length]? =_
 rw[List.getElem?_append_right (Nat.le_refl _),Nat.sub_self]
 rfl
theorem agV(h:BP m H b false B ms)(okB:rD B){g:aA}{ps:List Pt}(ok:OkG g)(hs:dB TP H g.Parts ps)(op:∀p∈ps,OkP p)(hpb:∀d∈bl g.Parts.p,d≠b){Q:Int×Unit->Heap->Prop}
  (hq:∀H',BP m H' b false (Gh B ⟨bare g,ps⟩) ms->bK [b] H H'->Q (Es B ⟨bare g,ps⟩,()) H'):CALL P [aj .i64] oO [.pointer (some ⟨b,0,none⟩),TC.enc g] H Q:=by
 apply Kq
 unfold pF
 have hcc:BH ⟨g,ps⟩=BH ⟨bare g,ps⟩:=rfl
 generalize hc0:(⟨bare g,ps⟩:Cd)=c at hq hcc
 have cg:bare g=c.g:=by rw[←hc0]
 have cps:ps=c.ps:=by rw[←hc0]
 have cnm:c.g.Name=g.Name:=by rw[←cg]; rfl
 have same:∀e:Int,e≠0->Es B c=e->Q (e,()) H:=fun e he ha=>by
  have a:Gh B c=B:=by unfold Gh; rw[if_neg (by rw[ha]; exact he)]
  have:=hq H (by rw[a]; exact h) (.refl _ _)
  rwa [ha]at this
 refine XE h (bC rfl (ae7 ok hs op (yO (fun h1=> ?_) (fun h1=> ?_))))
 ·dsimp only at h1
  rw[hcc]at h1
  dsimp only; rw[hcc]
  exact same _ h1 (by unfold Es; rw[if_pos h1])
 dsimp only at h1
 rw[hcc]at h1
 refine QH h (cu (fun h2=> ?_) (fun h2=> ?_))
 ·dsimp only at h2
  refine same 5 (by decide) ?_
  unfold Es
  rw[if_neg (fun q=>q h1),if_pos (by rw[cnm]; exact Eh.1 h2)]
 dsimp only at h2
 have hnin:¬(kY B c.g.Name).isSome=true:=fun q=>h2 (Eh.2 (by rw[←cnm]; exact q))
 have few:=h.few
 obtain⟨⟨cs,ns,w,hc⟩,_,lt,ml⟩:=id h
 refine w.adw rfl (cu (fun h3=> ?_) (fun h3=> ?_))
 ·refine same 14 (by decide) ?_
  unfold Es
  rw[if_neg (fun q=>q h1),if_neg hnin,if_pos (by omega)]
 have e0:Es B c=0:=by unfold Es; rw[if_neg (fun q=>q h1),if_neg hnin,if_neg (by omega)]
 have hps4:ps.length≤4:=by
  have:Ep c=0:=by
   unfold BH at h1
   by_cases hf:Ep c=0
   ·exact hf
   ·rw[if_neg hf]at h1; exact h1
  rw[cps]; exact um this
 refine w.adw rfl ?_
 refine aO (fun y H'=>∃(i:Nat) (cs':List aA),(y:(Int×Unit)×Unit).1.1=i∧i≤B.length∧BW H' b false B.length cs' ns ms∧bK [b] H H'∧(∀j,j≤i->cs'[j]? =cs[j]?)∧(∀j,i<j->j≤B.length->cs'[j]? =cs[j-1]?)∧(∀(j:Nat) d,i≤j->B[j]? =some d->Hl c d=true)∧∀d,0<i->B[i-1]? =some d->Hl c d=false) (fun j hj=> ?_) ?_
 ·refine aY (fun(s:(Int×Unit)×Unit) H'=>∃(i:Nat) (cs':List aA),s.1.1=i∧i≤B.length∧BW H' b false B.length cs' ns ms∧bK [b] H H'∧(∀j,j≤i->cs'[j]? =cs[j]?)∧(∀j,i<j->j≤B.length->cs'[j]? =cs[j-1]?)∧∀(j:Nat) d,i≤j->B[j]? =some d->Hl c d=true) (fun s=>s.1.1.toNat) ?_
   ⟨B.length,cs,rfl,Nat.le_refl _,w,.refl _ _,fun _ _=>rfl,fun j h1 h2=>by omega,fun j d h1 h2=>by have:=(List.getElem?_eq_some_iff.1 h2).1; omega⟩
  rintro G ⟨⟨i,_⟩,_⟩ H' ⟨i,cs',hi,hil,w',f',k1,k2,k3⟩ hG
  simp only at hi; subst hi
  dsimp only at hG ⊢
  have at1:0<i->∃g1 d,B[i-1]? =some d∧cs'[i-1]? =some g1∧CR m H' g1 d∧cs[i-1]? =some g1:=fun h0=>by
   have hx:B[i-1]? =some (B[i-1]'(by omega)):=List.getElem?_eq_getElem (by omega)
   obtain⟨g1,q1,q2⟩:=hc (i-1) _ hx
   exact⟨g1,_,hx,by rw[k1 _ (by omega)]; exact q1,q2.bP f' fun d hd=>by simp at hd; omega,q1⟩
  refine hJ (H:=H') (∃d,0<i∧B[i-1]? =some d∧Hl c d=true) (fun j hj=>cu (fun h0=> ?_) (fun h0=>hj _ ?_)) (fun hA=> ?_) (fun hN=> ?_)
  ·have h0:0<i:=by omega
   obtain⟨g1,d,hx,hg1,cr,_⟩:=at1 h0
   rw[bT (by omega) (by omega)]
   refine⟨⟨by omega,by omega⟩,w'.Oh hg1 (by omega) (ae8 cg cr.e (hj _ ?_))⟩
   constructor
   ·exact fun e=>⟨d,h0,hx,e⟩
   ·rintro⟨d',_,hx',e⟩
    rw[hx]at hx'; cases hx'; exact e
  ·simp only[Bool.false_eq_true,false_iff]
   rintro⟨d,q,_⟩; omega
  ·obtain⟨d,h0,hx,ha⟩:=hA
   obtain⟨g1,d',hx',hg1,cr,hg0⟩:=at1 h0
   rw[hx]at hx'; cases hx'
   rw[bT (by omega) (by omega)]
   refine⟨⟨by omega,by omega⟩,w'.Oh hg1 (by omega) ⟨⟨by omega,by omega⟩,w'.ZV (i:=i) (by omega) g1 (by simp) fun H2 w2 f2=> ?_⟩⟩
   have hcl:=w'.c
   refine hG _ _ ⟨i-1,_,by simp; omega,by omega,w2,f'.trans f2,fun j hj=> ?_,fun j hj hj2=> ?_,fun j d2 hj hd2=> ?_⟩ (by simp; omega)
   ·rw[List.getElem?_set_ne (by omega)]; exact k1 j (by omega)
   ·by_cases ej:j=i
    ·subst ej; rw[List.getElem?_set_self (by omega),hg0]
    ·rw[List.getElem?_set_ne (by omega)]; exact k2 j (by omega) hj2
   ·by_cases ej:j=i-1
    ·subst ej; rw[hx]at hd2; cases hd2; exact ha
    ·exact k3 j d2 (by omega) hd2
  ·refine hj _ _ ⟨i,cs',rfl,hil,w',f',k1,k2,k3,fun d h0 hx=> ?_⟩
   cases ha:Hl c d with
   |false=>rfl
   |true=>exact absurd ⟨d,h0,hx,ha⟩ hN
 rintro⟨⟨i,_⟩,_⟩ H4 ⟨i,cs',hi,hil,w4,f4,k1,k2,k3,k4⟩
 simp only at hi; subst hi
 dsimp only
 refine acp (hs.bP f4 fun d hd o e=> ?_) (by omega) fun s H9 hs9 lo9 f9=>⟨⟨by omega,by omega⟩,?_⟩
 ·simp at hd; subst hd; exact hpb d (by rw[e]; simp[bl]) rfl
 have w9:=w4.bP f9 (by simp)
 have hcl:=w9.c
 refine w9.ZV (i:=i) (by omega) { g with Parts:=s } (by simp) fun H10 w10 f10=>w10.adw rfl ?_
 rw[bT (x:=(B.length:Int)+1) (by omega) (by omega)]
 refine w10.ab4 _ rfl fun H11 w11 f11=> ?_
 have fr:bK [b] H H11:=(f4.trans (f9.mono (by simp))).trans (f10.trans f11)
 have ea:Gh B c=B.take i++c::B.drop i:=by
  unfold Gh
  rw[if_pos e0]
  exact aeK (lt:=Hl) (fun h k=>aeM h k) okB.srt hil (fun j hj h=>k3 j _ h (List.getElem?_eq_getElem hj)) (fun h0=>k4 _ h0 (List.getElem?_eq_getElem (by omega)))
 have hln:(Gh B c).length=B.length+1:=by rw[ea]; simp; omega
 have res:=hq H11 ⟨⟨_,ns,by rw[hln]; exact w11,fun k d hk=> ?_⟩,by omega,lt,by have:=fr.1; omega⟩ fr
 ·rwa [e0]at res
 ·have f49:=f4.1
  rw[ea]at hk
  rcases Nat.lt_trichotomy k i with q|q|q
  ·rw[List.getElem?_append_left (by simp; omega),List.getElem?_take,if_pos q]at hk
   obtain⟨g1,q1,q2⟩:=hc k d hk
   exact⟨g1,by rw[List.getElem?_set_ne (by omega),k1 k (by omega)]; exact q1,q2.bP fr fun d hd=>by simp at hd; omega⟩
  ·subst q
   rw[List.getElem?_append_right (by simp; omega),List.length_take,Nat.min_eq_left hil,Nat.sub_self]at hk
   simp at hk; subst hk
   refine⟨_,List.getElem?_set_self (by omega),⟨by rw[←cg]; rfl,?_,fun d hd=>by have:=lo9 d hd; omega⟩⟩
   rw[←cps]
   refine(hs9.bP f10 fun d hd o e=> ?_).bP f11 fun d hd o e=> ?_
   ·simp at hd; subst hd; have:=lo9 d (by rw[e]; simp[bl]); have:=w4.lt; omega
   ·simp at hd; subst hd; have:=lo9 d (by rw[e]; simp[bl]); have:=w4.lt; omega
  ·have e2:k-i=(k-1-i)+1:=by omega
   rw[List.getElem?_append_right (by simp; omega),List.length_take,Nat.min_eq_left hil,e2,List.getElem?_cons_succ,List.getElem?_drop,show i+(k-1-i)=k-1 by omega]at hk
   have hkl:=(List.getElem?_eq_some_iff.1 hk).1
   obtain⟨g1,q1,q2⟩:=hc (k-1) d hk
   exact⟨g1,by rw[List.getElem?_set_ne (by omega),k2 k q (by omega)]; exact q1,q2.bP fr fun d hd=>by simp at hd; omega⟩
end
end Go.Proofs.YtijnknjopjmiiaaGreatDoor.Zq
end
section
namespace Go.Proofs.YtijnknjopjmiiaaGreatDoor.Zq
open Zv
section
variable{H:Heap}{b m:Nat}{B:List Cd}{ms:List au}{se:Bool}{n:Int}{cs:List aA}{ns:List ByteArray}
theorem BW.QI(h:BW H b se n cs ns ms){i:Nat}{x:au}(hx:ms[i]? =some x):QG se n cs ns ms=(.bool true:: .bool se:: .int .i64 n::(fl TC cs++(fl eH ns++fl TM (ms.take i))))++(TM.cells x++fl TM (ms.drop (i+1)))∧(.bool true:: .bool se:: .int .i64 n::(fl TC cs++(fl eH ns++fl TM (ms.take i))):List Value).length=588+i*4:=by
 have hi:=(List.getElem?_eq_some_iff.1 hx).1
 refine⟨?_,?_⟩
 ·unfold QG
  rw[iZ (T:=TM) ms i x hx]; simp[List.append_assoc]
 ·simp only[List.length_cons,List.length_append]
  rw[dD hTC,dD ah5,dD hTM,List.length_take,Nat.min_eq_left (by omega),h.c,h.n]
  show 64*9+(9*1+i*4)+1+1+1=_; omega
theorem BW.Ei(h:BW H b se n cs ns ms){i:Nat}{x:au}(hx:ms[i]? =some x){o:Nat}(ho:o=588+i*4){K:Int->Prop}(hk:K x.Mark):LD (aj .u8) H b o K:=by
 obtain⟨sz,r⟩:=h.row
 obtain⟨e1,e2⟩:=h.QI hx
 exact dV (T:=aj .u8) x.Mark _ ((TM.cells x).drop 1++fl TM (ms.drop (i+1))) r (by rw[e1]; rfl) (by rw[e2,ho]) rfl hk
theorem BW.QJ(h:BW H b se n cs ns ms){i:Nat}(hi:i<5)(x:au){o:Nat}(ho:o=588+i*4){K:Heap->Prop}(hk:∀H',BW H' b se n cs ns (ms.set i x)->bK [b] H H'->K H'):ST H b o (TM.cells x) K:=by
 obtain⟨sz,r⟩:=h.row
 have hm:=h.m
 have hx:ms[i]? =some ms[i]:=List.getElem?_eq_getElem (by omega)
 obtain⟨e1,e2⟩:=h.QI hx
 refine qE _ (TM.cells ms[i]) _ r e1 (by rw[e2,ho]) rfl rfl (hk _ ⟨⟨sz,?_⟩,h.c,h.n,by simpa using hm⟩ (bK.set _ _ (by simp)))
 rw[fV (cZ r)]
 have hx2:(ms.set i x)[i]? =some x:=List.getElem?_set_self (by omega)
 have hb:BW (H.set b (.row (QG se n cs ns (ms.set i x)) sz false false true)) b se n cs ns (ms.set i x):=⟨⟨sz,fV (cZ r)⟩,h.c,h.n,by simpa using hm⟩
 rw[(hb.QI hx2).1,List.take_set_of_le (Nat.le_refl _),List.drop_set_of_lt (by omega)]
theorem five{ms:List au}(h:ms.length=5):∃a b c d e,ms=[a,b,c,d,e]:=by
 match ms,h with
 |[a,b,c,d,e],_=>exact⟨a,b,c,d,e,rfl⟩
theorem QK{x:Int}{Q:Bool×Unit->Heap->Prop}(hq:Q (decide (-9≤x∧x≤9),()) H):CALL P [ah] qo [.int .i64 x] H Q:=by
 apply Tq
 unfold xQ
 exact JD (H:=H) (-9≤x∧x≤9) (fun j hj=>cu (fun h=>hj _ (by simp; omega)) (fun h=>hj _ (by simp; omega))) hq
def badM(m:au):Prop:=m.Mark<1∨4<m.Mark∨m.Power< -9∨9<m.Power∨m.Health< -9∨9<m.Health
def XF(ms:List au)(m:au):Prop:=(∃x,ms[m.Mark.toNat]? =some x∧x.Mark≠0)∨∃x∈ms,x.Name.toList=m.Name.toList
open Classical in
theorem QL(ms:List au)(m:au):Ip ms m=if badM m then 2 else if ¬qK m.Name then 4 else if XF ms m then 5 else 0:=by
 unfold Ip badM XF
 congr
theorem agW(h:BP m H b false B ms){x:au}{Q:Int×Unit->Heap->Prop}(hq:∀H',BP m H' b false B (MB ms x)->bK [b] H H'->Q (Ip ms x,()) H'):CALL P [aj .i64] oP [.pointer (some ⟨b,0,none⟩),TM.enc x] H Q:=by
 apply Ku
 unfold pG
 have e:=QL ms x
 have same:∀(r:Int) H',r≠0->Ip ms x=r->bK [] H H'->Q (r,()) H':=fun r H' hr hm f=>by
  have a:MB ms x=ms:=by unfold MB; rw[if_neg (by rw[hm]; exact hr)]
  have:=hq H' (by rw[a]; exact h.new f) (f.mono (by simp))
  rwa [hm]at this
 refine XE h (bC rfl ?_)
 refine hJ (badM x) (fun j hj=> ?_) (fun h1=>same 2 H (by decide) (by rw[e,if_pos h1]) (.refl _ _)) (fun h1=> ?_)
 ·unfold badM at hj
  exact cu (fun h=>hj _ (by simp; omega)) (fun h=>cu (fun h=>hj _ (by simp; omega)) (fun h=>QK (XA (fun h=>hj _ (by simp; omega)) (fun h=>QK (hj _ (by simp; omega))))))
 rw[if_neg h1]at e
 have hr:1≤x.Mark∧x.Mark≤4:=by unfold badM at h1; omega
 refine agP fun H5 f5=>XA (fun h2=>same 4 H5 (by decide) (by rw[e,if_pos h2]) f5) (fun h2=> ?_)
 rw[if_neg (fun q=>q h2)]at e
 have h5:=h.new f5
 obtain⟨⟨cs,ns,w,hc⟩,few,lt,ml⟩:=h5
 have hm5:=w.m
 have hi5:x.Mark.toNat<5:=by omega
 have hx:ms[x.Mark.toNat]? =some (ms[x.Mark.toNat]'(by omega)):=List.getElem?_eq_getElem (by omega)
 generalize (ms[x.Mark.toNat]'(by omega))=y at hx
 refine⟨⟨by omega,by omega⟩,w.Ei hx (by simp) (yO (fun h3=>same 5 H5 (by decide) (by rw[e,if_pos (.inl ⟨y,hx,h3⟩)]) f5) (fun h3=> ?_))⟩
 obtain⟨m0,m1,m2,m3,m4,rfl⟩:=five hm5
 have ld5:∀{K:au×au×au×au×au->Prop},K (m0,m1,m2,m3,m4)->LD gu H5 b (0+588) K:=fun hk=>by
  obtain⟨sz,r⟩:=w.row
  obtain⟨e1,e2⟩:=w.QI (i:=0) (x:=m0) rfl
  exact dV (T:=gu) (m0,m1,m2,m3,m4) _ [] r (by rw[e1]; rfl) (by rw[e2]) rfl hk
 refine ld5 ?_
 have hat:∀n:Nat,n<5->∃z,dZ E 129 (.agg #[(.int .u8 m0.Mark),(.string m0.Name),(.int .i64 m0.Power),(.int .i64 m0.Health),(.int .u8 m1.Mark),(.string m1.Name),(.int .i64 m1.Power),(.int .i64 m1.Health),(.int .u8 m2.Mark),(.string m2.Name),(.int .i64 m2.Power),(.int .i64 m2.Health),(.int .u8 m3.Mark),(.string m3.Name),(.int .i64 m3.Power),(.int .i64 m3.Health),(.int .u8 m4.Mark),(.string m4.Name),(.int .i64 m4.Power),(.int .i64 m4.Health)]) (.int .i64 (n:Int))=some (TM.enc z)∧[m0,m1,m2,m3,m4][n]? =some z:=by
  intro n hn
  rcases(by omega:n=0∨n=1∨n=2∨n=3∨n=4)with rfl|rfl|rfl|rfl|rfl
  ·exact⟨m0,rfl,rfl⟩
  ·exact⟨m1,rfl,rfl⟩
  ·exact⟨m2,rfl,rfl⟩
  ·exact⟨m3,rfl,rfl⟩
  ·exact⟨m4,rfl,rfl⟩
 refine aO (fun _ H'=>H'=H5∧¬∃z∈[m0,m1,m2,m3,m4],z.Name.toList=x.Name.toList) (fun j hj=> ?_) ?_
 ·refine aY (fun(s:(Int×Unit)×Unit) H'=>H'=H5∧∃n:Nat,s.1.1=n∧n≤5∧∀z∈[m0,m1,m2,m3,m4].take n,z.Name.toList≠x.Name.toList) (fun s=>5-s.1.1.toNat) ?_ ⟨rfl,0,rfl,by omega,by simp⟩
  rintro G ⟨⟨i,_⟩,_⟩ H' ⟨rfl,n,hi,hn,hno⟩ hG
  simp only at hi; subst hi
  dsimp only at hG ⊢
  refine cu (fun hlt=> ?_) (fun hge=>hj _ _ ⟨rfl,?_⟩)
  ·have hlt:n<5:=by omega
   obtain⟨z,g1,g2⟩:=hat n hlt
   refine⟨z,g1,bG (fun e2=>same 5 H' (by decide) (by rw[e,if_pos (.inr ⟨z,List.mem_of_getElem? g2,by simpa using e2⟩)]) f5) (fun e2=> ?_)⟩
   rw[bT (by omega) (by omega)]
   refine hG _ _ ⟨rfl,n+1,by simp,hlt,fun y hy=> ?_⟩ (by simp; omega)
   obtain⟨g3,g4⟩:=List.getElem?_eq_some_iff.1 g2
   rw[List.take_succ_eq_append_getElem g3,List.mem_append,List.mem_singleton]at hy
   rcases hy with q|q
   ·exact hno y q
   ·rw[q,g4]; simpa using e2
  ·have:n=5:=by omega
   subst this
   rintro⟨z,hz,q⟩
   exact hno z (by simpa using hz) q
 rintro _ H6 ⟨rfl,hno⟩
 have e0:Ip [m0,m1,m2,m3,m4] x=0:=by
  rw[e,if_neg]
  rintro(⟨z,hz,q⟩|q)
  ·rw[hx]at hz; cases hz; exact q h3
  ·exact hno q
 refine⟨⟨by omega,by omega⟩,w.QJ hi5 x (by simp) fun H8 w8 f8=> ?_⟩
 have fr:bK [b] H H8:=(f5.mono (by simp)).trans f8
 have ea:MB [m0,m1,m2,m3,m4] x=[m0,m1,m2,m3,m4].set x.Mark.toNat x:=by unfold MB; rw[if_pos e0]
 have res:=hq H8 ⟨⟨cs,ns,by rw[ea]; exact w8,fun k d hk=> ?_⟩,few,lt,by have:=f8.1; omega⟩ fr
 ·rwa [e0]at res
 ·obtain⟨g1,q1,q2⟩:=hc k d hk
  exact⟨g1,q1,q2.bP f8 fun d hd=>by simp at hd; omega⟩
theorem QM{p:Pt}(h:p.Verb≠7):BA B p=0:=by unfold BA; rw[if_neg h]
theorem acr{p:Pt}(h:p.Verb=7)(hn:pV B p.Name<0):BA B p=6:=by
 unfold BA; rw[if_pos h]
 unfold pV at hn
 cases hx:kY B p.Name with
 |none=>rfl
 |some i=>rw[hx]at hn; simp only at hn; omega
theorem QN{s:ByteArray}(hn:¬pV B s<0):∃i c,kY B s=some i∧pV B s=(i:Int)∧B[i]? =some c:=by
 unfold pV at hn ⊢
 cases hx:kY B s with
 |none=>rw[hx]at hn; simp at hn
 |some i=>
  have hi:i<B.length:=by
   unfold kY at hx
   obtain⟨h,_⟩:=List.findIdx?_eq_some_iff_getElem.1 hx
   exact h
  exact⟨i,B[i],rfl,rfl,List.getElem?_eq_getElem hi⟩
theorem QO{p:Pt}(h:p.Verb=7){i:Nat}{c:Cd}(hn:kY B p.Name=some i)(hx:B[i]? =some c):BA B p=if c.g.Kind=2 then 8 else 0:=by
 unfold BA; rw[if_pos h,hn]
 simp only[hx,Option.map_some,Option.some.injEq]
theorem LW(p:Pt)(r:List Pt):xA B (p::r)=if BA B p≠0 then BA B p else xA B r:=rfl
theorem QS{i k:Nat}{c:Cd}(hk:c.ps.length≤k):xA B (c.ps.drop k++(B.drop (i+1)).flatMap (·.ps))=xA B ((B.drop (i+1)).flatMap (·.ps)):=by
 rw[List.drop_eq_nil_of_le hk,List.nil_append]
theorem agX(h:BP m H b false B ms)(okB:rD B){Q:Int×Unit->Heap->Prop}(hq:∀H',BP m H' b (decide (wF B=0)) B ms->bK [b] H H'->Q (wF B,()) H'):CALL P [aj .i64] oQ [.pointer (some ⟨b,0,none⟩)] H Q:=by
 apply Kz
 unfold pI
 have same:∀r:Int,r≠0->wF B=r->Q (r,()) H:=fun r hr e=>by
  have:=hq H (by rw[e,decide_eq_false hr]; exact h) (.refl _ _)
  rwa [e]at this
 refine XE h (bC rfl ?_)
 obtain⟨⟨cs,ns,w,hc⟩,few,lt,ml⟩:=id h
 refine w.adw rfl ?_
 have hsl:dH E 127 (.pointer (some ⟨b,0+3,none⟩)) none (some (.int .i64 (B.length:Int))) none H=some (Value.slice (some ⟨b,3,none⟩) B.length 64):=by
  obtain⟨ti,te,e,hti,hk,hte⟩:∃ti te e,E.ty 127=some ti∧ti.k= .array 64 e∧E.ty e=some te:=⟨_,_,_,rfl,rfl,rfl⟩
  unfold dH
  simp only[hti,hk,hte,Option.bind_some]
  simp[dQ,few]
 refine⟨⟨some ⟨b,3,none⟩,B.length,64⟩,hsl,?_⟩
 refine aO (fun _ H'=>H'=H∧wF B=0) (fun j hj=> ?_) ?_
 ·refine aY (fun(s:(Int×Unit)×Unit) H'=>H'=H∧∃i:Nat,s.1.1=i∧i≤B.length∧wF B=xA B ((B.drop i).flatMap (·.ps))) (fun s=>B.length-s.1.1.toNat) ?_ ⟨rfl,0,rfl,Nat.zero_le _,by simp[wF]⟩
  rintro G ⟨⟨i,_⟩,_⟩ H' ⟨rfl,i,hi,hil,hse⟩ hG
  simp only at hi; subst hi
  dsimp only at hG ⊢
  refine cu (fun hlt=> ?_) (fun hge=>hj _ _ ⟨rfl,?_⟩)
  ·have hlt:i<B.length:=by omega
   have hx:B[i]? =some B[i]:=List.getElem?_eq_getElem hlt
   rw[List.drop_eq_getElem_cons hlt,List.flatMap_cons]at hse
   generalize B[i]=c at hx hse
   obtain⟨g,hg,cr⟩:=hc i c hx
   have hp:=cr.p
   have hpl:=hp.1
   have hp4:c.ps.length≤4:=by
    have:=okB.ok c (List.mem_of_getElem? hx)
    unfold BH at this
    by_cases hf:Ep c=0
    ·exact um hf
    ·rw[if_neg hf]at this; exact absurd this hf
   refine aX ⟨⟨by omega,by omega⟩,w.Oh hg (by simp) (aX ?_)⟩
   refine aY (fun(s:(Int×Unit)×Unit) H2=>H2=H'∧∃k:Nat,s.1.1=k∧k≤c.ps.length∧wF B=xA B (c.ps.drop k++(B.drop (i+1)).flatMap (·.ps))) (fun s=>c.ps.length-s.1.1.toNat) ?_ ⟨rfl,0,rfl,Nat.zero_le _,by simpa using hse⟩
   rintro G2 ⟨⟨k,_⟩,_⟩ H2 ⟨rfl,k,hk,hkl,hse2⟩ hG2
   simp only at hk; subst hk
   dsimp only at hG2 ⊢
   refine cu (fun hlt2=> ?_) (fun hge2=> ?_)
   ·have hlt2:k<c.ps.length:=by omega
    have hy:c.ps[k]? =some c.ps[k]:=List.getElem?_eq_getElem hlt2
    rw[List.drop_eq_getElem_cons hlt2,List.cons_append,LW]at hse2
    generalize c.ps[k]=p at hy hse2
    refine aX (aZ (T:=TP) hTP hp rfl hy rfl ?_)
    have next:BA B p=0->G2 ((IntKind.wrap .i64 ((k:Int)+1),()),()) H2:=fun hz=>by
     rw[if_neg (fun q=>q hz)]at hse2
     rw[bT (by omega) (by omega)]
     exact hG2 _ _ ⟨rfl,k+1,by simp,hlt2,hse2⟩ (by simp; omega)
    refine yO (fun hv=>next (QM hv)) (fun hv=>QH h (cu (fun hn=> ?_) (fun hn=> ?_)))
    ·dsimp only at hn
     have:=acr hv hn
     exact same 6 (by decide) (by rw[hse2,if_pos (by rw[this]; decide),this])
    ·dsimp only at hn
     obtain⟨i2,c2,q1,q2,q3⟩:=QN hn
     have hi2:=(List.getElem?_eq_some_iff.1 q3).1
     obtain⟨g2,hg2,cr2⟩:=hc i2 c2 q3
     have hkd:g2.Kind=c2.g.Kind:=by rw[←cr2.e]; rfl
     have hce:=QO hv q1 q3
     dsimp only
     rw[q2]
     refine⟨⟨by omega,by omega⟩,w.agU hg2 (by simp) ?_⟩
     rw[hkd]
     refine eP (fun e2=> ?_) (fun e2=>next (by rw[hce,if_neg e2]))
     rw[if_pos e2]at hce
     exact same 8 (by decide) (by rw[hse2,if_pos (by rw[hce]; decide),hce])
   ·rw[QS (by omega)]at hse2
    rw[bT (by omega) (by omega)]
    exact hG _ _ ⟨rfl,i+1,by simp,hlt,hse2⟩ (by simp; omega)
  ·have hge:i=B.length:=by omega
   subst hge
   rw[hse,List.drop_length]; rfl
 rintro _ H2 ⟨rfl,e0⟩
 refine w.abe true rfl fun H9 w9 f9=> ?_
 have res:=hq H9 (by rw[e0]; exact⟨⟨cs,ns,w9,fun k d hk=>by obtain⟨g1,q1,q2⟩:=hc k d hk; exact⟨g1,q1,q2.bP f9 fun d hd=>by simp at hd; omega⟩⟩,few,lt,by have:=f9.1; omega⟩) f9
 rwa [e0]at res
end
end Go.Proofs.YtijnknjopjmiiaaGreatDoor.Zq
end
section
namespace Go.Proofs.YtijnknjopjmiiaaGreatDoor.Zq
open Zv
section
variable{H:Heap}{b m:Nat}{B:List Cd}{ms:List au}{se:Bool}{s:Sl}{ns:List ByteArray}
def zC:aA:=⟨ByteArray.mk #[],0,0,0,0,0,0,false,⟨none,0,0⟩⟩
theorem tyC:Jq E TC 22 zC:=⟨⟨_,_,_,rfl,rfl,rfl,rfl,by decide,by decide,rfl⟩,by decide,hTC,fun _=>rfl⟩
def acu(se:Bool)(s:Sl)(ns:List ByteArray)(ms:List au):List Value:=.bool true:: .bool se::s.v::(fl eH ns++fl TM ms)
structure RW(H:Heap)(b:Nat)(se:Bool)(s:Sl)(ns:List ByteArray)(ms:List au):Prop where
 row:∃sz,H[b]? =some (.row (acu se s ns ms) sz false false true)
 n:ns.length=9
 m:ms.length=5
theorem RW.bP{H':Heap}{F:List Nat}(h:RW H b se s ns ms)(f:bK F H H')(hb:b∉F):RW H' b se s ns ms:=by
 obtain⟨sz,r⟩:=h.row
 exact⟨⟨sz,f.get hb r⟩,h.n,h.m⟩
theorem RW.XD(h:RW H b se s ns ms){o:Nat}(ho:o=0){K:Bool->Prop}(hk:K true):LD ah H b o K:=by
 obtain⟨sz,r⟩:=h.row
 exact dV (T:=ah) true [] _ r rfl ho rfl hk
theorem RW.FD(h:RW H b se s ns ms){o:Nat}(ho:o=1){K:Bool->Prop}(hk:K se):LD ah H b o K:=by
 obtain⟨sz,r⟩:=h.row
 exact dV (T:=ah) se [.bool true] _ r rfl ho rfl hk
theorem RW.NW(h:RW H b se s ns ms){o:Nat}(ho:o=2){K:Sl->Prop}(hk:K s):LD aH H b o K:=by
 obtain⟨sz,r⟩:=h.row
 exact dV (T:=aH) s [.bool true,.bool se] _ r rfl ho rfl hk
theorem RW.ajE(h:RW H b se s ns ms)(s':Sl){o:Nat}(ho:o=2){K:Heap->Prop}(hk:∀H',RW H' b se s' ns ms->bK [b] H H'->K H'):ST H b o [.slice s'.p s'.len s'.cap] K:=by
 obtain⟨sz,r⟩:=h.row
 exact qE [.bool true,.bool se] [s.v] _ r rfl ho rfl rfl (hk _ ⟨⟨sz,by rw[fV (cZ r)]; rfl⟩,h.n,h.m⟩ (bK.set _ _ (by simp)))
theorem RW.abe(h:RW H b se s ns ms)(se':Bool){o:Nat}(ho:o=1){K:Heap->Prop}(hk:∀H',RW H' b se' s ns ms->bK [b] H H'->K H'):ST H b o [.bool se'] K:=by
 obtain⟨sz,r⟩:=h.row
 exact qE [.bool true] [.bool se] _ r rfl ho rfl rfl (hk _ ⟨⟨sz,by rw[fV (cZ r)]; rfl⟩,h.n,h.m⟩ (bK.set _ _ (by simp)))
theorem RW.QI(h:RW H b se s ns ms){i:Nat}{x:au}(hx:ms[i]? =some x):acu se s ns ms=(.bool true:: .bool se::s.v::(fl eH ns++fl TM (ms.take i)))++(TM.cells x++fl TM (ms.drop (i+1)))∧(.bool true:: .bool se::s.v::(fl eH ns++fl TM (ms.take i)):List Value).length=12+i*4:=by
 have hi:=(List.getElem?_eq_some_iff.1 hx).1
 refine⟨?_,?_⟩
 ·unfold acu
  rw[iZ (T:=TM) ms i x hx]; simp[List.append_assoc]
 ·simp only[List.length_cons,List.length_append]
  rw[dD ah5,dD hTM,List.length_take,Nat.min_eq_left (by omega),h.n]
  show(9*1+i*4)+1+1+1=_; omega
theorem RW.Ei(h:RW H b se s ns ms){i:Nat}{x:au}(hx:ms[i]? =some x){o:Nat}(ho:o=12+i*4){K:Int->Prop}(hk:K x.Mark):LD (aj .u8) H b o K:=by
 obtain⟨sz,r⟩:=h.row
 obtain⟨e1,e2⟩:=h.QI hx
 exact dV (T:=aj .u8) x.Mark _ ((TM.cells x).drop 1++fl TM (ms.drop (i+1))) r (by rw[e1]; rfl) (by rw[e2,ho]) rfl hk
theorem RW.ZX(h:RW H b se s ns ms){i:Nat}{x:au}(hx:ms[i]? =some x){o:Nat}(ho:o=12+i*4+1){K:ByteArray->Prop}(hk:K x.Name):LD eH H b o K:=by
 obtain⟨sz,r⟩:=h.row
 obtain⟨e1,e2⟩:=h.QI hx
 exact dV (T:=eH) x.Name ((.bool true:: .bool se::s.v::(fl eH ns++fl TM (ms.take i)))++[.int .u8 x.Mark]) ((TM.cells x).drop 2++fl TM (ms.drop (i+1))) r (by rw[e1]; simp[List.append_assoc]) (by rw[List.length_append,e2,ho]; rfl) rfl hk
theorem RW.QJ(h:RW H b se s ns ms){i:Nat}(hi:i<5)(x:au){o:Nat}(ho:o=12+i*4){K:Heap->Prop}(hk:∀H',RW H' b se s ns (ms.set i x)->bK [b] H H'->K H'):ST H b o (TM.cells x) K:=by
 obtain⟨sz,r⟩:=h.row
 have hm:=h.m
 have hx:ms[i]? =some ms[i]:=List.getElem?_eq_getElem (by omega)
 obtain⟨e1,e2⟩:=h.QI hx
 refine qE _ (TM.cells ms[i]) _ r e1 (by rw[e2,ho]) rfl rfl (hk _ ⟨⟨sz,?_⟩,h.n,by simpa using hm⟩ (bK.set _ _ (by simp)))
 rw[fV (cZ r)]
 have hx2:(ms.set i x)[i]? =some x:=List.getElem?_set_self (by omega)
 have hb:RW (H.set b (.row (acu se s ns (ms.set i x)) sz false false true)) b se s ns (ms.set i x):=⟨⟨sz,fV (cZ r)⟩,h.n,by simpa using hm⟩
 rw[(hb.QI hx2).1,List.take_set_of_le (Nat.le_refl _),List.drop_set_of_lt (by omega)]
def CL(m:Nat)(H:Heap)(L:List aA)(B:List Cd):Prop:=L.length=B.length∧∀(k:Nat) d,B[k]? =some d->∃g,L[k]? =some g∧CR m H g d
theorem CL.bP{H':Heap}{F:List Nat}{L:List aA}(h:CL m H L B)(f:bK F H H')(hF:∀d∈F,d<m):CL m H' L B:=
 ⟨h.1,fun k d hk=>by obtain⟨g,q1,q2⟩:=h.2 k d hk; exact⟨g,q1,q2.bP f hF⟩⟩
structure BD(m:Nat)(H:Heap)(b:Nat)(se:Bool)(B:List Cd)(ms:List au):Prop where
 w:∃s gs ns,RW H b se s ns ms∧dB TC H s gs∧(∀d∈bl s.p,m≤d)∧CL m H gs B
 few:B.length≤64
 lt:b<m
 ml:m≤H.length
theorem XG{T:Tag}{H H':Heap}{s:Sl}{l:List T.α}{F:List Nat}(h:dB T H s l)(lo:∀d∈bl s.p,m≤d)(f:bK F H H')(hF:∀d∈F,d<m):dB T H' s l:=
 h.bP f fun d hd o e=>by have:=lo d (by rw[e]; simp[bl]); have:=hF d hd; omega
theorem BD.bP{H':Heap}{F:List Nat}(h:BD m H b se B ms)(f:bK F H H')(hF:∀d∈F,d<m∧d≠b):BD m H' b se B ms:=by
 obtain⟨⟨s,gs,ns,w,hs,lo,hc⟩,h2,h3,h4⟩:=h
 exact⟨⟨s,gs,ns,w.bP f fun hm=>(hF b hm).2 rfl,XG hs lo f fun d hd=>(hF d hd).1,lo,hc.bP f fun d hd=>(hF d hd).1⟩,h2,h3,by have:=f.1; omega⟩
theorem BD.new{H':Heap}(h:BD m H b se B ms)(f:bK [] H H'):BD m H' b se B ms:=h.bP f (by simp)
theorem aiE{Q:(Option Addr)×Unit->Heap->Prop}(hq:∀H',(∀m,H.length<m->m≤H'.length->BD m H' H.length false [] (List.replicate 5 ⟨0,ByteArray.mk #[],0,0⟩))->bK [] H H'->H'.length=H.length+1->Q (some ⟨H.length,0,none⟩,()) H'):CALL P [fG] CV [] H Q:=by
 apply Zb
 unfold Dp
 refine hq _ (fun m h1 h2=>⟨⟨⟨none,0,0⟩,[],List.replicate 9 (ByteArray.mk #[]),⟨⟨32,?_⟩,rfl,rfl⟩,⟨rfl,.inl ⟨rfl,rfl,rfl⟩⟩,by simp[bl],⟨rfl,fun k d h=>by simp at h⟩⟩,by simp,h1,h2⟩) (bK.app _ _ _) (by show(H++[_]).length=_; rw[List.length_append]; rfl)
 show(H++[_])[H.length]? =_
 rw[List.getElem?_append_right (Nat.le_refl _),Nat.sub_self]
 rfl
theorem qy(h:BD m H b se B ms){Q:Bool×Unit->Heap->Prop}(hq:Q (false,()) H):CALL P [ah] bV [.pointer (some ⟨b,0,none⟩)] H Q:=by
 obtain⟨⟨s,gs,ns,w,_⟩,_⟩:=h
 apply IW
 unfold nY
 exact aX (bC rfl (w.XD rfl hq))
theorem KX(h:BD m H b se B ms){Q:Bool×Unit->Heap->Prop}(hq:Q (se,()) H):CALL P [ah] gG [.pointer (some ⟨b,0,none⟩)] H Q:=by
 apply EG
 unfold lq
 refine aX (qy h (dI rfl ?_))
 obtain⟨⟨s,gs,ns,w,_⟩,_⟩:=h
 exact w.FD rfl hq
theorem ae9{g h:aA}{c d:Cd}(hg:bare g=c.g)(hh:bare h=d.g){Q:Bool×Unit->Heap->Prop}(hq:∀r:Bool,(r=true↔Hl c d=true)->Q (r,()) H):CALL P [ah] wU [TC.enc g,TC.enc h] H Q:=by
 apply Tj
 unfold xP
 obtain⟨c,cp⟩:=c
 obtain⟨d,dp⟩:=d
 simp only at hg hh; subst hg; subst hh
 have key:=ZW g h cp dp
 refine JD (H:=H) (Hl ⟨bare g,cp⟩ ⟨bare h,dp⟩=true) (fun j hj=>cu (fun e=>hj _ ?_) (fun e=>eP (fun e2=>hj _ ?_) (fun e2=>hj _ ?_))) (hq _ (by simp))
 ·rw[key]; simp[e]
 ·rw[key]; simp[e2]
 ·rw[key]; simp[e2]; omega
theorem acv{g:aA}{ps:List Pt}(hs:dB TP H g.Parts ps)(hl:ps.length≤1048600){Q:aA×Unit->Heap->Prop}(hq:∀s H',dB TP H' s ps->(∀d∈bl s.p,H.length≤d)->bK [] H H'->Q ({ g with Parts:=s },()) H'):CALL P [TC] kR [TC.enc g] H Q:=by
 apply WJ
 unfold Ag
 exact F8 tyP rfl (fun _=>by simp) hs hl fun s' H' sp n=>hq s' H' n.1.jH (nbl n) n.2.2
theorem ZY{g:aA}{ps:List Pt}(hs:dB TP H g.Parts ps)(hl:ps.length≤1048600){Q:aA×Unit->Heap->Prop}(hq:∀s H',dB TP H' s ps->(∀d∈bl s.p,H.length≤d)->bK [] H H'->Q ({ g with Parts:=s },()) H'):CALL P [TC] nI [TC.enc g] H Q:=by
 apply PU
 unfold uw
 apply MJ
 unfold rF
 exact F8 tyP rfl (fun _=>by simp) hs hl fun s' H' sp n=>hq s' H' n.1.jH (nbl n) n.2.2
theorem ae_{s:Sl}{gs:List aA}(h:dB TC H s gs){n:Nat}{g:aA}(hx:gs[n]? =some g){K:ByteArray->Prop}(hk:K g.Name):bQ s.p s.len (n:Int) 9 fun b o=>LD eH H b (o+0) K:=by
 have hl:=(List.getElem?_eq_some_iff.1 hx).1
 obtain⟨h1,⟨_,h2,_⟩|⟨_,_,_,h2,_⟩|⟨b,A,B,z,o,ro,h3,h4⟩⟩:=h
 ·subst h2; simp at hl
 ·subst h2; simp at hl
 ·unfold bQ NIL
  rw[h3]
  refine⟨⟨by omega,by omega⟩,?_⟩
  refine dV (T:=eH) g.Name (A++fl TC (gs.take n)) ((TC.cells g).drop 1++(fl TC (gs.drop (n+1))++B)) h4 ?_ ?_ rfl hk
  ·rw[iZ (T:=TC) gs n g hx]; simp[List.append_assoc]
  ·rw[List.length_append,dD hTC,List.length_take,Nat.min_eq_left (by omega),Int.toNat_natCast]; rfl
theorem afa{s:Sl}{gs:List aA}(h:dB TC H s gs){n:Nat}{g:aA}(hx:gs[n]? =some g){K:Int->Prop}(hk:K g.Kind):bQ s.p s.len (n:Int) 9 fun b o=>LD (aj .u8) H b (o+2) K:=by
 have hl:=(List.getElem?_eq_some_iff.1 hx).1
 obtain⟨h1,⟨_,h2,_⟩|⟨_,_,_,h2,_⟩|⟨b,A,B,z,o,ro,h3,h4⟩⟩:=h
 ·subst h2; simp at hl
 ·subst h2; simp at hl
 ·unfold bQ NIL
  rw[h3]
  refine⟨⟨by omega,by omega⟩,?_⟩
  refine dV (T:=aj .u8) g.Kind (A++(fl TC (gs.take n)++[.string g.Name,.int .u8 g.Suit])) ((TC.cells g).drop 3++(fl TC (gs.drop (n+1))++B)) h4 ?_ ?_ rfl hk
  ·rw[iZ (T:=TC) gs n g hx]; simp[List.append_assoc]
  ·rw[List.length_append,List.length_append,dD hTC,List.length_take,Nat.min_eq_left (by omega),Int.toNat_natCast]
   show A.length+n*9+2=A.length+(n*9+2); omega
theorem KY{s:Sl}{gs:List aA}(h:dB TC H s gs){n:Nat}{g:aA}(hx:gs[n]? =some g){K:Sl->Prop}(hk:K g.Parts):bQ s.p s.len (n:Int) 9 fun b o=>LD aH H b (o+8) K:=by
 have hl:=(List.getElem?_eq_some_iff.1 hx).1
 obtain⟨h1,⟨_,h2,_⟩|⟨_,_,_,h2,_⟩|⟨b,A,B,z,o,ro,h3,h4⟩⟩:=h
 ·subst h2; simp at hl
 ·subst h2; simp at hl
 ·unfold bQ NIL
  rw[h3]
  refine⟨⟨by omega,by omega⟩,?_⟩
  refine dV (T:=aH) g.Parts (A++(fl TC (gs.take n)++(TC.cells g).take 8)) (fl TC (gs.drop (n+1))++B) h4 ?_ ?_ rfl hk
  ·rw[iZ (T:=TC) gs n g hx]; simp[List.append_assoc]
  ·rw[List.length_append,List.length_append,dD hTC,List.length_take,Nat.min_eq_left (by omega),Int.toNat_natCast]
   show A.length+n*9+8=A.length+(n*9+8); omega
theorem Z4(h:BD m H b se B ms){t:ByteArray}{Q:Int×Unit->Heap->Prop}(hq:Q (pV B t,()) H):CALL P [aj .i64] jh [.pointer (some ⟨b,0,none⟩),.string t] H Q:=by
 apply GL
 unfold mP
 obtain⟨⟨s,gs,ns,w,hs,lo,hc⟩,few,_⟩:=h
 have hsl:=hs.1
 have hgl:=hc.1
 refine aX ?_
 refine aY (fun(u:(Int×Unit)×Unit) H'=>H'=H∧∃n:Nat,u.1.1=n∧n≤B.length∧∀(j:Nat) x,j<n->B[j]? =some x->(x.g.Name.toList==t.toList)=false) (fun u=>B.length-u.1.1.toNat) ?_ ⟨rfl,0,rfl,Nat.zero_le _,fun j x hj=>by omega⟩
 rintro G ⟨⟨i,_⟩,_⟩ H' ⟨rfl,n,hi,hn,hno⟩ hG
 simp only at hi; subst hi
 dsimp only at hG ⊢
 refine w.NW rfl (cu (fun hlt=>w.NW rfl ?_) (fun hge=> ?_))
 ·have hlt:n<B.length:=by omega
  have hx:B[n]? =some B[n]:=List.getElem?_eq_getElem hlt
  generalize B[n]=c at hx
  obtain⟨g,hg,cr⟩:=hc.2 n c hx
  have hnm:g.Name=c.g.Name:=by rw[←cr.e]; rfl
  refine ae_ hs hg ?_
  rw[hnm]
  refine bG (fun e=> ?_) (fun e=> ?_)
  ·rw[Vw hno hx e]at hq; exact hq
  ·rw[bT (by omega) (by omega)]
   refine hG _ _ ⟨rfl,n+1,by simp,hlt,fun j x hj hy=> ?_⟩ (by simp; omega)
   by_cases ej:j=n
   ·subst ej; rw[hx]at hy; cases hy; exact e
   ·exact hno j x (by omega) hy
 ·have hge:n=B.length:=by omega
  subst hge
  rw[LV hno]at hq; exact hq
end
end Go.Proofs.YtijnknjopjmiiaaGreatDoor.Zq
end
section
namespace Go.Proofs.YtijnknjopjmiiaaGreatDoor.Zq
open Zv
section
variable{H:Heap}{b m:Nat}{B:List Cd}{ms:List au}{se:Bool}{s:Sl}{ns:List ByteArray}
theorem QT{T:Tag}{s:Sl}{l:List T.α}(h:dB T H s l){x off:Nat}(e:s.p=some ⟨x,off,none⟩):x<H.length:=by
 obtain⟨_,⟨q,_⟩|⟨c,o,q,_⟩|⟨c,A,D,sz,o,ro,q,r⟩⟩:=h
 ·rw[q]at e; cases e
 ·rw[q]at e; cases e
 ·rw[q]at e; cases e; exact cZ r
theorem RW.lt'(h:RW H b se s ns ms):b<H.length:=by obtain⟨sz,r⟩:=h.row; exact cZ r
structure Yf(m:Nat)(H0 H:Heap)(out:Sl)(L:List aA)(Bl:List Cd):Prop where
 n:∃sp,aW TC H0 out H L sp
 len:L.length=Bl.length
 c:∀(k:Nat) d,Bl[k]? =some d->∃g,L[k]? =some g∧CR m H g d∧∀x off,g.Parts.p=some ⟨x,off,none⟩->out.p≠some ⟨x,0,none⟩
theorem Yf.nil(m:Nat)(H:Heap):Yf m H H ⟨none,0,0⟩ [] []:=⟨⟨[],Ow.nil TC H,by simp,.refl _ _⟩,rfl,fun k d h=>by simp at h⟩
theorem Yf.fr{H0 H':Heap}{out:Sl}{L:List aA}{Bl:List Cd}(h:Yf m H0 H' out L Bl):bK [] H0 H':=by obtain⟨sp,n⟩:=h.n; exact n.2.2
theorem Yf.new{H0 H1 H2:Heap}{out:Sl}{L:List aA}{Bl:List Cd}(h:Yf m H0 H1 out L Bl)(f:bK [] H1 H2):Yf m H0 H2 out L Bl:=by
 obtain⟨⟨sp,n⟩,h2,h3⟩:=h
 exact⟨⟨sp,n.1.bP f (by simp[Sl.off]),n.2.1,n.2.2.trans f⟩,h2,fun k d hk=>by obtain⟨g,q1,q2,q3⟩:=h3 k d hk; exact⟨g,q1,q2.bP f (by simp),q3⟩⟩
theorem CR.after{H1 H2:Heap}{out:Sl}{g:aA}{d:Cd}(h:CR m H1 g d)(a:After out H1 H2)(ap:∀x off,g.Parts.p=some ⟨x,off,none⟩->out.p≠some ⟨x,0,none⟩):CR m H2 g d:=by
 refine⟨h.e,?_,h.lo⟩
 by_cases hq:∃d,out.p=some ⟨d,0,none⟩
 ·obtain⟨d0,hd0⟩:=hq
  refine h.p.bP (a.bP (B:=[d0]) fun d hd=>by rw[hd0]at hd; cases hd; simp) fun x hx o e=> ?_
  simp at hx; subst hx
  exact ap _ o e hd0
 ·exact h.p.bP (a.bP (B:=[]) fun d hd=>absurd ⟨d,hd⟩ hq) (by simp)
theorem Yf.app{H0 H1:Heap}{out:Sl}{L:List aA}{Bl:List Cd}(h:Yf m H0 H1 out L Bl){g:aA}{d:Cd}(cr:CR m H1 g d)(ap:∀x off,g.Parts.p=some ⟨x,off,none⟩->out.p≠some ⟨x,0,none⟩)(hl:Bl.length≤100){K:Sl->Heap->Prop}
  (hk:∀s' H2,Yf m H0 H2 s' (L++[g]) (Bl++[d])->K s' H2):vk aH (lenV out.v+1) (dR E [22,22] out.v 1 (TC.cells g) H1) K:=by
 obtain⟨⟨sp,n⟩,h2,h3⟩:=h
 refine qF tyC rfl (fun _=>by simp) (m:=1) [g] rfl (by simp[fl]) (by show 2*(L.length+1)*4096≤_; omega) n.1 fun s2 H2 sp2 k1 k2 k3=>hk s2 H2 ⟨⟨sp2,n.app k1 k2 k3⟩,by simp[h2],fun k d' hk'=> ?_⟩
 have far:∀(g':aA) d',CR m H1 g' d'->(∀x off,g'.Parts.p=some ⟨x,off,none⟩->out.p≠some ⟨x,0,none⟩)->∀x off,g'.Parts.p=some ⟨x,off,none⟩->s2.p≠some ⟨x,0,none⟩:=fun g' d' c' a' x off e e2=>by
  rcases k2 with q|⟨q,_⟩
  ·exact a' x off e (by rw[←q]; exact e2)
  ·rw[q]at e2
   have:=QT c'.p e
   cases e2; omega
 by_cases e:k<Bl.length
 ·rw[List.getElem?_append_left e]at hk'
  obtain⟨g',q1,q2,q3⟩:=h3 k d' hk'
  exact⟨g',by rw[List.getElem?_append_left (by omega)]; exact q1,q2.after k3 q3,far g' d' q2 q3⟩
 ·have hkl:=(List.getElem?_eq_some_iff.1 hk').1
  simp at hkl
  have ek:k=Bl.length:=by omega
  subst ek
  simp at hk'; subst hk'
  exact⟨g,by rw[←h2]; simp,cr.after k3 ap,far g d cr ap⟩
def Std(c:Cd)(B:List Cd)(i:Nat)(put:Bool)(Bl:List Cd):Prop:=
 (put=false∧Bl=B.take i∧∀(j:Nat) d,j<i->B[j]? =some d->Hl c d=false)∨
 (put=true∧∃p,p<i∧Bl=B.take p++c::(B.take i).drop p∧(∀(j:Nat) d,j<p->B[j]? =some d->Hl c d=false)∧∀d,B[p]? =some d->Hl c d=true)
theorem Std.len{c:Cd}{i:Nat}{put:Bool}{Bl:List Cd}(h:Std c B i put Bl)(hi:i≤B.length):Bl.length≤i+1:=by
 rcases h with⟨_,rfl,_⟩|⟨_,p,hp,rfl,_⟩
 ·simp; omega
 ·simp; omega
theorem take_drop_succ{α:Type}{l:List α}{i p:Nat}(hi:i<l.length)(hp:p≤i):(l.take (i+1)).drop p=(l.take i).drop p++[l[i]]:=by
 rw[List.take_succ_eq_append_getElem hi,List.drop_append_of_le_length (by simp; omega)]
theorem Std.fin{c:Cd}{put:Bool}{Bl:List Cd}(h:Std c B B.length put Bl):insL Hl c B=if put=true then Bl else Bl++[c]:=by
 rcases h with⟨rfl,rfl,h3⟩|⟨rfl,p,hp,rfl,h3,h4⟩
 ·rw[if_neg (by decide),List.take_length]
  rw[Vo (lt:=Hl) (i:=B.length) (Nat.le_refl _) (fun j hj hji=>h3 j _ hj (List.getElem?_eq_getElem hj)) (fun h=>by omega)]
  simp
 ·rw[if_pos rfl,List.take_length]
  exact Vo (lt:=Hl) (by omega) (fun j hj hji=>h3 j _ hji (List.getElem?_eq_getElem hj)) (fun h=>h4 _ (List.getElem?_eq_getElem h))
theorem agY(h:BD m H b false B ms){g:aA}{ps:List Pt}(ok:OkG g)(hs:dB TP H g.Parts ps)(op:∀p∈ps,OkP p){Q:Int×Unit->Heap->Prop}
  (hq:∀H',BD m H' b false (Gh B ⟨bare g,ps⟩) ms->bK [b] H H'->Q (Es B ⟨bare g,ps⟩,()) H'):CALL P [aj .i64] nJ [.pointer (some ⟨b,0,none⟩),TC.enc g] H Q:=by
 apply Iz
 unfold nT
 have hcc:BH ⟨g,ps⟩=BH ⟨bare g,ps⟩:=rfl
 generalize hc0:(⟨bare g,ps⟩:Cd)=c at hq hcc
 have cg:bare g=c.g:=by rw[←hc0]
 have cps:ps=c.ps:=by rw[←hc0]
 have cnm:c.g.Name=g.Name:=by rw[←cg]; rfl
 have same:∀e:Int,e≠0->Es B c=e->Q (e,()) H:=fun e he ha=>by
  have a:Gh B c=B:=by unfold Gh; rw[if_neg (by rw[ha]; exact he)]
  have:=hq H (by rw[a]; exact h) (.refl _ _)
  rwa [ha]at this
 have few:=h.few
 refine qy h (bC rfl ?_)
 obtain⟨⟨s,gs,ns,w,hsl,slo,hc⟩,_,lt,ml⟩:=id h
 have hsl1:=hsl.1
 have hgl:=hc.1
 refine w.FD rfl (bC rfl (adu ok hs op (yO (fun h1=> ?_) (fun h1=> ?_))))
 ·dsimp only at h1
  rw[hcc]at h1
  dsimp only; rw[hcc]
  exact same _ h1 (by unfold Es; rw[if_pos h1])
 dsimp only at h1
 rw[hcc]at h1
 refine Z4 h (cu (fun h2=> ?_) (fun h2=> ?_))
 ·dsimp only at h2
  refine same 5 (by decide) ?_
  unfold Es
  rw[if_neg (fun q=>q h1),if_pos (by rw[cnm]; exact Eh.1 h2)]
 dsimp only at h2
 have hnin:¬(kY B c.g.Name).isSome=true:=fun q=>h2 (Eh.2 (by rw[←cnm]; exact q))
 refine w.NW rfl (cu (fun h3=> ?_) (fun h3=> ?_))
 ·refine same 14 (by decide) ?_
  unfold Es
  rw[if_neg (fun q=>q h1),if_neg hnin,if_pos (by omega)]
 have e0:Es B c=0:=by unfold Es; rw[if_neg (fun q=>q h1),if_neg hnin,if_neg (by omega)]
 have hps4:ps.length≤4:=by
  have:Ep c=0:=by
   unfold BH at h1
   by_cases hf:Ep c=0
   ·exact hf
   ·rw[if_neg hf]at h1; exact h1
  rw[cps]; exact um this
 have copy:∀{H1:Heap} {out:Sl} {L:List aA} {Bl:List Cd} {K:Sl->Heap->Prop},Yf m H H1 out L Bl->Bl.length≤100->(∀s' H2 L',Yf m H H2 s' L' (Bl++[c])->K s' H2)->CALL P [TC] kR [TC.enc g] H1 fun(x28:aA×Unit) H9=>vk aH (lenV out.v+1) (dR E [22,22] out.v 1 (TC.cells x28.1) H9) K:=by
  intro H1 out L Bl K bd hbl hK
  have hH1:=bd.fr.1
  refine acv (hs.bP bd.fr (by simp)) (by omega) fun s' H9 hs9 lo9 f9=> ?_
  have crn:CR m H9 { g with Parts:=s' } c:=⟨by rw[←cg]; rfl,by rw[←cps]; exact hs9,fun d hd=>by have:=lo9 d hd; omega⟩
  refine(bd.new f9).app crn (fun x off e e2=> ?_) hbl fun s2 H2 bd2=>hK s2 H2 _ bd2
  obtain⟨sp,n⟩:=bd.n
  have:=n.1.lt e2
  have:=lo9 x (by rw[e]; simp[bl])
  omega
 have old:∀{H1:Heap} {out:Sl} {L:List aA} {Bl:List Cd} {i:Nat} {g1:aA} {d:Cd} {K:Sl->Heap->Prop},Yf m H H1 out L Bl->Bl.length≤100->gs[i]? =some g1->CR m H g1 d->(∀s' H2 L',Yf m H H2 s' L' (Bl++[d])->K s' H2)->vk aH (lenV out.v+1) (dR E [22,22] out.v 1 (TC.cells g1) H1) K:=by
  intro H1 out L Bl i g1 d K bd hbl hg1 cr hK
  refine bd.app (cr.bP bd.fr (by simp)) (fun x off e e2=> ?_) hbl fun s2 H2 bd2=>hK s2 H2 _ bd2
  obtain⟨sp,n⟩:=bd.n
  have:=n.2.1 x e2
  have:=QT cr.p e
  omega
 refine aO (fun y H'=>∃L Bl,Yf m H H' (y:(Sl×Bool×Unit)×Unit).1.1 L Bl∧Std c B B.length y.1.2.1 Bl) (fun j hj=> ?_) ?_
 ·refine aY (fun(t:(Sl×Bool×Int×Unit)×Unit) H'=>∃(i:Nat) (L:List aA) (Bl:List Cd),t.1.2.2.1=i∧i≤B.length∧Yf m H H' t.1.1 L Bl∧Std c B i t.1.2.1 Bl) (fun t=>B.length-t.1.2.2.1.toNat) ?_ ⟨0,[],[],rfl,Nat.zero_le _,.nil m H,.inl ⟨rfl,by simp,fun j d hj=>by omega⟩⟩
  rintro G ⟨⟨out,put,i,_⟩,_⟩ H' ⟨i,L,Bl,hi,hil,bd,st⟩ hG
  simp only at hi bd st; subst hi
  dsimp only at hG ⊢
  have f':=bd.fr
  have w':=w.bP f' (by simp)
  have hs':=hsl.bP f' (by simp)
  have hbl:=st.len hil
  refine w'.NW rfl (cu (fun hlt=> ?_) (fun hge=> ?_))
  ·have hlt:i<B.length:=by omega
   have hx:B[i]? =some B[i]:=List.getElem?_eq_getElem hlt
   have tds:∀p,p≤i->(B.take (i+1)).drop p=(B.take i).drop p++[B[i]]:=fun p hp=>take_drop_succ hlt hp
   have tks:B.take (i+1)=B.take i++[B[i]]:=List.take_succ_eq_append_getElem hlt
   generalize B[i]=d at hx tds tks
   obtain⟨g1,hg1,cr1⟩:=hc.2 i d hx
   refine JD (H:=H') (put=false∧Hl c d=true) (fun j2 hj2=> ?_) ?_
   ·cases put with
    |true=>exact bC rfl (hj2 _ (by simp))
    |false=>exact dI rfl (w'.NW rfl (aZ (T:=TC) hTC hs' rfl hg1 rfl (ae9 cg cr1.e fun r hr=>hj2 _ (by simpa using hr))))
   ·refine aO (fun y H8=>∃L' Bl',Yf m H H8 (y:(Sl×Bool×Unit)×Unit).1.1 L' Bl'∧Bl'.length≤90∧Std c B (i+1) y.1.2.1 (Bl'++[d])) (fun j3 hj3=> ?_) ?_
    ·refine cu (fun hy=> ?_) (fun hy=>hj3 _ _ ⟨L,Bl,bd,by omega,?_⟩)
     ·obtain⟨hp,ha⟩:=hy
      subst hp
      refine copy bd (by omega) fun s' H2 L' bd2=>hj3 _ _ ⟨L',_,bd2,by simp; omega,?_⟩
      rcases st with⟨_,rfl,k3⟩|⟨k,_⟩
      ·refine .inr ⟨rfl,i,by omega,?_,k3,fun d' hd'=>by rw[hx]at hd'; cases hd'; exact ha⟩
       rw[tds i (Nat.le_refl _),List.drop_eq_nil_of_le (by simp; omega)]; simp
      ·cases k
     ·rcases st with⟨k1,rfl,k3⟩|⟨k1,p,hp,rfl,k3,k4⟩
      ·refine .inl ⟨k1,tks.symm,fun j d' hj hd'=> ?_⟩
       by_cases ej:j=i
       ·subst ej; rw[hx]at hd'; cases hd'
        cases ha:Hl c d with
        |false=>rfl
        |true=>exact absurd ⟨k1,ha⟩ hy
       ·exact k3 j d' (by omega) hd'
      ·refine .inr ⟨k1,p,by omega,?_,k3,k4⟩
       rw[tds p (by omega)]; simp
    ·rintro⟨⟨out2,put2,_⟩,_⟩ H8 ⟨L2,Bl2,bd2,hb2,st2⟩
     simp only at bd2 st2
     dsimp only
     have f8:=bd2.fr
     refine(w.bP f8 (by simp)).NW rfl (aZ (T:=TC) hTC (hsl.bP f8 (by simp)) rfl hg1 rfl (old bd2 (by omega) hg1 cr1 fun s' H2 L' bd3=> ?_))
     rw[bT (by omega) (by omega)]
     exact hG _ _ ⟨i+1,_,_,by simp,hlt,bd3,st2⟩ (by simp; omega)
  ·have hge:i=B.length:=by omega
   subst hge
   exact hj _ _ ⟨L,Bl,bd,st⟩
 rintro⟨⟨out,put,_⟩,_⟩ H4 ⟨L,Bl,bd,st⟩
 simp only at bd st
 dsimp only
 have hbl:=st.len (Nat.le_refl _)
 have hfin:=st.fin
 refine aO (fun y H'=>∃L',Yf m H H' (y:(Sl×Unit)×Unit).1.1 L' (insL Hl c B)) (fun j hj=> ?_) ?_
 ·cases put with
  |false=>
   rw[if_neg (by decide)]at hfin
   exact dI rfl (copy bd (by omega) fun s' H2 L' bd2=>hj _ _ ⟨L',by rw[hfin]; exact bd2⟩)
  |true=>
   rw[if_pos rfl]at hfin
   exact bC rfl (hj _ _ ⟨L,by rw[hfin]; exact bd⟩)
 rintro⟨⟨out2,_⟩,_⟩ H12 ⟨L',bd2⟩
 simp only at bd2
 dsimp only
 have f12:=bd2.fr
 refine(w.bP f12 (by simp)).ajE out2 (by simp) fun H15 w15 f15=> ?_
 have ea:Gh B c=insL Hl c B:=by unfold Gh; rw[if_pos e0]
 have fr:bK [b] H H15:=(f12.mono (by simp)).trans f15
 obtain⟨sp,n⟩:=bd2.n
 have hbl:=w.lt'
 have res:=hq H15 (by
  rw[ea]
  refine⟨⟨out2,L',ns,w15,?_,fun d hd=>by have:=nbl n d hd; omega,bd2.len,fun k d hk=> ?_⟩,by rw[YZ]; omega,lt,by have:=fr.1; omega⟩
  ·refine n.1.jH.bP f15 fun d hd o e=> ?_
   simp at hd; subst hd
   have:=nbl n d (by rw[e]; simp[bl]); omega
  ·obtain⟨g',q1,q2,_⟩:=bd2.c k d hk
   exact⟨g',q1,q2.bP f15 fun d hd=>by simp at hd; omega⟩) fr
 rwa [e0]at res
end
end Go.Proofs.YtijnknjopjmiiaaGreatDoor.Zq
end
section
namespace Go.Proofs.YtijnknjopjmiiaaGreatDoor.Zq
open Zv
section
variable{H:Heap}{b m:Nat}{B:List Cd}{ms:List au}
theorem agZ(h:BD m H b false B ms)(h0:∀y,ms[0]? =some y->y.Name.toList=[]){x:au}{Q:Int×Unit->Heap->Prop}(hq:∀H',BD m H' b false B (MB ms x)->bK [b] H H'->Q (Ip ms x,()) H'):CALL P [aj .i64] nK [.pointer (some ⟨b,0,none⟩),TM.enc x] H Q:=by
 apply IE
 unfold nU
 have e:=QL ms x
 have same:∀r:Int,r≠0->Ip ms x=r->Q (r,()) H:=fun r hr hm=>by
  have a:MB ms x=ms:=by unfold MB; rw[if_neg (by rw[hm]; exact hr)]
  have:=hq H (by rw[a]; exact h) (.refl _ _)
  rwa [hm]at this
 refine qy h (bC rfl ?_)
 obtain⟨⟨s,gs,ns,w,hsl,slo,hc⟩,few,lt,ml⟩:=id h
 refine w.FD rfl (bC rfl ?_)
 refine hJ (badM x) (fun j hj=> ?_) (fun h1=>same 2 (by decide) (by rw[e,if_pos h1])) (fun h1=> ?_)
 ·unfold badM at hj
  exact cu (fun h=>hj _ (by simp; omega)) (fun h=>cu (fun h=>hj _ (by simp; omega)) (fun h=>cu (fun h=>hj _ (by simp; omega)) (fun h=>cu (fun h=>hj _ (by simp; omega)) (fun h=>cu (fun h=>hj _ (by simp; omega)) (fun h=>hj _ (by simp; omega))))))
 rw[if_neg h1]at e
 have hr:1≤x.Mark∧x.Mark≤4:=by unfold badM at h1; omega
 refine aeV (XA (fun h2=>same 4 (by decide) (by rw[e,if_pos h2])) (fun h2=> ?_))
 rw[if_neg (fun q=>q h2)]at e
 have hm5:=w.m
 have hnm:x.Name.toList≠[]:=by
  rw[ByteArray.toList_eq]
  intro q
  have:=h2.1
  rw[q]at this; simp at this
 refine aO (fun _ H'=>H'=H∧∀(j:Nat) y,1≤j->ms[j]? =some y->¬((j:Int)=x.Mark∧y.Mark≠0)∧y.Name.toList≠x.Name.toList) (fun j hj=> ?_) ?_
 ·refine aY (fun(t:(Int×Unit)×Unit) H'=>H'=H∧∃n:Nat,t.1.1=n∧1≤n∧n≤5∧∀(j:Nat) y,1≤j->j<n->ms[j]? =some y->¬((j:Int)=x.Mark∧y.Mark≠0)∧y.Name.toList≠x.Name.toList) (fun t=>5-t.1.1.toNat) ?_ ⟨rfl,1,rfl,by omega,by omega,fun j y h1 h2=>by omega⟩
  rintro G ⟨⟨i,_⟩,_⟩ H' ⟨rfl,n,hi,hn1,hn5,hno⟩ hG
  simp only at hi; subst hi
  dsimp only at hG ⊢
  refine cu (fun hlt=> ?_) (fun hge=>hj _ _ ⟨rfl,fun j y q1 q2=>hno j y q1 (by have:=(List.getElem?_eq_some_iff.1 q2).1; omega) q2⟩)
  have hlt:n<5:=by omega
  have hy:ms[n]? =some (ms[n]'(by omega)):=List.getElem?_eq_getElem (by omega)
  generalize (ms[n]'(by omega))=y at hy
  have hw8:IntKind.wrap .u8 (n:Int)=n:=by rcases(by omega:n=1∨n=2∨n=3∨n=4)with rfl|rfl|rfl|rfl<;>decide
  rw[hw8]
  have hA:(0:Int)≤n∧(n:Int)<5:=by omega
  have bad:((n:Int)=x.Mark∧y.Mark≠0)∨y.Name.toList=x.Name.toList->XF ms x:=fun q=>by
   rcases q with⟨q1,q2⟩|q
   ·exact .inl ⟨y,by rw[show x.Mark.toNat=n by omega]; exact hy,q2⟩
   ·exact .inr ⟨y,List.mem_of_getElem? hy,q⟩
  refine hJ (((n:Int)=x.Mark∧y.Mark≠0)∨y.Name.toList=x.Name.toList) (fun j2 hj2=>eP (fun e1=>⟨hA,w.Ei hy (by simp) (yO (fun e2=>hj2 _ (by simp[e1,e2])) (fun e2=>⟨hA,w.ZX hy (by simp) (hj2 _ (by simp[e2]))⟩))⟩) (fun e1=>⟨hA,w.ZX hy (by simp) (hj2 _ (by simp[e1]))⟩)) (fun q=>same 5 (by decide) (by rw[e,if_pos (bad q)])) (fun q=> ?_)
  rw[bT (by omega) (by omega)]
  refine hG _ _ ⟨rfl,n+1,by simp,by omega,by omega,fun j z q1 q2 q3=> ?_⟩ (by simp; omega)
  by_cases ej:j=n
  ·subst ej; rw[hy]at q3; cases q3
   exact⟨fun k=>q (.inl k),fun k=>q (.inr k)⟩
  ·exact hno j z q1 (by omega) q3
 rintro _ H4 ⟨rfl,hno⟩
 have e0:Ip ms x=0:=by
  rw[e,if_neg]
  rintro(⟨z,hz,q⟩|⟨z,hz,q⟩)
  ·exact(hno x.Mark.toNat z (by omega) hz).1 ⟨by omega,q⟩
  ·obtain⟨j,hj⟩:=List.mem_iff_getElem?.1 hz
   by_cases ej:j=0
   ·subst ej; rw[h0 z hj]at q; exact hnm q.symm
   ·exact(hno j z (by omega) hj).2 q
 refine⟨⟨by omega,by omega⟩,w.QJ (i:=x.Mark.toNat) (by omega) x (by simp) fun H7 w7 f7=> ?_⟩
 have ea:MB ms x=ms.set x.Mark.toNat x:=by unfold MB; rw[if_pos e0]
 have hF:∀d∈[b],d<m:=fun d hd=>by simp at hd; omega
 have res:=hq H7 ⟨⟨s,gs,ns,by rw[ea]; exact w7,XG hsl slo f7 hF,slo,hc.bP f7 hF⟩,few,lt,by have:=f7.1; omega⟩ f7
 rwa [e0]at res
theorem ag0(h:BD m H b false B ms){Q:Int×Unit->Heap->Prop}(okB:rD B)(hq:∀H',BD m H' b (decide (wF B=0)) B ms->bK [b] H H'->Q (wF B,()) H'):CALL P [aj .i64] nM [.pointer (some ⟨b,0,none⟩)] H Q:=by
 apply IJ
 unfold nV
 have same:∀r:Int,r≠0->wF B=r->Q (r,()) H:=fun r hr e=>by
  have:=hq H (by rw[e,decide_eq_false hr]; exact h) (.refl _ _)
  rwa [e]at this
 refine qy h (bC rfl ?_)
 obtain⟨⟨s,gs,ns,w,hsl,slo,hc⟩,few,lt,ml⟩:=id h
 have hsl1:=hsl.1
 have hgl:=hc.1
 refine w.FD rfl (bC rfl ?_)
 refine aO (fun _ H'=>H'=H∧wF B=0) (fun j hj=> ?_) ?_
 ·refine aY (fun(s:(Int×Unit)×Unit) H'=>H'=H∧∃i:Nat,s.1.1=i∧i≤B.length∧wF B=xA B ((B.drop i).flatMap (·.ps))) (fun s=>B.length-s.1.1.toNat) ?_ ⟨rfl,0,rfl,Nat.zero_le _,by simp[wF]⟩
  rintro G ⟨⟨i,_⟩,_⟩ H' ⟨rfl,i,hi,hil,hse⟩ hG
  simp only at hi; subst hi
  dsimp only at hG ⊢
  refine w.NW rfl (cu (fun hlt=> ?_) (fun hge=>hj _ _ ⟨rfl,?_⟩))
  ·have hlt:i<B.length:=by omega
   have hx:B[i]? =some B[i]:=List.getElem?_eq_getElem hlt
   rw[List.drop_eq_getElem_cons hlt,List.flatMap_cons]at hse
   generalize B[i]=c at hx hse
   obtain⟨g,hg,cr⟩:=hc.2 i c hx
   have hp:=cr.p
   have hpl:=hp.1
   have hp4:c.ps.length≤4:=by
    have:=okB.ok c (List.mem_of_getElem? hx)
    unfold BH at this
    by_cases hf:Ep c=0
    ·exact um hf
    ·rw[if_neg hf]at this; exact absurd this hf
   refine aX (aX ?_)
   refine aY (fun(s:(Int×Unit)×Unit) H2=>H2=H'∧∃k:Nat,s.1.1=k∧k≤c.ps.length∧wF B=xA B (c.ps.drop k++(B.drop (i+1)).flatMap (·.ps))) (fun s=>c.ps.length-s.1.1.toNat) ?_ ⟨rfl,0,rfl,Nat.zero_le _,by simpa using hse⟩
   rintro G2 ⟨⟨k,_⟩,_⟩ H2 ⟨rfl,k,hk,hkl,hse2⟩ hG2
   simp only at hk; subst hk
   dsimp only at hG2 ⊢
   refine w.NW rfl (KY hsl hg (cu (fun hlt2=> ?_) (fun hge2=> ?_)))
   ·have hlt2:k<c.ps.length:=by omega
    have hy:c.ps[k]? =some c.ps[k]:=List.getElem?_eq_getElem hlt2
    rw[List.drop_eq_getElem_cons hlt2,List.cons_append,LW]at hse2
    generalize c.ps[k]=p at hy hse2
    refine aX (w.NW rfl (KY hsl hg (aZ (T:=TP) hTP hp rfl hy rfl ?_)))
    have next:BA B p=0->G2 ((IntKind.wrap .i64 ((k:Int)+1),()),()) H2:=fun hz=>by
     rw[if_neg (fun q=>q hz)]at hse2
     rw[bT (by omega) (by omega)]
     exact hG2 _ _ ⟨rfl,k+1,by simp,hlt2,hse2⟩ (by simp; omega)
    refine yO (fun hv=>next (QM hv)) (fun hv=>Z4 h (cu (fun hn=> ?_) (fun hn=> ?_)))
    ·dsimp only at hn
     have:=acr hv hn
     exact same 6 (by decide) (by rw[hse2,if_pos (by rw[this]; decide),this])
    ·dsimp only at hn
     obtain⟨i2,c2,q1,q2,q3⟩:=QN hn
     obtain⟨g2,hg2,cr2⟩:=hc.2 i2 c2 q3
     have hkd:g2.Kind=c2.g.Kind:=by rw[←cr2.e]; rfl
     have hce:=QO hv q1 q3
     dsimp only
     rw[q2]
     refine w.NW rfl (afa hsl hg2 ?_)
     rw[hkd]
     refine eP (fun e2=> ?_) (fun e2=>next (by rw[hce,if_neg e2]))
     rw[if_pos e2]at hce
     exact same 8 (by decide) (by rw[hse2,if_pos (by rw[hce]; decide),hce])
   ·rw[QS (by omega)]at hse2
    rw[bT (by omega) (by omega)]
    exact hG _ _ ⟨rfl,i+1,by simp,hlt,hse2⟩ (by simp; omega)
  ·have hge:i=B.length:=by omega
   subst hge
   rw[hse,List.drop_length]; rfl
 rintro _ H2 ⟨rfl,e0⟩
 refine w.abe true (by simp) fun H9 w9 f9=> ?_
 have hF:∀d∈[b],d<m:=fun d hd=>by simp at hd; omega
 have res:=hq H9 (by rw[e0]; exact⟨⟨s,gs,ns,w9,XG hsl slo f9 hF,slo,hc.bP f9 hF⟩,few,lt,by have:=f9.1; omega⟩) f9
 rwa [e0]at res
end
end Go.Proofs.YtijnknjopjmiiaaGreatDoor.Zq
end
section
namespace Go.Proofs.YtijnknjopjmiiaaGreatDoor.Zq
open Zv
section
variable{H:Heap}
theorem XH{T:Tag}(hT:∀x,(T.cells x).length=T.n){s:Sl}{l:List T.α}(h:dB T H s l){i:Int}{n:Nat}{x:T.α}(hi:i=n)(hx:l[n]? =some x){sz:Nat}(hz:sz=T.n){K:Nat->Nat->Prop}(hk:∀b o,(∀H2,dB T H2 s l->∀k:T.α->Prop,k x->LD T H2 b o k)->K b o):bQ s.p s.len i sz K:=by
 have t:=aZ hT h hi hx (k:=fun _=>True) hz trivial
 have hl:=(List.getElem?_eq_some_iff.1 hx).1
 obtain⟨h1,⟨_,h2,_⟩|⟨_,_,_,h2,_⟩|⟨b,A,B,z,o,ro,h3,h4⟩⟩:=id h
 ·subst h2; simp at hl
 ·subst h2; simp at hl
 ·unfold bQ NIL at t ⊢
  rw[h3]at t ⊢
  refine⟨t.1,hk _ _ fun H2 h2 k hk=> ?_⟩
  have t2:=aZ hT h2 hi hx (k:=k) hz hk
  unfold bQ NIL at t2
  rw[h3]at t2
  exact t2.2
structure Z5(ms:List au):Prop where
 l:ms.length=5
 z:∀y,ms[0]? =some y->y.Name.toList=[]∧y.Mark=0
 b:∀y∈ms,-9≤y.Power∧y.Power≤9∧ -9≤y.Health∧y.Health≤9
theorem Z5.zero:Z5 (List.replicate 5 ⟨0,ByteArray.mk #[],0,0⟩):=by
 refine⟨rfl,fun y h=> ?_,fun y h=> ?_⟩
 ·cases h; exact⟨DW,rfl⟩
 ·have:=List.eq_of_mem_replicate h; subst this; simp
theorem Z5.add{ms:List au}(h:Z5 ms)(x:au):Z5 (MB ms x):=by
 unfold MB
 split
 ·rename_i e
  rw[QL]at e
  have hb:¬badM x:=fun q=>by rw[if_pos q]at e; cases e
  unfold badM at hb
  refine⟨by simpa using h.l,fun y hy=> ?_,fun y hy=> ?_⟩
  ·rw[List.getElem?_set_ne (by omega)]at hy; exact h.z y hy
  ·rcases List.mem_or_eq_of_mem_set hy with q|rfl
   ·exact h.b y q
   ·omega
 ·exact h
structure InC(H:Heap)(g:aA):Prop where
 ok:OkG g
 p:∃ps:List Pt,dB TP H g.Parts ps∧ps.length≤1048576∧∀p∈ps,OkP p
def Jr(B:List Cd):Prop:=∀c∈B,OkG c.g∧∀p∈c.ps,OkP p
theorem Jr.add{B:List Cd}(h:Jr B){c:Cd}(hc:OkG c.g∧∀p∈c.ps,OkP p):Jr (Gh B c):=by
 unfold Gh
 split
 ·intro d hd
  rcases YX.1 hd with rfl|q
  ·exact hc
  ·exact h d q
 ·exact h
structure Bks(H0 H:Heap)(a b m:Nat)(se:Bool)(B:List Cd)(ms:List au):Prop where
 p:BP m H a se B ms
 r:BD m H b se B ms
 ok:rD B
 km:Z5 ms
 og:Jr B
 ab:a≠b
 la:H0.length≤a
 lb:H0.length≤b
 f:bK [] H0 H
theorem Bks.new{H0 H H':Heap}{a b m:Nat}{se:Bool}{B:List Cd}{ms:List au}(h:Bks H0 H a b m se B ms)(f:bK [] H H'):Bks H0 H' a b m se B ms:=⟨h.p.new f,h.r.new f,h.ok,h.km,h.og,h.ab,h.la,h.lb,h.f.trans f⟩
theorem BP.up{b m m':Nat}{se:Bool}{ms:List au}(h:BP m H b se [] ms)(h1:m≤m')(h2:m'≤H.length):BP m' H b se [] ms:=by
 obtain⟨⟨cs,ns,w,hc⟩,q1,q2,q3⟩:=h
 exact⟨⟨cs,ns,w,fun i c hx=>by simp at hx⟩,q1,by omega,h2⟩
theorem Bks.step{H0 H1 H2 H3:Heap}{a b m:Nat}{se se':Bool}{B B':List Cd}{ms ms':List au}(h:Bks H0 H1 a b m se B ms)(p:BP m H2 a se' B' ms')(f1:bK [a] H1 H2)(r:BD m H3 b se' B' ms')(f2:bK [b] H2 H3)(ok:rD B')(km:Z5 ms')(og:Jr B'):Bks H0 H3 a b m se' B' ms':=
 ⟨p.bP f2 fun d hd=>by simp at hd; subst hd; exact⟨r.lt,fun e=>h.ab e.symm⟩,r,ok,km,og,h.ab,h.la,h.lb,(h.f.then f1 fun c hc=>by simp at hc; exact .inr (by rw[hc]; exact h.la)).then f2 fun c hc=>by simp at hc; exact .inr (by rw[hc]; exact h.lb)⟩
theorem ag1{x:dG}{gs:List aA}{mks:List au}(hC:dB TC H x.Cards gs)(hl:gs.length≤1048576)(hG':∀g∈gs,InC H g)(hM:dB TM H x.Marks mks)(hml:mks.length≤1048576){Q:(Option Addr)×(Option Addr)×Bool×Unit->Heap->Prop}
  (hq:∀H' a b m se B ms,Bks H H' a b m se B ms->Q (some ⟨a,0,none⟩,some ⟨b,0,none⟩,true,()) H'):CALL P [fG,fG,ah] CU [bY.enc x] H Q:=by
 apply Y2
 unfold Df
 have hcl:=hC.1
 have hmk:=hM.1
 refine aiD fun H1 hp1 f1 l1=>aiE fun H2 hr2 f2 l2=> ?_
 have bk2:Bks H H2 H.length H1.length (H.length+2) false [] (List.replicate 5 ⟨0,ByteArray.mk #[],0,0⟩):=
  ⟨((hp1 (H.length+1) (by omega) (by omega)).new f2).up (by omega) (by omega),hr2 (H.length+2) (by omega) (by omega),⟨by simp,List.Pairwise.nil,by simp⟩,Z5.zero,(fun _ h=>nomatch h),by omega,Nat.le_refl _,by omega,f1.trans f2⟩
 generalize H.length+2=m at bk2
 generalize H1.length=b at bk2
 generalize ha:H.length=a at bk2
 refine aO (fun _ H'=>∃B,Bks H H' a b m false B (List.replicate 5 ⟨0,ByteArray.mk #[],0,0⟩)) (fun j hj=> ?_) ?_
 ·refine aY (fun(t:(Int×Unit)×Unit) H'=>∃(i:Nat) (B:List Cd),t.1.1=i∧i≤gs.length∧Bks H H' a b m false B (List.replicate 5 ⟨0,ByteArray.mk #[],0,0⟩)) (fun t=>gs.length-t.1.1.toNat) ?_ ⟨0,[],rfl,Nat.zero_le _,bk2⟩
  rintro G ⟨⟨i,_⟩,_⟩ H' ⟨i,B,hi,hil,bk⟩ hG
  simp only at hi; subst hi
  dsimp only at hG ⊢
  refine cu (fun hlt=> ?_) (fun hge=>hj _ _ ⟨B,bk⟩)
  have hlt:i<gs.length:=by omega
  have hx:gs[i]? =some gs[i]:=List.getElem?_eq_getElem hlt
  have ig:=hG' gs[i] (List.getElem_mem hlt)
  generalize gs[i]=g at hx ig
  obtain⟨ok,ps,hs,hpl,op⟩:=ig
  refine aZ (T:=TC) hTC (hC.bP bk.f (by simp)) rfl hx rfl (XH (T:=TC) hTC hC rfl hx rfl fun b10 o11 rd=> ?_)
  have rd':∀H2,bK [] H H2->∀K:aA->Prop,K g->LD TC H2 b10 o11 K:=fun H2 f K hk=>rd H2 (hC.bP f (by simp)) K hk
  refine rd' H' bk.f _ (ZY (hs.bP bk.f (by simp)) (by omega) fun s1 H5 hs1 lo1 f5=>⟨rfl,rd' H5 (bk.f.trans f5) _ ⟨rfl,?_⟩⟩)
  have bk5:=bk.new f5
  have okg:∀s,OkG { g with Parts:=s }:=fun s=>⟨ok.nm,ok.s,ok.k,ok.t⟩
  have haH:a<H'.length:=by have:=bk.p.lt; have:=bk.p.ml; omega
  refine agV bk5.p bk5.ok (okg s1) hs1 op (fun d hd=>by have:=lo1 d hd; omega) fun H6 p6 f6=>⟨rfl,?_⟩
  have f06:bK [] H H6:=bk5.f.then f6 fun c hc=>by simp at hc; exact .inr (by rw[hc]; exact bk.la)
  refine rd' H6 f06 _ ⟨rfl,ZY (hs.bP f06 (by simp)) (by omega) fun s2 H7 hs2 lo2 f7=> ?_⟩
  have r7:BD m H7 b false B _:=(bk5.r.bP f6 fun d hd=>by simp at hd; subst hd; exact⟨bk5.p.lt,bk5.ab⟩).new f7
  refine agY r7 (okg s2) hs2 op fun H8 r8 f8=>bC (by simp[bare]) ?_
  rw[bT (by omega) (by omega)]
  exact hG _ _ ⟨i+1,_,by simp,hlt,bk5.step (p6.new f7) (f6.trans (f7.mono (by simp))) r8 f8 (agJ bk5.ok _) bk5.km (bk5.og.add ⟨⟨ok.nm,ok.s,ok.k,ok.t⟩,op⟩)⟩ (by simp; omega)
 rintro _ H3 ⟨B,bk3⟩
 refine aO (fun _ H'=>∃ms,Bks H H' a b m false B ms) (fun j hj=> ?_) ?_
 ·refine aY (fun(t:(Int×Unit)×Unit) H'=>∃(i:Nat) (ms:List au),t.1.1=i∧i≤mks.length∧Bks H H' a b m false B ms) (fun t=>mks.length-t.1.1.toNat) ?_ ⟨0,_,rfl,Nat.zero_le _,bk3⟩
  rintro G ⟨⟨i,_⟩,_⟩ H' ⟨i,ms,hi,hil,bk⟩ hG
  simp only at hi; subst hi
  dsimp only at hG ⊢
  refine cu (fun hlt=> ?_) (fun hge=>hj _ _ ⟨ms,bk⟩)
  have hlt:i<mks.length:=by omega
  have hx:mks[i]? =some mks[i]:=List.getElem?_eq_getElem hlt
  generalize mks[i]=g at hx
  refine aZ (T:=TM) hTM (hM.bP bk.f (by simp)) rfl hx rfl (XH (T:=TM) hTM hM rfl hx rfl fun b10 o11 rd=> ?_)
  have rd':∀H2,bK [] H H2->∀K:au->Prop,K g->LD TM H2 b10 o11 K:=fun H2 f K hk=>rd H2 (hM.bP f (by simp)) K hk
  refine rd' H' bk.f _ (agW bk.p fun H6 p6 f6=>⟨rfl,?_⟩)
  have f06:bK [] H H6:=bk.f.then f6 fun c hc=>by simp at hc; exact .inr (by rw[hc]; exact bk.la)
  refine rd' H6 f06 _ ⟨rfl,?_⟩
  have r6:BD m H6 b false B ms:=bk.r.bP f6 fun d hd=>by simp at hd; subst hd; exact⟨bk.p.lt,bk.ab⟩
  refine agZ r6 (fun y hy=>(bk.km.z y hy).1) fun H8 r8 f8=>bC (by simp) ?_
  rw[bT (by omega) (by omega)]
  exact hG _ _ ⟨i+1,_,by simp,hlt,bk.step p6 f6 r8 f8 bk.ok (bk.km.add g) bk.og⟩ (by simp; omega)
 rintro _ H9 ⟨ms,bk9⟩
 refine aO (fun y H'=>(y:(Bool×Unit)×Unit).1.1=false∧∃se,Bks H H' a b m se B ms) (fun j hj=> ?_) ?_
 ·refine bG (fun _=> ?_) (fun _=>hj _ _ ⟨rfl,false,bk9⟩)
  refine agX bk9.p bk9.ok fun H14 p14 f14=> ?_
  have r14:BD m H14 b false B ms:=bk9.r.bP f14 fun d hd=>by simp at hd; subst hd; exact⟨bk9.p.lt,bk9.ab⟩
  exact ag0 r14 bk9.ok fun H15 r15 f15=>hj _ _ ⟨by simp,_,bk9.step p14 f14 r15 f15 bk9.ok bk9.km bk9.og⟩
 rintro⟨⟨r,_⟩,_⟩ H13 ⟨hr,se,bk13⟩
 simp only at hr; subst hr
 refine bC rfl (Vu bk13.p (KX bk13.r ?_))
 have:=hq H13 a b m se B ms bk13
 simpa using this
end
end Go.Proofs.YtijnknjopjmiiaaGreatDoor.Zq
end
section
namespace Go.Proofs.YtijnknjopjmiiaaGreatDoor.Zq
section
open Go.Sort Go.RowKit
theorem Stp.aiF{M:Mp}{H:Heap}{w W:World}(h:HR M H w){b:Nat}{e:jL}{c c2:List Value}{sz:Nat}{opn:Bool}(hk:H[b]? =some (.row c sz opn false true))(he:M[b]? =some (some e))(hl:c2.length=c.length)
  {a a2:Array Value} {t:TypeId} (_hw:w.heap[e.blk]? =some (.cells a t (0,0))) (hsz:a2.size=a.size) (hle:e.base+c2.length≤a2.size) (hcs:a.size=e.csz) (hv:VL M c2 ((a2.toList.drop e.base).take c2.length))
  (hWe:W.heap[e.blk]? =some (.cells a2 t (0,0))) (hWo:∀k,k≠e.blk->W.heap[k]? =w.heap[k]?) (hWs:W.heap.size=w.heap.size) (hWos:W.os=w.os) (hWout:W.output=w.output) (hWt:W.tape=w.tape) (hWd:w.drawn≤W.drawn):
  Stp M H w M (H.set b (.row c2 sz opn false true)) W:=by
 have hblen:b<H.length:=(List.getElem?_eq_some_iff.1 hk).1
 have hset:∀(j:Nat),j≠b->(H.set b (.row c2 sz opn false true))[j]? =H[j]? :=fun j hj=>by rw[List.getElem?_set_ne (Ne.symm hj)]
 have hsetb:(H.set b (.row c2 sz opn false true))[b]? =some (.row c2 sz opn false true):=by rw[List.getElem?_set_self hblen]
 have hlive:∀j:Nat,bZ (H.set b (.row c2 sz opn false true)) j↔bZ H j:=by
  intro j; by_cases hj:j=b
  ·subst hj; unfold bZ; rw[hsetb,hk]
  ·unfold bZ; rw[hset j hj]
 have hwrit:∀j:Nat,bI (H.set b (.row c2 sz opn false true)) j↔bI H j:=by
  intro j; by_cases hj:j=b
  ·subst hj; unfold bI; rw[hsetb,hk]
  ·unfold bI; rw[hset j hj]
 have hwb:bI H b:=by unfold bI; rw[hk]; exact⟨rfl,rfl⟩
 obtain⟨q1,q2,q3,_⟩:=h.blk b e _ he hk
 refine⟨.refl M,⟨by simpa using h.len,?_,?_⟩,hWos,hWout,hWt,by omega,hWd,?_,?_,fun j hj=>⟨hj,hset j fun e0=>by subst e0; rw[he]at hj; simp at hj⟩,fun j ej hj hl _=>⟨j,ej,hj,(hlive j).1 hl,rfl⟩⟩
 ·intro j ej kj hj hkj
  by_cases hjb:j=b
  ·subst hjb
   rw[he]at hj; simp at hj; subst hj
   rw[hsetb]at hkj; simp at hkj; subst hkj
   exact⟨q1,by rw[q2,hl],q3,fun _=>⟨a2,t,(0,0),hWe,by rw[hsz,hcs],hle,hv,fun _=>rfl⟩⟩
  ·rw[hset j hjb]at hkj
   refine(h.blk j ej kj hj hkj).same fun hlv=>hWo _ ?_
   have hlj:bZ H j:=by unfold bZ; rw[hkj]; cases kj<;>first|exact hlv|trivial
   exact(h.sep b j e ej (Ne.symm hjb) he hj hwb hlj).symm
 ·intro j j' ej ej' hne hj hj' h1 h2
  exact h.sep j j' ej ej' hne hj hj' ((hwrit j).1 h1) ((hlive j').1 h2)
 ·intro k hk2 hn
  exact hWo k fun e0=>hn b e he hwb e0.symm
 ·intro j ej hj h1 _
  exact⟨j,ej,hj,(hwrit j).1 h1,rfl⟩
theorem Stp.grown{M:Mp}{H:Heap}{w:World}(h:HR M H w)(os:Array Obj):Stp M H w M H (grow w os):=by
 have hh:∀j,j<w.heap.size->(grow w os).heap[j]? =w.heap[j]? :=fun j hj=>by
  show(w.heap++os)[j]? =_
  rw[Array.getElem?_append_left hj]
 refine⟨.refl M,⟨h.len,fun b e k hb hk=>(h.blk b e k hb hk).same fun hlv=>hh _ (h.ny hb ?_),h.sep⟩,rfl,rfl,rfl,by show w.heap.size≤(w.heap++os).size; simp,Nat.le_refl _,fun c hc _=>hh c hc,fun b e hb hw _=>⟨b,e,hb,hw,rfl⟩,fun _ h=>⟨h,rfl⟩,fun b e hb hw _=>⟨b,e,hb,hw,rfl⟩⟩
 unfold bZ; rw[hk]; cases k<;>first|exact hlv|trivial
def akx:iF->iF
 | .row c sz o _ l=>.row c sz o true l
 |k=>k
def frz(H:Heap):Heap:=H.map akx
theorem Jd{H:Heap}{b:Nat}{c:List Value}{sz:Nat}{o r l:Bool}(h:H[b]? =some (.row c sz o r l)):(frz H)[b]? =some (.row c sz o true l):=by
 unfold frz; rw[List.getElem?_map,h]; rfl
theorem dB.frz{T:Tag}{H:Heap}{s:Sl}{l:List T.α}(h:dB T H s l):dB T (Zq.frz H) s l:=by
 obtain⟨h1,h2|h2|⟨b,A,B,sz,o,ro,h3,h4⟩⟩:=h
 ·exact⟨h1,.inl h2⟩
 ·exact⟨h1,.inr (.inl h2)⟩
 ·exact⟨h1,.inr (.inr ⟨b,A,B,sz,o,true,h3,Jd h4⟩)⟩
def inS(S:List Nat):Value->Prop
 | .bool _| .int _ _| .string _| .pointer none| .slice none 0 0| .slice (some ⟨_,_,some 0⟩) 0 0=>True
 | .pointer (some a)=>a.block∈S∧a.spot=none
 | .slice (some a) _ _=>a.block∈S∧a.spot=none
 |_=>False
def Clo(S:List Nat)(H:Heap):Prop:=∀b∈S,∃c sz o r l,H[b]? =some (.row c sz o r l)∧∀v∈c,inS S v
def msk(S:List Nat)(M:Mp):Mp:=M.zipIdx.map fun p=>if p.2∈S then p.1 else none
theorem afb{S:List Nat}{M:Mp}{b:Nat}:(msk S M)[b]? =if b∈S then M[b]? else M[b]?.map fun _=>none:=by
 unfold msk
 rw[List.getElem?_map,List.getElem?_zipIdx]
 cases M[b]? with
 |none=>simp
 |some x=>simp only[Option.map_some,Nat.zero_add]; split<;>rfl
theorem XI{S:List Nat}{M:Mp}{b:Nat}{e:jL}(h:(msk S M)[b]? =some (some e)):M[b]? =some (some e)∧b∈S:=by
 rw[afb]at h
 split at h
 ·rename_i hb; exact⟨h,hb⟩
 ·cases hm:M[b]? with
  |none=>rw[hm]at h; simp at h
  |some x=>rw[hm]at h; simp at h
theorem afc{S:List Nat}{M:Mp}{b:Nat}{e:jL}(h:M[b]? =some (some e))(hb:b∈S):(msk S M)[b]? =some (some e):=by rw[afb,if_pos hb]; exact h
theorem afd{S:List Nat}{M:Mp}{v u:Value}(h:VR M v u)(hv:inS S v):VR (msk S M) v u:=by
 cases h with
 |bool b=>exact .bool b
 |int k n=>exact .int k n
 |float k n=>exact .float k n
 |string s=>exact .string s
 |ptr0=>exact .ptr0
 |ptr h=>exact .ptr (afc h hv.1)
 |slice0=>exact .slice0
 |slice h hc=>exact .slice (afc h hv.1) hc
 |sliceE=>exact .sliceE
 |map0=>exact .map0
 |nilFunc=>exact .nilFunc
 |nilIface=>exact .nilIface
 |_=>exact hv.elim
theorem aiH{S:List Nat}{M:Mp}{H:Heap}{w:World}(h:HR M H w)(hc:Clo S H):HR (msk S M) (frz H) w:=by
 refine⟨by simp[msk,frz,h.len],fun b e k hb hk=> ?_,fun b b' e e' _ hb _ hw _=> ?_⟩
 ·obtain⟨h1,hS⟩:=XI hb
  obtain⟨c,sz,o,r,l,h2,h3⟩:=hc b hS
  rw[Jd h2]at hk
  simp at hk; subst hk
  obtain⟨q1,q2,q3,q4⟩:=h.blk b e _ h1 h2
  refine⟨q1,q2,q3,fun hl=> ?_⟩
  obtain⟨c',t,fz,g1,g2,g3,g4,_⟩:=q4 hl
  exact⟨c',t,fz,g1,g2,g3,⟨g4.1,fun i x u hx hu=>afd (g4.2 i x u hx hu) (h3 x (List.mem_of_getElem? hx))⟩,fun h=>by cases h⟩
 ·obtain⟨_,hS⟩:=XI hb
  obtain⟨c,sz,o,r,l,h2,_⟩:=hc b hS
  unfold bI at hw
  rw[Jd h2]at hw
  simp at hw
theorem aiI{S:List Nat}{M:Mp}{H:Heap}(hc:Clo S H):∀(b:Nat) (e:jL),(msk S M)[b]? =some (some e)->¬bI (frz H) b:=fun b e hb hw=>by
 obtain⟨_,hS⟩:=XI hb
 obtain⟨c,sz,o,r,l,h2,_⟩:=hc b hS
 unfold bI at hw
 rw[Jd h2]at hw
 simp at hw
theorem Z7{w w':World}(h1:w'.os=w.os)(h2:w'.output=w.output)(h3:w'.tape=w.tape)(h4:w.heap.size≤w'.heap.size)(h5:w.drawn≤w'.drawn)(h6:∀c:Nat,c<w.heap.size->w'.heap[c]? =w.heap[c]?):∃q os,w'=grow (w.drewN q) os:=by
 refine⟨w'.drawn-w.drawn,w'.heap.extract w.heap.size w'.heap.size,?_⟩
 have hh:w'.heap=w.heap++w'.heap.extract w.heap.size w'.heap.size:=by
  apply Array.ext_getElem?
  intro i
  by_cases hi:i<w.heap.size
  ·rw[h6 i hi,Array.getElem?_append_left hi]
  ·rw[Array.getElem?_append_right (by omega),Array.getElem?_extract]
   by_cases hj:i<w'.heap.size
   ·rw[if_pos (by omega)]; congr 1; omega
   ·rw[if_neg (by omega),Array.getElem?_eq_none (by omega)]
 cases w; cases w'
 simp only at h1 h2 h3 h5 hh ⊢
 subst h1; subst h2; subst h3
 unfold grow World.drewN
 simp only[World.mk.injEq,and_true,true_and]
 exact⟨hh,by omega⟩
section
variable{P:Program}{ρ:Go.Shelf.Ren}{α:Type}[Inhabited α]
abbrev TI1:Tag:=aj .i64
def UY(l:List Int):iF:=.row (fl TI1 l) 1 false false true
theorem Oi(l:List Int):fl TI1 l=l.map (Value.int .i64):=by
 induction l with
 |nil=>rfl
 |cons x r ih=>simp only[fl,List.flatMap_cons,List.map_cons]at ih ⊢; rw[ih]; rfl
theorem Z8{M:Mp}{H:Heap}{w:World}(h:HR M H w)(enc:α->Int){b:Nat}{d:List α}{sp:List Int}(hk:H[b]? =some (UY (d.map enc++sp))){e:jL}(he:M[b]? =some (some e))(m:Nat)(os:Array Obj)(dk:Array α)(hd:dk.size=d.length):
  Stp M H w M (H.set b (UY (dk.toList.map enc++sp))) (Go.Proofs.sortWorld (fun x=>Value.int .i64 (enc x)) w e.blk (e.base+0) m dk os):=by
 obtain⟨q1,q2,q3,q4⟩:=h.blk b e _ he hk
 obtain⟨a,t,fz,g1,g2,g3,g4,g5⟩:=q4 rfl
 have hfz:=g5 rfl; subst hfz
 have hlt:e.blk<w.heap.size:=(Array.getElem?_eq_some_iff.1 g1).1
 have hlen:∀l:List Int,(fl TI1 l).length=l.length:=fun l=>by rw[Oi]; simp
 have hL:(fl TI1 (dk.toList.map enc++sp)).length=(fl TI1 (d.map enc++sp)).length:=by rw[hlen,hlen]; simp[hd]
 have hps:(putCells (fun x=>Value.int .i64 (enc x)) (e.base+0) dk a).size=a.size:=by simp[putCells]
 have hpl:(putCells (fun x=>Value.int .i64 (enc x)) (e.base+0) dk a).toList.length=a.size:=by rw[Array.length_toList,hps]
 have hvl:VL M (fl TI1 (dk.toList.map enc++sp)) (((putCells (fun x=>Value.int .i64 (enc x)) (e.base+0) dk a).toList.drop e.base).take (fl TI1 (dk.toList.map enc++sp)).length):=by
  refine⟨by rw[List.length_take,List.length_drop,hpl,hL]; omega,fun i x u hx hu=> ?_⟩
  have hi:i<(fl TI1 (dk.toList.map enc++sp)).length:=(List.getElem?_eq_some_iff.1 hx).1
  rw[List.getElem?_take,if_pos hi,List.getElem?_drop,Array.getElem?_toList]at hu
  unfold putCells at hu
  rw[Array.getElem?_mapIdx,Option.map_eq_some_iff]at hu
  obtain⟨y,hy,hu⟩:=hu
  rw[Oi,List.getElem?_map,Option.map_eq_some_iff]at hx
  obtain⟨z,hz,rfl⟩:=hx
  by_cases hik:i<dk.size
  ·rw[if_pos (by omega)]at hu
   rw[List.getElem?_append_left (by simpa using hik),List.getElem?_map,Option.map_eq_some_iff]at hz
   obtain⟨v,hv,rfl⟩:=hz
   have:dk[e.base+i-(e.base+0)]! =v:=by
    rw[show e.base+i-(e.base+0)=i by omega]
    rw[Array.getElem?_toList]at hv
    rw[getElem!_def,hv]
   rw[this]at hu; subst hu
   exact .int _ _
  ·rw[if_neg (by omega)]at hu
   subst hu
   refine g4.2 i _ _ ?_ ?_
   ·rw[Oi,List.getElem?_map,Option.map_eq_some_iff]
    refine⟨z,?_,rfl⟩
    rw[List.getElem?_append_right (by simp; omega)]at hz ⊢
    simp only[List.length_map,Array.length_toList]at hz ⊢
    rw[←hd]; exact hz
   ·rw[hL]at hi
    rw[List.getElem?_take,if_pos hi,List.getElem?_drop,Array.getElem?_toList]; exact hy
 have S1:Stp M H w M (H.set b (UY (dk.toList.map enc++sp))) (putRow (fun x=>Value.int .i64 (enc x)) (Go.Sort.ahead w m) e.blk (e.base+0) dk):=by
  refine Stp.aiF h hk he hL g1 hps (by rw[hps,hL]; exact g3) g2 hvl ?_ (fun k hne=> ?_) ?_ rfl rfl rfl ?_
  ·show(w.heap.modify e.blk _)[e.blk]? =_
   rw[Array.getElem?_modify,if_pos rfl,g1]; rfl
  ·show(w.heap.modify e.blk _)[k]? =_
   rw[Array.getElem?_modify,if_neg (Ne.symm hne)]
  ·show(w.heap.modify e.blk _).size=_
   simp
  ·show w.drawn≤w.drawn+m; omega
 exact S1.trans (Stp.grown S1.hr os)
theorem Z9(L:Go.Proofs.SlLaysF.n6 P ρ)(hfn:∃fn,P.funcs[ρ.f 6]? =some fn∧fn.body.isSome=true∧(fn.name=="runtime.NumGoroutine")=false)(enc:α->Int)(cf:α->α->Int)(hO:SWO (Go.Proofs.ltOf cf))
  {H:Heap} {b cap:Nat} {d:List α} {sp:List Int} (hk:H[b]? =some (UY (d.map enc++sp))) (hsz:d.length<4611686018427387904) {g:FuncId} {cv:List Value} (eg:∀args w,(callFunc g args).run P w= .ok (.enter g args) w) {S:List Nat} (hS:∀dk:List α,dk.length=d.length->Clo S (H.set b (UY (dk.map enc++sp))))
  (hcv:∀v∈cv,inS S v) (hcmp:∀dk:List α,dk.length=d.length->∀x y,EV P g ([.int .i64 (enc x),.int .i64 (enc y)]++cv) (frz (H.set b (UY (dk.map enc++sp)))) fun v _=>v= .int .i64 (cf x y))
  {Q:Heap->Prop} (hq:∀d':List α,d'.Perm d->(∀i j:Nat,i<j->∀x y,d'[i]? =some x->d'[j]? =some y->Go.Proofs.ltOf cf y x=false)->Q (H.set b (UY (d'.map enc++sp)))):
  CALL P [] (ρ.f 6) [.slice (some ⟨b,0,none⟩) d.length cap,.func (.func g) #[] cv.toArray] H fun _ H'=>Q H':=by
 refine⟨hfn,fun n M w args' hr hv=> ?_⟩
 obtain⟨v1,vs1,rfl,h1,hv1⟩:=hv.of_cons
 obtain⟨v2,vs2,rfl,h2,hv2⟩:=hv1.of_cons
 have:=hv2.of_nil; subst this
 obtain⟨e,c,he,hc,rfl⟩:=h1.of_slice
 obtain⟨cb,rfl,hcb⟩:∃cb:Array Value,v2= .func (.func g) #[] cb∧VL M cv cb.toList:=by
  cases h2 with
  |func hx hy gx gy=>
   rename_i us vs
   have:us= #[]:=Array.eq_empty_of_size_eq_zero (by simpa using hx.symm)
   subst this
   exact⟨vs,rfl,by simpa using hy,fun i x u hx hu=>gy i x u (by simpa using hx) (by simpa using hu)⟩
 obtain⟨q1,q2,q3,q4⟩:=hr.blk b e _ he hk
 obtain⟨a,t,fz,g1,g2,g3,g4,g5⟩:=q4 rfl
 have hfz:=g5 rfl; subst hfz
 have hlt:e.blk<w.heap.size:=(Array.getElem?_eq_some_iff.1 g1).1
 have hH:Holds (fun x=>Value.int .i64 (enc x)) w e.blk (e.base+0) d.toArray:=fun j hj=>by
  have hj':j<d.length:=by simpa using hj
  have hx:(fl TI1 (d.map enc++sp))[j]? =some (.int .i64 (enc d[j])):=by
   rw[Oi,List.getElem?_map,List.getElem?_append_left (by simpa using hj'),List.getElem?_map,List.getElem?_eq_getElem hj']; rfl
  have hjl:=(List.getElem?_eq_some_iff.1 hx).1
  have hu:((a.toList.drop e.base).take (fl TI1 (d.map enc++sp)).length)[j]? =a[e.base+j]? :=by
   rw[List.getElem?_take,if_pos hjl,List.getElem?_drop,Array.getElem?_toList]
  have hin:e.base+j<a.size:=by omega
  have:=g4.2 j _ a[e.base+j] hx (by rw[hu]; exact Array.getElem?_eq_getElem hin)
  have:=this.of_int
  refine⟨?_,?_⟩
  ·simp only[World.cell?,g1]
   rw[if_neg (by simp),show e.base+0+j=e.base+j by omega,Array.getElem?_eq_getElem hin,this]
   congr 3
   simp[hj']
  ·simp only[World.frozen?,g1]; simp
 have hl:Go.Proofs.CmpLays1 P g cb (fun x=>Value.int .i64 (enc x)) cf e.blk (e.base+0) d.toArray.size w:=fun m os dk hs x y=>by
  have hs':dk.size=d.length:=by simpa using hs
  have st:=Z8 hr enc hk he m os dk hs'
  have hclo:=hS dk.toList (by simpa using hs')
  have hev:=(hcmp dk.toList (by simpa using hs') x y).2 0 (msk S M) _ ([.int .i64 (enc x),.int .i64 (enc y)]++cb.toList) (aiH st.hr hclo) (by
   refine VL.cons (.int _ _) (VL.cons (.int _ _) ⟨hcb.1,fun i p q hp hq=>afd (hcb.2 i p q hp hq) (hcv p (List.mem_of_getElem? hp))⟩))
  have hca:=callsIn_wide.1 hev
  have eargs:([Value.int .i64 (enc x),Value.int .i64 (enc y)]++cb.toList).toArray= #[Value.int .i64 (enc x),Value.int .i64 (enc y)]++cb:=by apply Array.ext'; simp
  rw[eargs]at hca
  refine hca.mono ?_
  rintro en w' ⟨v,v',M',H',rfl,s2,hvr,rfl⟩
  have:=hvr.of_int; subst this
  exact⟨rfl,Z7 s2.os s2.output s2.tape s2.size s2.dr fun c hc2=>s2.frame c hc2 fun b' e' hb' hw' _=>aiI hclo b' e' hb' hw'⟩
 have hsf:=Go.Proofs.Any.slices_SortFunc L (fun x=>Value.int .i64 (enc x)) (fun x=>rfl) cf hO g cb e.blk (e.base+0) c d.toArray w eg hl hH hlt (by simpa using hsz)
 have hsz2:d.toArray.size=d.length:=by simp
 rw[hsz2]at hsf
 refine callsIn_wide.2 (hsf.mono ?_)
 rintro en w' ⟨rfl,d',m,os,hp,hso,rfl⟩
 obtain⟨p1,p2,p3⟩:=hp
 have hd's:d'.size=d.length:=by simpa using p1
 have hperm:d'.toList.Perm d:=by
  have e1:d'.extract 0 d.length=d':=by rw[←hd's]; simp
  have e2:d.toArray.extract 0 d.length=d.toArray:=by simp
  rw[e1,e2]at p3
  simpa using p3
 refine⟨_,_,M,_,rfl,Z8 hr enc hk he m os d' hd's,VR.tuple rfl (fun i x u h _=>by simp at h),(),rfl,hq d'.toList hperm fun i j hij x y hx hy=> ?_⟩
 rw[Array.getElem?_toList]at hx hy
 have hj:j<d'.size:=(Array.getElem?_eq_some_iff.1 hy).1
 have:=hso i j (Nat.zero_le _) hij (by omega)
 rw[getElem!_def,getElem!_def,hx,hy]at this
 exact this
end
end
section
open Go.Sort Go.RowKit Zv
theorem ag3{P:Program}{f:FuncId}(hfn:∃fn,P.funcs[f]? =some fn∧fn.body.isSome=true∧(fn.name=="runtime.NumGoroutine")=false){H:Heap}{p:Option Addr}{cap:Nat}{us:List Value}
  (hs:∀(p:Option Addr) (cap:Nat) (vs:List Value) (w:World),vs.length=us.length->Calls P f (.slice p 0 cap::vs).toArray w fun e w'=>e= .returned (.tuple #[])∧w'=w) {Q:Unit->Heap->Prop} (hq:Q () H):CALL P [] f (.slice p 0 cap::us) H Q:=by
 refine⟨hfn,fun n M w args' hr hv=> ?_⟩
 obtain⟨v1,vs1,rfl,h1,hv1⟩:=hv.of_cons
 obtain⟨q,c,rfl⟩:∃q c,v1= .slice q 0 c:=by cases h1<;>exact⟨_,_,rfl⟩
 refine callsIn_wide.2 ((hs q c vs1 w (by have:=hv1.1; exact this.symm)).mono ?_)
 rintro en w' ⟨rfl,rfl⟩
 exact⟨.tuple #[],_,M,H,rfl,.refl hr,VR.tuple rfl (fun i x u h _=>by simp at h),(),rfl,hq⟩
end
end Go.Proofs.YtijnknjopjmiiaaGreatDoor.Zq
end
section
namespace Go.Proofs.YtijnknjopjmiiaaGreatDoor.Zq
open Zv
section
open Go.Proofs Go.RowKit
abbrev Tg:=bf
abbrev gX:Tag:=aV
abbrev TF:Tag:=aI
abbrev dX:Tag:=aj .i64
theorem GX(x:Tg):(gX.cells x).length=gX.n:=rfl
theorem KZ(x:aB):(TF.cells x).length=TF.n:=rfl
theorem uP(x:Int):(dX.cells x).length=dX.n:=rfl
variable{H:Heap}
def aac:Value->Prop
 | .bool _| .int _ _| .string _=>True
 |_=>False
theorem aac.inS{S:List Nat}{v:Value}(h:aac v):inS S v:=by
 cases v<;>first|trivial|exact h.elim
theorem fP{s:Sl}{l:List Tg}(h:dB gX H s l){i:Int}{n:Nat}{x:Tg}(hi:i=n)(hx:l[n]? =some x){K:Int->Prop}(hK:K x.Stamp):bQ s.p s.len i 11 fun b o=>LD dX H b (o+3) K:=by
 have hl:=(List.getElem?_eq_some_iff.1 hx).1
 obtain⟨h1,⟨_,h2,_⟩|⟨_,_,_,h2,_⟩|⟨b,A,B,z,o,ro,h3,h4⟩⟩:=h
 ·subst h2; simp at hl
 ·subst h2; simp at hl
 ·subst hi
  unfold bQ NIL
  rw[h3]
  refine⟨⟨by omega,by omega⟩,?_⟩
  refine dV (T:=dX) x.Stamp (A++(fl gX (l.take n)++(gX.cells x).take 3)) ((gX.cells x).drop 4++(fl gX (l.drop (n+1))++B)) h4 ?_ ?_ rfl hK
  ·rw[iZ (T:=gX) l n x hx]; simp[List.append_assoc]
  ·rw[List.length_append,List.length_append,dD GX,List.length_take,Nat.min_eq_left (by omega),Int.toNat_natCast]
   show A.length+n*11+3=A.length+(n*11+3); omega
theorem aiJ{cb:Nat}{s:Sl}{ts:List Tg}(hc:∃sz o ro,H[cb]? =some (.row [s.v] sz o ro true))(hs:dB gX H s ts){i j:Nat}{x y:Tg}(hi:ts[i]? =some x)(hj:ts[j]? =some y)
  (hx:1≤x.Stamp∧x.Stamp≤9223372036854775807) (hy:1≤y.Stamp∧y.Stamp≤9223372036854775807) {Q:Int×Unit->Heap->Prop} (hq:Q (x.Stamp-y.Stamp,()) H):CALL P [dX] fH [.int .i64 (i:Int),.int .i64 (j:Int),.pointer (some ⟨cb,0,none⟩)] H Q:=by
 apply Nh (c0:=(cb,0))
 unfold rO
 obtain⟨sz,o,ro,hc⟩:=hc
 have ld:∀k:Sl->Prop,k s->LD aH H cb 0 k:=fun k hk=>dV (T:=aH) s [] [] hc rfl rfl rfl hk
 refine ld _ (fP hs rfl hi (ld _ (fP hs rfl hj ?_)))
 rw[bT (by omega) (by omega)]
 exact hq
theorem LX{α:Type}{enc:α->Int}:∀l:List Int,(∀m∈l,∃x,enc x=m)->∃d:List α,d.map enc=l
 |[],_=>⟨[],rfl⟩
 |m::r,h=>by
  obtain⟨x,hx⟩:=h m (by simp)
  obtain⟨d,hd⟩:=LX r fun m hm=>h m (by simp[hm])
  exact⟨x::d,by simp[hx,hd]⟩
def bH(ts:List Tg)(k:Nat):Int:=((ts[k]?).map (·.Stamp)).getD 0
def Flat(H:Heap)(s:Sl):Prop:=∀d off,s.p=some ⟨d,off,none⟩->∃c sz o r l,H[d]? =some (.row c sz o r l)∧∀v∈c,aac v
def abf(s:Sl):List Nat:=match s.p with|some ⟨d,_,none⟩=>[d]|_=>[]
theorem ag4{H0 H3:Heap}{vb:Nat}{a1 so:Sl}{ts:List Tg}{l sp:List Int}(n1:aW dX H0 so H3 l sp)(hv:∃sz,H3[vb]? =some (.row [a1.v] sz false false true))(hs:dB gX H3 a1 ts)(hf:Flat H3 a1)(hvb:vb<H0.length)(htb:∀d off,a1.p=some ⟨d,off,none⟩->d<H0.length)
  (hl:∀m∈l,∃(k:Nat) (t:Tg),m=k∧ts[k]? =some t∧1≤t.Stamp∧t.Stamp≤9223372036854775807) (hll:l.length≤100) {Q:Unit->Heap->Prop}
  (hq:∀H' l',l'.Perm l->(∀(i j:Nat) a b,i<j->l'[i]? =some a->l'[j]? =some b->bH ts a.toNat≤bH ts b.toNat)->aW dX H0 so H' l' sp->After so H3 H'->Q () H'):
  CALL P [] iw [so.v,.func (.func fH) #[] #[.pointer (some ⟨vb,0,none⟩)]] H3 Q:=by
 have hfn:∃fn,P.funcs[iw]? =some fn∧fn.body.isSome=true∧(fn.name=="runtime.NumGoroutine")=false:=by
  obtain⟨nm,hnm,hf⟩:=ahZ.f6
  exact⟨_,hf,by kernel_rfl,hnm⟩
 by_cases hne:l=[]
 ·subst hne
  obtain⟨o1,o2,o0,o3⟩:=id n1.1
  obtain⟨p,n,cp⟩:=so
  simp only at o1; simp at o1; subst o1
  refine ag3 hfn (us:=[_]) (fun p cap vs w hv=> ?_) (hq H3 [] (List.Perm.refl _) (fun i j a b _ h=>by simp at h) n1 (.refl _ _))
  obtain⟨v,rfl⟩:=List.length_eq_one_iff.1 hv
  exact slices_SortFunc_none (α:=Int) p cap v w
 obtain⟨o1,o2,o0,⟨o3,o4,o5⟩|⟨c,o3,o4⟩⟩:=id n1.1
 ·exact absurd o4 hne
 have hcl:=cZ o4
 have hc1:H0.length≤c:=n1.2.1 c o3
 let A:={ k:Nat // ∃t,ts[k]? =some t∧1≤t.Stamp∧t.Stamp≤9223372036854775807 }
 let enc:A->Int:=fun k=>(k.1:Int)
 let cf:A->A->Int:=fun x y=>bH ts x.1-bH ts y.1
 obtain⟨d,hd⟩:∃d:List A,d.map enc=l:=LX l fun m hm=>by
  obtain⟨k,t,rfl,h1,h2⟩:=hl m hm
  exact⟨⟨k,t,h1,h2⟩,rfl⟩
 have hdl:d.length=l.length:=by rw[←hd]; simp
 have inst:Inhabited A:=⟨d.head (fun e=>hne (by rw[←hd,e]; rfl))⟩
 obtain⟨p,n,cp⟩:=so
 simp only at o1 o2 o3; subst o3
 rw[←hdl]at o1; subst o1
 rw[←hd]at o4
 have hO:Go.Sort.SWO (ltOf cf):=by
  have e:∀x y,ltOf cf x y=decide (bH ts x.1<bH ts y.1):=fun x y=>by
   simp only[ltOf,cf]; congr 1; rw[eq_iff_iff]; omega
  refine⟨fun x=>by rw[e]; simp,fun x y w=> ?_,fun x y w=> ?_⟩
  ·simp only[e,decide_eq_true_eq]; omega
  ·simp only[e,decide_eq_false_iff_not]; omega
 have hsb:∀e∈abf a1,∃off,a1.p=some ⟨e,off,none⟩:=fun e he=>by
  unfold abf at he
  split at he
  ·rename_i d off hp; simp at he; subst he; exact⟨off,hp⟩
  ·cases he
 have hcS:c∉vb::abf a1:=fun hm=>by
  rcases List.mem_cons.1 hm with e|hm
  ·omega
  ·obtain⟨off,hp⟩:=hsb c hm
   have:=htb c off hp; omega
 have hav:inS (vb::abf a1) a1.v:=by
  obtain⟨q,n',cp'⟩:=a1
  obtain⟨g1,⟨g2,g3,g4⟩|⟨b',off',g2,g3,g4⟩|⟨b',A',B',z',o',ro',g2,_⟩⟩:=id hs
  ·simp only at g1 g2 g4; subst g2; subst g3; subst g4; simp at g1; subst g1; exact trivial
  ·simp only at g1 g2 g4; subst g2; subst g3; subst g4; simp at g1; subst g1; exact trivial
  ·simp only at g2; subst g2
   exact⟨List.mem_cons_of_mem _ (by simp[abf]),rfl⟩
 obtain⟨vsz,hv⟩:=hv
 have hS:∀r:iF,Clo (vb::abf a1) (H3.set c r):=fun r d hd=>by
  have hdc:d≠c:=fun e=>hcS (e▸hd)
  rw[List.getElem?_set_ne (Ne.symm hdc)]
  rcases List.mem_cons.1 hd with rfl|hm
  ·refine⟨_,_,_,_,_,hv,fun v hv=> ?_⟩
   simp at hv; subst hv
   exact hav
  ·obtain⟨off,hp⟩:=hsb d hm
   obtain⟨c',sz,o,r',l',h1,h2⟩:=hf d off hp
   exact⟨c',sz,o,r',l',h1,fun v hv=>(h2 v hv).inS⟩
 have hcmp:∀dk:List A,dk.length=d.length->∀x y,EV P fH ([.int .i64 (enc x),.int .i64 (enc y)]++[.pointer (some ⟨vb,0,none⟩)]) (frz (H3.set c (UY (dk.map enc++sp)))) fun v _=>v= .int .i64 (cf x y):=fun dk _ x y=>by
  have hget:∀e:Nat,e≠c->(H3.set c (UY (dk.map enc++sp)))[e]? =H3[e]? :=fun e he=>List.getElem?_set_ne (Ne.symm he)
  obtain⟨kx,tx,hx1,hx2⟩:=x
  obtain⟨ky,ty,hy1,hy2⟩:=y
  have ex:cf ⟨kx,tx,hx1,hx2⟩ ⟨ky,ty,hy1,hy2⟩=tx.Stamp-ty.Stamp:=by simp[cf,bH,hx1,hy1]
  refine EV.mono (aiJ (cb:=vb) (s:=a1) (ts:=ts) ⟨_,_,_,Jd (by rw[hget _ (by omega)]; exact hv)⟩ ?_ hx1 hy1 hx2 hy2 (Q:=fun r _=>r.1=tx.Stamp-ty.Stamp) rfl) ?_
  ·have hfr:bK [c] H3 (H3.set c (UY (dk.map enc++sp))):=bK.set _ _ (by simp)
   exact(hs.bP hfr (fun e he off hp=>by
    simp at he; subst he
    have:=htb e off hp; omega)).frz
  ·rintro v H' ⟨r,rfl,hr⟩
   obtain⟨r,_⟩:=r
   simp only at hr; subst hr
   rw[ex]; rfl
 have eg:∀args w,(callFunc fH args).run P w= .ok (.enter fH args) w:=by
  obtain⟨fn,hf,hb,hn⟩:=(hcmp d rfl default default).1
  obtain⟨c,hc⟩:=Option.isSome_iff_exists.1 hb
  exact enters_of hf hn hc
 exact Z9 (P:=P) (ρ:=Vm) ahZ hfn (α:=A) enc cf hO (H:=H3) (b:=c) (cap:=cp) (d:=d) (sp:=sp) o4 (by omega) (g:=fH) (cv:=[.pointer (some ⟨vb,0,none⟩)]) eg (S:=vb::abf a1) (fun dk _=>hS _)
  (fun v hv=>by simp at hv; subst hv; exact⟨List.mem_cons_self,rfl⟩) hcmp (Q:=fun H'=>Q () H')
  (fun d' hp hso=>by
   refine hq _ (d'.map enc) (by rw[←hd]; exact hp.map enc) (fun i j a b hij ha hb=> ?_) ⟨⟨by simp[hp.length_eq],by simp only; rw[List.length_map,hp.length_eq,hdl]; exact o2,o0,.inr ⟨c,rfl,by rw[fV hcl]; rfl⟩⟩,fun e he=>by simp at he; subst he; omega,n1.2.2.then (bK.set (B:=[c]) _ _ (by simp)) fun e he=>by simp at he; subst he; exact .inr hc1⟩ ⟨by simp,fun e _ he=>by rw[List.getElem?_set_ne (by rintro rfl; exact he rfl)]⟩
   rw[List.getElem?_map,Option.map_eq_some_iff]at ha hb
   obtain⟨x,hx,rfl⟩:=ha
   obtain⟨y,hy,rfl⟩:=hb
   have:=hso i j hij x y hx hy
   simp only[ltOf,cf,decide_eq_false_iff_not]at this
   show bH ts ((x.1:Int)).toNat≤bH ts ((y.1:Int)).toNat
   rw[Int.toNat_natCast,Int.toNat_natCast]
   omega)
end
end Go.Proofs.YtijnknjopjmiiaaGreatDoor.Zq
end
section
namespace Go.Proofs.YtijnknjopjmiiaaGreatDoor.Zq
open Zv
section
variable{H:Heap}{b m:Nat}{se:Bool}{B:List Cd}{ms:List au}
theorem acw(h:BP m H b se B ms){t:ByteArray}{Q:Int×Int×Unit->Heap->Prop}(hq:∀i e:Int,e≠1->Q (i,e,()) H):CALL P [dX,dX] kQ [.pointer (some ⟨b,0,none⟩),.string t] H Q:=by
 apply KG
 unfold pK
 refine Jc h (bC rfl (QH h ?_))
 obtain⟨⟨cs,ns,w,hc⟩,_⟩:=h
 refine aO (fun _ H'=>H'=H) (fun j hj=>w.FD rfl (bG (fun _=>hj _ _ rfl) (fun _=>hj _ _ rfl))) ?_
 rintro _ _ rfl
 exact bG (fun _=>hq _ _ (by decide)) (fun _=>hq _ _ (by decide))
theorem ajF(h:BP m H b se B ms)(okB:rD B){n:Int}{Q:aA×Int×Unit->Heap->Prop}(q6:(se=false∨n<1∨(B.length:Int)<n)->Q (zC,6,()) H)
  (q0:∀c g H',se=true->1≤n->B[(n-1).toNat]? =some c->CR H.length H' g c->bK [] H H'->Q (g,0,()) H'):CALL P [TC,dX] tY [.pointer (some ⟨b,0,none⟩),.int .i64 n] H Q:=by
 apply Qb
 unfold uF
 refine Jc h (bC rfl ?_)
 have few:=h.few
 obtain⟨⟨cs,ns,w,hc⟩,_,lt,ml⟩:=id h
 refine hJ (se=false∨n<1∨(B.length:Int)<n) (fun j hj=>w.FD rfl (bG (fun e=>hj _ ?_) (fun e=>cu (fun h1=>hj _ ?_) (fun h1=>w.adw rfl (hj _ ?_))))) q6 (fun hN=> ?_)
 ·simp only[true_iff]; exact .inl (by simpa using e)
 ·simp only[true_iff]; exact .inr (.inl h1)
 ·have:¬se=false:=by simpa using e
  simp only[decide_eq_true_eq]; constructor
  ·exact fun q=>.inr (.inr q)
  ·rintro(q|q|q)
   ·exact absurd q this
   ·exact absurd q h1
   ·exact q
 ·have hse:se=true:=by cases hs:se with|true=>rfl|false=>exact absurd (.inl hs) hN
  have h1:¬n<1:=fun q=>hN (.inr (.inl q))
  have h2:¬(B.length:Int)<n:=fun q=>hN (.inr (.inr q))
  have hx:B[(n-1).toNat]? =some (B[(n-1).toNat]'(by omega)):=List.getElem?_eq_getElem (by omega)
  generalize (B[(n-1).toNat]'(by omega))=c at hx
  obtain⟨g,hg,cr⟩:=hc _ c hx
  have hp4:c.ps.length≤4:=by
   have:=okB.ok c (List.mem_of_getElem? hx)
   unfold BH at this
   by_cases hf:Ep c=0
   ·exact um hf
   ·rw[if_neg hf]at this; exact absurd this hf
  rw[bT (x:=n-1) (by omega) (by omega)]
  refine⟨⟨by omega,by omega⟩,w.Oh hg (by simp) (acp cr.p (by omega) fun s H' hs lo f=>q0 c _ H' hse (by omega) hx ⟨by rw[←cr.e]; rfl,hs,lo⟩ f)⟩
theorem acy(h:BP m H b se B ms)(okB:rD B){t:Tg}{Q:aA×Int×Unit->Heap->Prop}(q6:(se=false∨t.Card<1∨(B.length:Int)<t.Card)->Q (zC,6,()) H)
  (q0:∀c g H',se=true->1≤t.Card->B[(t.Card-1).toNat]? =some c->CR H.length H' g c->bK [] H H'->Q (g,0,()) H'):CALL P [TC,dX] sN [.pointer (some ⟨b,0,none⟩),gX.enc t] H Q:=by
 apply Wx
 unfold Ad
 exact ajF h okB q6 q0
def QU(B:List Cd)(t:Tg)(f:aB):Prop:=
 ∃c,1≤t.Card∧B[(t.Card-1).toNat]? =some c∧(t.Owner=0∨t.Owner=1)∧1≤t.Place∧t.Place≤5∧(t.Place=4->c.g.Kind≠2∧1≤t.Stamp∧(f.Holder=0∨f.Holder=1)∧f.Traits<256)
def jo(ts:List Tg):Nat->List Int
 |0=>[]
 |n+1=>jo ts n++if(ts[n]?.map (·.Place))=some 4 then [(n:Int)]else []
theorem uQ{ts:List Tg}{x:Int}:∀{n:Nat},x∈jo ts n↔∃(k:Nat) (t:Tg),k<n∧x=k∧ts[k]? =some t∧t.Place=4
 |0=>by simp[jo]
 |n+1=>by
  simp only[jo,List.mem_append,uQ (n:=n)]
  constructor
  ·rintro(⟨k,t,h1,h2⟩|h)
   ·exact⟨k,t,by omega,h2⟩
   ·split at h
    ·rename_i e
     simp at h; subst h
     obtain⟨t,ht,hp⟩:=Option.map_eq_some_iff.1 e
     exact⟨n,t,by omega,rfl,ht,hp⟩
    ·cases h
  ·rintro⟨k,t,h1,h2,h3,h4⟩
   by_cases e:k=n
   ·subst e; right
    rw[if_pos (by rw[h3]; simp[h4])]; simp[h2]
   ·exact .inl ⟨k,t,by omega,h2,h3,h4⟩
theorem GY{ts:List Tg}:∀n:Nat,(jo ts n).Nodup
 |0=>List.nodup_nil
 |n+1=>by
  simp only[jo]
  rw[List.nodup_append]
  refine⟨GY n,by split<;>simp,fun a ha b hb=> ?_⟩
  obtain⟨k,t,h1,h2,_⟩:=uQ.1 ha
  split at hb
  ·simp at hb; omega
  ·cases hb
theorem Vx{ts:List Tg}{n k:Nat}:(jo ts n).length≤(jo ts (n+k)).length:=by
 induction k with
 |zero=>exact Nat.le_refl _
 |succ k ih=>
  rw[←Nat.add_assoc]
  simp only[jo,List.length_append]; omega
theorem acz{ts:List Tg}:∀n:Nat,(jo ts n).length≤n
 |0=>Nat.le_refl _
 |n+1=>by
  have:=acz (ts:=ts) n
  simp only[jo,List.length_append]
  split<;>simp<;>omega
structure Yg(B:List Cd)(ts:List Tg)(fs:List aB):Prop where
 all:∀(i:Nat) t f,ts[i]? =some t->fs[i]? =some f->QU B t f
 few:(jo ts ts.length).length≤16
 dst:∀(i j:Nat) t u,i≠j->ts[i]? =some t->ts[j]? =some u->t.Place=4->u.Place=4->t.Stamp≠u.Stamp
open Classical in
noncomputable def dn(se:Bool)(B:List Cd)(ts:List Tg)(fs:List aB):Int:=
 if 2048<ts.length then 3 else if se=false∨fs.length≠ts.length then 2 else if Yg B ts fs then 0 else 2
def acA(ts:List Tg)(l:List Int):Prop:=l.Perm (jo ts ts.length)∧∀(i j:Nat) a b,i<j->l[i]? =some a->l[j]? =some b->bH ts a.toNat≤bH ts b.toNat
structure Pl(H0 H:Heap)(cs so:Sl)(B:List Cd)(ts:List Tg)(cl:List aA)(ol:List Int):Prop where
 c:dB TC H cs cl
 len:cl.length=ts.length
 card:∀(i:Nat) t c,ts[i]? =some t->t.Place=4->1≤t.Card->B[(t.Card-1).toNat]? =some c->∃g,cl[i]? =some g∧CR H0.length H g c
 o:dB dX H so ol
 ord:acA ts ol
 f:bK [] H0 H
theorem Ow.put{T:Tag}(hT:∀x,(T.cells x).length=T.n)(h1:∀x,(T.cells x).all cell1=true){s:Sl}{l sp:List T.α}(h:Ow T H s l sp){i:Int}{n:Nat}(hi:i=n)(hn:n<l.length)(x:T.α){sz:Nat}(hz:sz=T.n){K:Heap->Prop}
  (hK:∀c H',s.p=some ⟨c,0,none⟩->Ow T H' s (l.set n x) sp->bK [c] H H'->H'.length=H.length->K H'):bQ s.p s.len i sz fun b o=>ST H b o (T.cells x) K:=by
 obtain⟨g1,g2,g0,⟨_,g3,_⟩|⟨c,g3,g4⟩⟩:=id h
 ·subst g3; simp at hn
 ·subst hi; subst hz
  have hx:(l++sp)[n]? =some l[n]:=by rw[List.getElem?_append_left hn,List.getElem?_eq_getElem hn]
  unfold bQ NIL
  rw[g3]
  refine⟨⟨by omega,by omega⟩,?_⟩
  refine qE (fl T ((l++sp).take n)) (T.cells l[n]) (fl T ((l++sp).drop (n+1))) g4 (iZ _ _ _ hx) ?_ (by rw[hT,hT]) (h1 x) ?_
  ·rw[dD hT,List.length_take,Nat.min_eq_left (by rw[List.length_append]; omega),Int.toNat_natCast]; simp
  ·refine hK c _ g3 ⟨by simpa using g1,by simpa using g2,g0,.inr ⟨c,g3,?_⟩⟩ (bK.set _ _ (by simp)) (by simp)
   rw[fV (cZ g4)]
   have hx2:(l.set n x++sp)[n]? =some x:=by rw[List.getElem?_append_left (by simpa using hn),List.getElem?_set_self hn]
   rw[iZ _ _ _ hx2]
   have e1:(l.set n x++sp).take n=(l++sp).take n:=by
    rw[List.take_append_of_le_length (by simp; omega),List.take_append_of_le_length (by omega),List.take_set_of_le (Nat.le_refl _)]
   have e2:(l.set n x++sp).drop (n+1)=(l++sp).drop (n+1):=by
    rw[←List.set_append_left n x hn,List.drop_set_of_lt (by omega)]
   rw[e1,e2]
theorem QV{s:Sl}{l:List aB}(h:dB TF H s l){n:Nat}{x:aB}(hx:l[n]? =some x){K:Int->Prop}(hK:K x.Holder):bQ s.p s.len (n:Int) 5 fun b o=>LD dX H b (o+0) K:=by
 have hl:=(List.getElem?_eq_some_iff.1 hx).1
 obtain⟨h1,⟨_,h2,_⟩|⟨_,_,_,h2,_⟩|⟨b,A,B,z,o,ro,h3,h4⟩⟩:=h
 ·subst h2; simp at hl
 ·subst h2; simp at hl
 ·unfold bQ NIL
  rw[h3]
  refine⟨⟨by omega,by omega⟩,?_⟩
  refine dV (T:=dX) x.Holder (A++fl TF (l.take n)) ((TF.cells x).drop 1++(fl TF (l.drop (n+1))++B)) h4 ?_ ?_ rfl hK
  ·rw[iZ (T:=TF) l n x hx]; simp[List.append_assoc]
  ·rw[List.length_append,dD KZ,List.length_take,Nat.min_eq_left (by omega),Int.toNat_natCast]; rfl
theorem uS{s:Sl}{l:List aB}(h:dB TF H s l){i:Int}{n:Nat}(hi:i=n){x:aB}(hx:l[n]? =some x){K:Int->Prop}(hK:K x.Traits):bQ s.p s.len i 5 fun b o=>LD (aj .u16) H b (o+2) K:=by
 subst hi
 have hl:=(List.getElem?_eq_some_iff.1 hx).1
 obtain⟨h1,⟨_,h2,_⟩|⟨_,_,_,h2,_⟩|⟨b,A,B,z,o,ro,h3,h4⟩⟩:=h
 ·subst h2; simp at hl
 ·subst h2; simp at hl
 ·unfold bQ NIL
  rw[h3]
  refine⟨⟨by omega,by omega⟩,?_⟩
  refine dV (T:=aj .u16) x.Traits (A++(fl TF (l.take n)++(TF.cells x).take 2)) ((TF.cells x).drop 3++(fl TF (l.drop (n+1))++B)) h4 ?_ ?_ rfl hK
  ·rw[iZ (T:=TF) l n x hx]; simp[List.append_assoc]
  ·rw[List.length_append,List.length_append,dD KZ,List.length_take,Nat.min_eq_left (by omega),Int.toNat_natCast]
   show A.length+n*5+2=A.length+(n*5+2); omega
end
end Go.Proofs.YtijnknjopjmiiaaGreatDoor.Zq
end
section
namespace Go.Proofs.YtijnknjopjmiiaaGreatDoor.Zq
open Zv
section
variable{H:Heap}{b m:Nat}{se:Bool}{B:List Cd}{ms:List au}
theorem abg{ts:List Tg}{fs:List aB}(h1:¬2048<ts.length)(h2:¬(se=false∨fs.length≠ts.length)):(Yg B ts fs->dn se B ts fs=0)∧(¬Yg B ts fs->dn se B ts fs=2):=by
 unfold dn
 rw[if_neg h1,if_neg h2]
 exact⟨fun h=>if_pos h,fun h=>if_neg h⟩
structure Sc(m:Nat)(H:Heap)(B:List Cd)(ts:List Tg)(n:Nat)(cl:List aA)(so:Sl):Prop where
 len:cl.length=ts.length
 c:∀(i:Nat) t c,i<n->ts[i]? =some t->t.Place=4->B[(t.Card-1).toNat]? =some c->∃g,cl[i]? =some g∧CR m H g c∧∀x off,g.Parts.p=some ⟨x,off,none⟩->so.p≠some ⟨x,0,none⟩
theorem Ow.after{T:Tag}{H1 H2:Heap}{out s:Sl}{l sp:List T.α}(h:Ow T H1 s l sp)(a:After out H1 H2)(ap:∀d,s.p=some ⟨d,0,none⟩->out.p≠some ⟨d,0,none⟩):Ow T H2 s l sp:=by
 by_cases hq:∃d,out.p=some ⟨d,0,none⟩
 ·obtain⟨d0,hd0⟩:=hq
  exact h.bP (a.bP (B:=[d0]) fun d hd=>by rw[hd0]at hd; cases hd; simp) fun x hx e=>by simp at hx; subst hx; exact ap _ e hd0
 ·exact h.bP (a.bP (B:=[]) fun d hd=>absurd ⟨d,hd⟩ hq) (by simp[Sl.off])
theorem Flat.bP{H':Heap}{s:Sl}(h:Flat H s)(f:bK [] H H'):Flat H' s:=fun d off e=>by
 obtain⟨c,sz,o,r,l,h1,h2⟩:=h d off e
 exact⟨c,sz,o,r,l,f.get (by simp) h1,h2⟩
theorem tyI:Jq E dX 27 (0:Int):=⟨⟨_,_,_,rfl,rfl,rfl,rfl,by decide,by decide,rfl⟩,by decide,uP,fun _=>rfl⟩
theorem ag5(h:BP m H b se B ms)(okB:rD B){a1 a2:Sl}{ts:List Tg}{fs:List aB}(hs:dB gX H a1 ts)(hf:dB TF H a2 fs)(fla:Flat H a1)(okt:∀t∈ts,t.Stamp≤9223372036854775807)(okf:∀f∈fs,0≤f.Traits)(bts:ts.length≤1048600){Q:aK×Int×Unit->Heap->Prop}
  (q1:∀p H',dn se B ts fs≠0->bK [] H H'->Q (p,dn se B ts fs,()) H') (q0:∀cs so cl ol H',dn se B ts fs=0->Yg B ts fs->Pl H H' cs so B ts cl ol->Q (⟨some ⟨b,0,none⟩,a1,cs,so⟩,0,()) H'):
  CALL P [aJ,dX] iO [.pointer (some ⟨b,0,none⟩),a1.v,a2.v] H Q:=by
 apply Tz
 unfold xR
 have hsl:=hs.1
 have hfl:=hf.1
 unfold NEW
 have r1:(mk H [(.slice a1.p a1.len a1.cap)] 1 false)[H.length]? =some (.row [a1.v] 1 false false true):=by simp[mk,Sl.v]
 have f1:bK [] H (mk H [(.slice a1.p a1.len a1.cap)] 1 false):=bK.app _ _ _
 have l1:(mk H [(.slice a1.p a1.len a1.cap)] 1 false).length=H.length+1:=by simp[mk]
 generalize mk H [(.slice a1.p a1.len a1.cap)] 1 false=H1 at r1 f1 l1
 have ldv:∀{H':Heap} {k:Sl->Prop},bK [] H1 H'->k a1->LD aH H' H.length 0 k:=fun f hk=>dV (T:=aH) a1 [] [] (f.get (by simp) r1) rfl rfl rfl hk
 refine ldv (.refl _ _) (ldv (.refl _ _) ?_)
 rw[hsl]
 refine JQ tyC (n:=ts.length) (m:=ts.length) rfl rfl (Nat.le_refl _) (by omega) fun s3 e3 n3=> ?_
 have l2:(mk H1 (fl TC (List.replicate ts.length zC)) TC.n false).length=H1.length+1:=by simp[mk]
 generalize mk H1 (fl TC (List.replicate ts.length zC)) TC.n false=H2 at n3 l2
 have f2:=n3.2.2
 have f02:bK [] H H2:=f1.trans f2
 have h2:=h.new f02
 have o3:Ow TC H2 s3 (List.replicate ts.length zC) []:=by simpa using n3.1
 have p3:s3.p=some ⟨H1.length,0,none⟩:=by rw[e3]
 refine ldv f2 ⟨rfl,acw h2 fun i e he=> ?_⟩
 refine bC (by simpa using he) (ldv f2 (cu (fun hlong=> ?_) (fun hlong=> ?_)))
 ·have e:dn se B ts fs=3:=by unfold dn; rw[if_pos (by omega)]
  have:=q1 ⟨some ⟨b,0,none⟩,a1,s3,⟨none,0,0⟩⟩ H2 (by rw[e]; decide) f02
  rwa [e]at this
 have hlong:¬2048<ts.length:=by omega
 refine hJ (se=false∨fs.length≠ts.length) (fun j hj=>Vu h2 (bG (fun e=>hj _ ?_) (fun e=>ldv f2 (hj _ ?_)))) (fun hbad=> ?_) (fun hgood=> ?_)
 ·simp only[true_iff]; exact .inl (by simpa using e)
 ·have:¬se=false:=by simpa using e
  simp only[bne_iff_ne,ne_eq]
  constructor
  ·intro q; exact .inr (by omega)
  ·rintro(q|q)
   ·exact absurd q this
   ·omega
 ·have e:dn se B ts fs=2:=by unfold dn; rw[if_neg hlong,if_pos hbad]
  have:=q1 ⟨some ⟨b,0,none⟩,a1,s3,⟨none,0,0⟩⟩ H2 (by rw[e]; decide) f02
  rwa [e]at this
 have hse:se=true:=by cases hs:se with|true=>rfl|false=>exact absurd (.inl hs) hgood
 have hfe:fs.length=ts.length:=Classical.byContradiction fun q=>hgood (.inr q)
 obtain⟨eT,eF⟩:=abg (B:=B) hlong hgood
 have bad:∀p H',¬Yg B ts fs->bK [] H H'->Q (p,2,()) H':=fun p H' hn f=>by
  have e:=eF hn
  have:=q1 p H' (by rw[e]; decide) f
  rwa [e]at this
 refine ldv f2 ?_
 refine aO (fun(y:Unit×(aK×aK×Unit)) H'=>∃(so:Sl) (cl:List aA) (sp:List Int),y.2.2.1=⟨some ⟨b,0,none⟩,a1,s3,so⟩∧aW dX H1 so H' (jo ts ts.length) sp∧(∀d,so.p=some ⟨d,0,none⟩->H2.length≤d)∧Ow TC H' s3 cl []∧Sc H2.length H' B ts ts.length cl so∧(∀(i:Nat) t f,ts[i]? =some t->fs[i]? =some f->QU B t f)∧(jo ts ts.length).length≤16) (fun j hj=> ?_) ?_
 ·refine aY (fun(y:(Int×Unit)×(aK×aK×Unit)) H'=>∃(n:Nat) (so:Sl) (cl:List aA) (sp:List Int),y.1.1=n∧n≤ts.length∧y.2.2.1=⟨some ⟨b,0,none⟩,a1,s3,so⟩∧aW dX H1 so H' (jo ts n) sp∧(∀d,so.p=some ⟨d,0,none⟩->H2.length≤d)∧Ow TC H' s3 cl []∧Sc H2.length H' B ts n cl so∧(∀(i:Nat) t f,i<n->ts[i]? =some t->fs[i]? =some f->QU B t f)∧(jo ts n).length≤16) (fun y=>ts.length-y.1.1.toNat) ?_
   ⟨0,⟨none,0,0⟩,_,[],rfl,Nat.zero_le _,rfl,⟨Ow.nil dX H2,by simp,f2⟩,by simp,o3,⟨by simp,fun i t c hi=>by omega⟩,fun i t f hi=>by omega,by simp[jo]⟩
  rintro G ⟨⟨i,_⟩,p1,p2,_⟩ H' ⟨n,so,cl,sp,hi,hn,hp2,no,hso,oc,sc,hok,hfew⟩ hG
  simp only at hi hp2; subst hi; subst hp2
  dsimp only at hG ⊢
  have fb:=no.2.2
  have f0':bK [] H H':=f1.trans fb
  have h':=h.new f0'
  have h2l:H2.length≤H'.length:=by have:=oc.lt p3; omega
  refine cu (fun hlt=>aX ?_) (fun hge=>hj _ _ ?_)
  ·have hlt:n<ts.length:=by omega
   have hx:ts[n]? =some ts[n]:=List.getElem?_eq_getElem hlt
   have hy:fs[n]? =some (fs[n]'(by omega)):=List.getElem?_eq_getElem (by omega)
   have tbs:jo ts (n+1)=jo ts n++if(ts[n]).Place=4 then [(n:Int)]else []:=by
    simp only[jo,hx,Option.map_some,Option.some.injEq]
   have hmt:ts[n]∈ts:=List.getElem_mem hlt
   have hmf:fs[n]'(by omega)∈fs:=List.getElem_mem (by omega)
   generalize ts[n]=t at hx tbs hmt
   generalize (fs[n]'(by omega))=f at hy hmf
   have notog:¬QU B t f->¬Yg B ts fs:=fun q k=>q (k.all n t f hx hy)
   refine aZ (T:=gX) GX (hs.bP f0' (by simp)) rfl hx rfl (acy h' okB (fun q=> ?_) (fun c g H9 _ hc1 hcx cr f9=> ?_))
   ·refine aX (dI rfl (dI rfl (bad _ _ (notog ?_) f0')))
    rintro⟨c,k1,k2,_⟩
    have:=(List.getElem?_eq_some_iff.1 k2).1
    rcases q with q|q|q
    ·rw[hse]at q; cases q
    ·omega
    ·omega
   have okiff:QU B t f↔(t.Owner=0∨t.Owner=1)∧1≤t.Place∧t.Place≤5∧(t.Place=4->c.g.Kind≠2∧1≤t.Stamp∧(f.Holder=0∨f.Holder=1)∧f.Traits<256):=by
    constructor
    ·rintro⟨c',k1,k2,k3⟩
     rw[hcx]at k2; cases k2; exact k3
    ·exact fun q=>⟨c,hc1,hcx,q⟩
   have f09:bK [] H H9:=f0'.trans f9
   refine hJ (¬(t.Owner=0∨t.Owner=1)∨t.Place<1∨5<t.Place) (fun j2 hj2=>bC rfl (yO (fun e1=>yO (fun e2=>hj2 _ (by simp; omega)) (fun e2=>cu (fun e3=>hj2 _ (by simp; omega)) (fun e3=>hj2 _ (by simp; omega)))) (fun e1=>cu (fun e3=>hj2 _ (by simp; omega)) (fun e3=>hj2 _ (by simp; omega))))) (fun q=>bad _ _ (notog fun k=> ?_) f09) (fun hA=> ?_)
   ·have:=okiff.1 k; omega
   have no9:aW dX H1 so H9 (jo ts n) sp:=⟨no.1.bP f9 (by simp[Sl.off]),no.2.1,fb.trans f9⟩
   have oc9:Ow TC H9 s3 cl []:=oc.bP f9 (by simp[Sl.off])
   have sc9:∀(i:Nat) t c,i<n->ts[i]? =some t->t.Place=4->B[(t.Card-1).toNat]? =some c->∃g,cl[i]? =some g∧CR H2.length H9 g c∧∀x off,g.Parts.p=some ⟨x,off,none⟩->so.p≠some ⟨x,0,none⟩:=fun i t c k1 k2 k3 k4=>by
    obtain⟨g',w1,w2,w3⟩:=sc.c i t c k1 k2 k3 k4
    exact⟨g',w1,w2.bP f9 (by simp),w3⟩
   refine yO (fun hp4=> ?_) (fun hp4=> ?_)
   ·rw[if_neg hp4,List.append_nil]at tbs
    rw[bT (by omega) (by omega)]
    refine hG _ _ ⟨n+1,so,cl,sp,by simp,hlt,rfl,by rw[tbs]; exact no9,hso,oc9,⟨sc.len,fun i t' c' k1 k2 k3 k4=> ?_⟩,fun i t' f' k1 k2 k3=> ?_,by rw[tbs]; exact hfew⟩ (by simp; omega)
    ·by_cases e:i=n
     ·subst e; rw[hx]at k2; cases k2; exact absurd k3 hp4
     ·exact sc9 i t' c' (by omega) k2 k3 k4
    ·by_cases e:i=n
     ·subst e; rw[hx]at k2; cases k2; rw[hy]at k3; cases k3
      exact okiff.2 ⟨by omega,by omega,by omega,fun q=>absurd q hp4⟩
     ·exact hok i t' f' (by omega) k2 k3
   ·rw[if_pos hp4]at tbs
    have hkd:g.Kind=c.g.Kind:=by rw[←cr.e]; rfl
    have hf9:=hf.bP f09 (by simp)
    have hy0:=okf f hmf
    refine hJ (c.g.Kind=2∨t.Stamp<1∨¬(f.Holder=0∨f.Holder=1)∨¬f.Traits<256) (fun j2 hj2=> ?_) (fun q=>bad _ _ (notog fun k=> ?_) f09) (fun hB=> ?_)
    ·rw[hkd]
     refine eP (fun e=>hj2 _ (by simp; omega)) (fun e=>cu (fun e1=>hj2 _ (by simp; omega)) (fun e1=>QV hf9 hy (yO (fun e2=>QV hf9 hy (yO (fun e3=>hj2 _ (by simp; omega)) (fun e3=>uS hf9 rfl hy (QE hy0 (hj2 _ (by simp; omega)))))) (fun e2=>uS hf9 rfl hy (QE hy0 (hj2 _ (by simp; omega)))))))
    ·have:=(okiff.1 k).2.2.2 hp4; omega
    have okn:QU B t f:=okiff.2 ⟨by omega,by omega,by omega,fun _=>⟨by omega,by omega,by omega,by omega⟩⟩
    have hcl:=sc.len
    have hl9:=f9.1
    refine oc9.put (n:=n) hTC (fun x=>tyC.one x) rfl (by omega) g rfl fun c0 H14 hc0 oc14 f14 l14=> ?_
    rw[p3]at hc0; cases hc0
    have cgn:CR H2.length H14 g c:=by
     have:CR H2.length H9 g c:=⟨cr.e,cr.p,fun d hd=>by have:=cr.lo d hd; omega⟩
     exact this.bP f14 fun d hd=>by simp at hd; omega
    have no14:aW dX H1 so H14 (jo ts n) sp:=by
     refine⟨no9.1.bP f14 fun d hd e=> ?_,no9.2.1,no9.2.2.then f14 fun d hd=> ?_⟩
     ·simp at hd; subst hd
      have:=hso _ e; omega
     ·simp at hd; subst hd; exact .inr (Nat.le_refl _)
    have htl:=acz (ts:=ts) n
    refine qF tyI rfl (fun _=>by simp) (m:=1) [(n:Int)] rfl rfl (by show 2*((jo ts n).length+1)*4096≤_; omega) no14.1 fun s42 H15 sp15 k1 k2 k3=> ?_
    have no15:aW dX H1 s42 H15 (jo ts n++[(n:Int)]) sp15:=no14.app k1 k2 k3
    have hlen42:s42.len=(jo ts (n+1)).length:=by rw[tbs]; exact k1.1
    refine cu (fun hbig=>bad _ _ (fun k=> ?_) (f1.trans no15.2.2)) (fun hsm=> ?_)
    ·have:=k.few
     have:=Vx (ts:=ts) (n:=n+1) (k:=ts.length-(n+1))
     rw[show n+1+(ts.length-(n+1))=ts.length by omega]at this
     omega
    have l14':H9.length≤H14.length:=by omega
    have hso':∀d,s42.p=some ⟨d,0,none⟩->H2.length≤d:=fun d hd=>by
     rcases k2 with q|⟨q,_⟩
     ·exact hso d (by rw[←q]; exact hd)
     ·rw[q]at hd; cases hd; omega
    have ap42:∀(g':aA) d',CR H2.length H14 g' d'->(∀x off,g'.Parts.p=some ⟨x,off,none⟩->so.p≠some ⟨x,0,none⟩)->∀x off,g'.Parts.p=some ⟨x,off,none⟩->s42.p≠some ⟨x,0,none⟩:=fun g' d' cr' a' x off e e2=>by
     rcases k2 with q|⟨q,_⟩
     ·exact a' x off e (by rw[←q]; exact e2)
     ·rw[q]at e2
      have:=QT cr'.p e
      cases e2; omega
    have gap:∀x off,g.Parts.p=some ⟨x,off,none⟩->so.p≠some ⟨x,0,none⟩:=fun x off e e2=>by
     have:=cr.lo x (by rw[e]; simp[bl])
     have:=no.1.lt e2; omega
    rw[bT (by omega) (by omega)]
    refine hG _ _ ⟨n+1,s42,cl.set n g,sp15,by simp,hlt,rfl,by rw[tbs]; exact no15,hso',oc14.after k3 (fun d hd e=>by rw[p3]at hd; cases hd; have:=hso _ e; omega),⟨by simpa using sc.len,fun i t' c' w1 w2 w3 w4=> ?_⟩,fun i t' f' w1 w2 w3=> ?_,by omega⟩ (by simp; omega)
    ·by_cases e:i=n
     ·subst e; rw[hx]at w2; cases w2
      rw[hcx]at w4; cases w4
      exact⟨g,List.getElem?_set_self (by omega),cgn.after k3 gap,ap42 g c cgn gap⟩
     ·obtain⟨g',v1,v2,v3⟩:=sc9 i t' c' (by omega) w2 w3 w4
      have v2':CR H2.length H14 g' c':=v2.bP f14 fun d hd=>by simp at hd; omega
      exact⟨g',by rw[List.getElem?_set_ne (by omega)]; exact v1,v2'.after k3 v3,ap42 g' c' v2' v3⟩
    ·by_cases e:i=n
     ·subst e; rw[hx]at w2; cases w2; rw[hy]at w3; cases w3; exact okn
     ·exact hok i t' f' (by omega) w2 w3
  ·have hge:n=ts.length:=by omega
   subst hge
   exact⟨so,cl,sp,rfl,no,hso,oc,sc,fun i t f w1 w2=>hok i t f (List.getElem?_eq_some_iff.1 w1).1 w1 w2,hfew⟩
 ·rintro⟨_,p1,p2,_⟩ H6 ⟨so,cl,sp,hp2,no,hso,oc,sc,hok,hfew⟩
  simp only at hp2; subst hp2
  dsimp only
  have fb:=no.2.2
  have f06:bK [] H H6:=f1.trans fb
  have onT:∀x∈jo ts ts.length,∃(k:Nat) (t:Tg),x=k∧ts[k]? =some t∧t.Place=4∧1≤t.Stamp∧t.Stamp≤9223372036854775807:=fun x hx=>by
   obtain⟨k,t,h1,rfl,h3,h4⟩:=uQ.1 hx
   have hk:k<fs.length:=by rw[hfe]; exact h1
   obtain⟨c,_,_,_,_,_,w⟩:=hok k t _ h3 (List.getElem?_eq_getElem hk)
   exact⟨k,t,rfl,h3,h4,(w h4).2.1,okt t (List.mem_of_getElem? h3)⟩
  refine ag4 (vb:=H.length) no ⟨1,fb.get (by simp) r1⟩ (hs.bP f06 (by simp)) (fla.bP f06) (by omega) (fun d off e=>by have:=QT hs e; omega) (fun x hx=>by obtain⟨k,t,e,w1,w2,w3⟩:=onT x hx; exact⟨k,t,e,w1,w3⟩) (by omega) fun H16 l' hperm hsort no16 aft=> ?_
  have f016:bK [] H H16:=f1.trans no16.2.2
  have hl':l'.length=(jo ts ts.length).length:=hperm.length_eq
  have hso16:=no16.1.jH
  have hsol:=hso16.1
  have hs16:=hs.bP f016 (by simp)
  have nd:l'.Nodup:=hperm.symm.nodup (GY _)
  have at':∀(k:Nat) x,l'[k]? =some x->∃(j:Nat) (t:Tg),x=j∧ts[j]? =some t∧t.Place=4∧bH ts x.toNat=t.Stamp:=fun k x hx=>by
   obtain⟨j,t,rfl,w1,w2,_⟩:=onT x (hperm.mem_iff.1 (List.mem_of_getElem? hx))
   exact⟨j,t,rfl,w1,w2,by simp[bH,w1]⟩
  refine aO (fun _ H'=>H'=H16∧∀(j:Nat) x y,1≤j->l'[j-1]? =some x->l'[j]? =some y->bH ts x.toNat<bH ts y.toNat) (fun j hj=> ?_) ?_
  ·refine aY (fun(t:(Int×Unit)×(aK×Unit)) H'=>H'=H16∧∃k:Nat,t.1.1=k∧1≤k∧∀(j:Nat) x y,1≤j->j<k->l'[j-1]? =some x->l'[j]? =some y->bH ts x.toNat<bH ts y.toNat) (fun t=>l'.length+1-t.1.1.toNat) ?_ ⟨rfl,1,rfl,Nat.le_refl _,fun j x y w1 w2=>by omega⟩
   rintro G ⟨⟨i,_⟩,p3',_⟩ H' ⟨rfl,k,hk,hk1,hno⟩ hG
   simp only at hk; subst hk
   dsimp only at hG ⊢
   refine cu (fun hlt=> ?_) (fun hge=>hj _ _ ⟨rfl,fun j x y w1 w2 w3=>hno j x y w1 (by have:=(List.getElem?_eq_some_iff.1 w3).1; omega) w2 w3⟩)
   have hkl:k<l'.length:=by omega
   have hxk:l'[k-1]? =some (l'[k-1]'(by omega)):=List.getElem?_eq_getElem (by omega)
   have hyk:l'[k]? =some l'[k]:=List.getElem?_eq_getElem hkl
   have hne:=List.pairwise_iff_getElem.1 nd (k-1) k (by omega) hkl (by omega)
   generalize (l'[k-1]'(by omega))=x at hxk hne
   generalize l'[k]=y at hyk hne
   obtain⟨jx,tx,ex,hjx,px,sx⟩:=at' _ x hxk
   obtain⟨jy,ty,ey,hjy,py,sy⟩:=at' _ y hyk
   rw[bT (x:=(k:Int)-1) (by omega) (by omega)]
   refine ldv no16.2.2 (aZ (T:=dX) uP hso16 (n:=k-1) (by omega) hxk rfl (fP hs16 ex hjx (ldv no16.2.2 (aZ (T:=dX) uP hso16 (n:=k) rfl hyk rfl (fP hs16 ey hjy (eP (fun e=>bad _ _ (fun w=> ?_) f016) (fun e=> ?_)))))))
   ·exact w.dst jx jy tx ty (fun q=>hne (by rw[ex,ey,q])) hjx hjy px py e
   ·rw[bT (by omega) (by omega)]
    refine hG _ _ ⟨rfl,k+1,by simp,by omega,fun j a b w1 w2 w3 w4=> ?_⟩ (by simp; omega)
    by_cases ej:j=k
    ·subst ej; rw[hxk]at w3; cases w3; rw[hyk]at w4; cases w4
     have:=hsort (j-1) j x y (by omega) hxk hyk
     rw[sx,sy]at this ⊢
     omega
    ·exact hno j a b w1 (by omega) w3 w4
  ·rintro⟨_,p4,_⟩ H17 ⟨rfl,hstr⟩
   have lt2:∀(p q:Nat) x y,p<q->l'[p]? =some x->l'[q]? =some y->bH ts x.toNat<bH ts y.toNat:=fun p q x y hpq hx hy=>by
    have hql:=(List.getElem?_eq_some_iff.1 hy).1
    have hz:l'[p+1]? =some (l'[p+1]'(by omega)):=List.getElem?_eq_getElem (by omega)
    have h1:=hstr (p+1) x _ (by omega) (by simpa using hx) hz
    by_cases e:p+1=q
    ·subst e; rw[hy]at hz; cases hz; exact h1
    ·have h2:=hsort (p+1) q _ y (by omega) hz hy
     omega
   have U0:Yg B ts fs:=⟨hok,hfew,fun i j t u hij hi hj pt pu=>by
    have mi:(i:Int)∈l':=hperm.mem_iff.2 (uQ.2 ⟨i,t,(List.getElem?_eq_some_iff.1 hi).1,rfl,hi,pt⟩)
    have mj:(j:Int)∈l':=hperm.mem_iff.2 (uQ.2 ⟨j,u,(List.getElem?_eq_some_iff.1 hj).1,rfl,hj,pu⟩)
    obtain⟨p,hp⟩:=List.mem_iff_getElem?.1 mi
    obtain⟨q,hq⟩:=List.mem_iff_getElem?.1 mj
    have si:bH ts (i:Int).toNat=t.Stamp:=by simp[bH,hi]
    have sj:bH ts (j:Int).toNat=u.Stamp:=by simp[bH,hj]
    rcases Nat.lt_trichotomy p q with w|w|w
    ·have:=lt2 p q _ _ w hp hq; omega
    ·subst w; rw[hp]at hq; simp at hq; exact absurd (by omega) hij
    ·have:=lt2 q p _ _ w hq hp; omega⟩
   refine q0 s3 so cl l' H17 (eT U0) U0 ⟨(oc.after aft (fun d hd e=>by rw[p3]at hd; cases hd; have:=hso _ e; omega)).jH,sc.len,fun i t c w1 w2 w3 w4=> ?_,hso16,⟨hperm,hsort⟩,f016⟩
   obtain⟨g',v1,v2,v3⟩:=sc.c i t c (List.getElem?_eq_some_iff.1 w1).1 w1 w2 w4
   have:=v2.after aft v3
   exact⟨g',v1,this.e,this.p,fun d hd=>by have:=this.lo d hd; omega⟩
end
end Go.Proofs.YtijnknjopjmiiaaGreatDoor.Zq
end
section
namespace Go.Proofs.YtijnknjopjmiiaaGreatDoor.Zq
open Zv
section
variable{H:Heap}
def Fh(t:Int):Int:=if 1≤t∧t≤8 then IntKind.wrap .u16 (1*2 ^ (min (IntKind.wrap .u8 (t-1)).toNat (IntKind.bits .u16)))else 0
def abh(s t:Int):Bool:=(IntKind.wrap .u16 (((BitVec.ofInt (IntKind.bits .u16) s &&& BitVec.ofInt (IntKind.bits .u16) (Fh t)).toNat:Int))) !=0
def LY(s t:Int):Int:=IntKind.wrap .u16 (((BitVec.ofInt (IntKind.bits .u16) s ||| BitVec.ofInt (IntKind.bits .u16) (Fh t)).toNat:Int))
def LZ(s t:Int):Int:=IntKind.wrap .u16 (((BitVec.ofInt (IntKind.bits .u16) s &&& ~~~BitVec.ofInt (IntKind.bits .u16) (Fh t)).toNat:Int))
def XJ(v:Int):Int:=if v=10 then 1 else if v=11 then 2 else if v=12∨v=13 then 3 else if v=14 then 4 else if v=15 then 5 else 0
theorem ajG(x:Int):0≤IntKind.wrap .u8 x:=by
 show 0≤x%256
 omega
theorem acB(x:Int):0≤IntKind.wrap .u16 x:=by
 show 0≤x%65536
 omega
theorem abj{t:Int}{Q:Int×Unit->Heap->Prop}(hq:Q (Fh t,()) H):CALL P [aj .u16] qI [.int .u8 t] H Q:=by
 apply ZJ
 unfold DR
 apply aa7
 unfold GV
 refine JD (1≤t∧t≤8) (fun j hj=>cu (fun h=>hj _ (by simp; omega)) (fun h=>hj _ (by simp; omega))) ?_
 refine XA (fun h=> ?_) (fun h=> ?_)
 ·unfold Fh at hq; rw[if_neg h]at hq; exact hq
 ·unfold Fh at hq; rw[if_pos h]at hq; exact⟨ajG _,hq⟩
theorem abk{t:Int}{Q:Int×Unit->Heap->Prop}(hq:Q (Fh t,()) H):CALL P [aj .u16] qJ [.int .u8 t] H Q:=by
 apply ZP
 unfold DU
 refine hJ (t<1∨8<t) (fun j hj=>cu (fun h=>hj _ (by simp; omega)) (fun h=>hj _ (by simp; omega))) (fun h=> ?_) (fun h=> ?_)
 ·unfold Fh at hq; rw[if_neg (by omega)]at hq; exact hq
 ·unfold Fh at hq; rw[if_pos (by omega)]at hq; exact⟨ajG _,hq⟩
theorem afe{s t:Int}{Q:Bool×Unit->Heap->Prop}(hq:Q (abh s t,()) H):CALL P [ah] wB [.int .u16 s,.int .u8 t] H Q:=by
 apply ZG
 unfold DN
 exact abj hq
theorem aff{s t:Int}{Q:Bool×Unit->Heap->Prop}(hq:Q (abh s t,()) H):CALL P [ah] wC [.int .u16 s,.int .u8 t] H Q:=by
 apply ZM
 unfold DT
 exact abk hq
theorem ag6{s t:Int}{Q:Int×Unit->Heap->Prop}(hq:Q (LY s t,()) H):CALL P [aj .u16] zO [.int .u16 s,.int .u8 t] H Q:=by
 apply WV
 unfold Ap
 exact abj hq
theorem ag7{s t:Int}{Q:Int×Unit->Heap->Prop}(hq:Q (LY s t,()) H):CALL P [aj .u16] zX [.int .u16 s,.int .u8 t] H Q:=by
 apply Xt
 unfold AL
 exact abk hq
theorem ag8{s t:Int}{Q:Int×Unit->Heap->Prop}(hq:Q (LZ s t,()) H):CALL P [aj .u16] qU [.int .u16 s,.int .u8 t] H Q:=by
 apply Nl
 unfold rP
 exact abj hq
theorem ag9{s t:Int}{Q:Int×Unit->Heap->Prop}(hq:Q (LZ s t,()) H):CALL P [aj .u16] rC [.int .u16 s,.int .u8 t] H Q:=by
 apply NV
 unfold su
 exact abk hq
theorem aiK{v:Int}{Q:Int×Unit->Heap->Prop}(hq:Q (XJ v,()) H):CALL P [aj .i64] ug [.int .u8 v] H Q:=by
 apply Qs
 unfold uK
 unfold XJ at hq
 refine eP (fun h=>by rwa [if_pos h]at hq) (fun h1=>eP (fun h=>by rwa [if_neg h1,if_pos h]at hq) (fun h2=>hJ (v=12∨v=13) (fun j hj=>eP (fun h=>hj _ (by simp; omega)) (fun h=>hj _ (by simp; omega))) (fun h3=>by rwa [if_neg h1,if_neg h2,if_pos h3]at hq) (fun h3=> ?_)))
 rw[if_neg h1,if_neg h2,if_neg h3]at hq
 exact eP (fun h=>by rwa [if_pos h]at hq) (fun h4=>eP (fun h=>by rwa [if_neg h4,if_pos h]at hq) (fun h5=>by rwa [if_neg h4,if_neg h5]at hq))
theorem aiL{v:Int}{Q:Int×Unit->Heap->Prop}(hq:Q (XJ v,()) H):CALL P [aj .i64] xu [.int .u8 v] H Q:=by
 apply UO
 unfold yK
 unfold XJ at hq
 refine eP (fun h=>by rwa [if_pos h]at hq) (fun h1=>eP (fun h=>by rwa [if_neg h1,if_pos h]at hq) (fun h2=>hJ (v=12∨v=13) (fun j hj=>eP (fun h=>hj _ (by simp; omega)) (fun h=>hj _ (by simp; omega))) (fun h3=>by rwa [if_neg h1,if_neg h2,if_pos h3]at hq) (fun h3=> ?_)))
 rw[if_neg h1,if_neg h2,if_neg h3]at hq
 exact eP (fun h=>by rwa [if_pos h]at hq) (fun h4=>eP (fun h=>by rwa [if_neg h4,if_pos h]at hq) (fun h5=>by rwa [if_neg h4,if_neg h5]at hq))
theorem aW.older{T:Tag}{H H1 H':Heap}{s:Sl}{l sp:List T.α}(h:aW T H1 s H' l sp)(f:bK [] H H1):aW T H s H' l sp:=
 ⟨h.1,fun d hd=>Nat.le_trans f.1 (h.2.1 d hd),f.trans h.2.2⟩
theorem aW.new{T:Tag}{H H1 H':Heap}{s:Sl}{l sp:List T.α}(h:aW T H s H1 l sp)(f:bK [] H1 H'):aW T H s H' l sp:=
 ⟨h.1.bP f (by simp[Sl.off]),h.2.1,h.2.2.trans f⟩
theorem aW.nil'(T:Tag)(H:Heap):aW T H ⟨none,0,0⟩ H [] []:=⟨Ow.nil T H,by simp,.refl _ _⟩
end
end Go.Proofs.YtijnknjopjmiiaaGreatDoor.Zq
end
section
namespace Go.Proofs.YtijnknjopjmiiaaGreatDoor.Zq
open Zv
section
abbrev eU:Tag:=ay
abbrev Sg:=aF
abbrev Ft:=aB
theorem AZ(x:Sg):(eU.cells x).length=eU.n:=rfl
theorem BO:Jq E eU 37 (⟨0,0,⟨0,0,0,0,0,0,0,ByteArray.mk #[]⟩⟩:Sg):=⟨⟨_,_,_,rfl,rfl,rfl,rfl,by decide,by decide,rfl⟩,by decide,AZ,fun _=>rfl⟩
theorem tyF:Jq E TF 30 (⟨0,0,0,0,0⟩:Ft):=⟨⟨_,_,_,rfl,rfl,rfl,rfl,by decide,by decide,rfl⟩,by decide,KZ,fun _=>rfl⟩
def Oj(fs:List Ft)(i:Int):Ft:=fs[i.toNat]?.getD ⟨0,0,0,0,0⟩
def cdI(B:List Cd)(ts:List Tg)(i:Int):Option Cd:=ts[i.toNat]?.bind fun t=>B[(t.Card-1).toNat]?
def cpI(B:List Cd)(ts:List Tg)(i:Int):List Pt:=((cdI B ts i).map (·.ps)).getD []
def ckI(B:List Cd)(ts:List Tg)(i:Int):Int:=((cdI B ts i).map (·.g.Kind)).getD 0
def kN(n k:Int)(p:Pt×Nat):List Sg:=if p.1.When=5∧XJ p.1.Verb=k then [⟨n,p.2,p.1⟩]else []
def ady(n k:Int)(ps:List Pt):List Sg:=ps.zipIdx.flatMap (kN n k)
def gY(B:List Cd)(ts:List Tg)(fs:List Ft)(k i:Int):List Sg:=if abh (Oj fs i).Traits 6=true then []else ady (i+1) k (cpI B ts i)
def sD(B:List Cd)(ts:List Tg)(fs:List Ft)(ol:List Int)(k:Int):List Sg:=ol.flatMap (gY B ts fs k)
def DX(B:List Cd)(ts:List Tg)(fs:List Ft)(s:Sg)(i:Int):Bool:=
 if s.What.Whom=4 then i==s.Thing-1
 else if ckI B ts i≠1 then false
 else if s.What.Whom=5 then(Oj fs i).Holder==(Oj fs (s.Thing-1)).Holder
 else if s.What.Whom=6 then(Oj fs i).Holder !=(Oj fs (s.Thing-1)).Holder
 else if s.What.Whom=7 then true
 else if s.What.Whom=8 then(Oj fs i).Holder==(Oj fs (s.Thing-1)).Holder&&i !=s.Thing-1
 else if s.What.Whom=9 then(Oj fs i).Suit==s.What.Suit
 else if s.What.Whom=10 then abh (Oj fs i).Traits s.What.Trait
 else false
def fZ(B:List Cd)(ts:List Tg)(fs:List Ft)(s:Sg)(i:Int):List Int:=if DX B ts fs s i=true then [i+1]else []
def fB(B:List Cd)(ts:List Tg)(fs:List Ft)(ol:List Int)(s:Sg):List Int:=ol.flatMap (fZ B ts fs s)
def uT(f:Ft)(p:Pt)(h:Int):Ft:=
 if p.Verb=10 then{ f with Holder:=h }
 else if p.Verb=11 then{ f with Suit:=p.Suit }
 else if p.Verb=12 then{ f with Traits:=LY f.Traits p.Trait }
 else if p.Verb=13 then{ f with Traits:=LZ f.Traits p.Trait }
 else if p.Verb=14 then{ f with Power:=p.Count,Health:=p.Count }
 else if p.Verb=15 then{ f with Power:=IntKind.wrap .i64 (f.Power+p.Count),Health:=IntKind.wrap .i64 (f.Health+p.Count) }
 else f
def vM(s:Sg)(h:Int)(out:List Ft)(n:Int):List Ft:=out.set (n-1).toNat (uT (Oj out (n-1)) s.What h)
def jq(B:List Cd)(ts:List Tg)(fs:List Ft)(ol:List Int)(s:Sg):List Ft:=
 (fB B ts fs ol s).foldl (vM s (Oj fs (s.Thing-1)).Holder) fs
def lT(B:List Cd)(ts:List Tg)(fs:List Ft)(ol:List Int)(s o:Sg):Bool:=decide (fB B ts fs ol s≠fB B ts (jq B ts fs ol o) ol s)
theorem A8{α β:Type}(f:α->List β){l:List α}{n:Nat}{x:α}(hx:l[n]? =some x):(l.take (n+1)).flatMap f=(l.take n).flatMap f++f x:=by
 rw[List.take_add_one,hx,List.flatMap_append]; simp
theorem Vy{α β:Type}(f:β->α->β)(b:β){l:List α}{n:Nat}{x:α}(hx:l[n]? =some x):(l.take (n+1)).foldl f b=f ((l.take n).foldl f b) x:=by
 rw[List.take_add_one,hx,List.foldl_append]; simp
theorem uU{α β:Type}{f:α->List β}{c:Nat}:∀{l:List α},(∀x∈l,(f x).length≤c)->(l.flatMap f).length≤c*l.length
 |[],_=>by simp
 |x::r,h=>by
  rw[List.flatMap_cons,List.length_append,List.length_cons,Nat.mul_succ]
  have:=uU (l:=r) (fun y hy=>h y (by simp[hy]))
  have:=h x (by simp)
  omega
theorem La(n k:Int)(p:Pt×Nat):(kN n k p).length≤1:=by unfold kN; split<;>simp
theorem QW(n k:Int)(ps:List Pt):(ady n k ps).length≤ps.length:=by
 have:=uU (f:=kN n k) (c:=1) (l:=ps.zipIdx) (fun x _=>La n k x)
 rw[List.length_zipIdx]at this
 unfold ady; omega
theorem DY(B:List Cd)(ts:List Tg)(fs:List Ft)(s:Sg)(i:Int):(fZ B ts fs s i).length≤1:=by unfold fZ; split<;>simp
theorem pW(B:List Cd)(ts:List Tg)(fs:List Ft)(ol:List Int)(s:Sg):(fB B ts fs ol s).length≤ol.length:=by
 have:=uU (f:=fZ B ts fs s) (c:=1) (l:=ol) (fun x _=>DY B ts fs s x)
 unfold fB; omega
theorem GZ{B:List Cd}{ts:List Tg}{fs:List Ft}{ol:List Int}{s:Sg}{x:Int}:x∈fB B ts fs ol s↔x-1∈ol∧DX B ts fs s (x-1)=true:=by
 unfold fB fZ
 simp only[List.mem_flatMap]
 constructor
 ·rintro⟨i,h1,h2⟩
  split at h2
  ·simp at h2; subst h2
   rename_i h3
   rw[show i+1-1=i by omega]; exact⟨h1,h3⟩
  ·cases h2
 ·rintro⟨h1,h2⟩
  exact⟨_,h1,by rw[if_pos h2]; simp⟩
theorem afg(s:Sg)(h:Int)(out:List Ft)(n:Int):(vM s h out n).length=out.length:=by unfold vM; simp
theorem sQ(s:Sg)(h:Int):∀(l:List Int) (out:List Ft),(l.foldl (vM s h) out).length=out.length
 |[],_=>rfl
 |x::r,out=>by rw[List.foldl_cons,sQ s h r,afg]
theorem G5(B:List Cd)(ts:List Tg)(fs:List Ft)(ol:List Int)(s:Sg):(jq B ts fs ol s).length=fs.length:=sQ _ _ _ _
theorem yM{fs:List Ft}{i:Int}{n:Nat}{f:Ft}(hi:i=n)(hf:fs[n]? =some f):Oj fs i=f:=by
 subst hi; simp[Oj,hf]
def mV(ts:List Tg)(s o:Sg):Bool:=
 decide (bH ts (s.Thing-1).toNat<bH ts (o.Thing-1).toNat)||(decide (bH ts (s.Thing-1).toNat=bH ts (o.Thing-1).toNat)&&decide (s.Place<o.Place))
def yX(l:List Sg)(i:Int):Sg:=l[i.toNat]?.getD ⟨0,0,⟨0,0,0,0,0,0,0,ByteArray.mk #[]⟩⟩
theorem yN{l:List Sg}{i:Int}{n:Nat}{s:Sg}(hi:i=n)(h:l[n]? =some s):yX l i=s:=by subst hi; simp[yX,h]
def DZ(B:List Cd)(ts:List Tg)(fs:List Ft)(ol:List Int)(l:List Sg)(i k:Nat):Bool:=(List.range k).any fun j=>j !=i&&lT B ts fs ol (yX l (i:Int)) (yX l (j:Int))
def nx(B:List Cd)(ts:List Tg)(fs:List Ft)(ol:List Int)(l:List Sg):Nat->Int×Int
 |0=>(-1,0)
 |n+1=>(if(!DZ B ts fs ol l n l.length&&(decide ((nx B ts fs ol l n).1<0)||mV ts (yX l n) (yX l (nx B ts fs ol l n).1)))=true then(n:Int)else(nx B ts fs ol l n).1,
   if mV ts (yX l n) (yX l (nx B ts fs ol l n).2)=true then(n:Int)else(nx B ts fs ol l n).2)
def yY(B:List Cd)(ts:List Tg)(fs:List Ft)(ol:List Int)(l:List Sg):Int:=if(nx B ts fs ol l l.length).1<0 then(nx B ts fs ol l l.length).2 else(nx B ts fs ol l l.length).1
theorem XK(B:List Cd)(ts:List Tg)(fs:List Ft)(ol:List Int)(l:List Sg):∀n,-1≤(nx B ts fs ol l n).1∧(nx B ts fs ol l n).1<n∧0≤(nx B ts fs ol l n).2∧((nx B ts fs ol l n).2<n∨(nx B ts fs ol l n).2=0)
 |0=>by simp[nx]
 |n+1=>by
  obtain⟨h1,h2,h3,h4⟩:=XK B ts fs ol l n
  unfold nx
  refine⟨?_,?_,?_,?_⟩<;>dsimp only<;>split<;>omega
theorem Ej(B:List Cd)(ts:List Tg)(fs:List Ft)(ol:List Int){l:List Sg}(h:0<l.length):0≤yY B ts fs ol l∧yY B ts fs ol l<l.length:=by
 obtain⟨h1,h2,h3,h4⟩:=XK B ts fs ol l l.length
 unfold yY
 split<;>omega
def eG(B:List Cd)(ts:List Tg)(ol:List Int)(fs:List Ft)(l:List Sg):Nat->List Ft×List Sg×List Sg
 |0=>(fs,l,[])
 |n+1=>
  let q:=eG B ts ol fs l n
  let i:=yY B ts q.1 ol q.2.1
  (jq B ts q.1 ol (yX q.2.1 i),q.2.1.eraseIdx i.toNat,q.2.2++[yX q.2.1 i])
theorem lU(B:List Cd)(ts:List Tg)(ol:List Int)(fs:List Ft)(l:List Sg):∀n,n≤l.length->(eG B ts ol fs l n).1.length=fs.length∧(eG B ts ol fs l n).2.1.length=l.length-n∧(∀s∈(eG B ts ol fs l n).2.1,s∈l)∧(eG B ts ol fs l n).2.2.length=n
 |0,_=>by simp[eG]
 |n+1,hn=>by
  obtain⟨h1,h2,h3,h4⟩:=lU B ts ol fs l n (by omega)
  have hr:=Ej B ts (eG B ts ol fs l n).1 ol (l:=(eG B ts ol fs l n).2.1) (by omega)
  unfold eG
  refine⟨?_,?_,fun s hs=>h3 s ?_,?_⟩
  ·dsimp only; rw[G5,h1]
  ·dsimp only; rw[List.length_eraseIdx,if_pos (by omega),h2]; omega
  ·exact List.mem_of_mem_eraseIdx hs
  ·dsimp only; rw[List.length_append,h4]; rfl
theorem D5{B:List Cd}{ts:List Tg}{fs:List Ft}{ol:List Int}{k:Int}{s:Sg}(h:s∈sD B ts fs ol k):s.Thing-1∈ol∧∃i:Nat,s.Place=i∧(cpI B ts (s.Thing-1))[i]? =some s.What∧s.What.When=5∧XJ s.What.Verb=k∧abh (Oj fs (s.Thing-1)).Traits 6=false:=by
 unfold sD at h
 obtain⟨x,hx,h⟩:=List.mem_flatMap.1 h
 unfold gY at h
 split at h
 ·cases h
 ·rename_i hh
  unfold ady at h
  obtain⟨p,hp,h⟩:=List.mem_flatMap.1 h
  unfold kN at h
  split at h
  ·rename_i hc
   simp at h; subst h
   have:=List.mk_mem_zipIdx_iff_getElem?.1 (show(p.1,p.2)∈(cpI B ts x).zipIdx from hp)
   have e:x+1-1=x:=by omega
   simp only[e]
   exact⟨hx,p.2,rfl,this,hc.1,hc.2,by simpa using hh⟩
  ·cases h
end
end Go.Proofs.YtijnknjopjmiiaaGreatDoor.Zq
end
