/- Part 2 of the proof of ViewPlain: what its row stands on (lemmas about the model, the evaluator, contracts of functions), put together and cut to what is used. -/
import Derived.Test.YtijnknjopjmiiaaGreatDoorKViewPlain1
import Derived.Below
import Derived.IntWalk
section
namespace Go.Proofs.YtijnknjopjmiiaaGreatDoor.Zq
variable{C:kN}{M M':Mp}{H H':Heap}{w w':World}{L:Loc}{ML:Ml}{fr:fO}{a:Act}{ro:Option Nat}{n:Nat}{Q:Exit->Act->World->Prop}{Kw:Act->World->Prop}{loc:List Nat}
 {dst:Option Nat} {ty:TypeId} {pos:String} {after:Array Edge} {guard:Option (Nat×Bool)} {k:Sv->Loc->Heap->Prop}
theorem yw(h:HR M H w)(l:LR M H L ML w)(f:FS M ML fr a.tmps){P:Program}{o:Oper}{s:Sem Value}{u:Value}{cs:List Value}{c:Array Value}{t:TypeId}{sv:Sv}(sz:Nat)(hd:∀c,o.op≠ .defer c)(hs:execOp a.eval o=(do pure (.value (←s))))
  (hr:s.run P w= .ok u (w.alloc (.cells c t (0,0)))) (hn:cs.length≤c.size) (hv:VL M cs (c.toList.take cs.length)) (hk:k sv (L++[(0,cs)]) H)
  (hu:yt M (ML++[some ⟨w.heap.size,0,false,cs.length,sz,c.size⟩]) sv u) (hK:Cont M H L ML w fr a o.dst k Kw):o.wpIn (Fw ro) n P a w Kw Q:=by
 obtain⟨q1,q2⟩:=LR.new h l t sz hn hv
 exact je hd hs hr (hK sv _ H M _ _ u hk ⟨q1,q2,f.app,.app L _,⟨_,rfl⟩,fun j hj=>by
  have:j<L.length:=by rw[←l.len]; exact(List.getElem?_eq_some_iff.1 hj).1
  rw[List.getElem?_append_left this]⟩ hu)
theorem VB(hE:C.E.Ok C.P)(h:HR M H w)(l:LR M H L ML w)(f:FS M ML fr a.tmps){op:Op}(ho:gW C loc dst ty op fr L H k)
  (hK:Cont M H L ML w fr a dst k Kw):(Oper.mk dst op ty pos after guard).wpIn (Fw ro) n C.P a w Kw Q:=by
 cases op with
 |move x=>
  simp only[gW]at ho
  split at ho
  ·rename_i s hs
   exact je (s:=pure (a.eval x)) (fun c=>by simp) (by simp[execOp]) rfl (hK s L H M ML w _ ho (nP h l f) (eX f hs))
  ·exact ho.elim
 |assign x=>
  simp only[gW]at ho
  split at ho
  ·rename_i s hs
   exact je (s:=pure (a.eval x)) (fun c=>by simp) (by simp[execOp]) rfl (hK s L H M ML w _ ho (nP h l f) (eX f hs))
  ·exact ho.elim
 |pick c x y=>
  simp only[gW]at ho
  split at ho
  ·rename_i g hg
   have hc:=(dP f hg).of_bool
   cases g with
   |true=>
    simp only[aO]at ho
    split at ho
    ·rename_i s hs
     exact je (s:=pure (a.eval x)) (fun c=>by simp) (by simp[execOp,hc,asBool]) rfl (hK s L H M ML w _ ho (nP h l f) (eX f hs))
    ·exact ho.elim
   |false=>
    simp only[aO]at ho
    split at ho
    ·rename_i s hs
     exact je (s:=pure (a.eval y)) (fun c=>by simp) (by simp[execOp,hc,asBool]) rfl (hK s L H M ML w _ ho (nP h l f) (eX f hs))
    ·exact ho.elim
  ·exact ho.elim
 |alloc t=>
  simp only[gW]at ho
  split at ho
  ·rename_i ti ht
   split at ho
   ·obtain⟨c,q1,q2,q3⟩:=OG (M:=M) (w:=w) hE ht
    refine yw (s:=Instr.alloc t true (.tuple #[])) h l f ti.size (fun c=>by simp) rfl q1 q2 q3 ho ?_ hK
    exact⟨_,by rw[←l.len]; exact List.getElem?_concat_length,rfl⟩
   ·exact val_ok (s:=Instr.alloc t true (.tuple #[])) l f (fun c=>by simp) rfl (RN hE h (by simp[vg,ht])) ho hK
  ·exact ho.elim
 |box t x=>
  simp only[gW]at ho
  split at ho
  ·rename_i v hv
   split at ho
   ·obtain⟨q1,q2,q3⟩:=abB (P:=C.P) (w:=w) (t:=t) (dP f hv)
    refine yw (s:=Instr.box t (a.eval x)) h l f v.cells.toList.length (fun c=>by simp) rfl q1 q2 q3 ho ?_ hK
    exact⟨_,by rw[←l.len]; exact List.getElem?_concat_length,rfl⟩
   ·exact val_ok (s:=Instr.box t (a.eval x)) l f (fun c=>by simp) rfl (Za h (dP f hv) rfl) ho hK
  ·exact ho.elim
 |build t ps=>
  simp only[gW]at ho
  split at ho
  ·rename_i qs hqs
   split at ho
   ·rename_i v hv
    exact val_ok (s:=Instr.build t (ps.map fun(i,x)=>(i,a.eval x))) l f (fun c=>by simp) rfl (RU hE h (qs:=ps.map fun(i,x)=>(i,a.eval x)) (by simpa using Vx f hqs) hv) ho hK
   ·exact ho.elim
  ·exact ho.elim
 |buildSlice t m ps=>
  simp only[gW]at ho
  split at ho
  ·rename_i qs hqs
   have hp:PL M qs (ps.map fun(i,x)=>(i,a.eval x)).toList:=by simpa using Vx f hqs
   have he:execOp a.eval ⟨dst,.buildSlice t m ps,ty,pos,after,guard⟩=(do pure (.value (←Instr.buildSlice t m (ps.map fun(i,x)=>(i,a.eval x))))):=rfl
   split at ho
   ·rename_i v cs sz hb
    split at ho
    ·obtain⟨cs',sz',c,ct,q0,q1,q2,q3,q4⟩:=Jl (M:=M) (w:=w) hE hp hb
     simp[mk]at q1
     obtain⟨rfl,rfl⟩:=q1
     refine yw h l f sz (fun c=>by simp) he q2 q3 q4 ho ?_ hK
     exact⟨_,by rw[←l.len]; exact List.getElem?_concat_length,rfl⟩
    ·exact val_ok l f (fun c=>by simp) he (Ap hE h hp (LW hb)) ho hK
   ·exact ho.elim
  ·exact ho.elim
 |load t x=>
  simp only[gW]at ho
  split at ho
  ·rename_i i off hx
   obtain⟨e,e1,e2⟩:=eX f hx
   split at ho
   ·rename_i m cs ti hL ht
    split at ho
    ·rename_i hlen
     split at ho
     ·rename_i v hv
      obtain⟨u,g1,g2⟩:=Jm hE l e1 hL ht hlen hv
      exact je (s:=Instr.loadAt t (a.eval x)) (fun c=>by simp) rfl (by rw[e2]; simp[Instr.loadAt,Instr.sureAddr,g1]) (hK (.v v) L H M ML w u ho (nP h l f) g2)
     ·exact ho.elim
    ·exact ho.elim
   ·exact ho.elim
  ·rename_i b off hx
   split at ho
   ·rename_i ti ht
    split at ho
    ·rename_i hc
     obtain⟨hc1,hc2,hc3⟩:=hc
     obtain⟨y,g1,g2⟩:=ho
     rw[←hc1]at g1
     refine val_ok (s:=Instr.loadAt t (a.eval x)) l f (fun c=>by simp) rfl (WX hE h (eX (s:=.v (.pointer (some ⟨b,off,none⟩))) f hx) ?_) g2 hK
     simp only[F9,ht,Option.bind_some,g1]
     refine SQ hc2 ?_
     rcases hc3 with h3|h3
     ·exact .inl h3
     ·exact .inr (by rw[Vp g1]; exact h3)
    ·exact ho.elim
   ·exact ho.elim
  ·exact ho.elim
 |store t x y=>
  simp only[gW]at ho
  split at ho
  ·rename_i v ti hv ht
   split at ho
   ·rename_i hlen
    split at ho
    ·rename_i i off hx
     obtain⟨e,e1,e2⟩:=eX f hx
     split at ho
     ·rename_i m cs hL
      split at ho
      ·rename_i hc
       obtain⟨w',g1,g2,g3⟩:=SL hE h l e1 hL ht hlen hc.1 hc.2 (dP f hv)
       exact pU (s:=Instr.storeAt t (a.eval x) (a.eval y)) (fun c=>by simp) rfl (by rw[e2]; exact g1) (hK (.v undef) _ H M ML w' undef ho ⟨g2,g3,f,.set hL,⟨[],by simp⟩,fun j hj=>by
        have:i≠j:=fun e0=>by subst e0; rw[e1]at hj; simp at hj
        rw[List.getElem?_set_ne this]⟩ (.undef M))
      ·exact ho.elim
     ·exact ho.elim
    ·rename_i b off hx
     obtain⟨H',g1,g2⟩:=ho
     exact Xj (s:=Instr.storeAt t (a.eval x) (a.eval y)) l f (fun c=>by simp) rfl (RJ hE h (eX (s:=.v (.pointer (some ⟨b,off,none⟩))) f hx) (dP f hv) (by simp only[Ez,ht,Option.bind_some,if_pos hlen]; exact g1)) g2 hK
    ·exact ho.elim
   ·exact ho.elim
  ·exact ho.elim
 |nilCheck x=>
  simp only[gW]at ho
  split at ho
  ·rename_i i off hx
   obtain⟨e,e1,e2⟩:=eX f hx
   exact je (s:=pure (a.eval x)) (fun c=>by simp) (by simp[execOp,e2]) rfl (hK (.lp i off) L H M ML w _ ho (nP h l f) ⟨e,e1,e2⟩)
  ·rename_i p hx
   have hp:=eX (s:=.v (.pointer p)) f hx
   unfold NIL at ho
   split at ho
   ·rename_i b off
    refine val_ok (s:=pure (a.eval x)) l f (fun c=>by simp) ?_ (Gives.pure h rfl hp) ho hK
    obtain⟨e,_,e2⟩:=VR.AU hp
    simp[execOp,e2]
   ·exact ho.elim
  ·rename_i g xs ys hx
   have hp:=eX (s:=.v (.func (.func g) xs ys)) f hx
   refine val_ok (s:=pure (a.eval x)) l f (fun c=>by simp) ?_ (Gives.pure h rfl hp) ho hK
   obtain⟨g',us,vs,hb'⟩:∃f us vs,a.eval x= .func (.func f) us vs:=by
    generalize hq:a.eval x=q at hp
    cases hp; exact⟨_,_,_,rfl⟩
   simp[execOp,hb']
  ·rename_i ll hx
   have hp:=eX (s:=.v (.func (.yield ll) #[] #[])) f hx
   refine val_ok (s:=pure (a.eval x)) l f (fun c=>by simp) ?_ (Gives.pure h rfl hp) ho hK
   obtain⟨l',hb'⟩:∃l,a.eval x= .func (.yield l) #[] #[]:=by
    generalize hq:a.eval x=q at hp
    cases hp; exact⟨_,rfl⟩
   simp[execOp,hb']
  ·exact ho.elim
 |binOp op t x y t2=>
  simp only[gW]at ho
  split at ho
  ·rename_i u v hu hv
   obtain⟨r,g1,g2⟩:=abC ho
   exact val_ok (s:=do eqGuard op t x y (a.eval x) (a.eval y); binOp op t (a.eval x) (a.eval y)) l f (fun c=>by simp) rfl (Ze hE h (dP f hu) (dP f hv) g1) g2 hK
  ·exact ho.elim
 |unOp op t x=>
  simp only[gW]at ho
  split at ho
  ·rename_i u hu
   split at ho
   ·rename_i v hv
    exact val_ok (s:=Op.unary op (a.eval x)) l f (fun c=>by simp) rfl (RP h (dP f hu) hv) ho hK
   ·exact ho.elim
  ·exact ho.elim
 |convert s d x=>
  simp only[gW]at ho
  split at ho
  ·rename_i u hu
   split at ho
   ·rename_i v hv
    exact val_ok (s:=convert s d (a.eval x)) l f (fun c=>by simp) rfl (IY hE h (dP f hu) hv) ho hK
   ·exact ho.elim
  ·exact ho.elim
 |makeFunc g first caps=>
  cases g with
  |func g=>
   simp only[gW]at ho
   split at ho
   ·rename_i xs ys h1 h2
    have g1:=vN f h1
    have g2:=vN f h2
    refine val_ok l f (fun c=>by simp) rfl (Gives.pure h rfl ?_) ho hK
    refine .func (by simpa using g1.1) (by simpa using g2.1) ?_ ?_
    ·intro i x u hx hu
     exact g1.2 i x u (by simpa using hx) (by simpa using hu)
    ·intro i x u hx hu
     exact g2.2 i x u (by simpa using hx) (by simpa using hu)
   ·exact ho.elim
  |_=>simp[gW]at ho
 |fieldAddr t x i=>
  simp only[gW]at ho
  split at ho
  ·rename_i j off hx
   obtain⟨e,e1,e2⟩:=eX f hx
   split at ho
   ·rename_i fs b1 b2 b3 ht
    split at ho
    ·rename_i o ft hi
     split at ho
     ·rename_i te hte
      split at ho
      ·exact ho.elim
      ·rename_i h0
       have:=SS (w:=w) (b:=e.blk) (off:=e.base+off) hE ht rfl hi hte h0
       exact je (s:=Instr.fieldAt t (a.eval x) i) (fun c=>by simp) rfl (by rw[e2]; exact this) (hK (.lp j (off+o)) L H M ML w _ ho (nP h l f) ⟨e,e1,by rw[Nat.add_assoc]⟩)
     ·exact ho.elim
    ·exact ho.elim
   ·exact ho.elim
  ·rename_i v hx
   split at ho
   ·rename_i v2 hv
    exact val_ok (s:=Instr.fieldAt t (a.eval x) i) l f (fun c=>by simp) rfl (IW hE h (eX (s:=.v v) f hx) hv) ho hK
   ·exact ho.elim
  ·exact ho.elim
 |field t x i=>
  simp only[gW]at ho
  split at ho
  ·rename_i v hx
   split at ho
   ·rename_i v2 hv
    exact val_ok (s:=Instr.field t (a.eval x) i) l f (fun c=>by simp) rfl (RQ hE h (dP f hx) hv) ho hK
   ·exact ho.elim
  ·exact ho.elim
 |indexAddr t x i=>
  simp only[gW]at ho
  split at ho
  ·rename_i j off kk m hx hi
   obtain⟨e,e1,e2⟩:=eX f hx
   have hiv:=(dP f hi).of_int
   split at ho
   ·rename_i len el b1 b2 b3 ht
    split at ho
    ·rename_i te hte
     split at ho
     ·rename_i hb
      have:=SV (w:=w) (b:=e.blk) (off:=e.base+off) (kk:=kk) hE ht rfl hte hb
      exact je (s:=Instr.indexAt t (a.eval x) (a.eval i)) (fun c=>by simp) rfl (by rw[e2,hiv]; exact this) (hK (.lp j (off+m.toNat*te.size)) L H M ML w _ ho (nP h l f) ⟨e,e1,by rw[Nat.add_assoc]⟩)
     ·exact ho.elim
    ·exact ho.elim
   ·exact ho.elim
  ·rename_i p len cap kk m hx hi
   split at ho
   ·rename_i el b1 b2 b3 ht
    split at ho
    ·rename_i te hte
     unfold dR NIL at ho
     split at ho
     ·rename_i b off
      obtain⟨hb,ho⟩:=ho
      exact val_ok (s:=Instr.indexAt t (a.eval x) (a.eval i)) l f (fun c=>by simp) rfl (AV hE h (eX (s:=.v (.slice (some ⟨b,off,none⟩) len cap)) f hx) (dP f hi) (by simp[kK,ht,hte,hb])) ho hK
     ·exact ho.elim
    ·exact ho.elim
   ·exact ho.elim
  ·rename_i b off kk m hx hi
   split at ho
   ·rename_i len el b1 b2 b3 ht
    split at ho
    ·rename_i te hte
     obtain⟨hb,ho⟩:=ho
     exact val_ok (s:=Instr.indexAt t (a.eval x) (a.eval i)) l f (fun c=>by simp) rfl (AV hE h (eX (s:=.v (.pointer (some ⟨b,off,none⟩))) f hx) (dP f hi) (by simp[kK,ht,hte,hb])) ho hK
    ·exact ho.elim
   ·exact ho.elim
  ·exact ho.elim
 |extract x i=>
  simp only[gW]at ho
  split at ho
  ·rename_i v hx
   split at ho
   ·rename_i v2 hv
    exact val_ok (s:=Instr.extract (a.eval x) i) l f (fun c=>by simp) rfl (IX h (dP f hx) hv) ho hK
   ·exact ho.elim
  ·exact ho.elim
 |call c=>
  simp only[gW]at ho
  exact Zy hE h l f ho hK
 |mapUpdate t m i x=>
  simp only[gW]at ho
  split at ho
  ·rename_i mv iv xv h1 h2 h3
   obtain⟨H',g1,g2⟩:=ho
   exact Xj l f (fun c=>by simp) rfl (vH hE h (dP f h1) (dP f h2) (dP f h3) g1) g2 hK
  ·exact ho.elim
 |index t x i=>
  simp only[gW]at ho
  split at ho
  ·rename_i xv iv h1 h2
   obtain⟨y,g1,g2⟩:=ho
   exact val_ok (s:=Instr.index t (a.eval x) (a.eval i)) l f (fun c=>by simp) rfl (RS hE h (dP f h1) (dP f h2) g1) g2 hK
  ·exact ho.elim
 |slice t x lo hi mx=>
  simp only[gW]at ho
  split at ho
  ·rename_i v lov hiv mxv h1 h2 h3 h4
   obtain⟨y,g1,g2⟩:=ho
   exact val_ok (s:=Instr.sliceAt t (a.eval x) (lo.map a.eval) (hi.map a.eval) (mx.map a.eval)) l f (fun c=>by simp) rfl (IZ hE h (dP f h1) (Vy f h2) (Vy f h3) (Vy f h4) g1) g2 hK
  ·exact ho.elim
 |makeSlice t ln cp=>
  simp only[gW]at ho
  split at ho
  ·rename_i lv cv h1 h2
   obtain⟨y,H',g1,g2⟩:=ho
   exact val_ok (s:=Instr.makeSlice t (a.eval ln) (a.eval cp)) l f (fun c=>by simp) rfl (CW hE h (dP f h1) (dP f h2) g1) g2 hK
  ·exact ho.elim
 |makeMap t r=>
  cases r with
  |none=>
   simp only[gW]at ho
   exact val_ok (s:=Instr.makeMap t none) l f (fun c=>by simp) rfl (I7 h) ho hK
  |some r=>simp[gW]at ho
 |lookup t x i ok=>
  simp only[gW]at ho
  split at ho
  ·rename_i xv iv h1 h2
   cases ok with
   |true=>
    simp only[if_true]at ho
    split at ho
    ·rename_i T hT
     obtain⟨y,b,g1,g2⟩:=ho
     exact val_ok (s:=Instr.lookup t (a.eval x) (a.eval i) true) l f (fun c=>by simp) rfl (EK hE h (dP f h1) (dP f h2) g1) g2 hK
    ·exact ho.elim
   |false=>
    simp only[Bool.false_eq_true,if_false]at ho
    obtain⟨y,g1,g2⟩:=ho
    exact val_ok (s:=Instr.lookup t (a.eval x) (a.eval i) false) l f (fun c=>by simp) rfl (EK hE h (dP f h1) (dP f h2) g1) g2 hK
  ·exact ho.elim
 |range t x=>
  simp only[gW]at ho
  split at ho
  ·rename_i v hx
   obtain⟨y,H',g1,g2⟩:=ho
   exact val_ok (s:=Instr.range t (a.eval x)) l f (fun c=>by simp) rfl (Gm hE h (dP f hx) g1) g2 hK
  ·exact ho.elim
 |next x b=>
  cases b with
  |true=>
   simp only[gW]at ho
   split at ho
   ·rename_i v hx
    rcases ho with⟨i,r,H',g1,g2⟩|⟨H',g1,g2⟩
    ·exact val_ok (s:=Instr.next (a.eval x) true ty) l f (fun c=>by simp) rfl (AZ h (dP f hx) g1) g2 hK
    ·exact val_ok (s:=Instr.next (a.eval x) true ty) l f (fun c=>by simp) rfl (AZ h (dP f hx) g1) g2 hK
   ·exact ho.elim
  |false=>simp[gW]at ho
 |_=>simp[gW]at ho
end Go.Proofs.YtijnknjopjmiiaaGreatDoor.Zq
end
section
namespace Go.Proofs.YtijnknjopjmiiaaGreatDoor.Zq
variable{C:kN}{M M':Mp}{H H':Heap}{w w':World}{L L':Loc}{ML ML':Ml}{fr fr':fO}{a a':Act}{ro:Option Nat}{n:Nat}{Q:Exit->Act->World->Prop}{Kw:Act->World->Prop}{loc:List Nat}
def Rz(fr fr':fO):Prop:=fr'.n=fr.n∧∃news,fr'.l=news++fr.l
theorem Rz.refl(fr:fO):Rz fr fr:=⟨rfl,[],rfl⟩
theorem Rz.trans{fr'':fO}(h:Rz fr fr')(k:Rz fr' fr''):Rz fr fr'':=by
 obtain⟨h1,x,h2⟩:=h
 obtain⟨k1,y,k2⟩:=k
 exact⟨k1.trans h1,y++x,by rw[k2,h2,List.append_assoc]⟩
theorem Rz.put(fr:fO)(d:Nat)(s:Sv):Rz fr (fr.put d s):=⟨rfl,[(d,some s)],rfl⟩
theorem Rz.dV(fr:fO)(d:Option Nat)(s:Sv):Rz fr (fr.dV d s):=by
 cases d with
 |none=>exact .refl fr
 |some d=>exact .put fr d s
theorem Jo(hr:HR M H w)(l:LR M H L ML w)(hs:GR M H ML w M' H' w'){r:Nat}{ds:Option (List Deferred)}(h:w.heap[r]? =some (.deferred ds)):w'.heap[r]? =some (.deferred ds):=by
 rw[hs.frame r (Array.getElem?_eq_some_iff.1 h).1 ?_ ?_]
 ·exact h
 ·intro b e hb hw he
  exact hr.Df hb hw.live h he
 ·intro i e hi he
  have hiL:i<L.length:=by rw[←l.len]; exact(List.getElem?_eq_some_iff.1 hi).1
  obtain⟨_,_,_,_,h4⟩:=l.loc i e _ _ hi (List.getElem?_eq_getElem hiL)
  obtain⟨c,t,fz,g,_⟩:=h4 rfl
  rw[he,h]at g; simp at g
theorem Marks.Zz{M2:Mp}{H2:Heap}{w2:World}{ds ds1 ds2:List Deferred}(h:Marks w w' ds ds1)(hr:HR M' H' w')(l:LR M' H' L' ML' w')(hs:GR M' H' ML' w' M2 H2 w2)(h0:w.heap.size≤w'.heap.size)(k:Marks w' w2 ds1 ds2):Marks w w2 ds ds2:=by
 obtain⟨rs,e1,n1,a1⟩:=h
 obtain⟨qs,e2,n2,a2⟩:=k
 refine⟨qs++rs,by rw[e2,e1]; simp,?_,?_⟩
 ·rw[List.nodup_append]
  refine⟨n2,n1,fun a ha b hb hab=> ?_⟩
  subst hab
  have:=(a2 a ha).1
  have:=(Array.getElem?_eq_some_iff.1 (a1 a hb).2).1
  omega
 ·intro r hr'
  rcases List.mem_append.1 hr' with h|h
  ·exact⟨by have:=(a2 r h).1; omega,(a2 r h).2⟩
  ·exact⟨(a1 r h).1,Jo hr l hs (a1 r h).2⟩
structure Behind(M:Mp)(H:Heap)(L:Loc)(ML:Ml)(w:World)(fr:fO)(a:Act)(M':Mp)(H':Heap)(L':Loc)(ML':Ml)(w':World)(fr':fO)(a':Act):Prop where
 st:SK M H ML w M' H' ML' w'
 lr:LR M' H' L' ML' w'
 fs:FS M' ML' fr' a'.tmps
 rel:yu L L'
 suf:Rz fr fr'
 mlx:∃N,ML'=ML++N
 defers:Marks w w' a.defers a'.defers
theorem Behind.refl(h:HR M H w)(l:LR M H L ML w)(f:FS M ML fr a.tmps):Behind M H L ML w fr a M H L ML w fr a:=⟨.refl h ML,l,f,.refl L,.refl fr,⟨[],by simp⟩,.refl _ _ _⟩
theorem Behind.trans{M'':Mp}{H'':Heap}{L'':Loc}{ML'':Ml}{w'':World}{fr'':fO}{a'':Act}(h:Behind M H L ML w fr a M' H' L' ML' w' fr' a')(k:Behind M' H' L' ML' w' fr' a' M'' H'' L'' ML'' w'' fr'' a''):
  Behind M H L ML w fr a M'' H'' L'' ML'' w'' fr'' a'':=⟨h.st.trans k.st,k.lr,k.fs,h.rel.trans k.rel,h.suf.trans k.suf,by
  obtain⟨N,e1⟩:=h.mlx
  obtain⟨N',e2⟩:=k.mlx
  exact⟨N++N',by rw[e2,e1,List.append_assoc]⟩,h.defers.Zz h.st.st.hr h.lr k.st.st h.st.st.size k.defers⟩
def OH(v:Value)(want:Bool):Bool:=
 match v with
 | .bool b=>b==want
 |_=>false
theorem Iq{ops:Array Oper}{o:Oper}{j d:Nat}{want:Bool}{v:Value}(hg:o.guard=some (j,want))(hd:(ops[j]?).bind (·.dst)=some d)(hv:VR M v (a.tmps.getD d undef)):
  Region.wanted o (yielded ops a.tmps)=OH v want:=by
 have hf:FR M ⟨a.tmps.size,[(d,some v)]⟩ a.tmps:=⟨rfl,fun t u hu=>by
  simp only[dL.get,look]at hu
  split at hu
  ·rename_i e; subst e; simp at hu; subst hu; exact hv
  ·simp at hu⟩
 refine zD (M:=M) (fr:=⟨a.tmps.size,[(d,some v)]⟩) hf ?_
 simp only[iE,hg,hd,dL.get,look,if_true,Option.bind_some]
 cases v<;>rfl
theorem SX{ops:Array Oper}{o:Oper}(hg:o.guard=none):Region.wanted o (yielded ops a.tmps)=true:=by unfold Region.wanted; rw[hg]
theorem SY{ops:Array Oper}{o:Oper}{j:Nat}{want:Bool}(hg:o.guard=some (j,want))(hd:(ops[j]?).bind (·.dst)=none):Region.wanted o (yielded ops a.tmps)=false:=by
 unfold Region.wanted; rw[hg]; simp[yielded,hd]
theorem ZA(hE:C.E.Ok C.P)(h:HR M H w)(l:LR M H L ML w)(f:FS M ML fr a.tmps){ops:Array Oper}{o:Oper}{i:Nat}{K:fO->Loc->Heap->Prop}(hi:ops[i]? =some o)(ho:OE C loc ops o fr L H K)
  (hK:∀fr' L' H' M' ML' a' w',K fr' L' H'->Behind M H L ML w fr a M' H' L' ML' w' fr' a'->Kw a' w'):wpOpIn (Fw ro) n C.P ops Q i Kw a w:=by
 unfold OE at ho
 split at ho
 ·rename_i hp
  unfold wpOpIn
  rw[hi]
  simp only
  have done:∀fr1:fO,Rz fr fr1->FS M ML fr1 a.tmps->(gW C loc o.dst o.type o.op fr1 L H fun s L H=>K (fr1.dV o.dst s) L H)->o.wpIn (Fw ro) n C.P a w Kw Q:=by
   intro fr1 hs1 f1 hop
   have hp1:kP fr1 o.dst=true:=by
    unfold kP at hp ⊢
    rw[hs1.1]; exact hp
   have:=VB (ro:=ro) (n:=n) (Q:=Q) (Kw:=Kw) (pos:=o.pos) (after:=o.after) (guard:=o.guard) hE h l f1 hop
   exact this fun s L' H' M' ML' w' u hk ha hu=>hK _ _ _ M' ML' _ w' hk ⟨ha.1,ha.2.1,ha.2.2.1.dV hp1 hu,ha.2.2.2.1,hs1.trans (.dV _ _ _),ha.2.2.2.2.1,.of_eq (put_defers _ _ _)⟩
  have skip:∀fr1:fO,Rz fr fr1->FS M ML fr1 a.tmps->K (fr1.dV o.dst (.v undef)) L H->Kw (a.put o.dst undef) w:=by
   intro fr1 hs1 f1 hk
   have hp1:kP fr1 o.dst=true:=by
    unfold kP at hp ⊢
    rw[hs1.1]; exact hp
   exact hK _ _ _ M ML _ w hk ⟨.refl h ML,l,f1.dV hp1 (VR.undef M),.refl L,hs1.trans (.dV _ _ _),⟨[],by simp⟩,.of_eq (put_defers _ _ _)⟩
  split at ho
  ·rename_i hg
   rw[SX hg]
   exact done fr (.refl fr) f ho
  ·rename_i j want hg
   split at ho
   ·rename_i hd
    rw[SY hg hd]
    exact⟨fun _ _=>trivial,skip fr (.refl fr) f ho⟩
   ·rename_i d hd
    split at ho
    ·rename_i g hgd
     have hv:VR M (.bool g) (a.tmps.getD d undef):=f.get d _ hgd
     rw[Iq hg hd hv]; unfold OH
     have f1:FS M ML (fr.put d (.v (.bool g))) a.tmps:=f.again hv
     cases g with
     |true=>
      simp only[aO]at ho
      cases want with
      |true=>
       simp only[if_true]at ho
       exact done _ (.put _ _ _) f1 ho
      |false=>
       simp at ho
       exact⟨fun _ _=>trivial,skip _ (.put _ _ _) f1 ho⟩
     |false=>
      simp only[aO]at ho
      cases want with
      |true=>
       simp at ho
       exact⟨fun _ _=>trivial,skip _ (.put _ _ _) f1 ho⟩
      |false=>
       simp only[if_true]at ho
       exact done _ (.put _ _ _) f1 ho
    ·rename_i xs hgd
     have hv:VR M (.tuple xs) (a.tmps.getD d undef):=f.get d _ hgd
     rw[Iq hg hd hv]; unfold OH
     exact⟨fun _ _=>trivial,skip fr (.refl fr) f ho⟩
    ·exact ho.elim
 ·exact ho.elim
theorem Xk(hE:C.E.Ok C.P){ops:Array Oper}{K:fO->Loc->Heap->Prop}:∀(os:List Oper) (j:Nat) (fr:fO) (L:Loc) (H:Heap) (M:Mp) (ML:Ml) (a:Act) (w:World),ops.toList.drop j=os->abz C loc ops os fr L H K->HR M H w->LR M H L ML w->FS M ML fr a.tmps→
  (∀fr' L' H' M' ML' a' w',K fr' L' H'->Behind M H L ML w fr a M' H' L' ML' w' fr' a'->Q .normal a' w')->wpOpsIn (Fw ro) n C.P ops Q (List.range' j os.length) a w
 |[],j,fr,L,H,M,ML,a,w,_,ho,h,l,f,hQ=>hQ fr L H M ML a w ho (.refl h l f)
 |o::os,j,fr,L,H,M,ML,a,w,hd,ho,h,l,f,hQ=>by
  have hi:ops[j]? =some o:=by
   have:=congrArg (·[0]?) hd
   simpa using this
  have hd':ops.toList.drop (j+1)=os:=by
   rw[←List.drop_drop,hd]; rfl
  simp only[List.length_cons,List.range'_succ]
  rw[wpOpsIn_cons]
  refine ZA hE h l f hi ho fun fr1 L1 H1 M1 ML1 a1 w1 hk b1=> ?_
  exact Xk hE os (j+1) fr1 L1 H1 M1 ML1 a1 w1 hd' hk b1.st.st.hr b1.lr b1.fs fun fr' L' H' M' ML' a' w' hk' b'=>hQ fr' L' H' M' ML' a' w' hk' (b1.trans b')
theorem abD(hE:C.E.Ok C.P){ops:Array Oper}{id:Nat}{K:fO->Loc->Heap->Prop}(ho:abz C loc ops ops.toList fr L H K)(h:HR M H w)(l:LR M H L ML w)(f:FS M ML fr a.tmps)
  (hQ:∀fr' L' H' M' ML' a' w',K fr' L' H'->Behind M H L ML w fr a M' H' L' ML' w' fr' a'->Q .normal a' w'):(Code.region id ops false).wpIn (Fw ro) n C.P Q a w:=by
 refine wpIn_region ?_
 have:=Xk (ro:=ro) (n:=n) (Q:=Q) hE ops.toList 0 fr L H M ML a w (by simp) ho h l f hQ
 rw[List.range_eq_range']
 simpa using this
end Go.Proofs.YtijnknjopjmiiaaGreatDoor.Zq
end
section
namespace Go.Proofs.YtijnknjopjmiiaaGreatDoor.Zq
section
variable{C:kN}{M M':Mp}{H H':Heap}{w w':World}{L L':Loc}{ML ML':Ml}{fr fr':fO}{a a':Act}{ro:Option Nat}{n:Nat}{Q:Exit->Act->World->Prop}{Kw:Act->World->Prop}{loc:List Nat}
 {dst:Option Nat} {ty:TypeId} {op:Op} {k:Sv->Loc->Heap->Prop}
theorem kY{x:Operand}(h:∀t,x= .tmp t->aX fr.l t=aX fr'.l t):LP fr x=LP fr' x:=by
 cases x with
 |tmp t=>exact h t rfl
 |_=>rfl
theorem dM{x:Operand}(h:∀t,x= .tmp t->aX fr.l t=aX fr'.l t):mP fr x=mP fr' x:=by unfold mP; rw[kY h]
theorem vO:∀{l:List Operand},(∀t,Operand.tmp t∈l->aX fr.l t=aX fr'.l t)->vK fr l=vK fr' l
 |[],_=>rfl
 |x::r,h=>by simp only[vK]; rw[dM (x:=x) (fun t e=>h t (by simp[e])),vO (l:=r) (fun t e=>h t (by simp[e]))]
theorem Bd:∀{l:List (Nat×Operand)},(∀t,Operand.tmp t∈l.map (·.2)->aX fr.l t=aX fr'.l t)->PK fr l=PK fr' l
 |[],_=>rfl
 |(i,x)::r,h=>by simp only[PK]; rw[dM (x:=x) (fun t e=>h t (by simp[e])),Bd (l:=r) (fun t e=>h t (by simp at e ⊢; exact .inr e))]
theorem Bf{x:Option Operand}(h:∀t,x=some (.tmp t)->aX fr.l t=aX fr'.l t):xA fr x=xA fr' x:=by
 cases x with
 |none=>rfl
 |some x=>simp only[xA]; rw[dM (x:=x) (fun t e=>h t (by rw[e]))]
theorem S9{c:Call}(h:∀t,Operand.tmp t∈c.operands.toList->aX fr.l t=aX fr'.l t):kW C fr c ty L H k=kW C fr' c ty L H k:=by
 obtain⟨callee,args,ts⟩:=c
 have ha:∀t,Operand.tmp t∈args.toList->aX fr.l t=aX fr'.l t:=fun t e=>h t (by simp[Call.operands]; right; simpa using e)
 have hvs:vK fr args.toList=vK fr' args.toList:=vO ha
 have h1:∀x,x∈args.toList->mP fr x=mP fr' x:=fun x hx=>dM fun t e=>ha t (by rw[←e]; exact hx)
 have h2:∀x,x∈args.toList->LP fr x=LP fr' x:=fun x hx=>kY fun t e=>ha t (by rw[←e]; exact hx)
 cases callee with
 |value f=>
  have hf:mP fr f=mP fr' f:=dM fun t e=>h t (by simp[Call.operands,e])
  cases f<;>simp only[kW,hvs,hf]
 |builtin b=>
  cases b with
  |len=>
   simp only[kW]
   split
   ·rename_i x t hx _; rw[h1 x (by rw[hx]; simp)]
   ·rfl
  |cap=>
   simp only[kW]
   split
   ·rename_i x t hx _; rw[h1 x (by rw[hx]; simp)]
   ·rfl
  |append=>
   simp only[kW]
   split
   ·rename_i s x hx; rw[h1 s (by rw[hx]; simp),h2 x (by rw[hx]; simp)]
   ·rfl
  |copy=>simp only[kW,hvs]
  |min=>simp only[kW,hvs]
  |max=>simp only[kW,hvs]
  |clear=>simp only[kW,hvs]
  |_=>rfl
 |invoke r m=>rfl
theorem OI(h:∀t,Operand.tmp t∈op.operands.toList->aX fr.l t=aX fr'.l t):gW C loc dst ty op fr L H k=gW C loc dst ty op fr' L H k:=by
 cases op with
 |makeFunc f first caps=>
  cases f<;>simp only[gW]
  rw[vO (l:=first.toList) (fun t e=>h t (by simp[Op.operands]; left; simpa using e)),vO (l:=caps.toList) (fun t e=>h t (by simp[Op.operands]; right; simpa using e))]
 |call c=>
  simp only[gW]
  exact S9 fun t e=>h t (by simpa[Op.operands]using e)
 |build t ps=>
  simp only[gW]
  rw[Bd (fun t e=>h t (by simpa[Op.operands]using e))]
 |buildSlice t n ps=>
  simp only[gW]
  rw[Bd (fun t e=>h t (by simpa[Op.operands]using e))]
 |slice t x lo hi mx=>
  simp only[gW]
  rw[dM (x:=x) (fun t e=>h t (by simp[Op.operands,e])),Bf (x:=lo) (fun t e=>h t (by simp[Op.operands,e])),Bf (x:=hi) (fun t e=>h t (by simp[Op.operands,e])),Bf (x:=mx) (fun t e=>h t (by simp[Op.operands,e]))]
 |move x|assign x|load _ x|nilCheck x=>
  simp only[gW]
  rw[kY (x:=x) (fun t e=>h t (by simp[Op.operands,e]))]
 |fieldAddr _ x _=>
  simp only[gW]
  rw[kY (x:=x) (fun t e=>h t (by simp[Op.operands,e]))]
 |box _ x|unOp _ _ x|convert _ _ x|field _ x _|extract x _=>
  simp only[gW]
  rw[dM (x:=x) (fun t e=>h t (by simp[Op.operands,e]))]
 |pick c x y=>
  simp only[gW]
  rw[dM (x:=c) (fun t e=>h t (by simp[Op.operands,e])),kY (x:=x) (fun t e=>h t (by simp[Op.operands,e])),kY (x:=y) (fun t e=>h t (by simp[Op.operands,e]))]
 |makeMap t r=>cases r<;>rfl
 |mapUpdate t m k x=>
  simp only[gW]
  rw[dM (x:=m) (fun t e=>h t (by simp[Op.operands,e])),dM (x:=k) (fun t e=>h t (by simp[Op.operands,e])),dM (x:=x) (fun t e=>h t (by simp[Op.operands,e]))]
 |store _ x y=>
  simp only[gW]
  rw[kY (x:=x) (fun t e=>h t (by simp[Op.operands,e])),dM (x:=y) (fun t e=>h t (by simp[Op.operands,e]))]
 |indexAddr _ x y=>
  simp only[gW]
  rw[kY (x:=x) (fun t e=>h t (by simp[Op.operands,e])),dM (x:=y) (fun t e=>h t (by simp[Op.operands,e]))]
 |binOp _ _ x y _|makeSlice _ x y|index _ x y|lookup _ x y _=>
  simp only[gW]
  rw[dM (x:=x) (fun t e=>h t (by simp[Op.operands,e])),dM (x:=y) (fun t e=>h t (by simp[Op.operands,e]))]
 |range _ x=>
  simp only[gW]
  rw[dM (x:=x) (fun t e=>h t (by simp[Op.operands,e]))]
 |next x b=>
  cases b with
  |true=>
   simp only[gW]
   rw[dM (x:=x) (fun t e=>h t (by simp[Op.operands,e]))]
  |false=>rfl
 |_=>rfl
def Dn(s:Sv)(L:Loc)(H:Heap):Sv->Loc->Heap->Prop:=fun s' L' H'=>s'=s∧L'=L∧H'=H
def qN(C:kN)(loc:List Nat)(dst:Option Nat)(ty:TypeId)(op:Op)(fr:fO)(L:Loc)(H:Heap)(s:Sv):Prop:=
 gW C loc dst ty op fr L H (Dn s L H)
theorem ZB{c:Call}(hc:c.callee= .builtin .len∨c.callee= .builtin .min∨c.callee= .builtin .max)(ho:kW C fr c ty L H k):∃s,kW C fr c ty L H (Dn s L H)∧k s L H:=by
 obtain⟨callee,args,ts⟩:=c
 simp only at hc
 rcases hc with rfl|rfl|rfl
 ·simp only[kW]at ho ⊢
  split at ho
  ·split at ho
   ·exact⟨_,⟨rfl,rfl,rfl⟩,ho⟩
   ·obtain⟨y,g1,g2⟩:=ho
    exact⟨_,⟨y,g1,rfl,rfl,rfl⟩,g2⟩
   ·exact ho.elim
  ·exact ho.elim
 all_goals
  simp only[kW]at ho ⊢
  split at ho
  ·rename_i x r hx
   split at ho
   ·exact⟨_,⟨rfl,rfl,rfl⟩,ho⟩
   ·exact ho.elim
  ·exact ho.elim
theorem X9{E:Env}{o:BinOp}{t:TypeId}{x y:Value}{k k':Value->Prop}(hk:∀v,k v->k' v)(h:PN E o t x y k):PN E o t x y k':=by
 unfold PN at h ⊢
 repeat' split at h
 all_goals first
  |exact⟨h.1,hk _ h.2⟩
  |exact hk _ h
  |exact h.elim
  |(rename_i hc; rw[if_pos hc]; exact⟨h.1,hk _ h.2⟩)
theorem Ya{E:Env}{o:BinOp}{t:TypeId}{x y:Value}{k:Value->Prop}(h:PN E o t x y k):∃v,PN E o t x y (fun v'=>v'=v)∧k v:=by
 unfold PN at h ⊢
 repeat' split at h
 all_goals first
  |exact⟨_,⟨h.1,rfl⟩,h.2⟩
  |exact⟨_,rfl,h⟩
  |exact h.elim
  |(rename_i hc; simp only[if_pos hc]; exact⟨_,⟨h.1,rfl⟩,h.2⟩)
theorem ZC(ht:turns op=false)(ho:gW C loc dst ty op fr L H k):∃s,qN C loc dst ty op fr L H s∧k s L H:=by
 unfold qN
 cases op with
 |move x|assign x=>
  simp only[gW]at ho ⊢
  split at ho
  ·exact⟨_,⟨rfl,rfl,rfl⟩,ho⟩
  ·exact ho.elim
 |pick c x y=>
  simp only[gW]at ho ⊢
  split at ho
  ·rename_i g hg
   cases g with
   |true=>
    simp only[aO]at ho ⊢
    split at ho
    ·exact⟨_,⟨rfl,rfl,rfl⟩,ho⟩
    ·exact ho.elim
   |false=>
    simp only[aO]at ho ⊢
    split at ho
    ·exact⟨_,⟨rfl,rfl,rfl⟩,ho⟩
    ·exact ho.elim
  ·exact ho.elim
 |build t ps=>
  simp only[gW]at ho ⊢
  split at ho
  ·split at ho
   ·exact⟨_,⟨rfl,rfl,rfl⟩,ho⟩
   ·exact ho.elim
  ·exact ho.elim
 |load t x=>
  simp only[gW]at ho ⊢
  split at ho
  ·split at ho
   ·rename_i hL ht2
    split at ho
    ·rename_i hlen
     split at ho
     ·simp only[if_pos hlen]; exact⟨_,⟨rfl,rfl,rfl⟩,ho⟩
     ·exact ho.elim
    ·exact ho.elim
   ·exact ho.elim
  ·split at ho
   ·rename_i ti hti
    split at ho
    ·rename_i hc
     obtain⟨y,g1,g2⟩:=ho
     simp only[if_pos hc]
     exact⟨_,⟨y,g1,rfl,rfl,rfl⟩,g2⟩
    ·exact ho.elim
   ·exact ho.elim
  ·exact ho.elim
 |nilCheck x=>
  simp only[gW]at ho ⊢
  split at ho
  ·exact⟨_,⟨rfl,rfl,rfl⟩,ho⟩
  ·unfold NIL at ho ⊢
   split at ho
   ·exact⟨_,⟨rfl,rfl,rfl⟩,ho⟩
   ·exact ho.elim
  ·exact⟨_,⟨rfl,rfl,rfl⟩,ho⟩
  ·exact⟨_,⟨rfl,rfl,rfl⟩,ho⟩
  ·exact ho.elim
 |binOp o t x y t2=>
  simp only[gW]at ho ⊢
  split at ho
  ·obtain⟨v,h1,h2⟩:=Ya ho
   exact⟨.v v,X9 (fun u hu=>(⟨by rw[hu],rfl,rfl⟩:Dn _ _ _ _ _ _)) h1,h2⟩
  ·exact ho.elim
 |unOp o t x=>
  simp only[gW]at ho ⊢
  split at ho
  ·split at ho
   ·exact⟨_,⟨rfl,rfl,rfl⟩,ho⟩
   ·exact ho.elim
  ·exact ho.elim
 |convert s d x=>
  simp only[gW]at ho ⊢
  split at ho
  ·split at ho
   ·exact⟨_,⟨rfl,rfl,rfl⟩,ho⟩
   ·exact ho.elim
  ·exact ho.elim
 |makeFunc g first caps=>
  cases g with
  |func g=>
   simp only[gW]at ho ⊢
   split at ho
   ·exact⟨_,⟨rfl,rfl,rfl⟩,ho⟩
   ·exact ho.elim
  |_=>simp[gW]at ho
 |slice t x lo hi mx=>
  simp only[gW]at ho ⊢
  split at ho
  ·obtain⟨y,g1,g2⟩:=ho
   exact⟨_,⟨y,g1,rfl,rfl,rfl⟩,g2⟩
  ·exact ho.elim
 |fieldAddr t x i=>
  simp only[gW]at ho ⊢
  split at ho
  ·split at ho
   ·rename_i hty
    split at ho
    ·rename_i hi
     split at ho
     ·rename_i te hte
      split at ho
      ·exact ho.elim
      ·rename_i h0
       simp only[if_neg h0]
       exact⟨_,⟨rfl,rfl,rfl⟩,ho⟩
     ·exact ho.elim
    ·exact ho.elim
   ·exact ho.elim
  ·split at ho
   ·exact⟨_,⟨rfl,rfl,rfl⟩,ho⟩
   ·exact ho.elim
  ·exact ho.elim
 |field t x i=>
  simp only[gW]at ho ⊢
  split at ho
  ·split at ho
   ·exact⟨_,⟨rfl,rfl,rfl⟩,ho⟩
   ·exact ho.elim
  ·exact ho.elim
 |indexAddr t x i=>
  simp only[gW]at ho ⊢
  split at ho
  ·split at ho
   ·split at ho
    ·rename_i te hte
     split at ho
     ·rename_i hb
      simp only[if_pos hb]
      exact⟨_,⟨rfl,rfl,rfl⟩,ho⟩
     ·exact ho.elim
    ·exact ho.elim
   ·exact ho.elim
  ·split at ho
   ·split at ho
    ·rename_i te hte
     unfold dR NIL at ho ⊢
     split at ho
     ·exact⟨_,⟨ho.1,rfl,rfl,rfl⟩,ho.2⟩
     ·exact ho.elim
    ·exact ho.elim
   ·exact ho.elim
  ·split at ho
   ·split at ho
    ·rename_i te hte
     exact⟨_,⟨ho.1,rfl,rfl,rfl⟩,ho.2⟩
    ·exact ho.elim
   ·exact ho.elim
  ·exact ho.elim
 |index t x i=>
  simp only[gW]at ho ⊢
  split at ho
  ·obtain⟨y,g1,g2⟩:=ho
   exact⟨_,⟨y,g1,rfl,rfl,rfl⟩,g2⟩
  ·exact ho.elim
 |extract x i=>
  simp only[gW]at ho ⊢
  split at ho
  ·split at ho
   ·exact⟨_,⟨rfl,rfl,rfl⟩,ho⟩
   ·exact ho.elim
  ·exact ho.elim
 |lookup t x i ok=>
  simp only[gW]at ho ⊢
  split at ho
  ·cases ok with
   |true=>
    simp only[if_true]at ho ⊢
    split at ho
    ·obtain⟨y,b,g1,g2⟩:=ho
     exact⟨_,⟨y,b,g1,rfl,rfl,rfl⟩,g2⟩
    ·exact ho.elim
   |false=>
    simp only[Bool.false_eq_true,if_false]at ho ⊢
    obtain⟨y,g1,g2⟩:=ho
    exact⟨_,⟨y,g1,rfl,rfl,rfl⟩,g2⟩
  ·exact ho.elim
 |call c=>
  simp only[gW]at ho ⊢
  refine ZB ?_ ho
  obtain⟨callee,args,ts⟩:=c
  cases callee with
  |builtin b=>cases b<;>first|(simp[turns]at ht; done)|simp
  |_=>simp[turns]at ht
 |_=>simp[turns]at ht
end
section
variable{C:kN}{M M':Mp}{H H':Heap}{w w':World}{L L':Loc}{ML ML':Ml}{fr fr':fO}{a a':Act}{ro:Option Nat}{n:Nat}{Q:Exit->Act->World->Prop}{Kw:Act->World->Prop}{loc:List Nat}
 {dst:Option Nat} {ty:TypeId} {op:Op} {k:Sv->Loc->Heap->Prop} {ops:Array Oper}
theorem OJ{s:Sv}(hr:reads op=false)(h:qN C loc dst ty op fr L H s)(ht:turns op=false):qN C loc dst ty op fr L' H' s:=by
 unfold qN Dn at*
 cases op with
 |call c=>
  obtain⟨callee,args,ts⟩:=c
  cases callee with
  |builtin b=>cases b<;>first|(simp[turns]at ht; done)|(simp[reads]at hr; done)|(simp only[gW,kW,and_self,and_true]at h ⊢; exact h)
  |_=>simp[turns]at ht
 |makeFunc g first caps=>
  cases g with
  |func g=>simp only[gW,and_self,and_true]at h ⊢; exact h
  |_=>simp[gW]at h
 |load _ _|slice _ _ _ _ _|lookup _ _ _ _=>simp[reads]at hr
 |move _|assign _|pick _ _ _|build _ _|nilCheck _|binOp _ _ _ _ _|unOp _ _ _|convert _ _ _|fieldAddr _ _ _|field _ _ _|indexAddr _ _ _|index _ _ _|extract _ _=>
  simp only[gW,and_self,and_true]at h ⊢; exact h
 |_=>simp[turns]at ht
theorem ZE{s:Sv}{x:Nat×List Value}(ht:turns op=false)(h:qN C loc dst ty op fr L H s):qN C loc dst ty op fr (L++[x]) H s:=by
 cases hr:reads op with
 |false=>exact OJ hr h ht
 |true=>
  unfold qN Dn at*
  cases op with
  |load t y=>
   simp only[gW,and_self,and_true]at h ⊢
   split at h
   ·rename_i i off hx
    split at h
    ·rename_i m cs ti hL hti
     have:=(List.getElem?_eq_some_iff.1 hL).1
     simp only[List.getElem?_append_left this,hL,hti]
     exact h
    ·exact h.elim
   ·exact h
   ·exact h.elim
  |slice t y lo hi mx=>simp only[gW,and_self,and_true]at h ⊢; exact h
  |lookup t y i ok=>simp only[gW,and_self,and_true]at h ⊢; exact h
  |call c=>
   obtain⟨callee,args,ts⟩:=c
   cases callee with
   |builtin b=>cases b<;>first|(simp[turns]at ht; done)|(simp[reads]at hr; done)|(simp only[gW,kW,and_self,and_true]at h ⊢; exact h)
   |_=>simp[turns]at ht
  |_=>simp[reads]at hr
theorem LR.fill(h:HR M H w)(l:LR M H L ML w){i m:Nat}{cs:List Value}{c:Array Value}(t:TypeId)(sz:Nat)(hi:ML[i]? =some none)(hL:L[i]? =some (m,cs))(hn:cs.length≤c.size)(hv:VL M cs (c.toList.take cs.length)):
  SK M H ML w M H (ML.set i (some ⟨w.heap.size,0,false,cs.length,sz,c.size⟩)) (w.alloc (.cells c t (0,0)))∧
  LR M H L (ML.set i (some ⟨w.heap.size,0,false,cs.length,sz,c.size⟩)) (w.alloc (.cells c t (0,0))):=by
 have hs:=Stp.hidden h (.cells c t (0,0))
 have l':=l.step hs
 have hlt:i<ML.length:=(List.getElem?_eq_some_iff.1 hi).1
 have hnew:∀(j:Nat) (e:jg),(ML.set i (some (⟨w.heap.size,0,false,cs.length,sz,c.size⟩:jg)))[j]? =some (some e)->(ML[j]? =some (some e)∧j≠i)∨(j=i∧e=⟨w.heap.size,0,false,cs.length,sz,c.size⟩):=by
  intro j e hj
  by_cases hji:j=i
  ·subst hji
   rw[List.getElem?_set_self hlt]at hj
   simp at hj; exact .inr ⟨rfl,hj.symm⟩
  ·rw[List.getElem?_set_ne (Ne.symm hji)]at hj; exact .inl ⟨hj,hji⟩
 have hw:(w.alloc (.cells c t (0,0))).heap[w.heap.size]? =some (.cells c t (0,0)):=by
  show(w.heap.push _)[w.heap.size]? =_
  rw[Array.getElem?_push,if_pos rfl]
 refine⟨⟨hs.toL ML,fun j e hj=> ?_⟩,by simp[l.len],fun j e m' cs' hj hLj=> ?_,fun j j' e e' hne hj hj'=> ?_,fun j e hj b e' hb hl=> ?_⟩
 ·rcases hnew j e hj with⟨h1,_⟩|⟨_,rfl⟩
  ·exact .inl ⟨j,h1⟩
  ·exact .inr (Nat.le_refl _)
 ·rcases hnew j e hj with⟨h1,_⟩|⟨rfl,rfl⟩
  ·exact l'.loc j e m' cs' h1 hLj
  ·rw[hL]at hLj
   simp at hLj; obtain⟨_,rfl⟩:=hLj
   exact⟨rfl,rfl,rfl,rfl,fun _=>⟨c,t,(0,0),hw,rfl,by simpa using hn,by simpa using hv,fun _=>rfl⟩⟩
 ·rcases hnew j e hj with⟨h1,_⟩|⟨q1,q2⟩<;>rcases hnew j' e' hj' with⟨h3,_⟩|⟨q3,q4⟩
  ·exact l.sep1 j j' e e' hne h1 h3
  ·have:=l.lt h1; rw[q4]; simp; omega
  ·have:=l.lt h3; rw[q2]; simp; omega
  ·exact absurd (q1.trans q3.symm) hne
 ·rcases hnew j e hj with⟨h1,_⟩|⟨_,rfl⟩
  ·exact l.sep2 j e h1 b e' hb hl
  ·have:=h.lq hb hl
   show e'.blk≠w.heap.size; omega
theorem yt.fill{i:Nat}{x:Option jg}{s:Sv}{u:Value}(hi:ML[i]? =some none)(h:yt M ML s u):yt M (ML.set i x) s u:=by
 cases s with
 |v v=>exact h
 |lp j off=>
  obtain⟨e,h1,h2⟩:=h
  have:i≠j:=fun e=>by subst e; rw[hi]at h1; simp at h1
  exact⟨e,by rw[List.getElem?_set_ne this]; exact h1,h2⟩
 |ls j n=>
  obtain⟨e,h1,h2⟩:=h
  have:i≠j:=fun e=>by subst e; rw[hi]at h1; simp at h1
  exact⟨e,by rw[List.getElem?_set_ne this]; exact h1,h2⟩
theorem LR.keep(l:LR M H L ML w)(x:Nat×List Value):LR M H (L++[x]) (ML++[none]) w:=by
 have hold:∀(i:Nat) (e:jg),(ML++[none])[i]? =some (some e)->ML[i]? =some (some e):=by
  intro i e hi
  by_cases hl:i<ML.length
  ·rw[List.getElem?_append_left hl]at hi; exact hi
  ·rw[List.getElem?_append_right (by omega)]at hi
   cases hq:i-ML.length with
   |zero=>rw[hq]at hi; simp at hi
   |succ q=>rw[hq]at hi; simp at hi
 refine⟨by simp[l.len],fun i e m cs hi hL=> ?_,fun i j e e' hne hi hj=>l.sep1 i j e e' hne (hold i e hi) (hold j e' hj),fun i e hi=>l.sep2 i e (hold i e hi)⟩
 have h1:=hold i e hi
 have hlt:i<L.length:=by rw[←l.len]; exact(List.getElem?_eq_some_iff.1 h1).1
 rw[List.getElem?_append_left hlt]at hL
 exact l.loc i e m cs h1 hL
theorem Aq{t j:Nat}:∀{l:List Nat},j∈l->l.findIdx (· ==j)<l.findIdx (· ==t)->j∈l.takeWhile (· !=t)
 |[],h,_=>by simp at h
 |x::r,h,hlt=>by
  rw[List.findIdx_cons,List.findIdx_cons]at hlt
  by_cases hx:x=t
  ·subst hx; simp at hlt
  ·have ht:(x==t)=false:=by simpa using hx
   have htn:(x !=t)=true:=by simpa using hx
   rw[List.takeWhile_cons,if_pos htn]
   by_cases hj:x=j
   ·subst hj; simp
   ·have hjf:(x==j)=false:=by simpa using hj
    rw[ht,hjf]at hlt
    simp only[cond_false]at hlt
    have:j∈r:=by
     rcases List.mem_cons.1 h with e|e
     ·exact absurd e.symm hj
     ·exact e
    exact List.mem_cons_of_mem _ (Aq this (by omega))
theorem mapM_mem{α β:Type}{f:α->Option β}:∀{l:List α} {r:List β},l.mapM f=some r->∀x∈l,∃y∈r,f x=some y
 |[],r,h,x,hx=>by simp at hx
 |z::l,r,h,x,hx=>by
  rw[List.mapM_cons]at h
  cases h1:f z with
  |none=>rw[h1]at h; simp at h
  |some y=>
   rw[h1]at h
   cases h2:l.mapM f with
   |none=>rw[h2]at h; simp at h
   |some r'=>
    rw[h2]at h
    simp at h; subst h
    rcases List.mem_cons.1 hx with rfl|hx
    ·exact⟨y,by simp,h1⟩
    ·obtain⟨y',q1,q2⟩:=mapM_mem h2 x hx
     exact⟨y',by simp[q1],q2⟩
theorem Jp{b:Array Nat}{tau:List Nat}:∀{l:List Nat} {S:List Step},Di loc ops b tau l=some S->S.length=l.length∧∀q i:Nat,l[q]? =some i->∃(o:Oper) (as:List Oper),ops[i]? =some o∧S[q]? =some (Step.mk i o as)∧
  (if Zr loc ops b i then(Xg loc ops b tau i).mapM (fun j=>ops[j]?)else some [])=some as
 |[],S,h=>by simp[Di]at h; subst h; exact⟨rfl,fun q i hq=>by simp at hq⟩
 |x::r,S,h=>by
  simp only[Di]at h
  split at h
  ·rename_i o as s h1 h2 h3
   simp at h; subst h
   obtain⟨g1,g2⟩:=Jp h3
   refine⟨by simp[g1],fun q i hq=> ?_⟩
   cases q with
   |zero=>simp at hq; subst hq; exact⟨o,as,h1,rfl,h2⟩
   |succ q=>exact g2 q i (by simpa using hq)
  ·simp at h
structure Good(loc:List Nat)(ops:Array Oper)(A:Nat->Nat->Prop)(T:Nat->Prop)(pos:Nat->Nat)(S:List Step):Prop where
 back:∀(i:Nat) (o:Oper) (e:Edge),ops[i]? =some o->e∈o.after.toList->Region.binds .any e=true->e.on<i
 edge:∀i j,A i j->∃(o:Oper) (e:Edge),ops[i]? =some o∧e∈o.after.toList∧Region.binds .any e=true∧(j=e.on∨A e.on j)
 slen:S.length=ops.size
 sat:∀(i:Nat) (o:Oper),ops[i]? =some o->∃as,S[pos i]? =some (Step.mk i o as)∧(¬T i->as=[])∧(T i->∀(j:Nat) (oj:Oper),ops[j]? =some oj->pos j<pos i->reads oj.op=true->¬A i j->¬T j->oj∈as)
 lt:∀(i:Nat) (o:Oper),ops[i]? =some o->pos i<ops.size
 inv:∀q:Nat,q<ops.size->∃(i:Nat) (o:Oper),ops[i]? =some o∧pos i=q
 ord:∀i j,i<ops.size->j<ops.size->A i j->pos j<pos i
 tt:∀i j,i<ops.size->j<ops.size->T j->pos j<pos i->A i j
 dsts:∀(i j:Nat) (oi oj:Oper) (d:Nat),ops[i]? =some oi->ops[j]? =some oj->oi.dst=some d->oj.dst=some d->i=j
 use:∀(p:Nat) (o:Oper) (t q:Nat) (oq:Oper),ops[p]? =some o->t∈kX ops o->ops[q]? =some oq->oq.dst=some t->A p q∨(T q∧(q=p∨A q p))
 nt:∀(i:Nat) (o:Oper),ops[i]? =some o->¬T i->Zp loc o=true∨turns o.op=false
 inj:∀i j,i<ops.size->j<ops.size->pos i=pos j->i=j
theorem ET:∀{l:List Nat},Jk l=true->l.Nodup
 |[],_=>List.nodup_nil
 |x::r,h=>by
  simp only[Jk,Bool.and_eq_true,Bool.not_eq_true']at h
  exact List.nodup_cons.2 ⟨by simpa using h.1,ET h.2⟩
theorem rY{β:Type}{f:β->Option Nat}:∀{l:List β},(l.filterMap f).Nodup->∀(i j:Nat) (x y:β) (d:Nat),l[i]? =some x->l[j]? =some y->f x=some d->f y=some d->i=j
 |[],_,i,j,x,y,d,hi,_,_,_=>by simp at hi
 |z::r,hn,i,j,x,y,d,hi,hj,hx,hy=>by
  have key:∀(q:Nat) (u:β),r[q]? =some u->f u=some d->d∈r.filterMap f:=fun q u hq hu=>List.mem_filterMap.2 ⟨u,List.mem_of_getElem? hq,hu⟩
  cases i with
  |zero=>
   cases j with
   |zero=>rfl
   |succ j=>
    simp at hi hj; subst hi
    rw[List.filterMap_cons,hx]at hn
    exact absurd (key j y hj hy) (List.nodup_cons.1 hn).1
  |succ i=>
   cases j with
   |zero=>
    simp at hi hj; subst hj
    rw[List.filterMap_cons,hy]at hn
    exact absurd (key i x hi hx) (List.nodup_cons.1 hn).1
   |succ j=>
    have hn':(r.filterMap f).Nodup:=by
     rw[List.filterMap_cons]at hn
     split at hn
     ·exact hn
     ·exact(List.nodup_cons.1 hn).2
    rw[rY hn' i j x y d (by simpa using hi) (by simpa using hj) hx hy]
theorem abE{S:List Step}(h:Ip loc ops=some S):∃(A:Nat->Nat->Prop) (T:Nat->Prop) (pos:Nat->Nat),Good loc ops A T pos S:=by
 unfold Ip at h
 simp only at h
 generalize htau:adu ops (Region.before ops) ((List.range ops.size).filter (Zr loc ops (Region.before ops))) ((List.range ops.size).filter (Zr loc ops (Region.before ops))) 0=tau at h
 generalize hb:Region.before ops=b at h
 split at h
 ·rename_i hg
  unfold SG at hg
  simp only[Bool.and_eq_true]at hg
  obtain⟨⟨⟨⟨⟨⟨⟨h1,hnd⟩,h2⟩,h3⟩,h4⟩,h5⟩,h6⟩,h7⟩:=hg
  have h2:tau.length=ops.size:=by simpa using h2
  have hmem:∀i,i<ops.size->i∈tau:=fun i hi=>by simpa using List.all_eq_true.1 h3 i (by simpa using hi)
  obtain⟨g1,g2⟩:=Jp h
  have hlt:∀i,i<ops.size->tau.findIdx (· ==i)<ops.size:=fun i hi=>by
   rw[←h2]; exact List.findIdx_lt_length_of_exists ⟨i,hmem i hi,by simp⟩
  have hget:∀i,i<ops.size->tau[tau.findIdx (· ==i)]? =some i:=fun i hi=>by
   have hl:=hlt i hi
   rw[List.getElem?_eq_getElem (by rw[h2]; exact hl)]
   have:=List.findIdx_getElem (w:=by rw[h2]; exact hl) (xs:=tau) (p:=(· ==i))
   simpa using this
  have hinj:∀i j,i<ops.size->j<ops.size->tau.findIdx (· ==i)=tau.findIdx (· ==j)->i=j:=fun i j hi hj e=>by
   have a1:=hget i hi
   have a2:=hget j hj
   rw[e,a2]at a1; simpa using a1.symm
  have ilt:∀i o,ops[i]? =some o->i<ops.size:=fun i o hi=>(Array.getElem?_eq_some_iff.1 hi).1
  refine⟨fun i j=>ahead b i j=true,fun i=>Zr loc ops b i=true,fun i=>tau.findIdx (· ==i),fun i o e hi he hbd=> ?_,fun i j hij=> ?_,by rw[g1,h2],fun i o hi=> ?_,fun i o hi=>hlt i (ilt i o hi),fun q hq=> ?_,
   fun i j hi hj hA=> ?_,fun i j hi hj hT hp=> ?_,fun i j oi oj d hi hj hdi hdj=> ?_,fun p o t q oq hp ht hq hd=> ?_,fun i o hi hT=> ?_,hinj⟩
  ·have:=Jb ops.toList 0 h1 i o e (by simpa using hi) he hbd
   simpa using this
  ·subst hb; exact Gp hij
  ·obtain⟨o',as,q1,q2,q3⟩:=g2 _ i (hget i (ilt i o hi))
   rw[hi]at q1; simp at q1; subst q1
   refine⟨as,q2,fun hT=> ?_,fun hT j oj hj hp hr hA hTj=> ?_⟩
   ·rw[if_neg hT]at q3; simpa using q3.symm
   ·rw[if_pos hT]at q3
    have hjm:j∈Xg loc ops b tau i:=by
     unfold Xg
     rw[List.mem_filter]
     refine⟨Aq (hmem j (ilt j oj hj)) hp,?_⟩
     simp only[hj,hr,Bool.true_and,Bool.and_eq_true,Bool.not_eq_true']
     exact⟨by simpa using hA,by simpa using hTj⟩
    obtain⟨y,y1,y2⟩:=mapM_mem q3 j hjm
    rw[hj]at y2; simp at y2; subst y2; exact y1
  ·have hq':q<tau.length:=by rw[h2]; exact hq
   obtain⟨o,as,q1,q2,_⟩:=g2 q tau[q] (List.getElem?_eq_getElem hq')
   refine⟨tau[q],o,q1,?_⟩
   have hil:=ilt _ o q1
   have hq2:=hget _ hil
   exact rY (f:=some) (l:=tau) (by rw[List.filterMap_some]; exact ET hnd) _ q tau[q] tau[q] tau[q] hq2 (List.getElem?_eq_getElem hq') rfl rfl
  ·have:=List.all_eq_true.1 (List.all_eq_true.1 h4 i (by simpa using hi)) j (by simpa using hj)
   simp only[hA,Bool.not_true,Bool.false_or,decide_eq_true_eq]at this
   exact this
  ·have:=List.all_eq_true.1 (List.all_eq_true.1 h5 i (by simpa using hi)) j (by simpa using hj)
   simpa[hT,hp]using this
  ·exact rY (f:=(·.dst)) (ET h6) i j oi oj d (by simpa using hi) (by simpa using hj) hdi hdj
  ·have:=List.all_eq_true.1 (List.all_eq_true.1 (List.all_eq_true.1 h7 (o,p) (mem_zipIdx hp)) t ht) (oq,q) (mem_zipIdx hq)
   simp only[hd,bne_self_eq_false,Bool.false_or,Bool.or_eq_true,Bool.and_eq_true,beq_iff_eq]at this
   rcases this with h|⟨h,h'⟩
   ·exact .inl h
   ·exact .inr ⟨h,h'⟩
  ·unfold Zr at hT
   rw[hi]at hT
   simp only[Bool.and_eq_true,Bool.or_eq_true,Bool.not_eq_true',not_and,not_or]at hT
   cases hf:Zp loc o with
   |true=>exact .inl rfl
   |false=>exact .inr (by simpa using(hT hf).1)
 ·simp at h
end
section
variable{C:kN}{M M' M0:Mp}{H H' H0:Heap}{w w' w0:World}{L L' L0:Loc}{ML ML' ML0:Ml}{fr fr' fr0:fO}{a a' a0:Act}{ro:Option Nat}{n:Nat}{Q:Exit->Act->World->Prop}{Kw:Act->World->Prop}{loc:List Nat}
 {ops:Array Oper} {A:Nat->Nat->Prop} {T:Nat->Prop} {pos:Nat->Nat} {S:List Step} {K0:fO->Loc->Heap->Prop} {lst:Nat->Bool} {p:Nat} {idf:Nat->Nat}
def RD(ops:Array Oper)(o:Oper)(fr:fO):Prop:=o.guard=none∨∃j want d,o.guard=some (j,want)∧(ops[j]?).bind (·.dst)=some d∧aX fr.l d=some (.v (.bool want))
def Unw(ops:Array Oper)(o:Oper)(fr:fO):Prop:=∃j want,o.guard=some (j,want)∧((ops[j]?).bind (·.dst)=none∨∃d v,(ops[j]?).bind (·.dst)=some d∧aX fr.l d=some (.v v)∧OH v want=false)
theorem lC{d:Nat}{s:Sv}{t:Nat}:aX (fr.put d s).l t=if d=t then some s else aX fr.l t:=rfl
theorem OL{d:Nat}{s:Sv}(h:aX fr.l d=some s)(t:Nat):aX (fr.put d s).l t=aX fr.l t:=by
 rw[lC]; split
 ·rename_i e; subst e; exact h.symm
 ·rfl
theorem Gt{o:Oper}{K:fO->Loc->Heap->Prop}(h:OE C loc ops o fr L H K):kP fr o.dst=true∧∃fr1,Rz fr fr1∧(∀t,aX fr1.l t=aX fr.l t)∧
  ((Unw ops o fr∧K (fr1.dV o.dst (.v undef)) L H)∨(RD ops o fr∧gW C loc o.dst o.type o.op fr1 L H fun s L H=>K (fr1.dV o.dst s) L H)):=by
 unfold OE at h
 split at h
 ·rename_i hp
  refine⟨hp,?_⟩
  split at h
  ·rename_i hg
   exact⟨fr,.refl fr,fun _=>rfl,.inr ⟨.inl hg,h⟩⟩
  ·rename_i j want hg
   split at h
   ·rename_i hd
    exact⟨fr,.refl fr,fun _=>rfl,.inl ⟨⟨j,want,hg,.inl hd⟩,h⟩⟩
   ·rename_i d hd
    split at h
    ·rename_i g hgd
     cases g with
     |true=>
      simp only[aO]at h
      refine⟨_,.put fr d (.v (.bool true)),OL hgd,?_⟩
      cases want with
      |true=>simp only[if_true]at h; exact .inr ⟨.inr ⟨j,true,d,hg,hd,hgd⟩,h⟩
      |false=>simp at h; exact .inl ⟨⟨j,false,hg,.inr ⟨d,_,hd,hgd,rfl⟩⟩,h⟩
     |false=>
      simp only[aO]at h
      refine⟨_,.put fr d (.v (.bool false)),OL hgd,?_⟩
      cases want with
      |true=>simp at h; exact .inl ⟨⟨j,true,hg,.inr ⟨d,_,hd,hgd,rfl⟩⟩,h⟩
      |false=>simp only[if_true]at h; exact .inr ⟨.inr ⟨j,false,d,hg,hd,hgd⟩,h⟩
    ·rename_i xs hgd
     exact⟨fr,.refl fr,fun _=>rfl,.inl ⟨⟨j,want,hg,.inr ⟨d,_,hd,hgd,rfl⟩⟩,h⟩⟩
    ·exact h.elim
 ·exact h.elim
def aey(C:kN)(loc:List Nat)(ops:Array Oper)(fr:fO)(L:Loc)(H:Heap)(ML0 ML:Ml)(id:Nat)(o:Oper):Prop:=
 kP fr o.dst=true∧((Unw ops o fr∧∀d,o.dst=some d->aX fr.l d=some (.v undef))∨
  (RD ops o fr∧((∃t ti m,o.op= .alloc t∧C.E.ty t=some ti∧(∀d,o.dst=some d->aX fr.l d=some (.lp id 0))∧ML0.length≤id∧ML[id]? =some none∧L[id]? =some (m,ti.zero))∨
   (∃s,(∀d,o.dst=some d->aX fr.l d=some s)∧turns o.op=false∧qN C loc o.dst o.type o.op fr L H s))))
structure J(C:kN)(loc:List Nat)(ops:Array Oper)(A:Nat->Nat->Prop)(T:Nat->Prop)(pos:Nat->Nat)(S:List Step)(K0:fO->Loc->Heap->Prop)(M0:Mp)(H0:Heap)(L0:Loc)(ML0:Ml)(w0:World)(fr0:fO)(a0:Act)
  (lst:Nat->Bool) (p:Nat) (fr:fO) (L:Loc) (H:Heap) (M:Mp) (ML:Ml) (idf:Nat->Nat) (a:Act) (w:World):Prop where
 le:p≤ops.size
 t1:∀(i:Nat) (o:Oper),ops[i]? =some o->T i->(lst i=true↔pos i<p)
 t2:∀(i:Nat) (o:Oper),ops[i]? =some o->lst i=true->pos i<p
 cl:∀i j,lst i=true->A i j->lst j=true
 run:Bc C loc ops (S.drop p) fr L H K0
 st:SK M0 H0 ML0 w0 M H ML w
 rel:yu L0 L
 suf:Rz fr0 fr
 mlx:∃N,ML=ML0++N
 defers:a.defers=a0.defers
 size:a.tmps.size=fr.n
 slots:∀t s,aX fr.l t=some s->(∀(i:Nat) (o:Oper),ops[i]? =some o->o.dst=some t->pos i<p->lst i=true)->yt M ML s (a.tmps.getD t undef)
 lr:LR M H L ML w
 pend:∀(i:Nat) (o:Oper),ops[i]? =some o->pos i<p->lst i=false->aey C loc ops fr L H ML0 ML (idf i) o
 ids:∀(i i':Nat) (o o':Oper) (t t':TypeId),ops[i]? =some o->ops[i']? =some o'->pos i<p->pos i'<p->lst i=false->lst i'=false->o.op= .alloc t->o'.op= .alloc t'->RD ops o fr->RD ops o' fr->idf i=idf i'->i=i'
theorem pX{o:Oper}{s:Sv}(h:∀t,t∈kX ops o->aX fr'.l t=aX fr.l t)(hv:qN C loc o.dst o.type o.op fr L H s):qN C loc o.dst o.type o.op fr' L H s:=by
 unfold qN at*
 rw[OI (fr':=fr) fun t ht=>h t ?_]
 ·exact hv
 ·unfold kX tmpsOf; simp only[List.mem_append,List.mem_filterMap]; exact .inl ⟨_,ht,rfl⟩
theorem zG{o:Oper}{j:Nat}{want:Bool}{d:Nat}(hg:o.guard=some (j,want))(hd:(ops[j]?).bind (·.dst)=some d):d∈kX ops o:=by
 unfold kX; rw[hg]; simp[hd]
theorem RD.congr{o:Oper}(h:∀t,t∈kX ops o->aX fr'.l t=aX fr.l t)(hw:RD ops o fr):RD ops o fr':=by
 rcases hw with hg|⟨j,want,d,hg,hd,hc⟩
 ·exact .inl hg
 ·exact .inr ⟨j,want,d,hg,hd,by rw[h d (zG hg hd)]; exact hc⟩
theorem Unw.congr{o:Oper}(h:∀t,t∈kX ops o->aX fr'.l t=aX fr.l t)(hw:Unw ops o fr):Unw ops o fr':=by
 obtain⟨j,want,hg,hh⟩:=hw
 refine⟨j,want,hg,?_⟩
 rcases hh with hd|⟨d,v,hd,hc,he⟩
 ·exact .inl hd
 ·exact .inr ⟨d,v,hd,by rw[h d (zG hg hd)]; exact hc,he⟩
theorem RD.not{o:Oper}(h:RD ops o fr)(k:Unw ops o fr):False:=by
 obtain⟨j,want,hg,hh⟩:=k
 rcases h with h|⟨j',want',d',hg',hd',hc'⟩
 ·rw[h]at hg; simp at hg
 ·rw[hg']at hg; simp at hg; obtain⟨rfl,rfl⟩:=hg
  rcases hh with hd|⟨d,v,hd,hc,he⟩
  ·rw[hd']at hd; simp at hd
  ·rw[hd']at hd; simp at hd; subst hd
   rw[hc']at hc; simp at hc; subst hc
   simp[OH]at he
theorem rE{i:Nat}{o:Oper}(hi:ops[i]? =some o):i<ops.size:=(Array.getElem?_eq_some_iff.1 hi).1
theorem J.afg(g:Good loc ops A T pos S)(j:J C loc ops A T pos S K0 M0 H0 L0 ML0 w0 fr0 a0 lst p fr L H M ML idf a w){i:Nat}{o:Oper}(hi:ops[i]? =some o)(hp:pos i=p)(hT:¬T i)(hl:lst i=false):
  ∃fr' L' ML' idf',J C loc ops A T pos S K0 M0 H0 L0 ML0 w0 fr0 a0 lst (p+1) fr' L' H M ML' idf' a w:=by
 obtain⟨as,hS,has,_⟩:=g.sat i o hi
 have:=has hT; subst this
 rw[hp]at hS
 have hlt:p<ops.size:=by rw[←hp]; exact g.lt i o hi
 have hdrop:S.drop p=⟨i,o,[]⟩::S.drop (p+1):=by
  obtain⟨h1,h2⟩:=List.getElem?_eq_some_iff.1 hS
  rw[List.drop_eq_getElem_cons h1,h2]
 have hrun:=j.run
 rw[hdrop]at hrun
 simp only[Bc,SH]at hrun
 obtain⟨hput,fr1,hs1,hc1,hcase⟩:=Gt hrun
 have hone:∀(q:Nat) (oq:Oper),ops[q]? =some oq->pos q<p+1->pos q<p∨q=i:=fun q oq hq hlt=>by
  by_cases e:pos q=p
  ·exact .inr (g.inj q i (rE hq) (rE hi) (e.trans hp.symm))
  ·exact .inl (by omega)
 have hnouse:∀(q:Nat) (oq:Oper) (d:Nat),ops[q]? =some oq->pos q<p+1->o.dst=some d->d∉kX ops oq:=fun q oq d hq hlt hd hmem=>by
  rcases g.use q oq d i o hq hmem hi hd with hA|⟨hTi,_⟩
  ·have:=g.ord q i (rE hq) (rE hi) hA
   omega
  ·exact hT hTi
 have huse:∀(s:Sv) (q:Nat) (oq:Oper),ops[q]? =some oq->pos q<p+1->∀t,t∈kX ops oq->aX (fr1.dV o.dst s).l t=aX fr.l t:=fun s q oq hq hlt t ht=>by
  cases hd:o.dst with
  |none=>exact hc1 t
  |some d=>
   show aX (fr1.put d s).l t=_
   rw[lC,if_neg (fun e=>hnouse q oq d hq hlt hd (by rw[e]; exact ht))]
   exact hc1 t
 have hdstne:∀(s:Sv) (q:Nat) (oq:Oper) (d:Nat),ops[q]? =some oq->q≠i->oq.dst=some d->aX (fr1.dV o.dst s).l d=aX fr.l d:=fun s q oq d hq hne hdq=>by
  cases hd:o.dst with
  |none=>exact hc1 d
  |some d'=>
   show aX (fr1.put d' s).l d=_
   rw[lC,if_neg (fun e=>hne (g.dsts q i oq o d hq hi hdq (by rw[hd,e])))]
   exact hc1 d
 have hself:∀(s:Sv) (d:Nat),o.dst=some d->aX (fr1.dV o.dst s).l d=some s:=fun s d hd=>by
  rw[hd]; show aX (fr1.put d s).l d=_
  rw[lC,if_pos rfl]
 have hn:∀s:Sv,(fr1.dV o.dst s).n=fr.n:=fun s=>((hs1.trans (.dV _ _ _)).1)
 have hputn:∀(s:Sv) (oq:Oper),kP fr oq.dst=true->kP (fr1.dV o.dst s) oq.dst=true:=fun s oq h=>by unfold kP at h ⊢; rw[hn s]; exact h
 have hslots:∀(s:Sv) (ML2:Ml),(∃N,ML2=ML++N)->∀t s',aX (fr1.dV o.dst s).l t=some s'->(∀(q:Nat) (oq:Oper),ops[q]? =some oq->oq.dst=some t->pos q<p+1->lst q=true)->yt M ML2 s' (a.tmps.getD t undef):=by
  intro s ML2 hML t s' hs' hall
  have hne:o.dst≠some t:=fun hd=>by
   have:=hall i o hi hd (by omega)
   rw[hl]at this; simp at this
  have hold:aX fr.l t=some s':=by
   cases hd:o.dst with
   |none=>rw[hd]at hs'; rw[←hc1 t]; exact hs'
   |some d=>
    rw[hd]at hs'
    have hs2:aX (fr1.put d s).l t=some s':=hs'
    rw[lC,if_neg (fun e=>hne (by rw[hd,e]))]at hs2
    rw[←hc1 t]; exact hs2
  obtain⟨N,rfl⟩:=hML
  exact(j.slots t s' hold fun q oq hq hdq hlt=>hall q oq hq hdq (by omega)).app
 have ht1:∀(q:Nat) (oq:Oper),ops[q]? =some oq->T q->(lst q=true↔pos q<p+1):=fun q oq hq hTq=>by
  rw[j.t1 q oq hq hTq]
  constructor
  ·intro h; omega
  ·intro h
   rcases hone q oq hq h with h|h
   ·exact h
   ·exact absurd (h▸hTq) hT
 have hpend:∀(s:Sv) (L2:Loc) (ML2:Ml) (idf2:Nat->Nat),(∀q,q≠i->idf2 q=idf q)->(∀k:Nat,ML[k]? =some none->ML2[k]? =some none∧L2[k]? =L[k]?)->(∀(oq:Oper) (s:Sv),turns oq.op=false->qN C loc oq.dst oq.type oq.op fr L H s->qN C loc oq.dst oq.type oq.op fr L2 H s)→
   ∀(q:Nat) (oq:Oper),ops[q]? =some oq->pos q<p+1->lst q=false->q≠i->aey C loc ops (fr1.dV o.dst s) L2 H ML0 ML2 (idf2 q) oq:=by
  intro s L2 ML2 idf2 hidf hk hv q oq hq hlt hlq hne
  have hq':pos q<p:=(hone q oq hq hlt).resolve_right hne
  obtain⟨h1,h2⟩:=j.pend q oq hq hq' hlq
  rw[hidf q hne]
  refine⟨hputn s oq h1,?_⟩
  rcases h2 with⟨h2,h3⟩|⟨h2,h3⟩
  ·exact .inl ⟨h2.congr (huse s q oq hq hlt),fun d hd=>by rw[hdstne s q oq d hq hne hd]; exact h3 d hd⟩
  ·refine .inr ⟨h2.congr (huse s q oq hq hlt),?_⟩
   rcases h3 with⟨t,ti,m,e1,e2,e3,e4,e5,e6⟩|⟨s',e1,e2,e3⟩
   ·obtain⟨k1,k2⟩:=hk _ e5
    exact .inl ⟨t,ti,m,e1,e2,fun d hd=>by rw[hdstne s q oq d hq hne hd]; exact e3 d hd,e4,k1,by rw[k2]; exact e6⟩
   ·exact .inr ⟨s',fun d hd=>by rw[hdstne s q oq d hq hne hd]; exact e1 d hd,e2,pX (huse s q oq hq hlt) (hv oq s' e2 e3)⟩
 have hids:∀(s:Sv) (idf2:Nat->Nat),(∀q,q≠i->idf2 q=idf q)->(∀(q:Nat) (oq:Oper) (t:TypeId),ops[q]? =some oq->q≠i->pos q<p->lst q=false->oq.op= .alloc t->RD ops oq fr->(∃t',o.op= .alloc t')->RD ops o (fr1.dV o.dst s)->idf2 i≠idf q)→
   ∀(q q':Nat) (oq oq':Oper) (t t':TypeId),ops[q]? =some oq->ops[q']? =some oq'->pos q<p+1->pos q'<p+1->lst q=false->lst q'=false->oq.op= .alloc t->oq'.op= .alloc t'->RD ops oq (fr1.dV o.dst s)->RD ops oq' (fr1.dV o.dst s)->idf2 q=idf2 q'->q=q':=by
  intro s idf2 hidf hnew q q' oq oq' t t' hq hq' h1 h2 h3 h4 h5 h6 h7 h8 he
  by_cases e1:q=i
  ·by_cases e2:q'=i
   ·rw[e1,e2]
   ·exfalso
    subst e1
    rw[hi]at hq; simp at hq; subst hq
    rw[hidf q' e2]at he
    exact hnew q' oq' t' hq' e2 ((hone q' oq' hq' h2).resolve_right e2) h4 h6 (h8.congr fun t ht=>(huse s q' oq' hq' h2 t ht).symm) ⟨t,h5⟩ h7 he
  ·by_cases e2:q'=i
   ·exfalso
    subst e2
    rw[hi]at hq'; simp at hq'; subst hq'
    rw[hidf q e1]at he
    exact hnew q oq t hq e1 ((hone q oq hq h1).resolve_right e1) h3 h5 (h7.congr fun t ht=>(huse s q oq hq h1 t ht).symm) ⟨t',h6⟩ h8 he.symm
   ·rw[hidf q e1,hidf q' e2]at he
    exact j.ids q q' oq oq' t t' hq hq' ((hone q oq hq h1).resolve_right e1) ((hone q' oq' hq' h2).resolve_right e2) h3 h4 h5 h6 (h7.congr fun t ht=>(huse s q oq hq h1 t ht).symm)
     (h8.congr fun t ht=>(huse s q' oq' hq' h2 t ht).symm) he
 have hvals0:∀(oq:Oper) (s:Sv),turns oq.op=false->qN C loc oq.dst oq.type oq.op fr L H s->qN C loc oq.dst oq.type oq.op fr L H s:=fun _ _ _ h=>h
 rcases hcase with⟨hu,hk⟩|⟨hw,hop⟩
 ·
  refine⟨fr1.dV o.dst (.v undef),L,ML,idf,by omega,ht1,fun q oq hq hlq=>by have:=j.t2 q oq hq hlq; omega,j.cl,hk,j.st,j.rel,j.suf.trans (hs1.trans (.dV _ _ _)),j.mlx,j.defers,by rw[j.size,hn],hslots _ ML ⟨[],by simp⟩,j.lr,fun q oq hq hlt hlq=> ?_,
   hids _ idf (fun _ _=>rfl) fun q oq t hq hne hlt hlq ho hwq _ hwi=>(hwi.not (hu.congr (huse _ i o hi (by omega)))).elim⟩
  by_cases e:q=i
  ·subst e
   rw[hi]at hq; simp at hq; subst hq
   exact⟨hputn _ o hput,.inl ⟨hu.congr (huse _ q o hi (by omega)),fun d hd=>hself _ d hd⟩⟩
  ·exact hpend _ L ML idf (fun _ _=>rfl) (fun k hk=>⟨hk,rfl⟩) hvals0 q oq hq hlt hlq e
 ·by_cases hfl:Zp loc o=true
  ·
   unfold Zp at hfl
   cases hoop:o.op with
   |alloc t=>
    rw[hoop]at hfl hop
    simp only at hfl
    simp only[gW]at hop
    split at hop
    ·rename_i ti hti
     rw[if_pos hfl]at hop
     have hlen:=j.lr.len
     have hkeep:∀k:Nat,ML[k]? =some none->(ML++[none])[k]? =some none∧(L++[(0,ti.zero)])[k]? =L[k]? :=fun k hk=>by
      have h1:=(List.getElem?_eq_some_iff.1 hk).1
      exact⟨by rw[List.getElem?_append_left h1]; exact hk,by rw[List.getElem?_append_left (by omega)]⟩
     refine⟨_,L++[(0,ti.zero)],ML++[none],fun q=>if q=i then L.length else idf q,by omega,ht1,fun q oq hq hlq=>by have:=j.t2 q oq hq hlq; omega,j.cl,hop,⟨j.st.st,fun q e hq=> ?_⟩,j.rel.trans (.app _ _),
      j.suf.trans (hs1.trans (.dV _ _ _)),?_,j.defers,by rw[j.size,hn],hslots _ _ ⟨_,rfl⟩,j.lr.keep _,fun q oq hq hlt hlq=> ?_,hids _ _ (fun q hq=>by simp[hq]) fun q oq t' hq hne hlt hlq ho hwq _ _=> ?_⟩
     ·refine j.st.mx q e ?_
      by_cases h:q<ML.length
      ·rw[List.getElem?_append_left h]at hq; exact hq
      ·rw[List.getElem?_append_right (by omega)]at hq
       cases hx:q-ML.length with
       |zero=>rw[hx]at hq; simp at hq
       |succ x=>rw[hx]at hq; simp at hq
     ·obtain⟨N,hN⟩:=j.mlx
      exact⟨N++[none],by rw[hN,List.append_assoc]⟩
     ·by_cases e:q=i
      ·subst e
       rw[hi]at hq; simp at hq; subst hq
       refine⟨hputn _ o hput,.inr ⟨hw.congr (huse _ q o hi (by omega)),.inl ⟨t,ti,0,hoop,hti,fun d hd=>by simpa using hself _ d hd,?_,?_,?_⟩⟩⟩
       ·obtain⟨N,hN⟩:=j.mlx
        simp only[if_true]
        rw[←hlen,hN]; simp
       ·simp only[if_true]; rw[←hlen]; simp
       ·simp
      ·exact hpend _ _ _ (fun q=>if q=i then L.length else idf q) (fun q hq=>if_neg hq) hkeep (fun oq s h1 h2=>ZE h1 h2) q oq hq hlt hlq e
     ·have hp1:=j.pend q oq hq hlt hlq
      simp only[if_true]
      rcases hp1.2 with⟨hu,_⟩|⟨_,⟨t2,ti2,m,e1,e2,e3,e4,e5,e6⟩|⟨s',e1,e2,e3⟩⟩
      ·exact(hwq.not hu).elim
      ·have:=(List.getElem?_eq_some_iff.1 e6).1
       omega
      ·rw[ho]at e2; simp[turns]at e2
    ·exact hop.elim
   |_=>rw[hoop]at hfl; simp at hfl
  ·have htu:turns o.op=false:=(g.nt i o hi hT).resolve_left hfl
   obtain⟨s,hv,hk⟩:=ZC htu hop
   refine⟨fr1.dV o.dst s,L,ML,idf,by omega,ht1,fun q oq hq hlq=>by have:=j.t2 q oq hq hlq; omega,j.cl,hk,j.st,j.rel,j.suf.trans (hs1.trans (.dV _ _ _)),j.mlx,j.defers,by rw[j.size,hn],hslots _ ML ⟨[],by simp⟩,j.lr,fun q oq hq hlt hlq=> ?_,
    hids _ idf (fun _ _=>rfl) fun q oq t hq hne hlt hlq ho hwq he _=>by obtain⟨t',he⟩:=he; rw[he]at htu; simp[turns]at htu⟩
   by_cases e:q=i
   ·subst e
    rw[hi]at hq; simp at hq; subst hq
    refine⟨hputn _ o hput,.inr ⟨hw.congr (huse _ q o hi (by omega)),.inr ⟨s,fun d hd=>hself _ d hd,htu,?_⟩⟩⟩
    exact pX (huse _ q o hi (by omega)) (pX (ops:=ops) (fr:=fr1) (fun t _=>(hc1 t).symm) hv)
   ·exact hpend _ L ML idf (fun _ _=>rfl) (fun k hk=>⟨hk,rfl⟩) hvals0 q oq hq hlt hlq e
end
section
variable{C:kN}{M M' M0:Mp}{H H' H0:Heap}{w w' w0:World}{L L' L0:Loc}{ML ML' ML0:Ml}{fr fr' fr0:fO}{a a' a0:Act}{ro:Option Nat}{n:Nat}{Q:Exit->Act->World->Prop}{Kw:Act->World->Prop}{loc:List Nat}
 {ops:Array Oper} {A:Nat->Nat->Prop} {T:Nat->Prop} {pos:Nat->Nat} {S:List Step} {K0:fO->Loc->Heap->Prop} {lst:Nat->Bool} {p:Nat} {idf:Nat->Nat}
def Tc(ops:Array Oper)(o:Oper)(fr:fO):fO:=⟨fr.n,(kX ops o).map fun t=>(t,aX fr.l t)⟩
theorem Jq:∀{l:List Nat} {t:Nat} {f:Nat->Option Sv},aX (l.map fun t=>(t,f t)) t=if t∈l then f t else none
 |[],t,f=>by simp[aX]
 |x::r,t,f=>by
  simp only[List.map_cons,aX,Jq (l:=r)]
  by_cases h:x=t
  ·subst h; simp
  ·rw[if_neg h]
   have:t∈x::r↔t∈r:=by simp[Ne.symm h]
   simp only[this]
theorem Yb{o:Oper}{t:Nat}(h:t∈kX ops o):aX (Tc ops o fr).l t=aX fr.l t:=by unfold Tc; rw[Jq,if_pos h]
theorem Td{o:Oper}(hs:a.tmps.size=fr.n)(h:∀t s,t∈kX ops o->aX fr.l t=some s->yt M ML s (a.tmps.getD t undef)):FS M ML (Tc ops o fr) a.tmps:=
 ⟨hs,fun t s hg=>by
  unfold Tc at hg; rw[Jq]at hg
  split at hg
  ·rename_i hm; exact h t s hm hg
  ·simp at hg⟩
theorem ZF{o:Oper}(h:RD ops o fr)(hs:∀t s,t∈kX ops o->aX fr.l t=some s->yt M ML s (a.tmps.getD t undef)):Region.wanted o (yielded ops a.tmps)=true:=by
 rcases h with hg|⟨j,want,d,hg,hd,hc⟩
 ·exact SX hg
 ·rw[Iq hg hd (hs d _ (zG hg hd) hc)]; simp[OH]
theorem ZG{o:Oper}(h:Unw ops o fr)(hs:∀t s,t∈kX ops o->aX fr.l t=some s->yt M ML s (a.tmps.getD t undef)):Region.wanted o (yielded ops a.tmps)=false:=by
 obtain⟨j,want,hg,hh⟩:=h
 rcases hh with hd|⟨d,v,hd,hc,he⟩
 ·exact SY hg hd
 ·rw[Iq hg hd (hs d _ (zG hg hd) hc)]; exact he
theorem Xl{d:Option Nat}{u:Value}{t:Nat}(h:d≠some t):(a.put d u).tmps.getD t undef=a.tmps.getD t undef:=Jc h
theorem Xm{u:Value}{t:Nat}(h:t<a.tmps.size):(a.put (some t) u).tmps.getD t undef=u:=OC h
theorem Tf(a:Act)(d:Option Nat)(u:Value):(a.put d u).tmps.size=a.tmps.size:=by cases d<;>simp[Act.put]
theorem yt.aez{s:Sv}{u:Value}(h:yt M ML s u)(x:Ext M M')(e:∃N,ML'=ML++N):yt M' ML' s u:=by
 obtain⟨N,rfl⟩:=e
 exact(h.mono x).app
theorem J.sees(g:Good loc ops A T pos S)(j:J C loc ops A T pos S K0 M0 H0 L0 ML0 w0 fr0 a0 lst p fr L H M ML idf a w){i:Nat}{o:Oper}(hi:ops[i]? =some o)(hA:∀q,A i q->lst q=true):
  ∀t s,t∈kX ops o->aX fr.l t=some s->yt M ML s (a.tmps.getD t undef):=fun t s ht hc=>
 j.slots t s hc fun q oq hq hd hlt=>by
  rcases g.use i o t q oq hi ht hq hd with h|⟨hT,_⟩
  ·exact hA q h
  ·exact(j.t1 q oq hq hT).2 hlt
theorem OM{o:Oper}{k:Sv->Loc->Heap->Prop}{fr1:fO}(h1:∀t,aX fr1.l t=aX fr.l t)(h:gW C loc o.dst o.type o.op fr1 L H k):gW C loc o.dst o.type o.op (Tc ops o fr) L H k:=by
 rw[OI (fr':=fr1) fun t ht=> ?_]
 ·exact h
 ·rw[Yb (by unfold kX tmpsOf; simp only[List.mem_append,List.mem_filterMap]; exact .inl ⟨_,ht,rfl⟩),h1 t]
theorem J.exP(g:Good loc ops A T pos S)(hE:C.E.Ok C.P)(j:J C loc ops A T pos S K0 M0 H0 L0 ML0 w0 fr0 a0 lst p fr L H M ML idf a w){i:Nat}{o:Oper}(hi:ops[i]? =some o)(hp:pos i<p)(hT:¬T i)(hl:lst i=false)(hA:∀q,A i q->lst q=true)
  (hK:∀M' ML' a' w',J C loc ops A T pos S K0 M0 H0 L0 ML0 w0 fr0 a0 (fun q=>lst q||q==i) p fr L H M' ML' idf a' w'->Kw a' w'):wpOpIn (Fw ro) n C.P ops Q i Kw a w:=by
 obtain⟨hput,hcase⟩:=j.pend i o hi hp hl
 have hsee:=j.sees g hi hA
 have fin:∀(M':Mp) (ML':Ml) (w':World) (u:Value),SK M H ML w M' H ML' w'->LR M' H L ML' w'->(∃N,ML'=ML0++N)->(∀s u,yt M ML s u->yt M' ML' s u)->(∀d,o.dst=some d->∃s,aX fr.l d=some s∧yt M' ML' s u)→
   (∀(q:Nat) (oq:Oper),ops[q]? =some oq->pos q<p->lst q=false->q≠i->∀t,oq.op= .alloc t->RD ops oq fr->ML'[idf q]? =some none)→
   J C loc ops A T pos S K0 M0 H0 L0 ML0 w0 fr0 a0 (fun q=>lst q||q==i) p fr L H M' ML' idf (a.put o.dst u) w':=by
  intro M' ML' w' u hst hlr hmlx hsv hdst hkeep
  refine⟨j.le,fun q oq hq hTq=> ?_,fun q oq hq hlq=> ?_,fun x y hx hxy=> ?_,j.run,j.st.trans hst,j.rel,j.suf,hmlx,by rw[put_defers]; exact j.defers,by rw[Tf]; exact j.size,fun t s hs hall=> ?_,hlr,fun q oq hq hlt hlq=> ?_,
   fun q q' oq oq' t t' hq hq' h1 h2 h3 h4=> ?_⟩
  ·have hne:q≠i:=fun e=>hT (e▸hTq)
   have:(q==i)=false:=by simpa using hne
   simp only[this,Bool.or_false]
   exact j.t1 q oq hq hTq
  ·simp only[Bool.or_eq_true,beq_iff_eq]at hlq
   rcases hlq with h|h
   ·exact j.t2 q oq hq h
   ·subst h; exact hp
  ·simp only[Bool.or_eq_true,beq_iff_eq]at hx ⊢
   rcases hx with h|h
   ·exact .inl (j.cl x y h hxy)
   ·subst h; exact .inl (hA y hxy)
  ·by_cases e:o.dst=some t
   ·obtain⟨s',c1,c2⟩:=hdst t e
    rw[hs]at c1; simp at c1; subst c1
    have hlt:t<a.tmps.size:=by
     have hput':=hput
     unfold kP at hput'
     rw[e]at hput'
     rw[j.size]; simpa using hput'
    rw[e,Xm hlt]; exact c2
   ·rw[Xl e]
    exact hsv s _ (j.slots t s hs fun q oq hq hd hlt=>by
     have:=hall q oq hq hd hlt
     simp only[Bool.or_eq_true,beq_iff_eq]at this
     rcases this with h|h
     ·exact h
     ·subst h; rw[hi]at hq; simp at hq; subst hq; exact absurd hd e)
  ·simp only[Bool.or_eq_false_iff,beq_eq_false_iff_ne]at hlq
   obtain⟨h1,h2⟩:=j.pend q oq hq hlt hlq.1
   refine⟨h1,?_⟩
   rcases h2 with h2|⟨h2,h3⟩
   ·exact .inl h2
   ·refine .inr ⟨h2,?_⟩
    rcases h3 with⟨t,ti,m,e1,e2,e3,e4,e5,e6⟩|h3
    ·exact .inl ⟨t,ti,m,e1,e2,e3,e4,hkeep q oq hq hlt hlq.1 hlq.2 t e1 h2,e6⟩
    ·exact .inr h3
  ·simp only[Bool.or_eq_false_iff]at h3 h4
   exact j.ids q q' oq oq' t t' hq hq' h1 h2 h3.1 h4.1
 have hkeep0:∀(q:Nat) (oq:Oper),ops[q]? =some oq->pos q<p->lst q=false->∀t,oq.op= .alloc t->RD ops oq fr->ML[idf q]? =some none:=fun q oq hq hlt hlq t ho hw=>by
  obtain⟨_,h2⟩:=j.pend q oq hq hlt hlq
  rcases h2 with⟨hu,_⟩|⟨_,⟨t2,ti,m,e1,e2,e3,e4,e5,e6⟩|⟨s,e1,e2,e3⟩⟩
  ·exact(hw.not hu).elim
  ·exact e5
  ·rw[ho]at e2; simp[turns]at e2
 unfold wpOpIn
 rw[hi]
 simp only
 rcases hcase with⟨hu,hd⟩|⟨hw,hval⟩
 ·rw[ZG hu hsee]
  refine⟨fun _ _=>trivial,hK M ML _ w (fin M ML w undef (.refl j.st.st.hr ML) j.lr j.mlx (fun _ _ h=>h) (fun d he=>⟨_,hd d he,VR.undef M⟩) fun q oq hq hlt hlq _ t ho hwq=>hkeep0 q oq hq hlt hlq t ho hwq)⟩
 ·rw[ZF hw hsee]
  rcases hval with⟨t,ti,m,e1,e2,e3,e4,e5,e6⟩|⟨s,e1,e2,e3⟩
  ·obtain⟨c,q1,q2,q3⟩:=OG (M:=M) (w:=w) hE e2
   obtain⟨f1,f2⟩:=j.lr.fill j.st.st.hr t ti.size e5 e6 q2 q3
   have hid:=(List.getElem?_eq_some_iff.1 e5).1
   obtain⟨dst,op,ty,ps,after,guard⟩:=o
   simp only at e1; subst e1
   refine je (s:=Instr.alloc t true (.tuple #[])) (fun c=>by simp) rfl q1 (hK M _ _ _ (fin M _ _ _ f1 f2 ?_ (fun _ _ h=>h.fill e5) (fun d he=>⟨_,e3 d he,_,List.getElem?_set_self hid,rfl⟩) fun q oq hq hlt hlq hne t' ho hwq=> ?_))
   ·obtain⟨N,hN⟩:=j.mlx
    refine⟨N.set (idf i-ML0.length) (some ⟨w.heap.size,0,false,ti.zero.length,ti.size,c.size⟩),?_⟩
    rw[hN,List.set_append,if_neg (by omega)]
   ·have hidne:idf i≠idf q:=fun e=>hne (j.ids i q _ oq t t' hi hq hp hlt hl hlq rfl ho hw hwq e).symm
    rw[List.getElem?_set_ne hidne]
    exact hkeep0 q oq hq hlt hlq t' ho hwq
  ·have hop:=OM (ops:=ops) (fr:=fr) (fun _=>rfl) e3
   exact VB (ro:=ro) (n:=n) (Q:=Q) (pos:=o.pos) (after:=o.after) (guard:=o.guard) hE j.st.st.hr j.lr (Td j.size hsee) hop fun s' L' H' M' ML' w' u hk ha hu=>by
    obtain⟨rfl,rfl,rfl⟩:=hk
    obtain⟨h1,h2,_,_,⟨N,hN⟩,_⟩:=ha
    have hN0:N=[]:=by
     have l1:=h2.len
     have l2:=j.lr.len
     rw[hN]at l1; simp at l1
     exact List.length_eq_zero_iff.1 (by omega)
    subst hN0
    simp at hN; subst hN
    exact hK M' _ _ w' (fin M' _ w' u h1 h2 j.mlx (fun _ _ h=>h.mono h1.st.ext) (fun d he=>⟨_,e1 d he,hu⟩) fun q oq hq hlt hlq _ t ho hwq=>hkeep0 q oq hq hlt hlq t ho hwq)
def Asked(C:kN)(ops:Array Oper)(fr:fO)(L:Loc)(H:Heap)(o:Oper):Prop:=
 RD ops o fr->match o.op,o.dst with
  | .load t x,some d=>match LP fr x,aX fr.l d,C.E.ty t with
   |some (.v (.pointer (some ⟨b,off,none⟩))),some (.v v),some _=>LD (C.tag t) H b off fun x=>(C.tag t).enc x=v
   |some (.lp i off),some (.v v),some ti=>match L[i]? with
    |some (_,cs)=>off+ti.size≤cs.length∧gK ti.k ((cs.drop off).take ti.size)=some v
    |none=>False
   |_,_,_=>False
  | .slice t x lo hi mx,some d=>match mP fr x,xA fr lo,xA fr hi,xA fr mx,aX fr.l d with
   |some v,some lo,some hi,some mx,some (.v u)=>dQ C.E t v lo hi mx H=some u
   |_,_,_,_,_=>False
  | .lookup t x i ok,some d=>match mP fr x,mP fr i,aX fr.l d with
   |some x,some i,some (.v u)=>nJ C.E t x i ok H=some u
   |_,_,_=>False
  | .call ⟨.builtin .len,args,ts⟩,some _=>match args.toList,ts.toList with
   |[x],[t]=>match mP fr x,C.E.ty t with
    |some (.slice _ _ _),some ⟨.slice _,_,_,_⟩=>True
    |_,_=>False
   |_,_=>False
  |_,_=>False
theorem VD{o:Oper}{k:Prop}(h:adw C ops fr L H o k):k∧Asked C ops fr L H o:=by
 unfold adw at h
 have key:∀{q:Prop},(match o.op,o.dst with
  | .load t x,some d=>match LP fr x,aX fr.l d,C.E.ty t with
   |some (.v (.pointer (some ⟨b,off,none⟩))),some (.v v),some _=>LD (C.tag t) H b off fun x=>xB ((C.tag t).enc x=v) q
   |some (.lp i off),some (.v v),some ti=>match L[i]? with
    |some (_,cs)=>if off+ti.size≤cs.length then xB (gK ti.k ((cs.drop off).take ti.size)=some v) q else False
    |none=>False
   |_,_,_=>False
  | .slice t x lo hi mx,some d=>match mP fr x,xA fr lo,xA fr hi,xA fr mx,aX fr.l d with
   |some v,some lo,some hi,some mx,some (.v u)=>xB (dQ C.E t v lo hi mx H=some u) q
   |_,_,_,_,_=>False
  | .lookup t x i ok,some d=>match mP fr x,mP fr i,aX fr.l d with
   |some x,some i,some (.v u)=>xB (nJ C.E t x i ok H=some u) q
   |_,_,_=>False
  | .call ⟨.builtin .len,args,ts⟩,some _=>match args.toList,ts.toList with
   |[x],[t]=>match mP fr x,C.E.ty t with
    |some (.slice _ _ _),some ⟨.slice _,_,_,_⟩=>q
    |_,_=>False
   |_,_=>False
  |_,_=>False)->q∧Asked C ops fr L H o:=by
  intro q hq
  unfold Asked
  split at hq
  ·rename_i t x d ho hd
   split at hq
   ·rename_i b off v ti h1 h2 h3
    obtain⟨y,g1,g2,g3⟩:=hq
    refine⟨g3,fun _=> ?_⟩
    exact⟨y,g1,g2⟩
   ·rename_i i off v ti h1 h2 h3
    split at hq
    ·rename_i m cs hL
     split at hq
     ·rename_i hlen
      obtain⟨g1,g2⟩:=hq
      refine⟨g2,fun _=> ?_⟩
      exact⟨hlen,g1⟩
     ·exact hq.elim
    ·exact hq.elim
   ·exact hq.elim
  ·split at hq
   ·exact⟨hq.2,fun _=>hq.1⟩
   ·exact hq.elim
  ·split at hq
   ·exact⟨hq.2,fun _=>hq.1⟩
   ·exact hq.elim
  ·split at hq
   ·split at hq
    ·exact⟨hq,fun _=>trivial⟩
    ·exact hq.elim
   ·exact hq.elim
  ·exact hq.elim
 simp only at h
 split at h
 ·exact key h
 ·rename_i j want hg
  split at h
  ·rename_i hd
   refine⟨h,fun hw=> ?_⟩
   exact(hw.not ⟨j,want,hg,.inl hd⟩).elim
  ·rename_i d hd
   split at h
   ·rename_i b hc
    cases want with
    |true=>
     simp only[if_true]at h
     cases b with
     |true=>exact key h
     |false=>exact⟨h,fun hw=>(hw.not ⟨j,true,hg,.inr ⟨d,_,hd,hc,rfl⟩⟩).elim⟩
    |false=>
     simp only[Bool.false_eq_true,if_false]at h
     cases b with
     |true=>exact⟨h,fun hw=>(hw.not ⟨j,false,hg,.inr ⟨d,_,hd,hc,rfl⟩⟩).elim⟩
     |false=>exact key h
   ·rename_i xs hc
    exact⟨h,fun hw=>(hw.not ⟨j,want,hg,.inr ⟨d,_,hd,hc,rfl⟩⟩).elim⟩
   ·exact h.elim
theorem Gu:∀{as:List Oper} {k:Prop},SH C ops fr L H as k->k∧∀o∈as,Asked C ops fr L H o
 |[],k,h=>⟨h,fun o ho=>by simp at ho⟩
 |o::r,k,h=>by
  obtain⟨h1,h2⟩:=VD h
  obtain⟨h3,h4⟩:=Gu h1
  refine⟨h3,fun o' ho'=> ?_⟩
  rcases List.mem_cons.1 ho' with rfl|ho'
  ·exact h2
  ·exact h4 o' ho'
theorem VE{o:Oper}{s:Sv}(hv:qN C loc o.dst o.type o.op fr L H s)(hu:∀t,t∈kX ops o->aX fr'.l t=aX fr.l t)(hd:∀d,o.dst=some d->aX fr'.l d=some s)(hw:RD ops o fr')(ha:Asked C ops fr' L' H' o):
  qN C loc o.dst o.type o.op fr' L' H' s:=by
 have ha:=ha hw
 have hv:=pX hu hv
 split at ha
 ·rename_i t x d ho hdst
  unfold qN Dn at*
  rw[ho]at hv ⊢
  simp only[gW,and_self,and_true]at hv ⊢
  have hcd:=hd d hdst
  split at ha
  ·rename_i b off v ti h1 h2 h3
   rw[h2]at hcd; simp at hcd; subst hcd
   simp only[h1,h3]at hv ⊢
   split at hv
   ·rename_i hc
    rw[if_pos hc]
    obtain⟨y,g1,g2⟩:=ha
    exact⟨y,g1,by simp[g2]⟩
   ·exact hv.elim
  ·rename_i i off v ti h1 h2 h3
   rw[h2]at hcd; simp at hcd; subst hcd
   simp only[h1,h3]at hv ⊢
   split at ha
   ·rename_i m cs hL
    simp only[hL,if_pos ha.1,ha.2]
   ·exact ha.elim
  ·exact ha.elim
 ·rename_i t x lo hi mx d ho hdst
  unfold qN Dn at*
  rw[ho]at hv ⊢
  simp only[gW,and_self,and_true]at hv ⊢
  have hcd:=hd d hdst
  split at ha
  ·rename_i v lo' hi' mx' u h1 h2 h3 h4 h5
   rw[h5]at hcd; simp at hcd; subst hcd
   simp only[h1,h2,h3,h4]at hv ⊢
   obtain⟨y,_,g2⟩:=hv
   have g2:Sv.v u= .v ((C.tag o.type).enc y):=by first|exact g2.symm|exact g2.1.symm
   injection g2 with g2
   exact⟨y,by rw[ha,g2],by rw[g2]⟩
  ·exact ha.elim
 ·rename_i t x i ok d ho hdst
  unfold qN Dn at*
  rw[ho]at hv ⊢
  simp only[gW,and_self,and_true]at hv ⊢
  have hcd:=hd d hdst
  split at ha
  ·rename_i v i' u h1 h2 h3
   rw[h3]at hcd; simp at hcd; subst hcd
   simp only[h1,h2]at hv ⊢
   split at hv
   ·rename_i hok
    subst hok
    split at hv
    ·rename_i T hT
     rw[if_pos rfl]
     obtain⟨y,b,_,g2⟩:=hv
     have g2:Sv.v u= .v (.tuple #[T.enc y,.bool b]):=by first|exact g2.symm|exact g2.1.symm
     injection g2 with g2
     exact⟨y,b,by rw[ha,g2],by rw[g2]⟩
    ·exact hv.elim
   ·rename_i hok
    rw[if_neg hok]
    obtain⟨y,_,g2⟩:=hv
    have g2:Sv.v u= .v ((C.tag o.type).enc y):=by first|exact g2.symm|exact g2.1.symm
    injection g2 with g2
    exact⟨y,by rw[ha,g2],by rw[g2]⟩
  ·exact ha.elim
 ·rename_i args ts d ho hdst
  unfold qN Dn at*
  rw[ho]at hv ⊢
  simp only[gW,kW,and_self,and_true]at hv ⊢
  split at ha
  ·rename_i x t ea et
   split at ha
   ·rename_i p m c e1 e2 e3 h1 h2
    simp only[ea,et,h1,h2]at hv ⊢
    exact hv
   ·exact ha.elim
  ·exact ha.elim
 ·exact ha.elim
end
section
variable{C:kN}{M M' M0:Mp}{H H' H0:Heap}{w w' w0:World}{L L' L0:Loc}{ML ML' ML0:Ml}{fr fr' fr0:fO}{a a' a0:Act}{ro:Option Nat}{n:Nat}{Q:Exit->Act->World->Prop}{Kw:Act->World->Prop}{loc:List Nat}
 {ops:Array Oper} {A:Nat->Nat->Prop} {T:Nat->Prop} {pos:Nat->Nat} {S:List Step} {K0:fO->Loc->Heap->Prop} {lst:Nat->Bool} {p:Nat} {idf:Nat->Nat}
theorem J.exT(g:Good loc ops A T pos S)(hE:C.E.Ok C.P)(j:J C loc ops A T pos S K0 M0 H0 L0 ML0 w0 fr0 a0 lst p fr L H M ML idf a w){i:Nat}{o:Oper}(hi:ops[i]? =some o)(hp:pos i=p)(hT:T i)(hl:lst i=false)(hA:∀q,A i q->lst q=true)
  (hK:∀fr' L' H' M' ML' a' w',J C loc ops A T pos S K0 M0 H0 L0 ML0 w0 fr0 a0 (fun q=>lst q||q==i) (p+1) fr' L' H' M' ML' idf a' w'->Kw a' w'):wpOpIn (Fw ro) n C.P ops Q i Kw a w:=by
 obtain⟨as,hS,_,has⟩:=g.sat i o hi
 have has:=has hT
 rw[hp]at hS has
 have hlt:p<ops.size:=by rw[←hp]; exact g.lt i o hi
 have hdrop:S.drop p=⟨i,o,as⟩::S.drop (p+1):=by
  obtain⟨h1,h2⟩:=List.getElem?_eq_some_iff.1 hS
  rw[List.drop_eq_getElem_cons h1,h2]
 have hrun:=j.run
 rw[hdrop]at hrun
 simp only[Bc]at hrun
 obtain⟨hput,fr1,hs1,hc1,hcase⟩:=Gt hrun
 have hsee:=j.sees g hi hA
 have hone:∀(q:Nat) (oq:Oper),ops[q]? =some oq->q≠i->pos q<p+1->pos q<p:=fun q oq hq hne hlt=>by
  have:pos q≠p:=fun e=>hne (g.inj q i (rE hq) (rE hi) (e.trans hp.symm))
  omega
 have huse:∀(s:Sv) (q:Nat) (oq:Oper),ops[q]? =some oq->q≠i->pos q<p->lst q=false->∀t,t∈kX ops oq->aX (fr1.dV o.dst s).l t=aX fr.l t:=fun s q oq hq hne hlt hlq t ht=>by
  cases hd:o.dst with
  |none=>exact hc1 t
  |some d=>
   show aX (fr1.put d s).l t=_
   rw[lC,if_neg fun e=> ?_]
   ·exact hc1 t
   ·subst e
    rcases g.use q oq d i o hq ht hi hd with h|⟨_,h|h⟩
    ·have:=g.ord q i (rE hq) (rE hi) h; omega
    ·exact hne h.symm
    ·have:=hA q h; rw[hlq]at this; simp at this
 have hdstne:∀(s:Sv) (q:Nat) (oq:Oper) (d:Nat),ops[q]? =some oq->q≠i->oq.dst=some d->aX (fr1.dV o.dst s).l d=aX fr.l d:=fun s q oq d hq hne hdq=>by
  cases hd:o.dst with
  |none=>exact hc1 d
  |some d'=>
   show aX (fr1.put d' s).l d=_
   rw[lC,if_neg (fun e=>hne (g.dsts q i oq o d hq hi hdq (by rw[hd,e])))]
   exact hc1 d
 have hn:∀s:Sv,(fr1.dV o.dst s).n=fr.n:=fun s=>((hs1.trans (.dV _ _ _)).1)
 have fin:∀(s:Sv) (L':Loc) (H':Heap) (M':Mp) (ML':Ml) (w':World) (u:Value),SK M H ML w M' H' ML' w'->LR M' H' L' ML' w'->(∃N,ML'=ML++N)->yu L L'->(∀k:Nat,ML[k]? =some none->L'[k]? =L[k]?)→
   SH C ops (fr1.dV o.dst s) L' H' as (Bc C loc ops (S.drop (p+1)) (fr1.dV o.dst s) L' H' K0)->yt M' ML' s u→
   J C loc ops A T pos S K0 M0 H0 L0 ML0 w0 fr0 a0 (fun q=>lst q||q==i) (p+1) (fr1.dV o.dst s) L' H' M' ML' idf (a.put o.dst u) w':=by
  intro s L' H' M' ML' w' u hst hlr hml hrel hkeep hasks hu
  obtain⟨hrun',hasked⟩:=Gu hasks
  have hml0:∀k:Nat,ML[k]? =some none->ML'[k]? =some none:=fun k hk=>by
   obtain⟨N,rfl⟩:=hml
   rw[List.getElem?_append_left (List.getElem?_eq_some_iff.1 hk).1]; exact hk
  refine⟨by omega,fun q oq hq hTq=> ?_,fun q oq hq hlq=> ?_,fun x y hx hxy=> ?_,hrun',j.st.trans hst,j.rel.trans hrel,j.suf.trans (hs1.trans (.dV _ _ _)),?_,by rw[put_defers]; exact j.defers,by rw[Tf,hn]; exact j.size,
   fun t s' hs' hall=> ?_,hlr,fun q oq hq hlt hlq=> ?_,fun q q' oq oq' t t' hq hq' h1 h2 h3 h4 h5 h6 h7 h8 he=> ?_⟩
  ·by_cases e:q=i
   ·subst e; simp[hp]
   ·have:(q==i)=false:=by simpa using e
    simp only[this,Bool.or_false]
    rw[j.t1 q oq hq hTq]
    exact⟨fun h=>by omega,fun h=>hone q oq hq e h⟩
  ·simp only[Bool.or_eq_true,beq_iff_eq]at hlq
   rcases hlq with h|h
   ·have:=j.t2 q oq hq h; omega
   ·subst h; omega
  ·simp only[Bool.or_eq_true,beq_iff_eq]at hx ⊢
   rcases hx with h|h
   ·exact .inl (j.cl x y h hxy)
   ·subst h; exact .inl (hA y hxy)
  ·obtain⟨N,hN⟩:=j.mlx
   obtain⟨N',hN'⟩:=hml
   exact⟨N++N',by rw[hN',hN,List.append_assoc]⟩
  ·by_cases e:o.dst=some t
   ·rw[e]at hs'
    have hs2:aX (fr1.put t s).l t=some s':=hs'
    rw[lC,if_pos rfl]at hs2
    simp at hs2; subst hs2
    have hlt:t<a.tmps.size:=by
     have hput':=hput
     unfold kP at hput'
     rw[e]at hput'
     rw[j.size]; simpa using hput'
    rw[e,Xm hlt]; exact hu
   ·rw[Xl e]
    have hold:aX fr.l t=some s':=by
     cases hd:o.dst with
     |none=>rw[hd]at hs'; rw[←hc1 t]; exact hs'
     |some d=>
      rw[hd]at hs'
      have hs2:aX (fr1.put d s).l t=some s':=hs'
      rw[lC,if_neg (fun e'=>e (by rw[hd,e']))]at hs2
      rw[←hc1 t]; exact hs2
    refine(j.slots t s' hold fun q oq hq hd hlt=> ?_).aez hst.st.ext hml
    have:=hall q oq hq hd (by omega)
    simp only[Bool.or_eq_true,beq_iff_eq]at this
    rcases this with h|h
    ·exact h
    ·subst h; rw[hi]at hq; simp at hq; subst hq; exact absurd hd e
  ·simp only[Bool.or_eq_false_iff,beq_eq_false_iff_ne]at hlq
   obtain⟨hlq,hne⟩:=hlq
   have hlt':=hone q oq hq hne hlt
   obtain⟨h1,h2⟩:=j.pend q oq hq hlt' hlq
   refine⟨by unfold kP at h1 ⊢; rw[hn]; exact h1,?_⟩
   rcases h2 with⟨h2,h3⟩|⟨h2,h3⟩
   ·exact .inl ⟨h2.congr (huse s q oq hq hne hlt' hlq),fun d hd=>by rw[hdstne s q oq d hq hne hd]; exact h3 d hd⟩
   ·have hw':=h2.congr (huse s q oq hq hne hlt' hlq)
    refine .inr ⟨hw',?_⟩
    rcases h3 with⟨t,ti,m,e1,e2,e3,e4,e5,e6⟩|⟨s',e1,e2,e3⟩
    ·exact .inl ⟨t,ti,m,e1,e2,fun d hd=>by rw[hdstne s q oq d hq hne hd]; exact e3 d hd,e4,hml0 _ e5,by rw[hkeep _ e5]; exact e6⟩
    ·have hd':∀d,oq.dst=some d->aX (fr1.dV o.dst s).l d=some s':=fun d hd=>by rw[hdstne s q oq d hq hne hd]; exact e1 d hd
     refine .inr ⟨s',hd',e2,?_⟩
     cases hr:reads oq.op with
     |false=>exact OJ hr (pX (huse s q oq hq hne hlt' hlq) e3) e2
     |true=>
      have hnT:¬T q:=fun hTq=>by
       have:=(j.t1 q oq hq hTq).2 hlt'
       rw[hlq]at this; simp at this
      have hnA:¬A i q:=fun h=>by have:=hA q h; rw[hlq]at this; simp at this
      exact VE e3 (huse s q oq hq hne hlt' hlq) hd' hw' (hasked oq (has q oq hq hlt' hr hnA hnT))
  ·simp only[Bool.or_eq_false_iff,beq_eq_false_iff_ne]at h3 h4
   have k1:=hone q oq hq h3.2 h1
   have k2:=hone q' oq' hq' h4.2 h2
   exact j.ids q q' oq oq' t t' hq hq' k1 k2 h3.1 h4.1 h5 h6 (h7.congr fun t ht=>(huse s q oq hq h3.2 k1 h3.1 t ht).symm) (h8.congr fun t ht=>(huse s q' oq' hq' h4.2 k2 h4.1 t ht).symm) he
 unfold wpOpIn
 rw[hi]
 simp only
 rcases hcase with⟨hu,hk⟩|⟨hw,hop⟩
 ·rw[ZG hu hsee]
  exact⟨fun _ _=>trivial,hK _ _ _ _ _ _ _ (fin _ L H M ML w undef (.refl j.st.st.hr ML) j.lr ⟨[],by simp⟩ (.refl L) (fun _ _=>rfl) hk (VR.undef M))⟩
 ·rw[ZF hw hsee]
  exact VB (ro:=ro) (n:=n) (Q:=Q) (pos:=o.pos) (after:=o.after) (guard:=o.guard) hE j.st.st.hr j.lr (Td j.size hsee) (OM hc1 hop) fun s L' H' M' ML' w' u hk ha hu=>
   hK _ _ _ _ _ _ _ (fin s L' H' M' ML' w' u ha.1 ha.2.1 ha.2.2.2.2.1 ha.2.2.2.1 ha.2.2.2.2.2 hk hu)
theorem J.adv(g:Good loc ops A T pos S):∀(m p:Nat) (fr:fO) (L:Loc) (ML:Ml) (idf:Nat->Nat),J C loc ops A T pos S K0 M0 H0 L0 ML0 w0 fr0 a0 lst p fr L H M ML idf a w->p+m≤ops.size->(∀i o,ops[i]? =some o->p≤pos i->pos i<p+m->¬T i∧lst i=false)→
  ∃fr' L' ML' idf',J C loc ops A T pos S K0 M0 H0 L0 ML0 w0 fr0 a0 lst (p+m) fr' L' H M ML' idf' a w
 |0,p,fr,L,ML,idf,j,_,_=>⟨fr,L,ML,idf,j⟩
 |m+1,p,fr,L,ML,idf,j,hle,hno=>by
  obtain⟨i,o,hi,hp⟩:=g.inv p (by omega)
  obtain⟨h1,h2⟩:=hno i o hi (by omega) (by omega)
  obtain⟨fr1,L1,ML1,idf1,j1⟩:=j.afg g hi hp h1 h2
  obtain⟨fr2,L2,ML2,idf2,j2⟩:=J.adv g m (p+1) fr1 L1 ML1 idf1 j1 (by omega) (fun i o hi h1 h2=>hno i o hi (by omega) (by omega))
  exact⟨fr2,L2,ML2,idf2,by rw[show p+(m+1)=p+1+m by omega]; exact j2⟩
def JJ(C:kN)(loc:List Nat)(ops:Array Oper)(A:Nat->Nat->Prop)(T:Nat->Prop)(pos:Nat->Nat)(S:List Step)(K0:fO->Loc->Heap->Prop)(M0:Mp)(H0:Heap)(L0:Loc)(ML0:Ml)(w0:World)(fr0:fO)(a0:Act)(lst:Nat->Bool)(a:Act)(w:World):Prop:=
 ∃p fr L H M ML idf,J C loc ops A T pos S K0 M0 H0 L0 ML0 w0 fr0 a0 lst p fr L H M ML idf a w
theorem JJ.step(g:Good loc ops A T pos S)(hE:C.E.Ok C.P)(jj:JJ C loc ops A T pos S K0 M0 H0 L0 ML0 w0 fr0 a0 lst a w){i:Nat}{o:Oper}(hi:ops[i]? =some o)(hl:lst i=false)(he:∀e∈o.after.toList,Region.binds .any e=true->lst e.on=true)
  (hK:∀a' w',JJ C loc ops A T pos S K0 M0 H0 L0 ML0 w0 fr0 a0 (fun q=>lst q||q==i) a' w'->Kw a' w'):wpOpIn (Fw ro) n C.P ops Q i Kw a w:=by
 obtain⟨p,fr,L,H,M,ML,idf,j⟩:=jj
 have hA:∀q,A i q->lst q=true:=fun q hq=>by
  obtain⟨o',e,h1,h2,h3,h4⟩:=g.edge i q hq
  rw[hi]at h1; simp at h1; subst h1
  have:=he e h2 h3
  rcases h4 with rfl|h4
  ·exact this
  ·exact j.cl _ _ this h4
 have hno:∀(q:Nat) (oq:Oper),ops[q]? =some oq->p≤pos q->pos q<pos i->¬T q∧lst q=false:=fun q oq hq h1 h2=>by
  have hlq:lst q=false:=by
   cases h:lst q with
   |false=>rfl
   |true=>have:=j.t2 q oq hq h; omega
  refine⟨fun hTq=> ?_,hlq⟩
  have:=hA q (g.tt i q (rE hi) (rE hq) hTq h2)
  rw[hlq]at this; simp at this
 have hpi:=g.lt i o hi
 by_cases hT:T i
 ·have hge:p≤pos i:=by
   rcases Nat.lt_or_ge (pos i) p with h|h
   ·have:=(j.t1 i o hi hT).2 h
    rw[hl]at this; simp at this
   ·exact h
  obtain⟨fr1,L1,ML1,idf1,j1⟩:=J.adv g (pos i-p) p fr L ML idf j (by omega) (fun q oq hq h1 h2=>hno q oq hq h1 (by omega))
  rw[show p+(pos i-p)=pos i by omega]at j1
  exact j1.exT g hE hi rfl hT hl hA fun fr' L' H' M' ML' a' w' j'=>hK a' w' ⟨_,_,_,_,_,_,_,j'⟩
 ·by_cases hlt:pos i<p
  ·exact j.exP g hE hi hlt hT hl hA fun M' ML' a' w' j'=>hK a' w' ⟨_,_,_,_,_,_,_,j'⟩
  ·obtain⟨fr1,L1,ML1,idf1,j1⟩:=J.adv g (pos i+1-p) p fr L ML idf j (by omega) (fun q oq hq h1 h2=>by
    by_cases e:pos q=pos i
    ·have:=g.inj q i (rE hq) (rE hi) e
     subst this
     exact⟨hT,hl⟩
    ·exact hno q oq hq h1 (by omega))
   rw[show p+(pos i+1-p)=pos i+1 by omega]at j1
   exact j1.exP g hE hi (by omega) hT hl hA fun M' ML' a' w' j'=>hK a' w' ⟨_,_,_,_,_,_,_,j'⟩
theorem abG{P:Program}{I:(Nat->Bool)->Act->World->Prop}(back:∀(i:Nat) (o:Oper) (e:Edge),ops[i]? =some o->e∈o.after.toList->Region.binds .any e=true->e.on<i)
  (step:∀(lst:Nat->Bool) (a:Act) (w:World) (i:Nat) (o:Oper) (K:Act->World->Prop),I lst a w->ops[i]? =some o->lst i=false->(∀e∈o.after.toList,Region.binds .any e=true->lst e.on=true)->(∀a' w',I (fun q=>lst q||q==i) a' w'->K a' w')->wpOpIn (Fw ro) n P ops Q i K a w)
  (hQ:∀lst a w,(∀q,q<ops.size->lst q=true)->I lst a w->Q .normal a w):
  ∀(fuel:Nat) (listed:Array Bool) (a:Act) (w:World),listed.size=ops.size->(List.range ops.size).countP (fun i=> !xk listed i)≤fuel->I (xk listed) a w->wpAnyIn (Fw ro) n P .any ops Q fuel listed a w:=by
 have allListed:∀(listed:Array Bool),listed.size=ops.size->Region.ready .any ops listed=[]->∀q,q<ops.size->xk listed q=true:=by
  intro listed hls hr q
  induction q using Nat.strongRecOn with
  |_ q ih=>
   intro hq
   cases hL:xk listed q with
   |true=>rfl
   |false=>
    exfalso
    have:q∈Region.ready .any ops listed:=by
     rw[mem_ready]
     refine⟨?_,ops[q],Array.getElem?_eq_getElem hq,fun e he hb=> ?_⟩
     ·unfold xk at hL
      have hql:q<listed.size:=by omega
      simp only[Array.getD_eq_getD_getElem?,Array.getElem?_eq_getElem hql,Option.getD_some]at hL ⊢
      exact hL
     ·have hlt:=back q _ e (Array.getElem?_eq_getElem hq) (by simpa using he) hb
      exact ih e.on hlt (by omega)
    rw[hr]at this; simp at this
 intro fuel
 induction fuel with
 |zero=>
  intro listed a w hls hcnt d
  have hall:∀q,q<ops.size->xk listed q=true:=by
   intro q hq
   have h0:(List.range ops.size).countP (fun i=> !xk listed i)=0:=by omega
   have:=List.countP_eq_zero.1 h0 q (by simpa using hq)
   simpa using this
  refine⟨?_,hQ _ a w hall d⟩
  apply List.eq_nil_iff_forall_not_mem.2
  intro i hi
  rw[mem_ready]at hi
  obtain⟨h1,o,h2,_⟩:=hi
  have hin:i<ops.size:=(Array.getElem?_eq_some_iff.1 h2).1
  have:=hall i hin
  unfold xk at this
  have hql:i<listed.size:=by omega
  simp only[Array.getD_eq_getD_getElem?,Array.getElem?_eq_getElem hql,Option.getD_some]at h1 this
  rw[h1]at this; simp at this
 |succ fuel ih=>
  intro listed a w hls hcnt d
  refine⟨fun hr=>hQ _ a w (allListed listed hls hr) d,fun i hi=> ?_⟩
  rw[mem_ready]at hi
  obtain⟨h1,o,h2,h3⟩:=hi
  have hin:i<ops.size:=(Array.getElem?_eq_some_iff.1 h2).1
  have hql:i<listed.size:=by omega
  have hL:xk listed i=false:=by
   unfold xk
   simp only[Array.getD_eq_getD_getElem?,Array.getElem?_eq_getElem hql,Option.getD_some]at h1 ⊢
   exact h1
  refine step _ a w i o _ d h2 hL (fun e he hb=>h3 e (by simpa using he) hb) fun a' w' d'=> ?_
  have hLe:(fun q=>xk listed q||q==i)=xk (listed.setIfInBounds i true):=by
   funext q
   unfold xk
   by_cases e:i=q
   ·subst e
    simp[hql]
   ·rw[getD_set_ne false e]
    have:(q==i)=false:=by simpa using Ne.symm e
    rw[this,Bool.or_false]
  rw[hLe]at d'
  refine ih _ a' w' (by simpa using hls) ?_ d'
  have:=OD (l:=List.range ops.size) (p:=fun i=> !xk listed i) (q:=fun q=> !xk (listed.setIfInBounds i true) q) (i:=i) ?_ (by simpa using hin) (by simp[hL]) (by rw[←hLe]; simp)
  ·omega
  ·intro x hx
   rw[←hLe]at hx
   simp at hx ⊢
   exact hx.1
theorem LR.drew(l:LR M H L ML w):LR M H L ML w.drew:=
 ⟨l.len,fun i e n cs hi hL=>l.loc i e n cs hi hL,l.sep1,l.sep2⟩
theorem ZH(hE:C.E.Ok C.P){id:Nat}(hS:Ip loc ops=some S)(ho:Bc C loc ops S fr L H K0)(h:HR M H w)(l:LR M H L ML w)(f:FS M ML fr a.tmps)
  (hQ:∀fr' L' H' M' ML' a' w',K0 fr' L' H'->Behind M H L ML w fr a M' H' L' ML' w' fr' a'->Q .normal a' w'):(Code.region id ops true).wpIn (Fw ro) n C.P Q a w:=by
 obtain⟨A,T,pos,g⟩:=abE hS
 refine wpIn_region_any hE.ord ?_
 have hL0:∀q,xk (Array.replicate ops.size false) q=false:=by
  intro q
  unfold xk
  rcases Nat.lt_or_ge q ops.size with hq|hq
  ·simp[hq]
  ·simp[hq]
 refine abG (I:=JJ C loc ops A T pos S K0 M H L ML w fr a) g.back (fun lst a' w' i o K jj hi hl he hK=>jj.step g hE hi hl he hK) (fun lst a' w' hall jj=> ?_) ops.size _ a _ (by simp) ?_ ?_
 ·obtain⟨p,fr',L',H',M',ML',idf,j⟩:=jj
  have hp:p=ops.size:=by
   rcases Nat.lt_or_ge p ops.size with h|h
   ·obtain⟨i,o,hi,hpi⟩:=g.inv p h
    have:=j.t2 i o hi (hall i (rE hi))
    omega
   ·have:=j.le; omega
  subst hp
  have hrun:=j.run
  rw[List.drop_of_length_le (by rw[g.slen]; exact Nat.le_refl _)]at hrun
  exact hQ fr' L' H' M' ML' a' w' hrun ⟨j.st,j.lr,⟨j.size,fun t s hs=>j.slots t s hs fun i o hi _ _=>hall i (rE hi)⟩,j.rel,j.suf,j.mlx,.of_eq j.defers⟩
 ·have:=List.countP_le_length (p:=fun i=> !xk (Array.replicate ops.size false) i) (l:=List.range ops.size)
  simpa using this
 ·refine⟨0,fr,L,H,M,ML,fun _=>0,Nat.zero_le _,fun i o hi _=> ?_,fun i o hi hl=> ?_,fun i q hi=> ?_,ho,(Stp.drew h).Xh ML,.refl L,.refl fr,⟨[],by simp⟩,rfl,f.size,fun t s hs _=>f.get t s hs,l.drew,fun i o hi hlt=>by omega,fun i i' o o' t t' hi hi' h1=>by omega⟩
  ·rw[hL0]; simp
  ·rw[hL0]at hl; simp at hl
  ·rw[hL0]at hi; simp at hi
theorem ZI(hE:C.E.Ok C.P){id:Nat}{draw:Bool}(ho:abA C loc ops draw fr L H K0)(h:HR M H w)(l:LR M H L ML w)(f:FS M ML fr a.tmps)
  (hQ:∀fr' L' H' M' ML' a' w',K0 fr' L' H'->Behind M H L ML w fr a M' H' L' ML' w' fr' a'->Q .normal a' w'):(Code.region id ops draw).wpIn (Fw ro) n C.P Q a w:=by
 unfold abA at ho
 cases draw with
 |false=>simp at ho; exact abD hE ho h l f hQ
 |true=>
  simp only[if_true]at ho
  split at ho
  ·rename_i S hS; exact ZH hE hS ho h l f hQ
  ·exact ho.elim
end
end Go.Proofs.YtijnknjopjmiiaaGreatDoor.Zq
end
section
namespace Go.Proofs.YtijnknjopjmiiaaGreatDoor.Zq
variable{C:kN}{M M':Mp}{H H':Heap}{w w':World}{L L':Loc}{ML ML':Ml}{fr fr':fO}{a a':Act}{ro:Option Nat}{n:Nat}{loc:List Nat}
theorem EU:∀{sl:List (Nat×Tag)} {x:vM sl} {l:List (Nat×Option Sv)} {t:Nat} {s:Sv},Ji fr' sl=some x->aX (pV sl x l) t=some s->aX fr'.l t=some s∨((∀p∈sl,p.1≠t)∧aX l t=some s)
 |[],x,l,t,s,_,h=>.inr ⟨fun p hp=>by simp at hp,h⟩
 |(d,T)::r,x,l,t,s,hg,h=>by
  simp only[Ji]at hg
  split at hg
  ·rename_i v hv
   split at hg
   ·rename_i y z h1 h2
    have hg:=Option.some.inj hg
    subst hg
    simp only[pV,aX]at h
    split at h
    ·rename_i e; subst e
     simp at h; subst h
     left
     rw[hv]
     have:v=T.enc y:=by
      unfold Tag.dec at h1
      unfold Tag.enc PI
      split at h1
      ·rename_i cs
       split at h1
       ·rename_i ha; rw[if_pos ha,←T.ok _ _ h1]
       ·simp at h1
      ·simp at h1
      ·split at h1
       ·simp at h1
       ·rename_i ha; rw[if_neg ha,←T.ok _ _ h1]
     rw[this]
    ·rename_i e
     rcases EU (x:=z) h2 h with h|⟨h3,h4⟩
     ·exact .inl h
     ·exact .inr ⟨fun p hp=>(List.mem_cons.1 hp).elim (fun h=>by subst h; exact e) (h3 p),h4⟩
   ·cases hg
  ·cases hg
theorem gI:∀{lo:List (Nat×Tag)} {x:vM lo},(mJ lo x L).length=L.length
 |[],_=>rfl
 |(i,T)::r,x=>by
  simp only[mJ]
  split
  ·simp[gI (lo:=r)]
  ·exact gI (lo:=r)
theorem uV:∀{lo:List (Nat×Tag)} {x:vM lo} {i n m q:Nat} {cs cs' ds:List Value},yj L' lo=some x->L[i]? =some (n,cs)->L'[i]? =some (m,cs')->(mJ lo x L)[i]? =some (q,ds)→
  ((∃p∈lo,p.1=i)∧ds=cs'∧q=n+1)∨((∀p∈lo,p.1≠i)∧ds=cs∧q=n)
 |[],x,i,n,m,q,cs,cs',ds,_,h1,_,h3=>by
  simp only[mJ]at h3
  rw[h1]at h3; simp at h3
  exact .inr ⟨fun p hp=>by simp at hp,h3.2.symm,h3.1.symm⟩
 |(j,T)::r,x,i,n,m,q,cs,cs',ds,hg,h1,h2,h3=>by
  simp only[yj]at hg
  split at hg
  ·rename_i mm cc hc
   split at hg
   ·rename_i y z g1 g2
    have hg:=Option.some.inj hg
    subst hg
    simp only[mJ]at h3
    by_cases e:j=i
    ·subst e
     rw[h1]at h3
     simp only at h3
     rw[List.getElem?_set_self (by rw[gI]; exact(List.getElem?_eq_some_iff.1 h1).1)]at h3
     rw[h2]at hc; simp at hc; obtain⟨_,rfl⟩:=hc
     simp at h3
     exact .inl ⟨⟨(j,T),by simp,rfl⟩,by rw[←h3.2]; exact(T.ok _ _ g1).symm,h3.1.symm⟩
    ·have h3':(mJ r z L)[i]? =some (q,ds):=by
      split at h3
      ·rw[List.getElem?_set_ne e]at h3; exact h3
      ·exact h3
     rcases uV g2 h1 h2 h3' with⟨⟨p,hp,hpi⟩,h4⟩|⟨h4,h5⟩
     ·exact .inl ⟨⟨p,by simp[hp],hpi⟩,h4⟩
     ·exact .inr ⟨fun p hp=>(List.mem_cons.1 hp).elim (fun h=>by subst h; exact e) (h4 p),h5⟩
   ·cases hg
  ·cases hg
theorem Ti:∀{lo:List (Nat×Tag)} {i:Nat} {L L':Loc},SC lo i L L'=true->L.length≤L'.length∧∀(k n m:Nat) (cs cs':List Value),L[k]? =some (n,cs)->L'[k]? =some (m,cs')->n=m∨∃p∈lo,p.1=i+k
 |lo,i,[],L',_=>⟨by simp,fun k n m cs cs' h=>by simp at h⟩
 |lo,i,x::r,[],h=>by simp[SC]at h
 |lo,i,(n,cs)::r,(m,cs')::r',h=>by
  simp only[SC,Bool.and_eq_true,Bool.or_eq_true,beq_iff_eq,List.any_eq_true]at h
  obtain⟨h1,h2⟩:=Ti h.2
  refine⟨by simpa using h1,fun k p q ds ds' g1 g2=> ?_⟩
  cases k with
  |zero=>
   simp at g1 g2
   rcases h.1 with h|⟨p,hp,he⟩
   ·exact .inl (by omega)
   ·exact .inr ⟨p,hp,by omega⟩
  |succ k=>
   rcases h2 k p q ds ds' (by simpa using g1) (by simpa using g2)with h|⟨p,hp,he⟩
   ·exact .inl h
   ·exact .inr ⟨p,hp,by omega⟩
theorem Jr:∀{x l:List (Nat×Option Sv)} {t:Nat},(∀p∈x,p.1≠t)->aX (x++l) t=aX l t
 |[],l,t,_=>rfl
 |(i,v)::r,l,t,h=>by
  simp only[List.cons_append,aX]
  rw[if_neg (h (i,v) (by simp)),Jr (fun p hp=>h p (by simp[hp]))]
theorem uX:∀{c:List Nat} {l:List (Nat×Option Sv)} {t:Nat} {s:Sv},aX (c.map (fun t=>(t,none))++l) t=some s->t∉c∧aX l t=some s
 |[],l,t,s,h=>⟨by simp,h⟩
 |i::r,l,t,s,h=>by
  simp only[List.map_cons,List.cons_append,aX]at h
  split at h
  ·simp at h
  ·rename_i e
   obtain⟨h1,h2⟩:=uX h
   exact⟨by simp[h1,Ne.symm e],h2⟩
theorem yx:∀{sl:List (Nat×Tag)} {x:vM sl} {l:List (Nat×Option Sv)} {t:Nat} {s:Sv},((∃i off,s= .lp i off)∨∃i m,s= .ls i m)->(∃q∈sl,q.1=t)->¬aX (pV sl x l) t=some s
 |[],_,_,_,_,_,⟨q,hq,_⟩=>by simp at hq
 |(d,T)::r,x,l,t,s,hs,⟨q,hq,he⟩=>by
  simp only[pV,aX]
  split
  ·rename_i e
   rcases hs with⟨i,off,rfl⟩|⟨i,m,rfl⟩<;>simp
  ·rename_i e
   refine yx hs ⟨q,?_,he⟩
   rcases List.mem_cons.1 hq with rfl|hq
   ·exact absurd he e
   ·exact hq
theorem vP:∀{sl:List (Nat×Tag)} {x:vM sl} {l:List (Nat×Option Sv)} {t:Nat} {s:Sv},(∀p∈sl,p.1≠t)->aX (pV sl x l) t=some s->aX l t=some s
 |[],_,_,_,_,_,h=>h
 |(d,T)::r,x,l,t,s,hn,h=>by
  simp only[pV,aX]at h
  rw[if_neg (hn (d,T) (by simp))]at h
  exact vP (fun p hp=>hn p (by simp[hp])) h
theorem EW:∀(sl:List (Nat×Tag)) (x:vM sl) (clr:List Nat) (l:List (Nat×Option Sv)),∃news,pV sl x (clr.map (fun t=>(t,none))++l)=news++l
 |[],_,clr,l=>⟨_,rfl⟩
 |(d,T)::r,x,clr,l=>by
  obtain⟨news,h⟩:=EW r x.2 clr l
  exact⟨(d,some (.v (T.enc x.1)))::news,by simp only[pV,h,List.cons_append]⟩
theorem yt.less{N:Ml}{s:Sv}{u u0:Value}(h0:yt M ML s u0)(h:yt M' (ML++N) s u):yt M' ML s u:=by
 cases s with
 |v v=>exact h
 |lp i off=>
  obtain⟨e,h1,h2⟩:=h
  obtain⟨e0,h3,_⟩:=h0
  have:=(List.getElem?_eq_some_iff.1 h3).1
  exact⟨e,by rw[List.getElem?_append_left this]at h1; exact h1,h2⟩
 |ls i m=>
  obtain⟨e,h1,h2⟩:=h
  obtain⟨e0,h3,_⟩:=h0
  have:=(List.getElem?_eq_some_iff.1 h3).1
  exact⟨e,by rw[List.getElem?_append_left this]at h1; exact h1,h2⟩
theorem Js{J:Jn}{k:J.S->Prop}(h:Jj J fr fr' L L' k):∃x:J.S,J.ok fr fr' L L'=true∧Ji fr' J.sl=some x.1∧yj L' J.lo=some x.2∧k x:=by
 unfold Jj at h
 split at h
 ·rename_i hok
  split at h
  ·rename_i y z h1 h2; exact⟨(y,z),hok,h1,h2,h⟩
  ·exact h.elim
 ·exact h.elim
theorem PS{J:Jn}{x:J.S}(f:FS M ML fr a.tmps)(l:LR M H L ML w)(b:Behind M H L ML w fr a M' H' L' ML' w' fr' a')(hok:J.ok fr fr' L L'=true)(h1:Ji fr' J.sl=some x.1)(h2:yj L' J.lo=some x.2):
  Behind M H L ML w fr a M' H' (J.loc L x) ML w' (J.fr fr x) a':=by
 unfold Jn.ok at hok
 simp only[Bool.and_eq_true]at hok
 obtain⟨⟨hk1,hk2⟩,hk3⟩:=hok
 obtain⟨hn,news,hnews⟩:=b.suf
 obtain⟨N,hN⟩:=b.mlx
 obtain⟨kl1,kl2⟩:=Ti hk2
 have hnw:fr'.l.take (fr'.l.length-fr.l.length)=news:=by rw[hnews]; simp
 rw[hnw]at hk1
 have hdst:∀p∈news,(∃q∈J.sl,q.1=p.1)∨p.1∈J.clr:=fun p hp=>by
  have:=List.all_eq_true.1 hk1 p hp
  simpa using this
 have lre:∀i:Nat,i<L.length->∃n cs m cs' q ds,L[i]? =some (n,cs)∧L'[i]? =some (m,cs')∧(J.loc L x)[i]? =some (q,ds)∧ds=cs'∧n≤q∧(q=n->cs'=cs):=fun i hi=>by
  have hi2:i<L'.length:=by omega
  have hi3:i<(J.loc L x).length:=by unfold Jn.loc; rw[gI]; exact hi
  obtain⟨⟨n0,cs0⟩,e1⟩:∃p,L[i]? =some p:=⟨_,List.getElem?_eq_getElem hi⟩
  obtain⟨⟨m0,cs0'⟩,e2⟩:∃p,L'[i]? =some p:=⟨_,List.getElem?_eq_getElem hi2⟩
  obtain⟨⟨q,ds⟩,e3⟩:∃p,(J.loc L x)[i]? =some p:=⟨_,List.getElem?_eq_getElem hi3⟩
  refine⟨_,_,_,_,_,_,e1,e2,e3,?_⟩
  obtain⟨r1,r2⟩:=b.rel.2 i _ _ _ _ e1 e2
  rcases uV h2 e1 e2 e3 with⟨_,g2,g3⟩|⟨g1,g2,g3⟩
  ·exact⟨g2,by omega,fun e=>by omega⟩
  ·have hv:n0=m0:=by
    rcases kl2 i _ _ _ _ e1 e2 with h|⟨p,hp,he⟩
    ·exact h
    ·exact absurd (by omega) (g1 p hp)
   have:=r2 hv.symm
   exact⟨by rw[g2,this],by omega,fun _=>this⟩
 refine⟨⟨b.st.st,fun i e hi=>b.st.mx i e (by rw[hN,List.getElem?_append_left (List.getElem?_eq_some_iff.1 hi).1]; exact hi)⟩,⟨?_,fun i e m cs hi hL=> ?_,fun i j e e' hne hi hj=> ?_,fun i e hi=> ?_⟩,⟨by rw[b.fs.size]; exact hn,fun t s hs=> ?_⟩,⟨?_,fun i n cs m cs' hL hL'=> ?_⟩,⟨rfl,?_⟩,⟨[],by simp⟩,b.defers⟩
 ·unfold Jn.loc; rw[gI]; exact l.len
 ·have hiL:i<L.length:=by rw[←l.len]; exact(List.getElem?_eq_some_iff.1 hi).1
  obtain⟨n0,cs0,m0,cs0',q,ds,a1,a2,a3,a4,_,_⟩:=lre i hiL
  rw[hL]at a3; simp at a3
  obtain⟨_,rfl⟩:=a3
  subst a4
  exact b.lr.loc i e m0 _ (by rw[hN,List.getElem?_append_left (List.getElem?_eq_some_iff.1 hi).1]; exact hi) a2
 ·exact b.lr.sep1 i j e e' hne (by rw[hN,List.getElem?_append_left (List.getElem?_eq_some_iff.1 hi).1]; exact hi) (by rw[hN,List.getElem?_append_left (List.getElem?_eq_some_iff.1 hj).1]; exact hj)
 ·exact b.lr.sep2 i e (by rw[hN,List.getElem?_append_left (List.getElem?_eq_some_iff.1 hi).1]; exact hi)
 ·unfold Jn.fr at hs
  have key:∀s,aX fr'.l t=some s->(∃u0,yt M ML s u0)->yt M' ML s (a'.tmps.getD t undef):=fun s hc ⟨u0,h0⟩=>by
   have:=b.fs.get t s hc
   rw[hN]at this
   exact h0.less this
  rcases EU h1 hs with h|⟨h,h'⟩
  ·
   cases s with
   |v v=>exact b.fs.get t _ h
   |lp i off=>
    rcases Classical.em (∃q∈J.sl,q.1=t)with hq|hq
    ·exact absurd hs (yx (.inl ⟨i,off,rfl⟩) hq)
    ·have h':=vP (fun p hp e=>hq ⟨p,hp,e⟩) hs
     obtain⟨g1,g2⟩:=uX h'
     exact key _ h ⟨_,f.get t _ g2⟩
   |ls i m=>
    rcases Classical.em (∃q∈J.sl,q.1=t)with hq|hq
    ·exact absurd hs (yx (.inr ⟨i,m,rfl⟩) hq)
    ·have h':=vP (fun p hp e=>hq ⟨p,hp,e⟩) hs
     obtain⟨g1,g2⟩:=uX h'
     exact key _ h ⟨_,f.get t _ g2⟩
  ·obtain⟨g1,g2⟩:=uX h'
   have hc:aX fr'.l t=some s:=by
    rw[hnews,Jr fun p hp e=> ?_]
    ·exact g2
    ·rcases hdst p hp with⟨q,hq,he⟩|hc
     ·exact h q hq (he.trans e)
     ·exact g1 (e▸hc)
   exact key s hc ⟨_,f.get t s g2⟩
 ·unfold Jn.loc; rw[gI]; exact Nat.le_refl _
 ·have hi:=(List.getElem?_eq_some_iff.1 hL).1
  obtain⟨n0,cs0,m0,cs0',q,ds,a1,a2,a3,a4,a5,a6⟩:=lre i hi
  rw[hL]at a1; simp at a1; obtain⟨rfl,rfl⟩:=a1
  rw[hL']at a3; simp at a3; obtain⟨rfl,rfl⟩:=a3
  exact⟨a5,fun e=>by rw[a4]; exact a6 e⟩
 ·exact EW J.sl x.1 J.clr fr.l
end Go.Proofs.YtijnknjopjmiiaaGreatDoor.Zq
end
section
namespace Go.Proofs.YtijnknjopjmiiaaGreatDoor.Zq
variable{C:kN}{M M':Mp}{H H':Heap}{w w':World}{L L':Loc}{ML ML':Ml}{fr fr':fO}{a a':Act}{ro:Option Nat}{n:Nat}{loc:List Nat}
def Goes(C:kN)(ro:Option Nat)(c:Code)(fr:fO)(L:Loc)(H:Heap)(K:CK):Prop:=
 ∀(n:Nat) (M:Mp) (ML:Ml) (a:Act) (w:World),HR M H w->LR M H L ML w->FS M ML fr a.tmps→
  c.wpIn (Fw ro) n C.P (fun x a' w'=>∃e fr' L' H' M' ML',K e fr' L' H'∧ExR e x∧Behind M H L ML w fr a M' H' L' ML' w' fr' a') a w
theorem Goes.mono{c:Code}{K K':CK}(h:Goes C ro c fr L H K)(hk:∀e fr' L' H',K e fr' L' H'->K' e fr' L' H'):Goes C ro c fr L H K':=
 fun n M ML a w h1 h2 h3=>wpIn_mono (h n M ML a w h1 h2 h3) fun _ _ _ ⟨e,fr',L',H',M',ML',q1,q2⟩=>⟨e,fr',L',H',M',ML',hk _ _ _ _ q1,q2⟩
theorem LR.same{L2:Loc}(l:LR M H L ML w)(hl:L2.length=L.length)(hc:∀(i n m:Nat) (cs cs':List Value),L[i]? =some (n,cs)->L2[i]? =some (m,cs')->cs'=cs):LR M H L2 ML w:=by
 refine⟨by rw[hl]; exact l.len,fun i e m cs hi hL=> ?_,l.sep1,l.sep2⟩
 have hi':i<L.length:=by rw[←l.len]; exact(List.getElem?_eq_some_iff.1 hi).1
 obtain⟨⟨n0,cs0⟩,e1⟩:∃p,L[i]? =some p:=⟨_,List.getElem?_eq_getElem hi'⟩
 have:=hc i n0 m cs0 cs e1 hL
 subst this
 exact l.loc i e n0 _ hi e1
theorem FS.same{fr2:fO}(f:FS M ML fr a.tmps)(hn:fr2.n=fr.n)(hc:∀t s,aX fr2.l t=some s->aX fr.l t=some s):FS M ML fr2 a.tmps:=
 ⟨by rw[hn]; exact f.size,fun t s h=>f.get t s (hc t s h)⟩
theorem pY:∀{lo:List (Nat×Tag)} {x:vM lo} {L:Loc} {i:Nat},(∀p∈lo,p.1≠i)->(mJ lo x L)[i]? =L[i]?
 |[],_,_,_,_=>rfl
 |(j,T)::r,x,L,i,hn=>by
  have ih:=pY (lo:=r) (x:=x.2) (L:=L) (i:=i) fun p hp=>hn p (by simp[hp])
  simp only[mJ]
  split
  ·rw[List.getElem?_set_ne (hn (j,T) (by simp))]; exact ih
  ·exact ih
theorem OO:∀{lo:List (Nat×Tag)} {x:vM lo} {L:Loc} {i n m:Nat} {cs cs':List Value},L[i]? =some (n,cs)->(mJ lo x L)[i]? =some (m,cs')->(∃p∈lo,p.1=i)->m=n+1
 |[],_,_,_,_,_,_,_,_,_,⟨p,hp,_⟩=>by simp at hp
 |(j,T)::r,x,L,i,n,m,cs,cs',h1,h2,⟨p,hp,he⟩=>by
  simp only[mJ]at h2
  by_cases e:j=i
  ·subst e
   rw[h1]at h2
   simp only at h2
   rw[List.getElem?_set_self (by rw[gI]; exact(List.getElem?_eq_some_iff.1 h1).1)]at h2
   simp at h2; exact h2.1.symm
  ·have h2':(mJ r x.2 L)[i]? =some (m,cs'):=by
    split at h2
    ·rw[List.getElem?_set_ne e]at h2; exact h2
    ·exact h2
   refine OO h1 h2' ⟨p,?_,he⟩
   rcases List.mem_cons.1 hp with rfl|hp
   ·exact absurd he e
   ·exact hp
theorem Tj:∀{lo:List (Nat×Tag)} {x:vM lo} {L:Loc},yj L lo=some x->∀p∈lo,p.1<L.length
 |[],_,_,_,p,hp=>by simp at hp
 |(j,T)::r,x,L,h,p,hp=>by
  simp only[yj]at h
  split at h
  ·rename_i m cs hc
   split at h
   ·rename_i y z g1 g2
    rcases List.mem_cons.1 hp with rfl|hp
    ·exact(List.getElem?_eq_some_iff.1 hc).1
    ·exact Tj g2 p hp
   ·cases h
  ·cases h
theorem Bg:∀{sl:List (Nat×Tag)} {x:vM sl} {l:List (Nat×Option Sv)} {t:Nat},(∀p∈sl,p.1≠t)->aX (pV sl x l) t=aX l t
 |[],_,_,_,_=>rfl
 |(d,T)::r,x,l,t,hn=>by
  simp only[pV,aX]
  rw[if_neg (hn (d,T) (by simp)),Bg (fun p hp=>hn p (by simp[hp]))]
theorem Tm:∀{sl:List (Nat×Tag)} {x:vM sl} {l l':List (Nat×Option Sv)} {t:Nat} {s:Sv},(∃p∈sl,p.1=t)->aX (pV sl x l) t=some s->aX (pV sl x l') t=some s
 |[],_,_,_,_,_,⟨p,hp,_⟩,_=>by simp at hp
 |(d,T)::r,x,l,l',t,s,⟨p,hp,he⟩,h=>by
  simp only[pV,aX]at h ⊢
  by_cases e:d=t
  ·rw[if_pos e]at h ⊢; exact h
  ·rw[if_neg e]at h ⊢
   refine Tm ⟨p,?_,he⟩ h
   rcases List.mem_cons.1 hp with rfl|hp
   ·exact absurd he e
   ·exact hp
theorem VF:∀{lo:List (Nat×Tag)} {x y:vM lo} {L:Loc} {i n m:Nat} {cs cs':List Value},(mJ lo x (mJ lo y L))[i]? =some (n,cs)->(mJ lo x L)[i]? =some (m,cs')->(∃L2:Loc,yj L2 lo=some x)->cs'=cs:=by
 intro lo x y L i n m cs cs' h1 h2 ⟨L2,h3⟩
 have hi:i<L.length:=by have:=(List.getElem?_eq_some_iff.1 h2).1; rw[gI]at this; exact this
 have hb:∀p∈lo,p.1<L2.length:=Tj h3
 rcases Classical.em (∃p∈lo,p.1=i)with hq|hq
 ·obtain⟨p,hp,he⟩:=hq
  have hi2:i<L2.length:=by rw[←he]; exact hb p hp
  obtain⟨⟨a,ds⟩,e1⟩:∃q,L2[i]? =some q:=⟨_,List.getElem?_eq_getElem hi2⟩
  obtain⟨⟨a1,ds1⟩,e2⟩:∃q,L[i]? =some q:=⟨_,List.getElem?_eq_getElem hi⟩
  obtain⟨⟨a2,ds2⟩,e3⟩:∃q,(mJ lo y L)[i]? =some q:=⟨_,List.getElem?_eq_getElem (by rw[gI]; exact hi)⟩
  rcases uV h3 e2 e1 h2 with⟨_,g,_⟩|⟨g,_⟩
  ·rcases uV h3 e3 e1 h1 with⟨_,g',_⟩|⟨g',_⟩
   ·rw[g,g']
   ·exact absurd he (g' p hp)
  ·exact absurd he (g p hp)
 ·have hn:∀p∈lo,p.1≠i:=fun p hp e=>hq ⟨p,hp,e⟩
  rw[pY hn,pY hn]at h1
  rw[pY hn]at h2
  rw[h1]at h2; simp at h2; exact h2.2.symm
theorem ZJ{J:Jn}{s s':J.S}(h:yj L' J.lo=some s'.2):∀(i n m:Nat) (cs cs':List Value),(J.loc (J.loc L s) s')[i]? =some (n,cs)->(J.loc L s')[i]? =some (m,cs')->cs'=cs:=
 fun _ _ _ _ _ h1 h2=>VF h1 h2 ⟨L',h⟩
theorem ZK{J:Jn}(s:J.S):yu L (J.loc L s):=by
 refine⟨by unfold Jn.loc; rw[gI]; exact Nat.le_refl _,fun i n cs m cs' h1 h2=> ?_⟩
 unfold Jn.loc at h2
 rcases Classical.em (∃p∈J.lo,p.1=i)with hq|hq
 ·have:=OO h1 h2 hq
  exact⟨by omega,fun e=>by omega⟩
 ·rw[pY (fun p hp e=>hq ⟨p,hp,e⟩),h1]at h2
  simp at h2; exact⟨by omega,fun _=>h2.2.symm⟩
theorem abH{J:Jn}{s s':J.S}:∀t v,aX (J.fr fr s').l t=some v->aX (J.fr (J.fr fr s) s').l t=some v:=by
 intro t v h
 unfold Jn.fr at h ⊢
 simp only at h ⊢
 rcases Classical.em (∃p∈J.sl,p.1=t)with hq|hq
 ·exact Tm hq h
 ·have hn:∀p∈J.sl,p.1≠t:=fun p hp e=>hq ⟨p,hp,e⟩
  have h1:=vP hn h
  rw[Bg hn]
  obtain⟨g1,g2⟩:=uX h1
  rw[Jr fun p hp e=> ?_,Bg hn]
  ·exact h1
  ·simp at hp; obtain⟨c,hc,rfl⟩:=hp; exact g1 (e▸hc)
theorem ac_{J:Jn}{j:J.S->Heap->Prop}{K:CK}{e:Ex}(h:jK J fr L j K e fr' L' H'):(e= .normal∧Jj J fr fr' L L' fun x=>j x H')∨(e≠ .normal∧K e fr' L' H'):=by
 unfold jK at h
 cases e with
 |normal=>exact .inl ⟨rfl,h⟩
 |exit i=>exact .inr ⟨by simp,h⟩
 |ret=>exact .inr ⟨by simp,h⟩
theorem OQ{c:Code}{J:Jn}{B:J.S->Heap->Prop}{K:CK}(h:Goes C ro c fr L H (jK J fr L B K))(hB:∀x H',B x H'->K .normal (J.fr fr x) (J.loc L x) H'):Goes C ro c fr L H K:=by
 intro n M ML a w h1 h2 h3
 refine wpIn_mono (h n M ML a w h1 h2 h3) ?_
 rintro x a' w' ⟨e,fr',L',H',M',ML',q1,q2,q3⟩
 rcases ac_ q1 with⟨rfl,hj⟩|⟨hne,hk⟩
 ·obtain⟨y,g1,g2,g3,g4⟩:=Js hj
  exact⟨.normal,_,_,H',M',ML,hB y H' g4,q2,PS h3 h2 q3 g1 g2 g3⟩
 ·exact⟨e,fr',L',H',M',ML',hk,q2,q3⟩
theorem Jt{tmps:Array Value}{m:Nat}:∀{l:List (Nat×Option Sv)} {l':List (Nat×Option Value)},pW l=some l'->∀t v,look l' t=some v->aX l t=some (.v v)
 |[],l',h,t,v,hv=>by simp[pW]at h; subst h; simp[look]at hv
 |(i,none)::r,l',h,t,v,hv=>by
  simp only[pW]at h
  split at h
  ·rename_i q hq
   simp at h; subst h
   simp only[look]at hv
   simp only[aX]
   split at hv
   ·simp at hv
   ·rename_i hi; rw[if_neg hi]; exact Jt (tmps:=tmps) (m:=m) hq t v hv
  ·simp at h
 |(i,some (.v x))::r,l',h,t,v,hv=>by
  simp only[pW]at h
  split at h
  ·rename_i q hq
   simp at h; subst h
   simp only[look]at hv
   simp only[aX]
   split at hv
   ·rename_i hi; rw[if_pos hi]; simp at hv; rw[hv]
   ·rename_i hi; rw[if_neg hi]; exact Jt (tmps:=tmps) (m:=m) hq t v hv
  ·simp at h
 |(i,some (.lp _ _))::r,l',h,t,v,hv=>by simp[pW]at h
 |(i,some (.ls _ _))::r,l',h,t,v,hv=>by simp[pW]at h
theorem EX:∀{l:List (Nat×Option Sv)} {l':List (Nat×Option Value)},pW l=some l'->∀t s,aX l t=some s->∃v,s= .v v∧look l' t=some v
 |[],l',h,t,s,hs=>by simp[aX]at hs
 |(i,none)::r,l',h,t,s,hs=>by
  simp only[pW]at h
  split at h
  ·rename_i q hq
   simp at h; subst h
   simp only[aX]at hs
   simp only[look]
   split at hs
   ·simp at hs
   ·rename_i hi; rw[if_neg hi]; exact EX hq t s hs
  ·simp at h
 |(i,some (.v x))::r,l',h,t,s,hs=>by
  simp only[pW]at h
  split at h
  ·rename_i q hq
   simp at h; subst h
   simp only[aX]at hs
   simp only[look]
   split at hs
   ·rename_i hi; rw[if_pos hi]; simp at hs; exact⟨x,hs.symm,rfl⟩
   ·rename_i hi; rw[if_neg hi]; exact EX hq t s hs
  ·simp at h
 |(i,some (.lp _ _))::r,l',h,t,s,hs=>by simp[pW]at h
 |(i,some (.ls _ _))::r,l',h,t,s,hs=>by simp[pW]at h
theorem Tn:∀{sl:List (Nat×Tag)} {x:Tup (sl.map (·.2))} {args':List Value} {l:List (Nat×Option Sv)} {k:Nat} {tmps:Array Value},(∀p∈sl,p.1<k)->FS M [] ⟨k,l⟩ tmps->VL M (encs (sl.map (·.2)) x) args'→
  args'.length=sl.length∧FS M [] ⟨k,SE sl x l⟩ (((sl.map (·.1)).zip args').foldl (fun tmps x=>tmps.setIfInBounds x.1 x.2) tmps)
 |[],x,args',l,k,tmps,_,hf,hv=>by
  have:=hv.of_nil; subst this
  exact⟨rfl,hf⟩
 |(t,T)::r,x,args',l,k,tmps,hk,hf,hv=>by
  obtain⟨u,us,rfl,hu,ht⟩:=hv.of_cons
  have hf2:FS M [] ⟨k,(t,some (.v (T.enc x.1)))::l⟩ (tmps.setIfInBounds t u):=hf.put (d:=t) (hk (t,T) (by simp)) (s:=.v (T.enc x.1)) hu
  obtain⟨g1,g2⟩:=Tn (sl:=r) (x:=x.2) (fun p hp=>hk p (by simp[hp])) hf2 ht
  exact⟨by simp[g1],g2⟩
theorem abI{es:List Ex}{e:Ex}{K:Ex->Prop}(h:RFX es e K):K e:=by
 induction es with
 |nil=>exact h.elim
 |cons x r ih=>rcases h with⟨rfl,h⟩|h; exact h; exact ih h
theorem LR.empty{w:World}:LR M H [] [] w:=⟨rfl,fun i e m cs hi=>by simp at hi,fun i j e e' _ hi=>by simp at hi,fun i e hi=>by simp at hi⟩
theorem ZL{asg body:Code}{h:dJ}{J:Jn}{l:Nat}{k:Nat}{fl:List (Nat×Option Value)}{fs:List (Nat×Option Sv)}{hb:Hint}{x:Tup (J.sl.map (·.2))}{H1:Heap}{kk:Value->Heap->Prop}
  (iha:∀(ro:Option Nat) (h:dJ) (fr:fO) (L:Loc) (H:Heap) (K:CK),comp C loc asg h fr L H K->Goes C ro asg fr L H K)
  (ihb:∀(ro:Option Nat) (h:dJ) (fr:fO) (L:Loc) (H:Heap) (K:CK),comp C loc body h fr L H K->Goes C ro body fr L H K)
  (hk:∀p∈J.sl,p.1<k)
  (lb:LoopState->Option Ex->gJ) (hlb:lb=fun st pend=>.loop st pend ⟨k,fl⟩ (J.sl.map (·.1)) asg body hb)
  (fsr:∀t s,aX fs t=some s->∃v,s= .v v∧look fl t=some v)
  (hc:H1[l]? =some (lb .ready none)∧comp C loc asg .leaf ⟨k,SE J.sl x fs⟩ [] H1 fun e fr2 L2 H2=>match e with
   | .normal=>xB (H2[l]? =some (lb .ready none)) (comp C loc body h fr2 L2 (H2.set l (lb .busy none)) fun e _ _ H3=>RK lb l kk e H3)
   |_=>False):EVY C.P l (encs (J.sl.map (·.2)) x) H1 kk:=by
 subst hlb
 obtain⟨hl1,hc⟩:=hc
 intro n M w args' en hr hva hen
 obtain⟨L,b1,b2,b3,b4,b5,b6,b7⟩:=hr.blk _ _ _ hen hl1
 have f0:FS M [] ⟨k,fs⟩ L.tmps:=⟨b4.size,fun t s hs=>by
  obtain⟨v,rfl,hv⟩:=fsr t s hs
  exact b4.get t v hv⟩
 obtain⟨p1,p2⟩:=Tn hk f0 hva
 refine⟨L,b1,by rw[p1]; have:=congrArg List.length b5; simpa using this.symm,?_⟩
 have hfold:(L.params.zip args'.toArray).foldl (fun tmps (t,a)=>tmps.setIfInBounds t a) L.tmps=((J.sl.map (·.1)).zip args').foldl (fun tmps x=>tmps.setIfInBounds x.1 x.2) L.tmps:=by
  rw[←Array.foldl_toList,Array.toList_zip,b5]
 rw[hfold,b6,b7]
 refine roundIn_of_wpIn (F:=Fence.wide) trivial (wpIn_mono (iha (some en.blk) _ _ _ _ _ hc n M [] _ w hr .empty p2) ?_)
 rintro x1 a1 w1 ⟨e1,fr2,L2,H2,M1,ML1,q1,r1,q3⟩
 cases e1 with
 |exit i=>exact q1.elim
 |ret=>exact q1.elim
 |normal=>
  cases x1<;>first|exact r1.elim|skip
  obtain⟨hl2,hc2⟩:=q1
  have s1:=q3.st.st
  have hen1:=s1.ext _ _ hen
  obtain⟨L1,c1,c2,c3,c4,c5,c6,c7⟩:=s1.hr.blk _ _ _ hen1 hl2
  have hlt1:=(Array.getElem?_eq_some_iff.1 c1).1
  have hH1:l<H2.length:=(List.getElem?_eq_some_iff.1 hl2).1
  have s2:=Stp.vw (k':=.loop .busy none ⟨k,fl⟩ (J.sl.map (·.1)) asg body hb) (o':=.loop { L1 with state:=.busy }) s1.hr hl2 hen1 (by unfold aY; rw[hl2]; trivial) (by unfold aY; rw[List.getElem?_set_self hH1]; trivial)
   ⟨{ L1 with state:=.busy },by simp[hlt1],rfl,c3,c4,c5,c6,c7⟩
  refine⟨{ w1 with heap:=w1.heap.setIfInBounds en.blk (.loop { L1 with state:=.busy }) },?_,?_⟩
  ·have hg:=run_getLoop (P:=C.P) c1
   have hs':=rD (P:=C.P) c1
   simp only[Instr.beginRound,Sem.run_bind,hg,Result.andThen_ok,hs',c2,Sem.run_pure]
  ·refine wpIn_mono (ihb (some en.blk) _ _ _ _ _ hc2 n M1 ML1 a1 _ s2.hr (q3.lr.step s2) (q3.fs.step s2.ext)) ?_
   rintro x2 a2 w2 ⟨e2,fr3,L3,H3,M2,ML2,⟨hl3,hk3⟩,t1,t3⟩
   have u3:=t3.st.st
   have hen2:=u3.ext _ _ hen1
   obtain⟨L2',d1,d2,d3,d4,d5,d6,d7⟩:=u3.hr.blk _ _ _ hen2 hl3
   have hlt2:=(Array.getElem?_eq_some_iff.1 d1).1
   have hH2:l<H3.length:=(List.getElem?_eq_some_iff.1 hl3).1
   have s12:Stp M H1 w M2 H3 w2:=((q3.st.trans (s2.Xh ML1)).trans t3.st).st.ac8 fun i e hi=>by simp at hi
   have fin:∀(s:LoopState) (pe:Option Ex) (j:Option Code),Y8 pe j->Stp M H1 w M2 (H3.set l (.loop s pe ⟨k,fl⟩ (J.sl.map (·.1)) asg body hb)) { w2 with heap:=w2.heap.setIfInBounds en.blk (.loop { L2' with state:=s,pending:=j }) }:=fun s pe j hp=>
    s12.trans (Stp.vw u3.hr hl3 hen2 (by unfold aY; rw[hl3]; trivial) (by unfold aY; rw[List.getElem?_set_self hH2]; trivial)
     ⟨{ L2' with state:=s,pending:=j },by simp[hlt2],rfl,hp,d4,d5,d6,d7⟩)
   have hend:∀j:Option Code,(Instr.endRound en.blk j).run C.P w2= .ok (.bool j.isNone) { w2 with heap:=w2.heap.setIfInBounds en.blk (.loop { L2' with state:=if j.isNone then .ready else .done,pending:=j }) }:=fun j=>by
    have hg:=run_getLoop (P:=C.P) d1
    have hs':=rD (P:=C.P) d1
    simp only[Instr.endRound,Sem.run_bind,hg,Result.andThen_ok,hs',Sem.run_pure]
   cases e2 with
   |normal=>
    cases x2<;>first|exact t1.elim|skip
    exact⟨_,_,hend none,_,_,M2,_,rfl,fin _ none none trivial,.bool _,hk3⟩
   |ret=>
    cases x2<;>first|exact t1.elim|skip
    exact⟨_,_,hend (some .ret),_,_,M2,_,rfl,fin _ (some .ret) (some .ret) trivial,.bool _,hk3⟩
   |exit i=>
    cases x2<;>first|exact t1.elim|skip
    rename_i i2
    have t1:i=i2:=t1
    subst t1
    exact⟨_,_,hend (some (.exit i)),_,_,M2,_,rfl,fin _ (some (.exit i)) (some (.exit i)) rfl,.bool _,hk3⟩
set_option maxHeartbeats 2000000 in
theorem Yc{g:Operand}{ps:Array Tmp}{asg body:Code}{h:dJ}{J:Jn}{f:FuncId}{xs ys:Array Value}{fl:List (Nat×Option Value)}{K:CK}
  (iha:∀(ro:Option Nat) (h:dJ) (fr:fO) (L:Loc) (H:Heap) (K:CK),comp C loc asg h fr L H K->Goes C ro asg fr L H K)
  (ihb:∀(ro:Option Nat) (h:dJ) (fr:fO) (L:Loc) (H:Heap) (K:CK),comp C loc body h fr L H K->Goes C ro body fr L H K)
  {es:List Ex} (hj:J.sl.map (·.1)=ps.toList) (h1:mP fr g=some (.func (.func f) xs ys)) (hfl:pW fr.l=some fl) (hk:∀p∈J.sl,p.1<fr.n)
  (hc:RF C.P (J.sl.map (·.2)) f xs.toList ys.toList H (fun lb x H1 k=>comp C loc asg .leaf ⟨fr.n,SE J.sl x fr.l⟩ [] H1 fun e fr2 L2 H2=>match e with
     | .normal=>xB (H2[H.length]? =some (lb .ready none)) (comp C loc body h fr2 L2 (H2.set H.length (lb .busy none)) fun e _ _ H3=>k e H3)
     |_=>False) fun e H'=>RFX es e fun x=>K x fr [] H') (hr:HR M H w) (hf:FS M [] fr a.tmps):
  (Code.rangeFunc g ps asg body).wpIn (Fw none) n C.P (fun x a' w'=>∃e H' M',K e fr [] H'∧ExR e x∧Stp M H w M' H' w'∧FS M' [] fr a'.tmps∧Marks w w' a.defers a'.defers) a w:=by
 have fsr:∀t s,aX fr.l t=some s->∃v,s= .v v∧look fl t=some v:=EX hfl
 let lb:LoopState->Option Ex->gJ:=fun st pend=>.loop st pend ⟨fr.n,fl⟩ (J.sl.map (·.1)) asg body .leaf
 have hev:=hc lb fun x H1 k hx=>ZL (hb:=.leaf) (k:=fr.n) (fl:=fl) (fs:=fr.l) (J:=J) iha ihb hk lb rfl fsr hx
 refine wpIn_rangeFunc fun fn _=> ?_
 have hfv:=dP hf h1
 obtain⟨us,ws,hfe,hu,hw⟩:∃us ws,a.eval g= .func (.func f) us ws∧VL M xs.toList us.toList∧VL M ys.toList ws.toList:=by
  generalize hq:a.eval g=q at hfv
  cases hfv with
  |func hx hy gx gy=>
   exact⟨_,_,rfl,⟨by simpa using hx,fun i x u hx hu=>gx i x u (by simpa using hx) (by simpa using hu)⟩,⟨by simpa using hy,fun i x u hx hu=>gy i x u (by simpa using hx) (by simpa using hu)⟩⟩
 have s1:=Stp.hidden hr (.deferred (some []))
 let L0:Loop:={ state:=.ready,pending:=none,fn,tmps:=a.tmps,params:=ps,assign:=asg,body,defers:=w.heap.size }
 let en:jg:=⟨w.heap.size+1,0,false,0,0,0⟩
 have hw1s:(w.alloc (.deferred (some []))).heap.size=w.heap.size+1:=by simp
 have hfr0:FR M ⟨fr.n,fl⟩ a.tmps:=⟨hf.size,fun t v hv=>hf.get t _ (Jt (tmps:=a.tmps) (m:=0) hfl t v hv)⟩
 have s2:=Stp.Pq (o:=.loop L0) (k:=lb .ready none) s1.hr en (by rw[hw1s]) ⟨L0,by
   show((w.alloc (.deferred (some []))).heap.push _)[w.heap.size+1]? =_
   rw[Array.getElem?_push,if_pos (by rw[hw1s])],rfl,trivial,hfr0.mono (Ext.app M [some en]),hj.symm,rfl,rfl⟩
 have s12:=s1.trans s2
 have hdef:((w.alloc (.deferred (some []))).alloc (.loop L0)).heap[w.heap.size]? =some (.deferred (some [])):=by
  show(((w.heap.push _).push _))[w.heap.size]? =_
  rw[Array.getElem?_push,if_neg (by simp),Array.getElem?_push,if_pos rfl]
 obtain⟨⟨fng,q1,q2,q3⟩,q4⟩:=hev
 have hargs:VL (M++[some en]) (xs.toList++[.func (.yield H.length) #[] #[]]++ys.toList) (us.toList++[.func (.yield (w.heap.size+1)) #[] #[]]++ws.toList):=
  ((hu.mono s2.ext).append (.cons (.yield (pq hr en)) (.nil _))).append (hw.mono s2.ext)
 have hcall:=q4 (n-1) (M++[some en]) _ _ s2.hr hargs
 have hbn:fng.body.isNone=false:=by cases hb:fng.body<;>simp_all
 refine⟨w.heap.size+1,[{ target:=.collected w.heap.size,args:= #[] }],(w.alloc (.deferred (some []))).alloc (.loop L0),{ target:=.fn (.func f) ws,args:=us++ #[Value.func (.yield (w.heap.size+1)) #[] #[]] },(w.alloc (.deferred (some []))).alloc (.loop L0),f,(us.toList++[Value.func (.yield (w.heap.size+1)) #[] #[]]++ws.toList).toArray,(w.alloc (.deferred (some []))).alloc (.loop L0),?_,?_,fun _ _=>trivial,?_,by simp[Fw,Fence.wide],(nK hcall).mono ?_⟩
 ·simp only[Instr.enterLoop,Fw,Sem.run_bind,run_newObj,Result.andThen_ok,Sem.run_pure,World.alloc_eq]
  rw[hw1s]
 ·have he:(rangeCall g (w.heap.size+1)).args.map a.eval= #[Value.func (.yield (w.heap.size+1)) #[] #[]]:=by simp only[List.map_toArray,List.map_cons,List.map_nil]; rfl
  simp only[resolve]
  rw[hfe,he]
  simp only[Deferred.ofValue,Sem.run_pure]
 ·simp only[invoke,callFunc,Sem.run_bind,run_program,Result.andThen_ok,q1,q3,Bool.false_eq_true,if_false,hbn,Sem.run_pure]
  congr 2
  apply Array.ext'; simp
 ·rintro e w3 ⟨v,v',M',H2,rfl,hs,_,st,pend,hl2,hst,hkk⟩
  have hen:M'[H.length]? =some (some en):=hs.ext _ _ (pq hr en)
  obtain⟨L,k1,k2,k3,k4⟩:=hs.hr.blk _ _ _ hen hl2
  have hgl:(Instr.getLoop (w.heap.size+1)).run C.P w3= .ok L w3:=by
   have:w3.heap[w.heap.size+1]? =some (.loop L):=k1
   simp[Instr.getLoop,getObj,Sem.run,this]
  have hso:∀o,(setObj (w.heap.size+1) o).run C.P w3= .ok () { w3 with heap:=w3.heap.setIfInBounds (w.heap.size+1) o }:=fun o=>by
   have:w3.heap[w.heap.size+1]? =some (.loop L):=k1
   simp[setObj,Sem.run,this]
  have hlt:w.heap.size+1<w3.heap.size:=(Array.getElem?_eq_some_iff.1 k1).1
  have hnb:(L.state== .busy)=false:=by rw[k2]; simpa using hst
  have hl2l:H.length<H2.length:=(List.getElem?_eq_some_iff.1 hl2).1
  have s4:=Stp.vw (k':=lb .exhausted pend) (o':=.loop { L with state:=.exhausted }) hs.hr hl2 hen (by unfold aY; rw[hl2]; trivial) (by unfold aY; rw[List.getElem?_set_self hl2l]; trivial)
   ⟨{ L with state:=.exhausted },by simp[en,hlt],rfl,k3,k4⟩
  have sall:=(s12.trans hs).trans s4
  have hmarks:Marks w { w3 with heap:=w3.heap.setIfInBounds en.blk (.loop { L with state:=.exhausted }) } a.defers ([{ target:=.collected w.heap.size,args:= #[] }]++a.defers):=by
   refine⟨[w.heap.size],rfl,by simp,fun r hr'=> ?_⟩
   simp at hr'; subst hr'
   exact⟨Nat.le_refl _,kG hs.hr s4 (kG s2.hr hs hdef)⟩
  refine⟨L.pending,{ w3 with heap:=w3.heap.setIfInBounds (w.heap.size+1) (.loop { L with state:=.exhausted }) },?_,?_⟩
  ·simp only[Instr.endLoop,Sem.run_bind,hgl,Result.andThen_ok,hnb,Bool.false_eq_true,if_false,Sem.run_ite,Sem.run_pure,hso]
  ·have hfin:∀x:Exit,ExR (pend.getD .normal) x->∃e H' M'',K e fr [] H'∧ExR e x∧Stp M H w M'' H' { w3 with heap:=w3.heap.setIfInBounds (w.heap.size+1) (.loop { L with state:=.exhausted }) }∧FS M'' [] fr a.tmps∧
     Marks w { w3 with heap:=w3.heap.setIfInBounds (w.heap.size+1) (.loop { L with state:=.exhausted }) } a.defers ([{ target:=.collected w.heap.size,args:= #[] }]++a.defers):=fun x hx=>⟨_,_,M',abI hkk,hx,sall,hf.step sall.ext,hmarks⟩
   cases hp:L.pending with
   |none=>
    rw[hp]at k3 hfin
    cases pend with
    |none=>refine hfin _ ?_; trivial
    |some e=>cases e<;>exact k3.elim
   |some c=>
    rw[hp]at k3 hfin
    cases pend with
    |none=>exact k3.elim
    |some e=>
     cases e with
     |normal=>cases c<;>exact k3.elim
     |ret=>cases c<;>first|exact k3.elim|exact wpIn_ret (by refine hfin _ ?_; trivial)
     |exit i=>cases c<;>first|exact k3.elim|exact wpIn_exit (by refine hfin _ ?_; exact k3)
theorem abJ(hE:C.E.Ok C.P):∀(c:Code) (ro:Option Nat) (_:LV c=true∨ro=none) (h:dJ) (fr:fO) (L:Loc) (H:Heap) (K:CK),comp C loc c h fr L H K->Goes C ro c fr L H K:=by
 intro c
 induction c with
 |skip=>
  intro ro hro h fr L H K hc n M ML a w h1 h2 h3
  replace hc:K .normal fr L H:=hc
  exact wpIn_skip ⟨.normal,_,_,_,M,ML,hc,trivial,.refl h1 h2 h3⟩
 |label l=>
  intro ro hro h fr L H K hc n M ML a w h1 h2 h3
  replace hc:K .normal fr L H:=hc
  exact wpIn_label ⟨.normal,_,_,_,M,ML,hc,trivial,.refl h1 h2 h3⟩
 |exit id=>
  intro ro hro h fr L H K hc n M ML a w h1 h2 h3
  replace hc:K (.exit id) fr L H:=hc
  exact wpIn_exit ⟨.exit id,_,_,_,M,ML,hc,rfl,.refl h1 h2 h3⟩
 |ret=>
  intro ro hro h fr L H K hc n M ML a w h1 h2 h3
  replace hc:K .ret fr L H:=hc
  exact wpIn_ret ⟨.ret,_,_,_,M,ML,hc,trivial,.refl h1 h2 h3⟩
 |region id ops draw=>
  intro ro hro h fr L H K hc
  simp only[comp]at hc
  split at hc
  ·intro n M ML a w h1 h2 h3
   exact ZI hE hc h1 h2 h3 fun fr' L' H' M' ML' a' w' hk hb=>⟨.normal,fr',L',H',M',ML',hk,trivial,hb⟩
  ·rename_i J hj
   unfold JOIN at hc
   intro n M ML a w h1 h2 h3
   refine ZI hE hc h1 h2 h3 fun fr' L' H' M' ML' a' w' hk hb=> ?_
   obtain⟨y,g1,g2,g3,g4⟩:=Js hk
   exact⟨.normal,_,_,H',M',ML,g4,trivial,PS h3 h2 hb g1 g2 g3⟩
 |seq x y ihx ihy=>
  intro ro hro h fr L H K hc n M ML a w h1 h2 h3
  simp only[comp]at hc
  refine wpIn_seq (wpIn_mono (ihx ro (hro.imp_left fun q=>by simp only[LV,Bool.and_eq_true]at q; exact q.1) h.a fr L H _ hc n M ML a w h1 h2 h3) ?_)
  rintro x a' w' ⟨e,fr',L',H',M',ML',q1,q2,q3⟩
  cases e with
  |normal=>
   cases x<;>first|exact q2.elim|skip
   simp only at q1
   refine wpIn_mono (ihy ro (hro.imp_left fun q=>by simp only[LV,Bool.and_eq_true]at q; exact q.2) h.b fr' L' H' K q1 n M' ML' a' w' q3.st.st.hr q3.lr q3.fs) ?_
   rintro x2 a2 w2 ⟨e2,fr2,L2,H2,M2,ML2,r1,r2,r3⟩
   exact⟨e2,fr2,L2,H2,M2,ML2,r1,r2,q3.trans r3⟩
  |exit i=>cases x<;>first|exact q2.elim|exact⟨.exit i,fr',L',H',M',ML',q1,q2,q3⟩
  |ret=>cases x<;>first|exact q2.elim|exact⟨.ret,fr',L',H',M',ML',q1,q2,q3⟩
 |cond c x y ihx ihy=>
  intro ro hro h fr L H K hc
  simp only[comp]at hc
  split at hc
  ·rename_i g hg
   have two:∀K,aO g (comp C loc x h.a fr L H K) (comp C loc y h.b fr L H K)->Goes C ro (.cond c x y) fr L H K:=by
    intro K hk n M ML a w h1 h2 h3
    have hv:=(dP h3 hg).of_bool
    cases g with
    |true=>exact wpIn_cond_true hv (ihx ro (hro.imp_left fun q=>by simp only[LV,Bool.and_eq_true]at q; exact q.1) h.a fr L H K hk n M ML a w h1 h2 h3)
    |false=>exact wpIn_cond_false hv (ihy ro (hro.imp_left fun q=>by simp only[LV,Bool.and_eq_true]at q; exact q.2) h.b fr L H K hk n M ML a w h1 h2 h3)
   split at hc
   ·exact two K hc
   ·rename_i J hj
    unfold JOIN at hc
    exact OQ (two _ hc) fun x H' hx=>hx
  ·exact hc.elim
 |block id c ih=>
  intro ro hro h fr L H K hc
  simp only[comp]at hc
  have out:∀(K1 K:CK),Goes C ro c fr L H K1->(∀fr' L' H',K1 .normal fr' L' H'->K .normal fr' L' H')->(∀fr' L' H',K1 (.exit id) fr' L' H'->K .normal fr' L' H')->(∀i fr' L' H',i≠id->K1 (.exit i) fr' L' H'->K (.exit i) fr' L' H')->(∀fr' L' H',K1 .ret fr' L' H'->K .ret fr' L' H')->Goes C ro (.block id c) fr L H K:=by
   intro K1 K hg k1 k2 k3 k4 n M ML a w h1 h2 h3
   refine wpIn_block (wpIn_mono (hg n M ML a w h1 h2 h3) ?_)
   rintro x a' w' ⟨e,fr',L',H',M',ML',q1,q2,q3⟩
   cases e with
   |normal=>cases x<;>first|exact q2.elim|exact⟨.normal,fr',L',H',M',ML',k1 _ _ _ q1,trivial,q3⟩
   |ret=>cases x<;>first|exact q2.elim|exact⟨.ret,fr',L',H',M',ML',k4 _ _ _ q1,trivial,q3⟩
   |exit i=>
    cases x<;>first|exact q2.elim|skip
    rename_i i2
    have q2:i=i2:=q2
    subst q2
    by_cases hi:i=id
    ·subst hi
     simp only[Exit.inBlock,if_true]
     exact⟨.normal,fr',L',H',M',ML',k2 _ _ _ q1,trivial,q3⟩
    ·simp only[Exit.inBlock,if_neg hi]
     exact⟨.exit i,fr',L',H',M',ML',k3 _ _ _ _ hi q1,rfl,q3⟩
  split at hc
  ·refine out _ K (ih ro (hro.imp_left fun q=>q) h.a fr L H _ hc) (fun _ _ _ h=>h) (fun _ _ _ h=> ?_) (fun i _ _ _ hi h=> ?_) (fun _ _ _ h=>h)
   ·simpa using h
   ·simpa[hi]using h
  ·rename_i J hj
   unfold JOIN at hc
   refine OQ (J:=J) (B:=fun x H'=>K .normal (J.fr fr x) (J.loc L x) H') (out _ _ (ih ro (hro.imp_left fun q=>q) h.a fr L H _ hc) (fun _ _ _ h=>h) (fun _ _ _ h=> ?_) (fun i _ _ _ hi h=> ?_) (fun _ _ _ h=>h)) fun x H' hx=>hx
   ·simpa[jK]using h
   ·simpa[jK,hi]using h
 |scope c ih=>
  intro ro hro h fr L H K hc n M ML a w h1 h2 h3
  replace hc:comp C loc c h fr L H K:=hc
  refine oU (wpIn_mono (ih ro (hro.imp_left fun q=>q) h fr L H K hc n M ML a w h1 h2 h3) ?_)
  rintro x a' w' ⟨e,fr',L',H',M',ML',q1,q2,q3⟩
  cases x with
  |goto l=>cases e<;>exact q2.elim
  |_=>exact⟨e,fr',L',H',M',ML',q1,q2,q3⟩
 |loop c ih=>
  intro ro hro h fr L H K hc
  simp only[comp]at hc
  split at hc
  ·rename_i J hj
   split at hc
   ·rename_i y z hy hz
    obtain⟨m,hm⟩:=hc
    intro n M ML a w h1 h2 h3
    have rounds:∀(m:Nat) (s:J.S) (H:Heap) (M':Mp) (a':Act) (w':World),itP (fun rec (s:J.S) H=>comp C loc c h.a (J.fr fr s) (J.loc L s) H (jK J (J.fr fr s) (J.loc L s) rec K)) m s H→
      HR M' H w'->LR M' H (J.loc L s) ML w'->FS M' ML (J.fr fr s) a'.tmps→
      Code.roundsIn (Fw ro) n C.P c (fun x a2 w2=>∃e fr' L' H' M2 ML2 s2,K e fr' L' H'∧ExR e x∧SK M' H ML w' M2 H' ML2 w2∧LR M2 H' L' ML2 w2∧FS M2 ML2 fr' a2.tmps∧yu (J.loc L s2) L'∧Rz (J.fr fr s2) fr'∧(∃N,ML2=ML++N)∧Marks w' w2 a'.defers a2.defers) m a' w':=by
     intro m
     induction m with
     |zero=>intro s H M' a' w' hi; exact hi.elim
     |succ m ihm=>
      intro s H M' a' w' hi g1 g2 g3
      rw[roundsIn_succ]
      refine wpIn_mono (ih ro (hro.imp_left fun q=>q) h.a _ _ _ _ hi n M' ML a' w' g1 g2 g3) ?_
      rintro x a2 w2 ⟨e,fr',L',H',M2,ML2,q1,q2,q3⟩
      rcases ac_ q1 with⟨rfl,hjx⟩|⟨hne,hk⟩
      ·cases x<;>first|exact q2.elim|skip
       obtain⟨s',k1,k2,k3,k4⟩:=Js hjx
       have b:=PS g3 g2 q3 k1 k2 k3
       have f':FS M2 ML (J.fr fr s') a2.tmps:=b.fs.same rfl abH
       have l':LR M2 H' (J.loc L s') ML w2:=b.lr.same (by unfold Jn.loc; simp only[gI]) (ZJ k3)
       refine rC ?_ m a2 w2 (ihm s' H' M2 a2 w2 k4 b.st.st.hr l' f')
       rintro x3 a3 w3 ⟨e3,fr3,L3,H3,M3,ML3,s3,r1,r2,r3,r4,r5,r6,r7,r8,r9⟩
       exact⟨e3,fr3,L3,H3,M3,ML3,s3,r1,r2,b.st.trans r3,r4,r5,r6,r7,r8,b.defers.Zz b.st.st.hr b.lr r3.st b.st.st.size r9⟩
      ·have done:∃e fr' L' H' M2 ML2 s2,K e fr' L' H'∧ExR e x∧SK M' H ML w' M2 H' ML2 w2∧LR M2 H' L' ML2 w2∧FS M2 ML2 fr' a2.tmps∧yu (J.loc L s2) L'∧Rz (J.fr fr s2) fr'∧(∃N,ML2=ML++N)∧Marks w' w2 a'.defers a2.defers:=
        ⟨e,fr',L',H',M2,ML2,s,hk,q2,q3.st,q3.lr,q3.fs,q3.rel,q3.suf,q3.mlx,q3.defers⟩
       cases e with
       |normal=>exact absurd rfl hne
       |exit i=>cases x<;>first|exact q2.elim|exact done
       |ret=>cases x<;>first|exact q2.elim|exact done
    refine wpIn_loop_rounds m ?_
    have b0:=Behind.refl h1 h2 h3
    have f0:FS M ML (J.fr fr (y,z)) a.tmps:=⟨h3.size,fun t s hs=>by
     unfold Jn.fr at hs
     rcases EU hy hs with h|⟨_,h'⟩
     ·exact h3.get t s h
     ·exact h3.get t s (uX h').2⟩
    have l0:LR M H (J.loc L (y,z)) ML w:=h2.same (by unfold Jn.loc; simp only[gI]) fun i n m cs cs' e1 e2=>by
     rcases uV hz e1 e1 e2 with⟨_,g,_⟩|⟨_,g,_⟩
     ·exact g
     ·exact g
    refine rC ?_ m a w (rounds m (y,z) H M a w hm h1 l0 f0)
    rintro x a2 w2 ⟨e,fr',L',H',M2,ML2,s2,r1,r2,r3,r4,r5,r6,r7,r8,r9⟩
    exact⟨e,fr',L',H',M2,ML2,r1,r2,⟨r3,r4,r5,(ZK s2).trans r6,Rz.trans (fr':=J.fr fr s2) ⟨rfl,EW J.sl s2.1 J.clr fr.l⟩ r7,r8,r9⟩⟩
   ·exact hc.elim
  ·exact hc.elim
 |rangeFunc g ps asg body iha ihb=>
  intro ro hro h fr L H K hc
  simp only[comp]at hc
  split at hc
  ·rename_i fv fl J hg hfl hj
   split at hc
   ·rename_i hps
    obtain⟨f,xs,ys,rfl,hc⟩:=hc
    simp only[Bool.and_eq_true,beq_iff_eq,List.all_eq_true,decide_eq_true_eq]at hps
    obtain⟨⟨hp1,hp2⟩,hp3,hp4⟩:=hps
    obtain rfl:ro=none:=by
     rcases hro with q|q
     ·cases q
     ·exact q
    intro n M ML a w h1 h2 h3
    have hML:ML=[]:=List.length_eq_zero_iff.1 (by rw[h2.len]; rfl)
    subst hML
    refine wpIn_mono (Yc (hj:=hp1) (iha:=fun ro=>iha ro (.inl hp3)) (ihb:=fun ro=>ihb ro (.inl hp4)) hg hfl (fun p hp=>hp2 p.1 (by rw[←hp1]; exact List.mem_map_of_mem hp)) hc h1 h3) ?_
    rintro x a' w' ⟨e,H',M',k1,k2,k3,k4,k5⟩
    exact⟨e,fr,[],H',M',[],k1,k2,⟨k3.Xh [],.empty,k4,.refl _,.refl _,⟨[],rfl⟩,k5⟩⟩
   ·exact hc.elim
  ·exact hc.elim
 |_=>intro ro hro h fr L H K hc; simp[comp]at hc
end Go.Proofs.YtijnknjopjmiiaaGreatDoor.Zq
end
section
namespace Go.Proofs.YtijnknjopjmiiaaGreatDoor.Zq
def kOk(P:Program)(t:TypeId):TK->TypeDesc->Bool
 | .bool,.bool=>true
 | .int k,.int k'=>decide (k=k')
 | .string,.string=>true
 | .pointer e,.pointer e'=>e==e'
 | .slice e,.slice e'=>e==e'
 | .array n e,.array n' e'=>n==n'&&e==e'&& !P.eqGuardType P.depth t
 | .map k e,.map k' e'=>k==k'&&e==e'
 | .struct fs,.struct gs=>decide (fs=gs.toList.map (fun f=>(f.offset,f.type)))&&gs.toList.all (fun f=>f.name !="_")&& !P.stoodInHeld t&& !P.eqGuardType P.depth t&&(gs.toList.mapM (fun f=>(P.info? f.type).map fun i=>(f.offset,i.size))).isSome
 | .func,.func _ _ _=>true
 | .iface,.interface _=>true
 |_,_=>false
theorem adA{P:Program}{t:TypeId}{k:TK}{d:TypeDesc}(h:kOk P t k d=true):KOk P t k d:=by
 unfold kOk at h
 split at h
 case h_8 fs gs=>
  simp only[Bool.and_eq_true,decide_eq_true_eq,Bool.not_eq_true',List.all_eq_true,bne_iff_ne]at h
  obtain⟨⟨⟨⟨h1,h2⟩,h3⟩,h4⟩,h5⟩:=h
  exact⟨h1,h2,h3,h4,h5⟩
 all_goals simp_all [KOk]
def ZM:Value->Bool
 | .agg _=>true
 |_=>false
def abK(P:Program)(t:TypeId)(ti:TI):Bool:=
 match P.info? t,P.underlying t with
 |some i,some d=>
  match i.zero with
  |some z=>i.size==ti.size&&i.bytes==ti.bytes&&IK z.cells.toList ti.zero&&ti.zero.all qY&&ti.zero.length==ti.size&&(mM ti.k==ZM z)&&kOk P t ti.k d
  |none=>false
 |_,_=>false
theorem abL{P:Program}{t:TypeId}{ti:TI}(h:abK P t ti=true):∃i d z,vC P t ti i d z:=by
 unfold abK at h
 split at h
 ·rename_i i d hi hd
  split at h
  ·rename_i z hz
   simp only[Bool.and_eq_true,beq_iff_eq]at h
   obtain⟨⟨⟨⟨⟨⟨h1,h2⟩,h3⟩,h4⟩,h5⟩,h6⟩,h7⟩:=h
   refine⟨i,d,z,hi,hd,h1,h2,hz,I8 h3,h4,h5,?_,adA h7⟩
   rw[h6]
   unfold ZM
   split
   ·exact⟨fun _=>⟨_,rfl⟩,fun _=>rfl⟩
   ·rename_i hn
    exact⟨fun h=>by simp at h,fun⟨cs,hc⟩=>absurd hc (hn cs)⟩
  ·simp at h
 ·simp at h
def adB(tab:List (Option TI))(t:TypeId):Option TI:=(tab[t]?).join
def Tq(P:Program):List (Option TI)->Nat->Bool
 |[],_=>true
 |none::r,i=>Tq P r (i+1)
 |some ti::r,i=>abK P i ti&&Tq P r (i+1)
theorem Ju{P:Program}:∀(l:List (Option TI)) (i:Nat),Tq P l i=true->∀j ti,l[j]? =some (some ti)->abK P (i+j) ti=true
 |[],i,_,j,ti,h=>by simp at h
 |none::r,i,h,j,ti,hj=>by
  cases j with
  |zero=>simp at hj
  |succ j=>
   have:=Ju r (i+1) h j ti (by simpa using hj)
   rw[show i+(j+1)=i+1+j by omega]; exact this
 |some t::r,i,h,j,ti,hj=>by
  simp only[Tq,Bool.and_eq_true]at h
  cases j with
  |zero=>simp at hj; subst hj; exact h.1
  |succ j=>
   have:=Ju r (i+1) h.2 j ti (by simpa using hj)
   rw[show i+(j+1)=i+1+j by omega]; exact this
def adC(P:Program)(l:List FuncId)(f:FuncId):Option Func:=if l.contains f then P.funcs[f]? else none
def aeA(P:Program)(l:List FuncId):Bool:=l.all fun f=>match P.funcs[f]? with|some fn=> !(fn.name=="runtime.NumGoroutine")|none=>true
theorem adD{P:Program}{tab:List (Option TI)}{l:List FuncId}{hint:FuncId->Hint}{ext:FuncId->Option (List Value->Heap->Option (Value×Heap))}(h1:Tq P tab 0=true)(h2:aeA P l=true)(h3:P.follows .mixedOrders=true):
  Env.Ok { ty:=adB tab,fn:=adC P l,hint,ext } P:=by
 refine⟨fun t ti ht=> ?_,fun f fn hf=> ?_,h3⟩
 ·have:tab[t]? =some (some ti):=by
   unfold adB at ht
   cases hq:tab[t]? with
   |none=>simp[hq]at ht
   |some o=>simp[hq]at ht; rw[ht]
  have:=Ju tab 0 h1 t ti this
  rw[Nat.zero_add]at this
  exact abL this
 ·simp only[adC]at hf
  split at hf
  ·rename_i hc
   refine⟨hf,?_⟩
   have:=List.all_eq_true.1 h2 f (by simpa using hc)
   rw[hf]at this
   simpa using this
  ·simp at hf
theorem abM{P:Program}{ty:TypeId->Option TI}{fn:FuncId->Option Func}{hint:FuncId->Hint}:ac6 P { ty,fn,hint,ext:=fun _=>none }:=fun f x h=>by simp at h
end Go.Proofs.YtijnknjopjmiiaaGreatDoor.Zq
end
section
namespace Go.Proofs.YtijnknjopjmiiaaGreatDoor.Zq
open Go.RowKit
theorem Stp.below{M M':Mp}{H H':Heap}{w w':World}(h:Stp M H w M' H' w')(hn:∀b,¬aY H b):Below w.heap.size w w':=
 ⟨h.os,h.tape,h.output,h.size,fun k hk=>h.frame k hk fun b _ _ hw=>absurd hw (hn b)⟩
theorem HR.nil(w:World):HR [] [] w:=⟨rfl,fun b e k h=>by simp at h,fun b b' e e' _ h=>by simp at h⟩
end Go.Proofs.YtijnknjopjmiiaaGreatDoor.Zq
end
section
namespace Go.Proofs.YtijnknjopjmiiaaGreatDoor.Zq
variable{C:kN}{M M':Mp}{H H':Heap}{w w':World}{L L':Loc}{ML ML':Ml}{fr fr':fO}{a a':Act}{n:Nat}{loc:List Nat}
theorem Jv:∀(l:List Value) (i t:Nat),aX (Dj i l) t=if i≤t then(l[t-i]?).map .v else none
 |[],i,t=>by simp[Dj,aX]
 |v::r,i,t=>by
  simp only[Dj,aX,Jv r (i+1) t]
  by_cases h:i=t
  ·subst h; simp
  ·rw[if_neg h]
   by_cases h2:i≤t
   ·rw[if_pos h2,if_pos (by omega)]
    obtain⟨q,hq⟩:∃q,t-i=q+1:=⟨t-i-1,by omega⟩
    rw[hq,show t-(i+1)=q by omega]; rfl
   ·rw[if_neg h2,if_neg (by omega)]
theorem Yd{ntmps:Nat}{args args':List Value}(h:VL M args args'):FS M [] (PO ntmps args) (args'.toArray++Array.replicate (ntmps-args'.toArray.size) undef):=by
 refine⟨by simp[PO,h.1],fun t s hs=> ?_⟩
 unfold PO at hs
 simp only[Jv,Nat.zero_le,if_true,Nat.sub_zero,Option.map_eq_some_iff]at hs
 obtain⟨v,hv,rfl⟩:=hs
 have ht:t<args.length:=(List.getElem?_eq_some_iff.1 hv).1
 have ht':t<args'.length:=by rw[←h.1]; exact ht
 have:=h.2 t v args'[t] hv (List.getElem?_eq_getElem ht')
 have hsz:t<(args'.toArray++Array.replicate (ntmps-args'.toArray.size) undef).size:=by simp; omega
 have he:(args'.toArray++Array.replicate (ntmps-args'.toArray.size) undef).getD t undef=args'[t]:=by
  simp only[Array.getD,hsz,dite_true]
  simp[ht']
 show VR M v _
 rw[he]; exact this
theorem PU(hE:C.E.Ok C.P)(l:LR M H L ML w)(f:FS M ML fr a.tmps){g:ResultVar->Sem Value}(g1:∀t,g (.tmp t)=pure (a.tmps.getD t undef))(g2:∀b t,g (.cell b t)=(do loadVar t (←asAddr (a.tmps.getD b undef)))):∀{rs:List ResultVar} {vs:List Value},SI C fr L rs=some vs→
  ∃us:List Value,(rs.mapM g).run C.P w= .ok us w∧VL M vs us
 |[],vs,hr=>by simp[SI]at hr; subst hr; exact⟨[],by simp,.nil M⟩
 | .tmp t::rs,vs,hr=>by
  simp only[SI]at hr
  split at hr
  ·rename_i v vs' h1 h2
   simp at hr; subst hr
   obtain⟨us,k1,k2⟩:=PU hE l f g1 g2 h2
   exact⟨_::us,by simp only[List.mapM_cons,Sem.run_bind,g1,Sem.run_pure,Result.andThen_ok,k1],.cons (f.get t _ h1) k2⟩
  ·simp at hr
 | .cell b t::rs,vs,hr=>by
  simp only[SI]at hr
  split at hr
  ·rename_i i off ti vs' h1 h2 h3
   split at hr
   ·rename_i m cs hL
    split at hr
    ·rename_i hlen
     split at hr
     ·rename_i v hv
      simp at hr; subst hr
      obtain⟨e,e1,e2⟩:=f.get b _ h1
      obtain⟨u,q1,q2⟩:=Jm hE l e1 hL h2 hlen hv
      obtain⟨us,k1,k2⟩:=PU hE l f g1 g2 h3
      exact⟨u::us,by simp only[List.mapM_cons,Sem.run_bind,g2,e2,asAddr,Sem.run_pure,Result.andThen_ok,q1,k1],.cons q2 k2⟩
     ·simp at hr
    ·simp at hr
   ·simp at hr
  ·simp at hr
theorem Xn:∀{rs:List Tag} {vs:List Value} {x:Tup rs},decs rs vs=some x->vs=encs rs x
 |[],[],x,h=>rfl
 |[],_::_,x,h=>by simp[decs]at h
 |T::r,[],x,h=>by simp[decs]at h
 |T::r,v::vs,x,h=>by
  simp only[decs]at h
  split at h
  ·rename_i y z h1 h2
   have h:=Option.some.inj h
   subst h
   simp only[encs]
   rw[Xn h2]
   have:v=T.enc y:=by
    unfold Tag.dec at h1
    unfold Tag.enc PI
    split at h1
    ·rename_i cs
     split at h1
     ·rename_i ha; rw[if_pos ha,←T.ok _ _ h1]
     ·simp at h1
    ·simp at h1
    ·split at h1
     ·simp at h1
     ·rename_i ha; rw[if_neg ha,←T.ok _ _ h1]
   rw[this]
  ·cases h
theorem Ar{M M':Mp}{H H':Heap}{w:World}{P:Program}{fn:Func}{tmps:Array Value}{R:Ending->World->Prop}{n:Nat}{I:World->Prop}
  (hI:∀(w':World) (r:Nat),I w'->w'.heap[r]? =some (.deferred (some []))->I { w' with heap:=w'.heap.setIfInBounds r (.deferred none) })
  (hR:∀w',Stp M H w M' H' w'->I w'->∃v,(results fn tmps).run P w'= .ok v w'∧R (.returned v) w'):
  ∀(rs:List Nat) (w':World),Stp M H w M' H' w'->I w'->rs.Nodup->(∀r∈rs,w.heap.size≤r∧w'.heap[r]? =some (.deferred (some [])))→
   LeavesInM Fence.wide n P fn tmps R (rs.map fun r=>{ target:=.collected r,args:= #[] }) .returning w'
 |[],w',hs,hi,_,_=>hR w' hs hi
 |r::rs,w',hs,hi,hn,ha=>by
  obtain⟨h1,h2⟩:=ha r (by simp)
  have hlt:=(Array.getElem?_eq_some_iff.1 h2).1
  refine⟨by simp,.inl ⟨r,{ w' with heap:=w'.heap.setIfInBounds r (.deferred none) },rfl,?_,Ar hI hR rs _ (hs.PG _ h1 h2) (hI _ _ hi h2) (List.nodup_cons.1 hn).2 ?_⟩⟩
  ·have hg:(getObj r).run P w'= .ok (.deferred (some [])) w':=by simp[getObj,Sem.run,h2]
   have hs':∀o,(setObj r o).run P w'= .ok () { w' with heap:=w'.heap.setIfInBounds r o }:=fun o=>by simp[setObj,Sem.run,h2]
   simp only[Instr.takeDeferred,Sem.run_bind,hg,Result.andThen_ok,hs',Sem.run_pure]
  ·intro q hq
   obtain⟨g1,g2⟩:=ha q (by simp[hq])
   refine⟨g1,?_⟩
   have hqr:r≠q:=fun e=>(List.nodup_cons.1 hn).1 (e▸hq)
   show(w'.heap.setIfInBounds r _)[q]? =_
   rw[Array.getElem?_setIfInBounds_ne hqr]; exact g2
theorem LR.PG{M:Mp}{H:Heap}{L:Loc}{ML:Ml}{w:World}(l:LR M H L ML w){r:Nat}(hd:w.heap[r]? =some (.deferred (some []))):LR M H L ML { w with heap:=w.heap.setIfInBounds r (.deferred none) }:=by
 refine⟨l.len,fun i e m cs hi hL=> ?_,l.sep1,l.sep2⟩
 obtain⟨h1,h2,h3,h4,h5⟩:=l.loc i e m cs hi hL
 obtain⟨c,t,fz,g,g'⟩:=h5 rfl
 refine⟨h1,h2,h3,h4,fun _=>⟨c,t,fz,?_,g'⟩⟩
 show(w.heap.setIfInBounds r _)[e.blk]? =_
 rw[Array.getElem?_setIfInBounds_ne (fun q=>by rw[q,g]at hd; simp at hd)]
 exact g
theorem abN(hE:C.E.Ok C.P){f:FuncId}{fn:Func}{c:Code}{h:dJ}{rs:List Tag}{args:List Value}{k:Tup rs->Heap->Prop}(hf:C.P.funcs[f]? =some fn)(hb:fn.body=some c)(hn:(fn.name=="runtime.NumGoroutine")=false)
  (hc:eP C loc fn.ntmps fn.results.toList rs c h args H k):CALL C.P rs f args H k:=by
 refine⟨⟨fn,hf,by simp[hb],hn⟩,fun n M w args' hr hv=> ?_⟩
 unfold eP at hc
 have hg:=abJ hE c none (.inr rfl) h _ _ _ _ hc
 have l0:LR M H [] [] w:=⟨rfl,fun i e m cs hi=>by simp at hi,fun i j e e' _ hi=>by simp at hi,fun i e hi=>by simp at hi⟩
 refine callsIn_of_wp_marks hf hb trivial (wpIn_mono (hg n M [] _ w hr l0 (Yd hv)) ?_)
 rintro x a' w' ⟨e,fr',L',H',M',ML',q1,q2,q3⟩
 have hst:Stp M H w M' H' w':=q3.st.st.ac8 fun i e hi=>by simp at hi
 obtain⟨rs0,e0,n0,a0⟩:=q3.defers
 have fin:(match SI C fr' L' fn.results.toList with
   |some vs=>adx rs vs fun x=>k x H'
   |none=>False)->LeavesInM Fence.wide n C.P fn a'.tmps (fun e w'=>∃v v' M' H',e= .returned v'∧Stp M H w M' H' w'∧VR M' v v'∧∃x:Tup rs,v=gU (encs rs x)∧k x H') a'.defers .returning w':=by
  intro hres
  split at hres
  ·rename_i vs hvs
   unfold adx at hres
   split at hres
   ·rename_i x hx
    have hvx:=Xn hx
    rw[e0]
    simp only[List.append_nil]
    refine Ar (M:=M) (M':=M') (I:=LR M' H' L' ML') (fun _ _ hi hd=>hi.PG hd) (fun w'' hs hi=> ?_) rs0 w' hst q3.lr n0 a0
    obtain⟨us,l1,l2⟩:=PU (g:=fun r=>match r with| .tmp t=>pure (a'.tmps.getD t undef)| .cell b t=>do loadVar t (←asAddr (a'.tmps.getD b undef))) hE hi q3.fs (fun _=>rfl) (fun _ _=>rfl) hvs
    refine⟨_,?_,_,_,M',H',rfl,hs,Jh l2,x,by rw[hvx],hres⟩
    unfold results
    rw[Array.mapM_eq_mapM_toList]
    simp only[Sem.run_bind,Sem.run_map,Sem.run_pure]
    erw [l1]
    rfl
   ·exact hres.elim
  ·exact hres.elim
 cases e with
 |normal=>cases x<;>first|exact q2.elim|exact fin q1
 |ret=>cases x<;>first|exact q2.elim|exact fin q1
 |exit i=>exact q1.elim
theorem EV.mono{P:Program}{g:FuncId}{args:List Value}{Q Q':Value->Heap->Prop}(h:EV P g args H Q)(hq:∀v H',Q v H'->Q' v H'):EV P g args H Q':=
 ⟨h.1,fun n M w args' hr hv=>(h.2 n M w args' hr hv).mono fun _ _ ⟨v,v',M',H',q1,q2,q3,q4⟩=>⟨v,v',M',H',q1,q2,q3,hq v H' q4⟩⟩
theorem CALL.mono{P:Program}{rs:List Tag}{g:FuncId}{args:List Value}{k k':Tup rs->Heap->Prop}(h:CALL P rs g args H k)(hk:∀x H',k x H'->k' x H'):CALL P rs g args H k':=
 EV.mono h fun _ _ ⟨x,q1,q2⟩=>⟨x,q1,hk x _ q2⟩
theorem abO{P:Program}{call:iV}(hC:kM P call){rs:List Tag}{g:FuncId}{args:List Value}{x:Tup rs}{k:Tup rs->Heap->Prop}(h:call (.fn g) args H=some (gU (encs rs x),H'))(hk:k x H'):CALL P rs g args H k:=by
 obtain⟨h1,h2⟩:=hC.fn _ _ _ _ _ h
 exact⟨h1,fun n M w args' hr hv=>(h2 n M w args' hr hv).mono fun _ _ ⟨v',M',q1,q2,q3⟩=>⟨_,v',M',H',q1,q2,q3,x,rfl,hk⟩⟩
theorem EV.law{P:Program}{g:FuncId}{args args':List Value}(h:EV P g args H fun v _=>v= .bool true)(hr:HR M H w)(hv:VL M args args')(hn:∀b,¬aY H b):
  Calls P g args'.toArray w fun e w'=>e= .returned (.bool true)∧RowKit.Below w.heap.size w w':=by
 refine(callsIn_wide (n:=0)).1 ((h.2 0 M w args' hr hv).mono ?_)
 rintro e w' ⟨v,v',M',H',rfl,hs,hb,rfl⟩
 have:=hb.of_bool
 subst this
 exact⟨rfl,hs.below hn⟩
end Go.Proofs.YtijnknjopjmiiaaGreatDoor.Zq
end
section
namespace Go.Proofs.YtijnknjopjmiiaaGreatDoor.Zq
abbrev au(k:IntKind):Tag:=⟨Int,false,1,fun x=>[.int k x],fun cs=>match cs with|[.int k' x]=>if k'=k then some x else none|_=>none,fun cs x h=>by
 split at h
 ·split at h
  ·rename_i e; subst e; simp at h; subst h; rfl
  ·simp at h
 ·simp at h⟩
abbrev ah:Tag:=⟨Bool,false,1,fun x=>[.bool x],fun cs=>match cs with|[.bool x]=>some x|_=>none,fun cs x h=>by
 split at h
 ·simp at h; subst h; rfl
 ·simp at h⟩
abbrev dH:Tag:=⟨ByteArray,false,1,fun x=>[.string x],fun cs=>match cs with|[.string x]=>some x|_=>none,fun cs x h=>by
 split at h
 ·simp at h; subst h; rfl
 ·simp at h⟩
abbrev dK:Tag:=⟨Option Addr,false,1,fun x=>[.pointer x],fun cs=>match cs with|[.pointer x]=>some x|_=>none,fun cs x h=>by
 split at h
 ·simp at h; subst h; rfl
 ·simp at h⟩
structure Sl where
 p:Option Addr
 len:Nat
 cap:Nat
def Sl.v(s:Sl):Value:=.slice s.p s.len s.cap
abbrev aK:Tag:=⟨Sl,false,1,fun x=>[.slice x.p x.len x.cap],fun cs=>match cs with|[.slice p n c]=>some ⟨p,n,c⟩|_=>none,fun cs x h=>by
 split at h
 ·simp at h; subst h; rfl
 ·simp at h⟩
abbrev rF:Tag:=⟨Value,false,1,fun x=>[x],fun cs=>match cs with|[x]=>some x|_=>none,fun cs x h=>by
 split at h
 ·simp at h; subst h; rfl
 ·simp at h⟩
def NEW(H:Heap)(cs:List Value)(sz:Nat)(k:Heap->Prop):Prop:=k (mk H cs sz false)
def aQ(fn:Func):Code:=match fn.body with|some c=>c|none=>.skip
theorem aB{C:kN}(hE:C.E.Ok C.P){f:FuncId}{fn:Func}{h:dJ}{loc:List Nat}{rs:List Tag}{args:List Value}{H:Heap}{k:Tup rs->Heap->Prop}{p:Prop}(hf:C.P.funcs[f]? =some fn)(hb:fn.body=some (aQ fn))(hn:(fn.name=="runtime.NumGoroutine")=false)
  (he:p=eP C loc fn.ntmps fn.results.toList rs (aQ fn) h args H k) (hp:p):CALL C.P rs f args H k:=
 abN hE hf hb hn (he▸hp)
end Go.Proofs.YtijnknjopjmiiaaGreatDoor.Zq
end
section
namespace Go.Proofs.YtijnknjopjmiiaaGreatDoor.Zq
theorem dI{T:Tag}{H:Heap}{b off:Nat}{c:List Value}{sz:Nat}{o ro:Bool}{k:T.α->Prop}(x:T.α)(A B:List Value)(h:H[b]? =some (.row c sz o ro true))(hc:c=A++(T.cells x++B))(ho:off=A.length)(hn:(T.cells x).length=T.n)(hk:k x):LD T H b off k:=by
 refine⟨x,?_,hk⟩
 unfold rd
 rw[h]
 subst hc; subst ho
 simp only
 rw[if_pos (by simp; omega),List.drop_left,←hn,List.take_left]
theorem qc{H:Heap}{b off:Nat}{c:List Value}{sz:Nat}{o:Bool}{vs:List Value}{k:Heap->Prop}(A B C:List Value)(h:H[b]? =some (.row c sz o false true))(hc:c=A++(B++C))(ho:off=A.length)(hl:B.length=vs.length)(hv:vs.all cell1=true)(hk:k (H.set b (.row (A++(vs++C)) sz o false true))):ST H b off vs k:=by
 refine⟨_,?_,hk⟩
 unfold wr
 rw[h]
 subst hc; subst ho
 simp only
 rw[if_pos (by simp; omega),if_pos hv]
 unfold patch
 rw[List.take_left,←List.drop_drop,List.drop_left,←hl,List.drop_left,List.append_assoc]
theorem bK{g:Bool}{a b:Prop}(h1:g=true->a)(h2:g=false->b):aO g a b:=by
 cases g
 ·exact h2 rfl
 ·exact h1 rfl
theorem fB{g:Bool}{a b:Prop}(h:g=true)(h1:a):aO g a b:=bK (fun _=>h1) (fun q=>by simp[h]at q)
theorem bG{g:Bool}{a b:Prop}(h:g=false)(h1:b):aO g a b:=bK (fun q=>by simp[h]at q) (fun _=>h1)
theorem bf{S:Type}{A:(S->Heap->Prop)->Prop}{B:S->Heap->Prop}(h:A B):JOIN A B:=h
theorem aS{S:Type}{A:(S->Heap->Prop)->Prop}{B:S->Heap->Prop}(I:S->Heap->Prop)(hA:∀j:S->Heap->Prop,(∀z H,I z H->j z H)->A j)(h:∀z H,I z H->B z H):JOIN A B:=hA B h
theorem abP{S:Type}{A:(S->Heap->Prop)->Prop}{B:S->Heap->Prop}(z:S)(H:Heap)(hA:∀j:S->Heap->Prop,j z H->A j)(h:B z H):JOIN A B:=hA B h
theorem bF{S:Type}{F:(S->Heap->Prop)->S->Heap->Prop}(I:S->Heap->Prop)(μ:S->Nat)(hF:∀(G:S->Heap->Prop) s H,I s H->(∀s' H',I s' H'->μ s'<μ s->G s' H')->F G s H){s:S}{H:Heap}(h:I s H):LOOP F s H:=by
 refine⟨μ s+1,?_⟩
 have:∀n s H,μ s<n->I s H->itP F n s H:=by
  intro n
  induction n with
  |zero=>intro s H h; omega
  |succ n ih=>intro s H hm hi; exact hF _ s H hi fun s' H' h1 h2=>ih s' H' (by omega) h1
 exact this _ s H (by omega) h
def Fr(b:Nat)(H H':Heap):Prop:=H.length≤H'.length∧∀c,c<H.length->c≠b->H'[c]? =H[c]?
theorem Fr.refl(b:Nat)(H:Heap):Fr b H H:=⟨Nat.le_refl _,fun _ _ _=>rfl⟩
theorem Fr.trans{b:Nat}{H H' H'':Heap}(h:Fr b H H')(k:Fr b H' H''):Fr b H H'':=
 ⟨Nat.le_trans h.1 k.1,fun c hc hb=>by rw[k.2 c (Nat.lt_of_lt_of_le hc h.1) hb,h.2 c hc hb]⟩
theorem Fr.set(b:Nat)(H:Heap)(x:gJ):Fr b H (H.set b x):=⟨by simp,fun c _ hb=>by rw[List.getElem?_set_ne (Ne.symm hb)]⟩
theorem Fr.app(b:Nat)(H K:Heap):Fr b H (H++K):=⟨by simp,fun c hc _=>List.getElem?_append_left hc⟩
theorem Fr.get{b:Nat}{H H':Heap}(h:Fr b H H'){c:Nat}{x:gJ}(hb:c≠b)(hx:H[c]? =some x):H'[c]? =some x:=by
 rw[h.2 c (List.getElem?_eq_some_iff.1 hx).1 hb,hx]
theorem bW{H:Heap}{c:Nat}{x:gJ}(h:H[c]? =some x):c<H.length:=(List.getElem?_eq_some_iff.1 h).1
theorem fH{H:Heap}{b:Nat}{x:gJ}(h:b<H.length):(H.set b x)[b]? =some x:=by simp[h]
theorem dG{x:Int}(h: -9223372036854775808≤x)(k:x≤9223372036854775807):IntKind.wrap .i64 x=x:=IntWalk.i64_in x ⟨h,k⟩
def fl(T:Tag)(l:List T.α):List Value:=l.flatMap T.cells
theorem iK(T:Tag)(a b:List T.α):fl T (a++b)=fl T a++fl T b:=by simp[fl]
theorem bY{T:Tag}(hT:∀x,(T.cells x).length=T.n):∀l:List T.α,(fl T l).length=l.length*T.n
 |[]=>by simp[fl]
 |x::r=>by
  have:=bY hT r
  simp only[fl,List.flatMap_cons,List.length_append,hT,List.length_cons]at this ⊢
  rw[this,Nat.add_mul]; omega
theorem iH{T:Tag}(l:List T.α)(i:Nat)(x:T.α)(h:l[i]? =some x):fl T l=fl T (l.take i)++(T.cells x++fl T (l.drop (i+1))):=by
 obtain⟨hi,hx⟩:=List.getElem?_eq_some_iff.1 h
 have:l=l.take i++(x::l.drop (i+1)):=by
  rw[←hx,List.getElem_cons_drop]; simp
 conv=>lhs; rw[this]
 simp[fl]
def SlR(T:Tag)(H:Heap)(s:Sl)(l:List T.α):Prop:=
 s.len=l.length∧(l=[]∨∃b B sz o ro,s.p=some ⟨b,0,none⟩∧H[b]? =some (.row (fl T l++B) sz o ro true))
end Go.Proofs.YtijnknjopjmiiaaGreatDoor.Zq
end
section
namespace Go.Proofs.YtijnknjopjmiiaaGreatDoor.Zq
def bI(B:List Nat)(H H':Heap):Prop:=H.length≤H'.length∧∀c,c<H.length->c∉B->H'[c]? =H[c]?
theorem bI.refl(B:List Nat)(H:Heap):bI B H H:=⟨Nat.le_refl _,fun _ _ _=>rfl⟩
theorem bI.trans{B:List Nat}{H H' H'':Heap}(h:bI B H H')(k:bI B H' H''):bI B H H'':=
 ⟨Nat.le_trans h.1 k.1,fun c hc hb=>by rw[k.2 c (Nat.lt_of_lt_of_le hc h.1) hb,h.2 c hc hb]⟩
theorem bI.then {B C:List Nat}{H H' H'':Heap}(h:bI B H H')(k:bI C H' H'')(hC:∀c∈C,c∈B∨H.length≤c):bI B H H'':=
 ⟨Nat.le_trans h.1 k.1,fun c hc hb=>by rw[k.2 c (Nat.lt_of_lt_of_le hc h.1) (fun hm=>by rcases hC c hm with q|q; exact hb q; omega),h.2 c hc hb]⟩
theorem bI.mono{B C:List Nat}{H H':Heap}(h:bI B H H')(hB:∀c∈B,c∈C):bI C H H':=⟨h.1,fun c hc hb=>h.2 c hc fun q=>hb (hB c q)⟩
theorem bI.get{B:List Nat}{H H':Heap}(h:bI B H H'){c:Nat}{x:gJ}(hb:c∉B)(hx:H[c]? =some x):H'[c]? =some x:=by rw[h.2 c (bW hx) hb,hx]
theorem bI.app(B:List Nat)(H K:Heap):bI B H (H++K):=⟨by simp,fun c hc _=>List.getElem?_append_left hc⟩
theorem bI.set{B:List Nat}{b:Nat}(H:Heap)(x:gJ)(hb:b∈B):bI B H (H.set b x):=⟨by simp,fun c _ hc=>by rw[List.getElem?_set_ne (by rintro rfl; exact hc hb)]⟩
theorem Fr.bZ{b:Nat}{H H':Heap}(h:Fr b H H'):bI [b] H H':=⟨h.1,fun c hc hb=>h.2 c hc (by simpa using hb)⟩
theorem bI.fr{b:Nat}{H H':Heap}(h:bI [b] H H'):Fr b H H':=⟨h.1,fun c hc hb=>h.2 c hc (by simpa using hb)⟩
def Sl.off(s:Sl)(B:List Nat):Prop:=∀b∈B,s.p≠some ⟨b,0,none⟩
theorem SlR.bZ{T:Tag}{H H':Heap}{s:Sl}{l:List T.α}{B:List Nat}(h:SlR T H s l)(f:bI B H H')(o:s.off B):SlR T H' s l:=by
 obtain⟨h1,h2|⟨c,D,sz,op,ro,h3,h4⟩⟩:=h
 ·exact⟨h1,.inl h2⟩
 ·exact⟨h1,.inr ⟨c,D,sz,op,ro,h3,f.get (fun q=>o c q h3) h4⟩⟩
def Ow(T:Tag)(H:Heap)(s:Sl)(l sp:List T.α):Prop:=
 s.len=l.length∧s.cap=l.length+sp.length∧s.cap≤9223372036854775807∧(s.p=none∧l=[]∧sp=[]∨∃c,s.p=some ⟨c,0,none⟩∧H[c]? =some (.row (fl T (l++sp)) T.n false false true))
theorem Ow.nil(T:Tag)(H:Heap):Ow T H ⟨none,0,0⟩ [] []:=⟨rfl,rfl,by simp,.inl ⟨rfl,rfl,rfl⟩⟩
theorem Ow.rd{T:Tag}{H:Heap}{s:Sl}{l sp:List T.α}(h:Ow T H s l sp):SlR T H s l:=by
 obtain⟨h1,_,_,⟨_,h3,_⟩|⟨c,h4,h5⟩⟩:=h
 ·exact⟨h1,.inl h3⟩
 ·exact⟨h1,.inr ⟨c,fl T sp,T.n,false,false,h4,by rw[h5,iK]⟩⟩
theorem Ow.bZ{T:Tag}{H H':Heap}{s:Sl}{l sp:List T.α}{B:List Nat}(h:Ow T H s l sp)(f:bI B H H')(o:s.off B):Ow T H' s l sp:=by
 obtain⟨h1,h2,h0,h3|⟨c,h4,h5⟩⟩:=h
 ·exact⟨h1,h2,h0,.inl h3⟩
 ·exact⟨h1,h2,h0,.inr ⟨c,h4,f.get (fun q=>o c q h4) h5⟩⟩
theorem Ow.lt{T:Tag}{H:Heap}{s:Sl}{l sp:List T.α}(h:Ow T H s l sp){c:Nat}(hc:s.p=some ⟨c,0,none⟩):c<H.length:=by
 obtain⟨_,_,_,⟨h3,_⟩|⟨c',h4,h5⟩⟩:=h
 ·rw[h3]at hc; cases hc
 ·rw[h4]at hc; simp at hc; subst hc; exact bW h5
structure Tt(E:Env)(T:Tag)(ts:TypeId)(z:T.α):Prop where
 w:∃ti e te,E.ty ts=some ti∧ti.k= .slice e∧E.ty e=some te∧te.size=T.n∧te.bytes≠0∧te.bytes≤4096∧te.zero=T.cells z
 n:0<T.n
 len:∀x,(T.cells x).length=T.n
 one:∀x,(T.cells x).all cell1=true
theorem PV{T:Tag}(h1:∀x,(T.cells x).all cell1=true):∀l:List T.α,(fl T l).all cell1=true
 |[]=>rfl
 |x::r=>by
  have:=PV h1 r
  simp only[fl,List.flatMap_cons,List.all_append,Bool.and_eq_true]
  exact⟨h1 x,this⟩
theorem PW{T:Tag}(z:T.α):∀n:Nat,rep n (T.cells z)=fl T (List.replicate n z)
 |0=>rfl
 |n+1=>by
  have:=PW z n
  simp only[rep,this,List.replicate_succ,fl,List.flatMap_cons]
theorem Ir{T:Tag}(hT:∀x,(T.cells x).length=T.n)(l:List T.α)(m:Nat):(fl T l).take (m*T.n)=fl T (l.take m):=by
 by_cases h:m≤l.length
 ·conv=>lhs; rw[←List.take_append_drop m l,iK]
  rw[List.take_left' (by rw[bY hT]; simp[Nat.min_eq_left h])]
 ·rw[List.take_of_length_le (by rw[bY hT]; exact Nat.mul_le_mul_right _ (by omega)),List.take_of_length_le (by omega)]
theorem PX{T:Tag}(hT:∀x,(T.cells x).length=T.n)(l:List T.α)(m:Nat):(fl T l).drop (m*T.n)=fl T (l.drop m):=by
 by_cases h:m≤l.length
 ·conv=>lhs; rw[←List.take_append_drop m l,iK]
  rw[List.drop_left' (by rw[bY hT]; simp[Nat.min_eq_left h])]
 ·rw[List.drop_of_length_le (by rw[bY hT]; exact Nat.mul_le_mul_right _ (by omega)),List.drop_of_length_le (by omega)]; rfl
def After(s:Sl)(H H':Heap):Prop:=H.length≤H'.length∧∀d,d<H.length->s.p≠some ⟨d,0,none⟩->H'[d]? =H[d]?
theorem After.refl(s:Sl)(H:Heap):After s H H:=⟨Nat.le_refl _,fun _ _ _=>rfl⟩
theorem After.bZ{s:Sl}{H H':Heap}{B:List Nat}(h:After s H H')(hb:∀d,s.p=some ⟨d,0,none⟩->d∈B∨H.length≤d):bI B H H':=
 ⟨h.1,fun c hc hn=>h.2 c hc fun e=>by rcases hb c e with q|q; exact hn q; omega⟩
theorem Jw{E:Env}{T:Tag}{ts tx:TypeId}{z:T.α}(ty:Tt E T ts z){tj:TI}(h2:E.ty tx=some tj)(h4:∀k,tj.k≠ .int k)
  {H:Heap} {s:Sl} {l sp:List T.α} (xs:List T.α) {m:Nat} (hm:m=xs.length) {cs:List Value} (hcs:cs=fl T xs) (hbig:2*(l.length+xs.length)*4096≤281474976710656) (h:Ow T H s l sp) {k:Sl->Heap->Prop}
  (hk:∀s' H' sp',Ow T H' s' (l++xs) sp'->(s'.p=s.p∨s'.p=some ⟨H.length,0,none⟩∧H.length<H'.length)->After s H H'->k s' H'):Gs aK (lenV s.v+m) (fA E [ts,tx] s.v m cs H) k:=by
 obtain⟨⟨ti,e,te,e1,e2,e3,e4,e5,e6,e7⟩,hn,hT,hone⟩:=ty
 subst hm; subst hcs
 obtain⟨p,n,c⟩:=s
 obtain⟨g1,g2,g0,g3⟩:=h
 simp only at g1 g2 g0 g3; subst g1; subst g2
 have hxl:(fl T xs).length=xs.length*T.n:=bY hT xs
 have hb2:2*(l.length+xs.length)*te.bytes≤281474976710656:=Nat.le_trans (Nat.mul_le_mul_left _ e6) hbig
 have hne:te.size≠0:=by omega
 intro x hx
 have hcap:l.length+xs.length+x≤9223372036854775807:=by
  rcases hx with rfl|hx
  ·omega
  ·exact hx
 have grow:∀old:List Value,old=fl T l->growE E [ts,tx] l.length xs.length old (fl T xs) H x=some (.slice (some ⟨H.length,0,none⟩) (l.length+xs.length) (l.length+xs.length+x),mk H (fl T (l++xs++List.replicate x z)) T.n false):=by
  rintro old rfl
  have hol:=bY hT l
  have:growE E [ts,tx] l.length xs.length (fl T l) (fl T xs) H x=(if te.size=0∨(fl T xs).length≠xs.length*te.size∨(fl T l).length≠l.length*te.size then none
     else if 2*(l.length+xs.length)*te.bytes≤281474976710656∧te.bytes≠0 then some (.slice (some ⟨H.length,0,none⟩) (l.length+xs.length) (l.length+xs.length+x),mk H (fl T l++fl T xs++rep x te.zero) te.size false)else none):=by
   unfold growE
   simp only[e1,h2,e2,e3]
  rw[this,e4,if_neg (by omega),if_pos ⟨hb2,e5⟩,e7,PW,iK,iK]
 have done:k ⟨some ⟨H.length,0,none⟩,l.length+xs.length,l.length+xs.length+x⟩ (mk H (fl T (l++xs++List.replicate x z)) T.n false):=by
  refine hk _ _ (List.replicate x z) ⟨by simp,by simp,hcap,.inr ⟨H.length,rfl,?_⟩⟩ (.inr ⟨rfl,by simp[mk]⟩) ⟨by simp[mk],fun d hd _=>by simp[mk,List.getElem?_append_left hd]⟩
  simp[mk]
 have apx:∀(s2:Value),uQ E [ts,tx] s2 xs.length (fl T xs) H=(if te.size=0∨(fl T xs).length≠xs.length*te.size then none else
    match s2 with
    | .slice none 0 0=>
     if xs.length=0 then some (.slice none 0 0,H)
     else if 2*xs.length*te.bytes≤281474976710656∧te.bytes≠0∧(fl T xs).all cell1=true then some (.slice (some ⟨H.length,0,none⟩) xs.length xs.length,mk H (fl T xs) te.size true)else none
    | .slice (some ⟨b,off,none⟩) len cap=>
     if xs.length=0 then(if len≤cap then some (s2,H)else none)
     else if len+xs.length≤cap then(wr H b (off+len*te.size) (fl T xs)).bind fun H'=>some (.slice (some ⟨b,off,none⟩) (len+xs.length) cap,H')
     else if 2*(len+xs.length)*te.bytes≤281474976710656∧te.bytes≠0∧(fl T xs).all cell1=true then
      (rd H b off (len*te.size)).bind fun old=>
       if exact H b off cap then
        some (.slice (some ⟨H.length,0,none⟩) (len+xs.length) (len+xs.length),mk H (old++fl T xs) te.size true)
       else
        match H[b]? with
        |some (.row _ sz _ false true)=>if sz=te.size then some (.slice (some ⟨H.length,0,none⟩) (len+xs.length) (len+xs.length),mk (kill H b) (old++fl T xs) te.size true)else none
        |_=>none
     else none
    | .slice (some ⟨b,off,some 0⟩) 0 0=>if xs.length=0 then some (.slice (some ⟨b,off,some 0⟩) 0 0,H)else none
    |_=>none):=fun s2=>by
  unfold uQ
  simp only[e1,h2,e2,e3,Option.bind_some]
  rfl
 have hif:¬(te.size=0∨(fl T xs).length≠xs.length*te.size):=by rw[e4]; omega
 rcases g3 with⟨rfl,rfl,rfl⟩|⟨c,rfl,hc⟩
 ·by_cases hx0:xs=[]
  ·subst hx0
   have v0:fA E [ts,tx] (.slice none 0 0) ([]:List T.α).length (fl T []) H x=some (.slice none 0 0,H):=by
    unfold fA
    simp only[List.length_nil,if_true]
    have:=apx (.slice none 0 0)
    simp only[List.length_nil]at this
    rw[this,if_neg (by simpa using hif)]
    rfl
   exact⟨⟨none,0,0⟩,H,v0,hk _ _ [] (Ow.nil T H) (.inl rfl) (After.refl _ _)⟩
  ·have v0:fA E [ts,tx] (.slice none 0 0) xs.length (fl T xs) H x=some (.slice (some ⟨H.length,0,none⟩) (([]:List T.α).length+xs.length) (([]:List T.α).length+xs.length+x),mk H (fl T ([]++xs++List.replicate x z)) T.n false):=by
    unfold fA
    simp only
    rw[if_neg (by simpa using hx0)]
    exact grow [] rfl
   exact⟨⟨some ⟨H.length,0,none⟩,([]:List T.α).length+xs.length,([]:List T.α).length+xs.length+x⟩,_,v0,done⟩
 ·have hlt:=bW hc
  have hex:Zq.exact H c 0 (l.length+sp.length)=true:=by unfold Zq.exact; rw[hc]; rfl
  by_cases hroom:xs.length≠0∧l.length+sp.length<l.length+xs.length
  ·have v0:fA E [ts,tx] (.slice (some ⟨c,0,none⟩) l.length (l.length+sp.length)) xs.length (fl T xs) H x=some (.slice (some ⟨H.length,0,none⟩) (l.length+xs.length) (l.length+xs.length+x),mk H (fl T (l++xs++List.replicate x z)) T.n false):=by
    unfold fA
    simp only
    rw[if_pos ⟨hroom.1,hroom.2,hex⟩]
    have helt:X6 E [ts,tx]=T.n:=by simp[X6,e1,e2,e3,e4]
    have hrd:Zq.rd H c 0 (l.length*X6 E [ts,tx])=some (fl T l):=by
     unfold Zq.rd
     rw[hc,helt]
     simp only
     rw[if_pos (by rw[bY hT,Nat.zero_add]; exact Nat.mul_le_mul_right _ (by simp)),List.drop_zero,Ir hT,List.take_left]
    rw[hrd]
    exact grow _ rfl
   exact⟨⟨some ⟨H.length,0,none⟩,l.length+xs.length,l.length+xs.length+x⟩,_,v0,done⟩
  ·by_cases hx0:xs=[]
   ·subst hx0
    have v0:fA E [ts,tx] (.slice (some ⟨c,0,none⟩) l.length (l.length+sp.length)) ([]:List T.α).length (fl T []) H x=some (.slice (some ⟨c,0,none⟩) l.length (l.length+sp.length),H):=by
     unfold fA
     simp only
     rw[if_neg (fun q=>hroom ⟨q.1,q.2.1⟩),apx,if_neg hif]
     simp
    exact⟨⟨some ⟨c,0,none⟩,l.length,l.length+sp.length⟩,H,v0,hk _ _ sp ⟨by simp,by simp,g0,.inr ⟨c,rfl,by simpa using hc⟩⟩ (.inl rfl) (After.refl _ _)⟩
   ·have hxl0:xs.length≠0:=by simpa using hx0
    have hsp:xs.length≤sp.length:=by omega
    have hw:wr H c (0+l.length*te.size) (fl T xs)=some (H.set c (.row (fl T (l++xs++sp.drop xs.length)) T.n false false true)):=by
     unfold wr
     rw[hc]
     simp only
     have hsz:(fl T (l++sp)).length=(l.length+sp.length)*T.n:=by rw[bY hT]; simp
     rw[if_pos (by rw[hsz,hxl,e4,Nat.zero_add,←Nat.add_mul]; exact Nat.mul_le_mul_right _ (by omega)),if_pos (PV hone xs)]
     congr 3
     unfold patch
     rw[hxl,e4,Nat.zero_add,←Nat.add_mul,Ir hT,PX hT,List.take_left,iK,iK]
     congr 2
     rw[←List.drop_drop,List.drop_left]
    have v0:fA E [ts,tx] (.slice (some ⟨c,0,none⟩) l.length (l.length+sp.length)) xs.length (fl T xs) H x=some (.slice (some ⟨c,0,none⟩) (l.length+xs.length) (l.length+sp.length),H.set c (.row (fl T (l++xs++sp.drop xs.length)) T.n false false true)):=by
     unfold fA
     simp only
     rw[if_neg (fun q=>hroom ⟨q.1,q.2.1⟩),apx,if_neg hif]
     simp only
     rw[if_neg hxl0,if_pos (by omega),hw]
     rfl
    exact⟨⟨some ⟨c,0,none⟩,l.length+xs.length,l.length+sp.length⟩,_,v0,hk _ _ (sp.drop xs.length) ⟨by simp,by simp; omega,g0,.inr ⟨c,rfl,by rw[fH hlt]⟩⟩ (.inl rfl) ⟨by simp,fun d _ hd=>by rw[List.getElem?_set_ne (by rintro rfl; exact hd rfl)]⟩⟩
def fF(T:Tag)(H:Heap)(s:Sl)(l:List T.α):Prop:=
 s.len=l.length∧((s.p=none∧l=[]∧s.cap=0)∨(∃b off,s.p=some ⟨b,off,some 0⟩∧l=[]∧s.cap=0)∨∃b A B sz o ro,s.p=some ⟨b,A.length,none⟩∧H[b]? =some (.row (A++(fl T l++B)) sz o ro true))
theorem fF.bZ{T:Tag}{H H':Heap}{s:Sl}{l:List T.α}{B:List Nat}(h:fF T H s l)(f:bI B H H')(o:∀b∈B,∀off,s.p≠some ⟨b,off,none⟩):fF T H' s l:=by
 obtain⟨h1,h2|h2|⟨c,A,D,sz,op,ro,h3,h4⟩⟩:=h
 ·exact⟨h1,.inl h2⟩
 ·exact⟨h1,.inr (.inl h2)⟩
 ·exact⟨h1,.inr (.inr ⟨c,A,D,sz,op,ro,h3,f.get (fun q=>o c q _ h3) h4⟩)⟩
theorem Ow.xC{T:Tag}{H:Heap}{s:Sl}{l sp:List T.α}(h:Ow T H s l sp):fF T H s l:=by
 obtain⟨h1,h2,_,⟨h3,h4,h5⟩|⟨c,h4,h5⟩⟩:=h
 ·subst h4; subst h5; exact⟨h1,.inl ⟨h3,rfl,by simpa using h2⟩⟩
 ·exact⟨h1,.inr (.inr ⟨c,[],fl T sp,T.n,false,false,h4,by rw[h5,iK]; rfl⟩)⟩
theorem Ow.pre{T:Tag}{H:Heap}{s:Sl}{l sp:List T.α}(h:Ow T H s l sp)(n c:Nat)(hn:n≤l.length)(hc:s.p=none->c=0):fF T H ⟨s.p,n,c⟩ (l.take n):=by
 obtain⟨h1,h2,_,⟨h3,h4,h5⟩|⟨d,h4,h5⟩⟩:=h
 ·subst h4; subst h5; exact⟨by simp at hn; simpa using hn,.inl ⟨h3,by simp,hc h3⟩⟩
 ·exact⟨by simp; omega,.inr (.inr ⟨d,[],fl T (l.drop n++sp),T.n,false,false,h4,by rw[h5,←iK,←List.append_assoc,List.take_append_drop]; rfl⟩)⟩
theorem bD{T:Tag}(hT:∀x,(T.cells x).length=T.n){H:Heap}{s:Sl}{l:List T.α}(h:fF T H s l){i:Int}{n:Nat}{x:T.α}(hi:i=n)(hx:l[n]? =some x){k:T.α->Prop}{sz:Nat}(hz:sz=T.n)(hk:k x):dR s.p s.len i sz fun b o=>LD T H b o k:=by
 have hl:=(List.getElem?_eq_some_iff.1 hx).1
 obtain⟨h1,⟨_,h2,_⟩|⟨_,_,_,h2,_⟩|⟨b,A,B,z,o,ro,h3,h4⟩⟩:=h
 ·subst h2; simp at hl
 ·subst h2; simp at hl
 ·unfold dR NIL
  rw[h3]
  refine⟨⟨by omega,by omega⟩,?_⟩
  refine dI x (A++fl T (l.take n)) (fl T (l.drop (n+1))++B) h4 ?_ ?_ (hT x) hk
  ·rw[iH l n x hx]; simp[List.append_assoc]
  ·rw[List.length_append,bY hT,hi,hz,List.length_take,Nat.min_eq_left (by omega)]; simp
theorem PY{E:Env}{T:Tag}{ts tx:TypeId}{z:T.α}(ty:Tt E T ts z){tj:TI}(h2:E.ty tx=some tj)(h4:∀k,tj.k≠ .int k)
  {H:Heap} {s x:Sl} {l sp xs:List T.α} (hx:fF T H x xs) (hbig:2*(l.length+xs.length)*4096≤281474976710656) (h:Ow T H s l sp) {k:Sl->Heap->Prop}
  (hk:∀s' H' sp',Ow T H' s' (l++xs) sp'->(s'.p=s.p∨s'.p=some ⟨H.length,0,none⟩∧H.length<H'.length)->After s H H'->k s' H'):Gs aK (lenV s.v+(oZ x.v).getD 0) (dS E [ts,tx] s.v x.v H) k:=by
 have hx1:x.len=xs.length:=hx.1
 have hfo:gQ x.v x.len T.n H=some (fl T xs):=by
  obtain⟨p,n,c⟩:=x
  obtain⟨_,⟨h3,h5,h6⟩|⟨b,off,h3,h5,h6⟩|⟨b,A,B,sz,o,ro,h3,h5⟩⟩:=hx
  ·simp only at h3 h6 hx1; subst h3; subst h5; subst h6; subst hx1; simp[gQ,Sl.v,fl]
  ·simp only at h3 h6 hx1; subst h3; subst h5; subst h6; subst hx1; simp[gQ,Sl.v,fl]
  ·simp only at h3 hx1; subst h3; subst hx1
   simp only[gQ,Sl.v]
   unfold Zq.rd
   rw[h5]
   simp only
   rw[if_pos (by simp[bY ty.len]),List.drop_left,List.take_left' (by rw[bY ty.len])]
 have:=Jw (E:=E) (tx:=tx) ty h2 h4 (m:=x.len) xs hx1 rfl hbig h hk
 intro y hy
 have h3:=this y (by simpa[oZ,Sl.v]using hy)
 obtain⟨⟨ti,e,te,e1,e2,e3,e4,e5,e6,e7⟩,hn,hT,hone⟩:=ty
 have e8:dS E [ts,tx] s.v x.v H y=fA E [ts,tx] s.v x.len (fl T xs) H y:=by
  unfold dS
  simp only[e1,e2,e3,e4]
  have:oZ x.v=some x.len:=rfl
  rw[this]
  simp only[hfo]
 rw[e8]
 exact h3
section
variable{E:Env}{T:Tag}{ts tx:TypeId}{z:T.α}
def bQ(T:Tag)(H:Heap)(s':Sl)(H':Heap)(l sp:List T.α):Prop:=Ow T H' s' l sp∧(∀d,s'.p=some ⟨d,0,none⟩->H.length≤d)∧bI [] H H'
theorem abQ{H0 H H':Heap}{s:Sl}{l sp:List T.α}(h:Ow T H s l sp)(hp:∀d,s.p=some ⟨d,0,none⟩->H0.length≤d)(f:bI [] H0 H)(a:After s H H'):bI [] H0 H':=by
 obtain⟨_,_,_,⟨q,_⟩|⟨c,q,_⟩⟩:=h
 ·exact f.trans (a.bZ fun d hd=>by rw[q]at hd; cases hd)
 ·exact f.then (a.bZ (B:=[c]) fun d hd=>by rw[q]at hd; simp at hd; exact .inl (by simp[hd])) (fun d hd=>by simp at hd; subst hd; exact .inr (hp _ q))
theorem bQ.app{H H1:Heap}{s:Sl}{l sp:List T.α}(h:bQ T H s H1 l sp){H2:Heap}{s2:Sl}{l2 sp2:List T.α}(k1:Ow T H2 s2 l2 sp2)(k2:s2.p=s.p∨s2.p=some ⟨H1.length,0,none⟩∧H1.length<H2.length)(k3:After s H1 H2):bQ T H s2 H2 l2 sp2:=by
 obtain⟨h1,h2,h3⟩:=h
 refine⟨k1,fun d hd=> ?_,abQ h1 h2 h3 k3⟩
 rcases k2 with k2|⟨k2,_⟩
 ·exact h2 d (by rw[←k2,hd])
 ·rw[k2]at hd; simp at hd; subst hd; exact h3.1
theorem VG(ty:Tt E T ts z){tj:TI}(h2:E.ty tx=some tj)(h4:∀k,tj.k≠ .int k){H:Heap}{a:Sl}{l:List T.α}(ha:fF T H a l)(hl:l.length≤1048600){k:Sl->Heap->Prop}
  (hk:∀s' H' sp,bQ T H s' H' l sp->k s' H'):Gs aK (lenV (Sl.mk none 0 0).v+(oZ a.v).getD 0) (dS E [ts,tx] (Sl.mk none 0 0).v a.v H) k:=by
 refine PY ty h2 h4 ha (by simp only[List.length_nil]; omega) (Ow.nil T H) fun s' H' sp h1 h2 h3=>hk s' H' sp ?_
 have h0:bQ T H ⟨none,0,0⟩ H [] []:=⟨Ow.nil T H,by simp,.refl _ _⟩
 exact h0.app (by simpa only[List.nil_append]using h1) h2 h3
theorem VH(ty:Tt E T ts z){H:Heap}{a b:Int}{n m:Nat}(ha:a=n)(hb:b=m)(hnm:n≤m)(hm:m≤2000000){k:Sl->Heap->Prop}
  (hk:∀s',s'=⟨some ⟨H.length,0,none⟩,n,m⟩->bQ T H s' (mk H (fl T (List.replicate m z)) T.n false) (List.replicate n z) (List.replicate (m-n) z)->k s' (mk H (fl T (List.replicate m z)) T.n false)):
  GEN aK (fE E ts (.int .i64 a) (.int .i64 b) H) k:=by
 obtain⟨⟨ti,e,te,e1,e2,e3,e4,e5,e6,e7⟩,hn,hT,hone⟩:=ty
 subst ha; subst hb
 have hmk:fE E ts (.int .i64 (n:Int)) (.int .i64 (m:Int)) H=some (.slice (some ⟨H.length,0,none⟩) n m,mk H (fl T (List.replicate m z)) T.n false):=by
  unfold fE
  simp only[e1,e2,e3,Option.bind_some]
  have:(te.bytes:Int)*m≤281474976710656:=by
   have:te.bytes*m≤4096*2000000:=Nat.mul_le_mul e6 hm
   have h2:((te.bytes*m:Nat):Int)≤281474976710656:=by omega
   simpa using h2
  rw[if_pos ⟨by omega,by omega,this,by omega⟩,e7,PW,e4]
  rfl
 refine⟨⟨some ⟨H.length,0,none⟩,n,m⟩,_,hmk,hk _ rfl ⟨⟨by simp,by simp; omega,by simp; omega,.inr ⟨_,rfl,?_⟩⟩,by simp,bI.app [] _ _⟩⟩
 rw[List.replicate_append_replicate,show n+(m-n)=m by omega]
 simp[mk]
end
end Go.Proofs.YtijnknjopjmiiaaGreatDoor.Zq
end
