/- Part 2 of the proof of ViewTable: what its row stands on (lemmas about the model, the evaluator, contracts of functions), put together and cut to what is used. -/
import Derived.Test.YtijnknjopjmiiaaGreatDoorKViewTable1
import Derived.Below
import Derived.IntWalk
section
namespace Go.Proofs.YtijnknjopjmiiaaGreatDoor.Zq
variable{C:kL}{M M':Mp}{H H':Heap}{w w':World}{L:Loc}{ML:Ml}{fr:fK}{a:Act}{ro:Option Nat}{n:Nat}{Q:Exit->Act->World->Prop}{Kw:Act->World->Prop}{loc:List Nat}
 {dst:Option Nat} {ty:TypeId} {pos:String} {after:Array Edge} {guard:Option (Nat×Bool)} {k:Sv->Loc->Heap->Prop}
theorem yB(h:HR M H w)(l:LR M H L ML w)(f:FS M ML fr a.tmps){P:Program}{o:Oper}{s:Sem Value}{u:Value}{cs:List Value}{c:Array Value}{t:TypeId}{sv:Sv}(sz:Nat)(hd:∀c,o.op≠ .defer c)(hs:execOp a.eval o=(do pure (.value (←s))))
  (hr:s.run P w= .ok u (w.alloc (.cells c t (0,0)))) (hn:cs.length≤c.size) (hv:VL M cs (c.toList.take cs.length)) (hk:k sv (L++[(0,cs)]) H)
  (hu:yx M (ML++[some ⟨w.heap.size,0,false,cs.length,sz,c.size⟩]) sv u) (hK:Cont M H L ML w fr a o.dst k Kw):o.wpIn (Fw ro) n P a w Kw Q:=by
 obtain⟨q1,q2⟩:=LR.new h l t sz hn hv
 exact iZ hd hs hr (hK sv _ H M _ _ u hk ⟨q1,q2,f.app,.app L _,⟨_,rfl⟩,fun j hj=>by
  have:j<L.length:=by rw[←l.len]; exact(List.getElem?_eq_some_iff.1 hj).1
  rw[List.getElem?_append_left this]⟩ hu)
theorem Vl(hE:C.E.Ok C.P)(h:HR M H w)(l:LR M H L ML w)(f:FS M ML fr a.tmps){op:Op}(ho:gV C loc dst ty op fr L H k)
  (hK:Cont M H L ML w fr a dst k Kw):(Oper.mk dst op ty pos after guard).wpIn (Fw ro) n C.P a w Kw Q:=by
 cases op with
 |move x=>
  simp only[gV]at ho
  split at ho
  ·rename_i s hs
   exact iZ (s:=pure (a.eval x)) (fun c=>by simp) (by simp[execOp]) rfl (hK s L H M ML w _ ho (nZ h l f) (eU f hs))
  ·exact ho.elim
 |assign x=>
  simp only[gV]at ho
  split at ho
  ·rename_i s hs
   exact iZ (s:=pure (a.eval x)) (fun c=>by simp) (by simp[execOp]) rfl (hK s L H M ML w _ ho (nZ h l f) (eU f hs))
  ·exact ho.elim
 |pick c x y=>
  simp only[gV]at ho
  split at ho
  ·rename_i g hg
   have hc:=(dQ f hg).of_bool
   cases g with
   |true=>
    simp only[aK]at ho
    split at ho
    ·rename_i s hs
     exact iZ (s:=pure (a.eval x)) (fun c=>by simp) (by simp[execOp,hc,asBool]) rfl (hK s L H M ML w _ ho (nZ h l f) (eU f hs))
    ·exact ho.elim
   |false=>
    simp only[aK]at ho
    split at ho
    ·rename_i s hs
     exact iZ (s:=pure (a.eval y)) (fun c=>by simp) (by simp[execOp,hc,asBool]) rfl (hK s L H M ML w _ ho (nZ h l f) (eU f hs))
    ·exact ho.elim
  ·exact ho.elim
 |alloc t=>
  simp only[gV]at ho
  split at ho
  ·rename_i ti ht
   split at ho
   ·obtain⟨c,q1,q2,q3⟩:=Om (M:=M) (w:=w) hE ht
    refine yB (s:=Instr.alloc t true (.tuple #[])) h l f ti.size (fun c=>by simp) rfl q1 q2 q3 ho ?_ hK
    exact⟨_,by rw[←l.len]; exact List.getElem?_concat_length,rfl⟩
   ·exact val_ok (s:=Instr.alloc t true (.tuple #[])) l f (fun c=>by simp) rfl (Rw hE h (by simp[vG,ht])) ho hK
  ·exact ho.elim
 |box t x=>
  simp only[gV]at ho
  split at ho
  ·rename_i v hv
   split at ho
   ·obtain⟨q1,q2,q3⟩:=abl (P:=C.P) (w:=w) (t:=t) (dQ f hv)
    refine yB (s:=Instr.box t (a.eval x)) h l f v.cells.toList.length (fun c=>by simp) rfl q1 q2 q3 ho ?_ hK
    exact⟨_,by rw[←l.len]; exact List.getElem?_concat_length,rfl⟩
   ·exact val_ok (s:=Instr.box t (a.eval x)) l f (fun c=>by simp) rfl (YS h (dQ f hv) rfl) ho hK
  ·exact ho.elim
 |build t ps=>
  simp only[gV]at ho
  split at ho
  ·rename_i qs hqs
   split at ho
   ·rename_i v hv
    exact val_ok (s:=Instr.build t (ps.map fun(i,x)=>(i,a.eval x))) l f (fun c=>by simp) rfl (RD hE h (qs:=ps.map fun(i,x)=>(i,a.eval x)) (by simpa using Vg f hqs) hv) ho hK
   ·exact ho.elim
  ·exact ho.elim
 |buildSlice t m ps=>
  simp only[gV]at ho
  split at ho
  ·rename_i qs hqs
   have hp:PL M qs (ps.map fun(i,x)=>(i,a.eval x)).toList:=by simpa using Vg f hqs
   have he:execOp a.eval ⟨dst,.buildSlice t m ps,ty,pos,after,guard⟩=(do pure (.value (←Instr.buildSlice t m (ps.map fun(i,x)=>(i,a.eval x))))):=rfl
   split at ho
   ·rename_i v cs sz hb
    split at ho
    ·obtain⟨cs',sz',c,ct,q0,q1,q2,q3,q4⟩:=Jp (M:=M) (w:=w) hE hp hb
     simp[mk]at q1
     obtain⟨rfl,rfl⟩:=q1
     refine yB h l f sz (fun c=>by simp) he q2 q3 q4 ho ?_ hK
     exact⟨_,by rw[←l.len]; exact List.getElem?_concat_length,rfl⟩
    ·exact val_ok l f (fun c=>by simp) he (AP hE h hp (Mc hb)) ho hK
   ·exact ho.elim
  ·exact ho.elim
 |load t x=>
  simp only[gV]at ho
  split at ho
  ·rename_i i off hx
   obtain⟨e,e1,e2⟩:=eU f hx
   split at ho
   ·rename_i m cs ti hL ht
    split at ho
    ·rename_i hlen
     split at ho
     ·rename_i v hv
      obtain⟨u,g1,g2⟩:=Jq hE l e1 hL ht hlen hv
      exact iZ (s:=Instr.loadAt t (a.eval x)) (fun c=>by simp) rfl (by rw[e2]; simp[Instr.loadAt,Instr.sureAddr,g1]) (hK (.v v) L H M ML w u ho (nZ h l f) g2)
     ·exact ho.elim
    ·exact ho.elim
   ·exact ho.elim
  ·rename_i b off hx
   split at ho
   ·rename_i ti ht
    split at ho
    ·rename_i hc
     obtain⟨hc1,hc2,hc3⟩:=hc
     obtain⟨y,g1,g2⟩:=ho
     rw[←hc1]at g1
     refine val_ok (s:=Instr.loadAt t (a.eval x)) l f (fun c=>by simp) rfl (WH hE h (eU (s:=.v (.pointer (some ⟨b,off,none⟩))) f hx) ?_) g2 hK
     simp only[Gj,ht,Option.bind_some,g1]
     refine SA hc2 ?_
     rcases hc3 with h3|h3
     ·exact .inl h3
     ·exact .inr (by rw[U8 g1]; exact h3)
    ·exact ho.elim
   ·exact ho.elim
  ·exact ho.elim
 |store t x y=>
  simp only[gV]at ho
  split at ho
  ·rename_i v ti hv ht
   split at ho
   ·rename_i hlen
    split at ho
    ·rename_i i off hx
     obtain⟨e,e1,e2⟩:=eU f hx
     split at ho
     ·rename_i m cs hL
      split at ho
      ·rename_i hc
       obtain⟨w',g1,g2,g3⟩:=Sr hE h l e1 hL ht hlen hc.1 hc.2 (dQ f hv)
       exact qj (s:=Instr.storeAt t (a.eval x) (a.eval y)) (fun c=>by simp) rfl (by rw[e2]; exact g1) (hK (.v undef) _ H M ML w' undef ho ⟨g2,g3,f,.set hL,⟨[],by simp⟩,fun j hj=>by
        have:i≠j:=fun e0=>by subst e0; rw[e1]at hj; simp at hj
        rw[List.getElem?_set_ne this]⟩ (.undef M))
      ·exact ho.elim
     ·exact ho.elim
    ·rename_i b off hx
     obtain⟨H',g1,g2⟩:=ho
     exact WY (s:=Instr.storeAt t (a.eval x) (a.eval y)) l f (fun c=>by simp) rfl (Ru hE h (eU (s:=.v (.pointer (some ⟨b,off,none⟩))) f hx) (dQ f hv) (by simp only[EF,ht,Option.bind_some,if_pos hlen]; exact g1)) g2 hK
    ·exact ho.elim
   ·exact ho.elim
  ·exact ho.elim
 |nilCheck x=>
  simp only[gV]at ho
  split at ho
  ·rename_i i off hx
   obtain⟨e,e1,e2⟩:=eU f hx
   exact iZ (s:=pure (a.eval x)) (fun c=>by simp) (by simp[execOp,e2]) rfl (hK (.lp i off) L H M ML w _ ho (nZ h l f) ⟨e,e1,e2⟩)
  ·rename_i p hx
   have hp:=eU (s:=.v (.pointer p)) f hx
   unfold NIL at ho
   split at ho
   ·rename_i b off
    refine val_ok (s:=pure (a.eval x)) l f (fun c=>by simp) ?_ (Gives.pure h rfl hp) ho hK
    obtain⟨e,_,e2⟩:=VR.Bj hp
    simp[execOp,e2]
   ·exact ho.elim
  ·rename_i g xs ys hx
   have hp:=eU (s:=.v (.func (.func g) xs ys)) f hx
   refine val_ok (s:=pure (a.eval x)) l f (fun c=>by simp) ?_ (Gives.pure h rfl hp) ho hK
   obtain⟨g',us,vs,hb'⟩:∃f us vs,a.eval x= .func (.func f) us vs:=by
    generalize hq:a.eval x=q at hp
    cases hp; exact⟨_,_,_,rfl⟩
   simp[execOp,hb']
  ·rename_i ll hx
   have hp:=eU (s:=.v (.func (.yield ll) #[] #[])) f hx
   refine val_ok (s:=pure (a.eval x)) l f (fun c=>by simp) ?_ (Gives.pure h rfl hp) ho hK
   obtain⟨l',hb'⟩:∃l,a.eval x= .func (.yield l) #[] #[]:=by
    generalize hq:a.eval x=q at hp
    cases hp; exact⟨_,rfl⟩
   simp[execOp,hb']
  ·exact ho.elim
 |binOp op t x y t2=>
  simp only[gV]at ho
  split at ho
  ·rename_i u v hu hv
   obtain⟨r,g1,g2⟩:=abm ho
   exact val_ok (s:=do eqGuard op t x y (a.eval x) (a.eval y); binOp op t (a.eval x) (a.eval y)) l f (fun c=>by simp) rfl (YW hE h (dQ f hu) (dQ f hv) g1) g2 hK
  ·exact ho.elim
 |unOp op t x=>
  simp only[gV]at ho
  split at ho
  ·rename_i u hu
   split at ho
   ·rename_i v hv
    exact val_ok (s:=Op.unary op (a.eval x)) l f (fun c=>by simp) rfl (Rx h (dQ f hu) hv) ho hK
   ·exact ho.elim
  ·exact ho.elim
 |convert s d x=>
  simp only[gV]at ho
  split at ho
  ·rename_i u hu
   split at ho
   ·rename_i v hv
    exact val_ok (s:=convert s d (a.eval x)) l f (fun c=>by simp) rfl (I5 hE h (dQ f hu) hv) ho hK
   ·exact ho.elim
  ·exact ho.elim
 |makeFunc g first caps=>
  cases g with
  |func g=>
   simp only[gV]at ho
   split at ho
   ·rename_i xs ys h1 h2
    have g1:=vV f h1
    have g2:=vV f h2
    refine val_ok l f (fun c=>by simp) rfl (Gives.pure h rfl ?_) ho hK
    refine .func (by simpa using g1.1) (by simpa using g2.1) ?_ ?_
    ·intro i x u hx hu
     exact g1.2 i x u (by simpa using hx) (by simpa using hu)
    ·intro i x u hx hu
     exact g2.2 i x u (by simpa using hx) (by simpa using hu)
   ·exact ho.elim
  |_=>simp[gV]at ho
 |fieldAddr t x i=>
  simp only[gV]at ho
  split at ho
  ·rename_i j off hx
   obtain⟨e,e1,e2⟩:=eU f hx
   split at ho
   ·rename_i fs b1 b2 b3 ht
    split at ho
    ·rename_i o ft hi
     split at ho
     ·rename_i te hte
      split at ho
      ·exact ho.elim
      ·rename_i h0
       have:=SB (w:=w) (b:=e.blk) (off:=e.base+off) hE ht rfl hi hte h0
       exact iZ (s:=Instr.fieldAt t (a.eval x) i) (fun c=>by simp) rfl (by rw[e2]; exact this) (hK (.lp j (off+o)) L H M ML w _ ho (nZ h l f) ⟨e,e1,by rw[Nat.add_assoc]⟩)
     ·exact ho.elim
    ·exact ho.elim
   ·exact ho.elim
  ·rename_i v hx
   split at ho
   ·rename_i v2 hv
    exact val_ok (s:=Instr.fieldAt t (a.eval x) i) l f (fun c=>by simp) rfl (IZ hE h (eU (s:=.v v) f hx) hv) ho hK
   ·exact ho.elim
  ·exact ho.elim
 |field t x i=>
  simp only[gV]at ho
  split at ho
  ·rename_i v hx
   split at ho
   ·rename_i v2 hv
    exact val_ok (s:=Instr.field t (a.eval x) i) l f (fun c=>by simp) rfl (Ry hE h (dQ f hx) hv) ho hK
   ·exact ho.elim
  ·exact ho.elim
 |indexAddr t x i=>
  simp only[gV]at ho
  split at ho
  ·rename_i j off kk m hx hi
   obtain⟨e,e1,e2⟩:=eU f hx
   have hiv:=(dQ f hi).of_int
   split at ho
   ·rename_i len el b1 b2 b3 ht
    split at ho
    ·rename_i te hte
     split at ho
     ·rename_i hb
      have:=SC (w:=w) (b:=e.blk) (off:=e.base+off) (kk:=kk) hE ht rfl hte hb
      exact iZ (s:=Instr.indexAt t (a.eval x) (a.eval i)) (fun c=>by simp) rfl (by rw[e2,hiv]; exact this) (hK (.lp j (off+m.toNat*te.size)) L H M ML w _ ho (nZ h l f) ⟨e,e1,by rw[Nat.add_assoc]⟩)
     ·exact ho.elim
    ·exact ho.elim
   ·exact ho.elim
  ·rename_i p len cap kk m hx hi
   split at ho
   ·rename_i el b1 b2 b3 ht
    split at ho
    ·rename_i te hte
     unfold dw NIL at ho
     split at ho
     ·rename_i b off
      obtain⟨hb,ho⟩:=ho
      exact val_ok (s:=Instr.indexAt t (a.eval x) (a.eval i)) l f (fun c=>by simp) rfl (Bo hE h (eU (s:=.v (.slice (some ⟨b,off,none⟩) len cap)) f hx) (dQ f hi) (by simp[kH,ht,hte,hb])) ho hK
     ·exact ho.elim
    ·exact ho.elim
   ·exact ho.elim
  ·rename_i b off kk m hx hi
   split at ho
   ·rename_i len el b1 b2 b3 ht
    split at ho
    ·rename_i te hte
     obtain⟨hb,ho⟩:=ho
     exact val_ok (s:=Instr.indexAt t (a.eval x) (a.eval i)) l f (fun c=>by simp) rfl (Bo hE h (eU (s:=.v (.pointer (some ⟨b,off,none⟩))) f hx) (dQ f hi) (by simp[kH,ht,hte,hb])) ho hK
    ·exact ho.elim
   ·exact ho.elim
  ·exact ho.elim
 |extract x i=>
  simp only[gV]at ho
  split at ho
  ·rename_i v hx
   split at ho
   ·rename_i v2 hv
    exact val_ok (s:=Instr.extract (a.eval x) i) l f (fun c=>by simp) rfl (I4 h (dQ f hx) hv) ho hK
   ·exact ho.elim
  ·exact ho.elim
 |call c=>
  simp only[gV]at ho
  exact Ze hE h l f ho hK
 |mapUpdate t m i x=>
  simp only[gV]at ho
  split at ho
  ·rename_i mv iv xv h1 h2 h3
   obtain⟨H',g1,g2⟩:=ho
   exact WY l f (fun c=>by simp) rfl (vM hE h (dQ f h1) (dQ f h2) (dQ f h3) g1) g2 hK
  ·exact ho.elim
 |index t x i=>
  simp only[gV]at ho
  split at ho
  ·rename_i xv iv h1 h2
   obtain⟨y,g1,g2⟩:=ho
   exact val_ok (s:=Instr.index t (a.eval x) (a.eval i)) l f (fun c=>by simp) rfl (Rz hE h (dQ f h1) (dQ f h2) g1) g2 hK
  ·exact ho.elim
 |slice t x lo hi mx=>
  simp only[gV]at ho
  split at ho
  ·rename_i v lov hiv mxv h1 h2 h3 h4
   obtain⟨y,g1,g2⟩:=ho
   exact val_ok (s:=Instr.sliceAt t (a.eval x) (lo.map a.eval) (hi.map a.eval) (mx.map a.eval)) l f (fun c=>by simp) rfl (I7 hE h (dQ f h1) (Vh f h2) (Vh f h3) (Vh f h4) g1) g2 hK
  ·exact ho.elim
 |makeSlice t ln cp=>
  simp only[gV]at ho
  split at ho
  ·rename_i lv cv h1 h2
   obtain⟨y,H',g1,g2⟩:=ho
   exact val_ok (s:=Instr.makeSlice t (a.eval ln) (a.eval cp)) l f (fun c=>by simp) rfl (Dn hE h (dQ f h1) (dQ f h2) g1) g2 hK
  ·exact ho.elim
 |makeMap t r=>
  cases r with
  |none=>
   simp only[gV]at ho
   exact val_ok (s:=Instr.makeMap t none) l f (fun c=>by simp) rfl (Ja h) ho hK
  |some r=>simp[gV]at ho
 |lookup t x i ok=>
  simp only[gV]at ho
  split at ho
  ·rename_i xv iv h1 h2
   cases ok with
   |true=>
    simp only[if_true]at ho
    split at ho
    ·rename_i T hT
     obtain⟨y,b,g1,g2⟩:=ho
     exact val_ok (s:=Instr.lookup t (a.eval x) (a.eval i) true) l f (fun c=>by simp) rfl (EO hE h (dQ f h1) (dQ f h2) g1) g2 hK
    ·exact ho.elim
   |false=>
    simp only[Bool.false_eq_true,if_false]at ho
    obtain⟨y,g1,g2⟩:=ho
    exact val_ok (s:=Instr.lookup t (a.eval x) (a.eval i) false) l f (fun c=>by simp) rfl (EO hE h (dQ f h1) (dQ f h2) g1) g2 hK
  ·exact ho.elim
 |range t x=>
  simp only[gV]at ho
  split at ho
  ·rename_i v hx
   obtain⟨y,H',g1,g2⟩:=ho
   exact val_ok (s:=Instr.range t (a.eval x)) l f (fun c=>by simp) rfl (Gt hE h (dQ f hx) g1) g2 hK
  ·exact ho.elim
 |next x b=>
  cases b with
  |true=>
   simp only[gV]at ho
   split at ho
   ·rename_i v hx
    rcases ho with⟨i,r,H',g1,g2⟩|⟨H',g1,g2⟩
    ·exact val_ok (s:=Instr.next (a.eval x) true ty) l f (fun c=>by simp) rfl (Bz h (dQ f hx) g1) g2 hK
    ·exact val_ok (s:=Instr.next (a.eval x) true ty) l f (fun c=>by simp) rfl (Bz h (dQ f hx) g1) g2 hK
   ·exact ho.elim
  |false=>simp[gV]at ho
 |_=>simp[gV]at ho
end Go.Proofs.YtijnknjopjmiiaaGreatDoor.Zq
end
section
namespace Go.Proofs.YtijnknjopjmiiaaGreatDoor.Zq
variable{C:kL}{M M':Mp}{H H':Heap}{w w':World}{L L':Loc}{ML ML':Ml}{fr fr':fK}{a a':Act}{ro:Option Nat}{n:Nat}{Q:Exit->Act->World->Prop}{Kw:Act->World->Prop}{loc:List Nat}
def Rk(fr fr':fK):Prop:=fr'.n=fr.n∧∃news,fr'.l=news++fr.l
theorem Rk.refl(fr:fK):Rk fr fr:=⟨rfl,[],rfl⟩
theorem Rk.trans{fr'':fK}(h:Rk fr fr')(k:Rk fr' fr''):Rk fr fr'':=by
 obtain⟨h1,x,h2⟩:=h
 obtain⟨k1,y,k2⟩:=k
 exact⟨k1.trans h1,y++x,by rw[k2,h2,List.append_assoc]⟩
theorem Rk.put(fr:fK)(d:Nat)(s:Sv):Rk fr (fr.put d s):=⟨rfl,[(d,some s)],rfl⟩
theorem Rk.dU(fr:fK)(d:Option Nat)(s:Sv):Rk fr (fr.dU d s):=by
 cases d with
 |none=>exact .refl fr
 |some d=>exact .put fr d s
theorem Jr(hr:HR M H w)(l:LR M H L ML w)(hs:GY M H ML w M' H' w'){r:Nat}{ds:Option (List Deferred)}(h:w.heap[r]? =some (.deferred ds)):w'.heap[r]? =some (.deferred ds):=by
 rw[hs.frame r (Array.getElem?_eq_some_iff.1 h).1 ?_ ?_]
 ·exact h
 ·intro b e hb hw he
  exact hr.Dw hb hw.live h he
 ·intro i e hi he
  have hiL:i<L.length:=by rw[←l.len]; exact(List.getElem?_eq_some_iff.1 hi).1
  obtain⟨_,_,_,_,h4⟩:=l.loc i e _ _ hi (List.getElem?_eq_getElem hiL)
  obtain⟨c,t,fz,g,_⟩:=h4 rfl
  rw[he,h]at g; simp at g
theorem Marks.Zf{M2:Mp}{H2:Heap}{w2:World}{ds ds1 ds2:List Deferred}(h:Marks w w' ds ds1)(hr:HR M' H' w')(l:LR M' H' L' ML' w')(hs:GY M' H' ML' w' M2 H2 w2)(h0:w.heap.size≤w'.heap.size)(k:Marks w' w2 ds1 ds2):Marks w w2 ds ds2:=by
 obtain⟨rs,e1,n1,a1⟩:=h
 obtain⟨qs,e2,n2,a2⟩:=k
 refine⟨qs++rs,by rw[e2,e1]; simp,?_,?_⟩
 ·rw[List.nodup_append]
  refine⟨n2,n1,fun a ha b hb hab=> ?_⟩
  subst hab
  have:=(a2 a ha).1
  have:=(Array.getElem?_eq_some_iff.1 (a1 a hb).2).1
  omega
 ·intro r hr'
  rcases List.mem_append.1 hr' with h|h
  ·exact⟨by have:=(a2 r h).1; omega,(a2 r h).2⟩
  ·exact⟨(a1 r h).1,Jr hr l hs (a1 r h).2⟩
structure Behind(M:Mp)(H:Heap)(L:Loc)(ML:Ml)(w:World)(fr:fK)(a:Act)(M':Mp)(H':Heap)(L':Loc)(ML':Ml)(w':World)(fr':fK)(a':Act):Prop where
 st:Sm M H ML w M' H' ML' w'
 lr:LR M' H' L' ML' w'
 fs:FS M' ML' fr' a'.tmps
 rel:yA L L'
 suf:Rk fr fr'
 mlx:∃N,ML'=ML++N
 defers:Marks w w' a.defers a'.defers
theorem Behind.refl(h:HR M H w)(l:LR M H L ML w)(f:FS M ML fr a.tmps):Behind M H L ML w fr a M H L ML w fr a:=⟨.refl h ML,l,f,.refl L,.refl fr,⟨[],by simp⟩,.refl _ _ _⟩
theorem Behind.trans{M'':Mp}{H'':Heap}{L'':Loc}{ML'':Ml}{w'':World}{fr'':fK}{a'':Act}(h:Behind M H L ML w fr a M' H' L' ML' w' fr' a')(k:Behind M' H' L' ML' w' fr' a' M'' H'' L'' ML'' w'' fr'' a''):
  Behind M H L ML w fr a M'' H'' L'' ML'' w'' fr'' a'':=⟨h.st.trans k.st,k.lr,k.fs,h.rel.trans k.rel,h.suf.trans k.suf,by
  obtain⟨N,e1⟩:=h.mlx
  obtain⟨N',e2⟩:=k.mlx
  exact⟨N++N',by rw[e2,e1,List.append_assoc]⟩,h.defers.Zf h.st.st.hr h.lr k.st.st h.st.st.size k.defers⟩
def Oo(v:Value)(want:Bool):Bool:=
 match v with
 | .bool b=>b==want
 |_=>false
theorem Iy{ops:Array Oper}{o:Oper}{j d:Nat}{want:Bool}{v:Value}(hg:o.guard=some (j,want))(hd:(ops[j]?).bind (·.dst)=some d)(hv:VR M v (a.tmps.getD d undef)):
  Region.wanted o (yielded ops a.tmps)=Oo v want:=by
 have hf:FR M ⟨a.tmps.size,[(d,some v)]⟩ a.tmps:=⟨rfl,fun t u hu=>by
  simp only[dK.get,look]at hu
  split at hu
  ·rename_i e; subst e; simp at hu; subst hu; exact hv
  ·simp at hu⟩
 refine zM (M:=M) (fr:=⟨a.tmps.size,[(d,some v)]⟩) hf ?_
 simp only[iy,hg,hd,dK.get,look,if_true,Option.bind_some]
 cases v<;>rfl
theorem SE{ops:Array Oper}{o:Oper}(hg:o.guard=none):Region.wanted o (yielded ops a.tmps)=true:=by unfold Region.wanted; rw[hg]
theorem SG{ops:Array Oper}{o:Oper}{j:Nat}{want:Bool}(hg:o.guard=some (j,want))(hd:(ops[j]?).bind (·.dst)=none):Region.wanted o (yielded ops a.tmps)=false:=by
 unfold Region.wanted; rw[hg]; simp[yielded,hd]
theorem Zg(hE:C.E.Ok C.P)(h:HR M H w)(l:LR M H L ML w)(f:FS M ML fr a.tmps){ops:Array Oper}{o:Oper}{i:Nat}{K:fK->Loc->Heap->Prop}(hi:ops[i]? =some o)(ho:Ol C loc ops o fr L H K)
  (hK:∀fr' L' H' M' ML' a' w',K fr' L' H'->Behind M H L ML w fr a M' H' L' ML' w' fr' a'->Kw a' w'):wpOpIn (Fw ro) n C.P ops Q i Kw a w:=by
 unfold Ol at ho
 split at ho
 ·rename_i hp
  unfold wpOpIn
  rw[hi]
  simp only
  have done:∀fr1:fK,Rk fr fr1->FS M ML fr1 a.tmps->(gV C loc o.dst o.type o.op fr1 L H fun s L H=>K (fr1.dU o.dst s) L H)->o.wpIn (Fw ro) n C.P a w Kw Q:=by
   intro fr1 hs1 f1 hop
   have hp1:kM fr1 o.dst=true:=by
    unfold kM at hp ⊢
    rw[hs1.1]; exact hp
   have:=Vl (ro:=ro) (n:=n) (Q:=Q) (Kw:=Kw) (pos:=o.pos) (after:=o.after) (guard:=o.guard) hE h l f1 hop
   exact this fun s L' H' M' ML' w' u hk ha hu=>hK _ _ _ M' ML' _ w' hk ⟨ha.1,ha.2.1,ha.2.2.1.dU hp1 hu,ha.2.2.2.1,hs1.trans (.dU _ _ _),ha.2.2.2.2.1,.of_eq (put_defers _ _ _)⟩
  have skip:∀fr1:fK,Rk fr fr1->FS M ML fr1 a.tmps->K (fr1.dU o.dst (.v undef)) L H->Kw (a.put o.dst undef) w:=by
   intro fr1 hs1 f1 hk
   have hp1:kM fr1 o.dst=true:=by
    unfold kM at hp ⊢
    rw[hs1.1]; exact hp
   exact hK _ _ _ M ML _ w hk ⟨.refl h ML,l,f1.dU hp1 (VR.undef M),.refl L,hs1.trans (.dU _ _ _),⟨[],by simp⟩,.of_eq (put_defers _ _ _)⟩
  split at ho
  ·rename_i hg
   rw[SE hg]
   exact done fr (.refl fr) f ho
  ·rename_i j want hg
   split at ho
   ·rename_i hd
    rw[SG hg hd]
    exact⟨fun _ _=>trivial,skip fr (.refl fr) f ho⟩
   ·rename_i d hd
    split at ho
    ·rename_i g hgd
     have hv:VR M (.bool g) (a.tmps.getD d undef):=f.get d _ hgd
     rw[Iy hg hd hv]; unfold Oo
     have f1:FS M ML (fr.put d (.v (.bool g))) a.tmps:=f.again hv
     cases g with
     |true=>
      simp only[aK]at ho
      cases want with
      |true=>
       simp only[if_true]at ho
       exact done _ (.put _ _ _) f1 ho
      |false=>
       simp at ho
       exact⟨fun _ _=>trivial,skip _ (.put _ _ _) f1 ho⟩
     |false=>
      simp only[aK]at ho
      cases want with
      |true=>
       simp at ho
       exact⟨fun _ _=>trivial,skip _ (.put _ _ _) f1 ho⟩
      |false=>
       simp only[if_true]at ho
       exact done _ (.put _ _ _) f1 ho
    ·rename_i xs hgd
     have hv:VR M (.tuple xs) (a.tmps.getD d undef):=f.get d _ hgd
     rw[Iy hg hd hv]; unfold Oo
     exact⟨fun _ _=>trivial,skip fr (.refl fr) f ho⟩
    ·exact ho.elim
 ·exact ho.elim
theorem WZ(hE:C.E.Ok C.P){ops:Array Oper}{K:fK->Loc->Heap->Prop}:∀(os:List Oper) (j:Nat) (fr:fK) (L:Loc) (H:Heap) (M:Mp) (ML:Ml) (a:Act) (w:World),ops.toList.drop j=os->abj C loc ops os fr L H K->HR M H w->LR M H L ML w->FS M ML fr a.tmps→
  (∀fr' L' H' M' ML' a' w',K fr' L' H'->Behind M H L ML w fr a M' H' L' ML' w' fr' a'->Q .normal a' w')->wpOpsIn (Fw ro) n C.P ops Q (List.range' j os.length) a w
 |[],j,fr,L,H,M,ML,a,w,_,ho,h,l,f,hQ=>hQ fr L H M ML a w ho (.refl h l f)
 |o::os,j,fr,L,H,M,ML,a,w,hd,ho,h,l,f,hQ=>by
  have hi:ops[j]? =some o:=by
   have:=congrArg (·[0]?) hd
   simpa using this
  have hd':ops.toList.drop (j+1)=os:=by
   rw[←List.drop_drop,hd]; rfl
  simp only[List.length_cons,List.range'_succ]
  rw[wpOpsIn_cons]
  refine Zg hE h l f hi ho fun fr1 L1 H1 M1 ML1 a1 w1 hk b1=> ?_
  exact WZ hE os (j+1) fr1 L1 H1 M1 ML1 a1 w1 hd' hk b1.st.st.hr b1.lr b1.fs fun fr' L' H' M' ML' a' w' hk' b'=>hQ fr' L' H' M' ML' a' w' hk' (b1.trans b')
theorem abn(hE:C.E.Ok C.P){ops:Array Oper}{id:Nat}{K:fK->Loc->Heap->Prop}(ho:abj C loc ops ops.toList fr L H K)(h:HR M H w)(l:LR M H L ML w)(f:FS M ML fr a.tmps)
  (hQ:∀fr' L' H' M' ML' a' w',K fr' L' H'->Behind M H L ML w fr a M' H' L' ML' w' fr' a'->Q .normal a' w'):(Code.region id ops false).wpIn (Fw ro) n C.P Q a w:=by
 refine wpIn_region ?_
 have:=WZ (ro:=ro) (n:=n) (Q:=Q) hE ops.toList 0 fr L H M ML a w (by simp) ho h l f hQ
 rw[List.range_eq_range']
 simpa using this
end Go.Proofs.YtijnknjopjmiiaaGreatDoor.Zq
end
section
namespace Go.Proofs.YtijnknjopjmiiaaGreatDoor.Zq
section
variable{C:kL}{M M':Mp}{H H':Heap}{w w':World}{L L':Loc}{ML ML':Ml}{fr fr':fK}{a a':Act}{ro:Option Nat}{n:Nat}{Q:Exit->Act->World->Prop}{Kw:Act->World->Prop}{loc:List Nat}
 {dst:Option Nat} {ty:TypeId} {op:Op} {k:Sv->Loc->Heap->Prop}
theorem kY{x:Operand}(h:∀t,x= .tmp t->aW fr.l t=aW fr'.l t):LZ fr x=LZ fr' x:=by
 cases x with
 |tmp t=>exact h t rfl
 |_=>rfl
theorem dN{x:Operand}(h:∀t,x= .tmp t->aW fr.l t=aW fr'.l t):mQ fr x=mQ fr' x:=by unfold mQ; rw[kY h]
theorem vW:∀{l:List Operand},(∀t,Operand.tmp t∈l->aW fr.l t=aW fr'.l t)->vP fr l=vP fr' l
 |[],_=>rfl
 |x::r,h=>by simp only[vP]; rw[dN (x:=x) (fun t e=>h t (by simp[e])),vW (l:=r) (fun t e=>h t (by simp[e]))]
theorem BH:∀{l:List (Nat×Operand)},(∀t,Operand.tmp t∈l.map (·.2)->aW fr.l t=aW fr'.l t)->Pn fr l=Pn fr' l
 |[],_=>rfl
 |(i,x)::r,h=>by simp only[Pn]; rw[dN (x:=x) (fun t e=>h t (by simp[e])),BH (l:=r) (fun t e=>h t (by simp at e ⊢; exact .inr e))]
theorem BI{x:Option Operand}(h:∀t,x=some (.tmp t)->aW fr.l t=aW fr'.l t):xH fr x=xH fr' x:=by
 cases x with
 |none=>rfl
 |some x=>simp only[xH]; rw[dN (x:=x) (fun t e=>h t (by rw[e]))]
theorem SH{c:Call}(h:∀t,Operand.tmp t∈c.operands.toList->aW fr.l t=aW fr'.l t):kW C fr c ty L H k=kW C fr' c ty L H k:=by
 obtain⟨callee,args,ts⟩:=c
 have ha:∀t,Operand.tmp t∈args.toList->aW fr.l t=aW fr'.l t:=fun t e=>h t (by simp[Call.operands]; right; simpa using e)
 have hvs:vP fr args.toList=vP fr' args.toList:=vW ha
 have h1:∀x,x∈args.toList->mQ fr x=mQ fr' x:=fun x hx=>dN fun t e=>ha t (by rw[←e]; exact hx)
 have h2:∀x,x∈args.toList->LZ fr x=LZ fr' x:=fun x hx=>kY fun t e=>ha t (by rw[←e]; exact hx)
 cases callee with
 |value f=>
  have hf:mQ fr f=mQ fr' f:=dN fun t e=>h t (by simp[Call.operands,e])
  cases f<;>simp only[kW,hvs,hf]
 |builtin b=>
  cases b with
  |len=>
   simp only[kW]
   split
   ·rename_i x t hx _; rw[h1 x (by rw[hx]; simp)]
   ·rfl
  |cap=>
   simp only[kW]
   split
   ·rename_i x t hx _; rw[h1 x (by rw[hx]; simp)]
   ·rfl
  |append=>
   simp only[kW]
   split
   ·rename_i s x hx; rw[h1 s (by rw[hx]; simp),h2 x (by rw[hx]; simp)]
   ·rfl
  |copy=>simp only[kW,hvs]
  |min=>simp only[kW,hvs]
  |max=>simp only[kW,hvs]
  |clear=>simp only[kW,hvs]
  |_=>rfl
 |invoke r m=>rfl
theorem Oq(h:∀t,Operand.tmp t∈op.operands.toList->aW fr.l t=aW fr'.l t):gV C loc dst ty op fr L H k=gV C loc dst ty op fr' L H k:=by
 cases op with
 |makeFunc f first caps=>
  cases f<;>simp only[gV]
  rw[vW (l:=first.toList) (fun t e=>h t (by simp[Op.operands]; left; simpa using e)),vW (l:=caps.toList) (fun t e=>h t (by simp[Op.operands]; right; simpa using e))]
 |call c=>
  simp only[gV]
  exact SH fun t e=>h t (by simpa[Op.operands]using e)
 |build t ps=>
  simp only[gV]
  rw[BH (fun t e=>h t (by simpa[Op.operands]using e))]
 |buildSlice t n ps=>
  simp only[gV]
  rw[BH (fun t e=>h t (by simpa[Op.operands]using e))]
 |slice t x lo hi mx=>
  simp only[gV]
  rw[dN (x:=x) (fun t e=>h t (by simp[Op.operands,e])),BI (x:=lo) (fun t e=>h t (by simp[Op.operands,e])),BI (x:=hi) (fun t e=>h t (by simp[Op.operands,e])),BI (x:=mx) (fun t e=>h t (by simp[Op.operands,e]))]
 |move x|assign x|load _ x|nilCheck x=>
  simp only[gV]
  rw[kY (x:=x) (fun t e=>h t (by simp[Op.operands,e]))]
 |fieldAddr _ x _=>
  simp only[gV]
  rw[kY (x:=x) (fun t e=>h t (by simp[Op.operands,e]))]
 |box _ x|unOp _ _ x|convert _ _ x|field _ x _|extract x _=>
  simp only[gV]
  rw[dN (x:=x) (fun t e=>h t (by simp[Op.operands,e]))]
 |pick c x y=>
  simp only[gV]
  rw[dN (x:=c) (fun t e=>h t (by simp[Op.operands,e])),kY (x:=x) (fun t e=>h t (by simp[Op.operands,e])),kY (x:=y) (fun t e=>h t (by simp[Op.operands,e]))]
 |makeMap t r=>cases r<;>rfl
 |mapUpdate t m k x=>
  simp only[gV]
  rw[dN (x:=m) (fun t e=>h t (by simp[Op.operands,e])),dN (x:=k) (fun t e=>h t (by simp[Op.operands,e])),dN (x:=x) (fun t e=>h t (by simp[Op.operands,e]))]
 |store _ x y=>
  simp only[gV]
  rw[kY (x:=x) (fun t e=>h t (by simp[Op.operands,e])),dN (x:=y) (fun t e=>h t (by simp[Op.operands,e]))]
 |indexAddr _ x y=>
  simp only[gV]
  rw[kY (x:=x) (fun t e=>h t (by simp[Op.operands,e])),dN (x:=y) (fun t e=>h t (by simp[Op.operands,e]))]
 |binOp _ _ x y _|makeSlice _ x y|index _ x y|lookup _ x y _=>
  simp only[gV]
  rw[dN (x:=x) (fun t e=>h t (by simp[Op.operands,e])),dN (x:=y) (fun t e=>h t (by simp[Op.operands,e]))]
 |range _ x=>
  simp only[gV]
  rw[dN (x:=x) (fun t e=>h t (by simp[Op.operands,e]))]
 |next x b=>
  cases b with
  |true=>
   simp only[gV]
   rw[dN (x:=x) (fun t e=>h t (by simp[Op.operands,e]))]
  |false=>rfl
 |_=>rfl
def DF(s:Sv)(L:Loc)(H:Heap):Sv->Loc->Heap->Prop:=fun s' L' H'=>s'=s∧L'=L∧H'=H
def rD(C:kL)(loc:List Nat)(dst:Option Nat)(ty:TypeId)(op:Op)(fr:fK)(L:Loc)(H:Heap)(s:Sv):Prop:=
 gV C loc dst ty op fr L H (DF s L H)
theorem Zh{c:Call}(hc:c.callee= .builtin .len∨c.callee= .builtin .min∨c.callee= .builtin .max)(ho:kW C fr c ty L H k):∃s,kW C fr c ty L H (DF s L H)∧k s L H:=by
 obtain⟨callee,args,ts⟩:=c
 simp only at hc
 rcases hc with rfl|rfl|rfl
 ·simp only[kW]at ho ⊢
  split at ho
  ·split at ho
   ·exact⟨_,⟨rfl,rfl,rfl⟩,ho⟩
   ·obtain⟨y,g1,g2⟩:=ho
    exact⟨_,⟨y,g1,rfl,rfl,rfl⟩,g2⟩
   ·exact ho.elim
  ·exact ho.elim
 all_goals
  simp only[kW]at ho ⊢
  split at ho
  ·rename_i x r hx
   split at ho
   ·exact⟨_,⟨rfl,rfl,rfl⟩,ho⟩
   ·exact ho.elim
  ·exact ho.elim
theorem XW{E:Env}{o:BinOp}{t:TypeId}{x y:Value}{k k':Value->Prop}(hk:∀v,k v->k' v)(h:Po E o t x y k):Po E o t x y k':=by
 unfold Po at h ⊢
 repeat' split at h
 all_goals first
  |exact⟨h.1,hk _ h.2⟩
  |exact hk _ h
  |exact h.elim
  |(rename_i hc; rw[if_pos hc]; exact⟨h.1,hk _ h.2⟩)
theorem XY{E:Env}{o:BinOp}{t:TypeId}{x y:Value}{k:Value->Prop}(h:Po E o t x y k):∃v,Po E o t x y (fun v'=>v'=v)∧k v:=by
 unfold Po at h ⊢
 repeat' split at h
 all_goals first
  |exact⟨_,⟨h.1,rfl⟩,h.2⟩
  |exact⟨_,rfl,h⟩
  |exact h.elim
  |(rename_i hc; simp only[if_pos hc]; exact⟨_,⟨h.1,rfl⟩,h.2⟩)
theorem Zi(ht:turns op=false)(ho:gV C loc dst ty op fr L H k):∃s,rD C loc dst ty op fr L H s∧k s L H:=by
 unfold rD
 cases op with
 |move x|assign x=>
  simp only[gV]at ho ⊢
  split at ho
  ·exact⟨_,⟨rfl,rfl,rfl⟩,ho⟩
  ·exact ho.elim
 |pick c x y=>
  simp only[gV]at ho ⊢
  split at ho
  ·rename_i g hg
   cases g with
   |true=>
    simp only[aK]at ho ⊢
    split at ho
    ·exact⟨_,⟨rfl,rfl,rfl⟩,ho⟩
    ·exact ho.elim
   |false=>
    simp only[aK]at ho ⊢
    split at ho
    ·exact⟨_,⟨rfl,rfl,rfl⟩,ho⟩
    ·exact ho.elim
  ·exact ho.elim
 |build t ps=>
  simp only[gV]at ho ⊢
  split at ho
  ·split at ho
   ·exact⟨_,⟨rfl,rfl,rfl⟩,ho⟩
   ·exact ho.elim
  ·exact ho.elim
 |load t x=>
  simp only[gV]at ho ⊢
  split at ho
  ·split at ho
   ·rename_i hL ht2
    split at ho
    ·rename_i hlen
     split at ho
     ·simp only[if_pos hlen]; exact⟨_,⟨rfl,rfl,rfl⟩,ho⟩
     ·exact ho.elim
    ·exact ho.elim
   ·exact ho.elim
  ·split at ho
   ·rename_i ti hti
    split at ho
    ·rename_i hc
     obtain⟨y,g1,g2⟩:=ho
     simp only[if_pos hc]
     exact⟨_,⟨y,g1,rfl,rfl,rfl⟩,g2⟩
    ·exact ho.elim
   ·exact ho.elim
  ·exact ho.elim
 |nilCheck x=>
  simp only[gV]at ho ⊢
  split at ho
  ·exact⟨_,⟨rfl,rfl,rfl⟩,ho⟩
  ·unfold NIL at ho ⊢
   split at ho
   ·exact⟨_,⟨rfl,rfl,rfl⟩,ho⟩
   ·exact ho.elim
  ·exact⟨_,⟨rfl,rfl,rfl⟩,ho⟩
  ·exact⟨_,⟨rfl,rfl,rfl⟩,ho⟩
  ·exact ho.elim
 |binOp o t x y t2=>
  simp only[gV]at ho ⊢
  split at ho
  ·obtain⟨v,h1,h2⟩:=XY ho
   exact⟨.v v,XW (fun u hu=>(⟨by rw[hu],rfl,rfl⟩:DF _ _ _ _ _ _)) h1,h2⟩
  ·exact ho.elim
 |unOp o t x=>
  simp only[gV]at ho ⊢
  split at ho
  ·split at ho
   ·exact⟨_,⟨rfl,rfl,rfl⟩,ho⟩
   ·exact ho.elim
  ·exact ho.elim
 |convert s d x=>
  simp only[gV]at ho ⊢
  split at ho
  ·split at ho
   ·exact⟨_,⟨rfl,rfl,rfl⟩,ho⟩
   ·exact ho.elim
  ·exact ho.elim
 |makeFunc g first caps=>
  cases g with
  |func g=>
   simp only[gV]at ho ⊢
   split at ho
   ·exact⟨_,⟨rfl,rfl,rfl⟩,ho⟩
   ·exact ho.elim
  |_=>simp[gV]at ho
 |slice t x lo hi mx=>
  simp only[gV]at ho ⊢
  split at ho
  ·obtain⟨y,g1,g2⟩:=ho
   exact⟨_,⟨y,g1,rfl,rfl,rfl⟩,g2⟩
  ·exact ho.elim
 |fieldAddr t x i=>
  simp only[gV]at ho ⊢
  split at ho
  ·split at ho
   ·rename_i hty
    split at ho
    ·rename_i hi
     split at ho
     ·rename_i te hte
      split at ho
      ·exact ho.elim
      ·rename_i h0
       simp only[if_neg h0]
       exact⟨_,⟨rfl,rfl,rfl⟩,ho⟩
     ·exact ho.elim
    ·exact ho.elim
   ·exact ho.elim
  ·split at ho
   ·exact⟨_,⟨rfl,rfl,rfl⟩,ho⟩
   ·exact ho.elim
  ·exact ho.elim
 |field t x i=>
  simp only[gV]at ho ⊢
  split at ho
  ·split at ho
   ·exact⟨_,⟨rfl,rfl,rfl⟩,ho⟩
   ·exact ho.elim
  ·exact ho.elim
 |indexAddr t x i=>
  simp only[gV]at ho ⊢
  split at ho
  ·split at ho
   ·split at ho
    ·rename_i te hte
     split at ho
     ·rename_i hb
      simp only[if_pos hb]
      exact⟨_,⟨rfl,rfl,rfl⟩,ho⟩
     ·exact ho.elim
    ·exact ho.elim
   ·exact ho.elim
  ·split at ho
   ·split at ho
    ·rename_i te hte
     unfold dw NIL at ho ⊢
     split at ho
     ·exact⟨_,⟨ho.1,rfl,rfl,rfl⟩,ho.2⟩
     ·exact ho.elim
    ·exact ho.elim
   ·exact ho.elim
  ·split at ho
   ·split at ho
    ·rename_i te hte
     exact⟨_,⟨ho.1,rfl,rfl,rfl⟩,ho.2⟩
    ·exact ho.elim
   ·exact ho.elim
  ·exact ho.elim
 |index t x i=>
  simp only[gV]at ho ⊢
  split at ho
  ·obtain⟨y,g1,g2⟩:=ho
   exact⟨_,⟨y,g1,rfl,rfl,rfl⟩,g2⟩
  ·exact ho.elim
 |extract x i=>
  simp only[gV]at ho ⊢
  split at ho
  ·split at ho
   ·exact⟨_,⟨rfl,rfl,rfl⟩,ho⟩
   ·exact ho.elim
  ·exact ho.elim
 |lookup t x i ok=>
  simp only[gV]at ho ⊢
  split at ho
  ·cases ok with
   |true=>
    simp only[if_true]at ho ⊢
    split at ho
    ·obtain⟨y,b,g1,g2⟩:=ho
     exact⟨_,⟨y,b,g1,rfl,rfl,rfl⟩,g2⟩
    ·exact ho.elim
   |false=>
    simp only[Bool.false_eq_true,if_false]at ho ⊢
    obtain⟨y,g1,g2⟩:=ho
    exact⟨_,⟨y,g1,rfl,rfl,rfl⟩,g2⟩
  ·exact ho.elim
 |call c=>
  simp only[gV]at ho ⊢
  refine Zh ?_ ho
  obtain⟨callee,args,ts⟩:=c
  cases callee with
  |builtin b=>cases b<;>first|(simp[turns]at ht; done)|simp
  |_=>simp[turns]at ht
 |_=>simp[turns]at ht
end
section
variable{C:kL}{M M':Mp}{H H':Heap}{w w':World}{L L':Loc}{ML ML':Ml}{fr fr':fK}{a a':Act}{ro:Option Nat}{n:Nat}{Q:Exit->Act->World->Prop}{Kw:Act->World->Prop}{loc:List Nat}
 {dst:Option Nat} {ty:TypeId} {op:Op} {k:Sv->Loc->Heap->Prop} {ops:Array Oper}
theorem Ot{s:Sv}(hr:reads op=false)(h:rD C loc dst ty op fr L H s)(ht:turns op=false):rD C loc dst ty op fr L' H' s:=by
 unfold rD DF at*
 cases op with
 |call c=>
  obtain⟨callee,args,ts⟩:=c
  cases callee with
  |builtin b=>cases b<;>first|(simp[turns]at ht; done)|(simp[reads]at hr; done)|(simp only[gV,kW,and_self,and_true]at h ⊢; exact h)
  |_=>simp[turns]at ht
 |makeFunc g first caps=>
  cases g with
  |func g=>simp only[gV,and_self,and_true]at h ⊢; exact h
  |_=>simp[gV]at h
 |load _ _|slice _ _ _ _ _|lookup _ _ _ _=>simp[reads]at hr
 |move _|assign _|pick _ _ _|build _ _|nilCheck _|binOp _ _ _ _ _|unOp _ _ _|convert _ _ _|fieldAddr _ _ _|field _ _ _|indexAddr _ _ _|index _ _ _|extract _ _=>
  simp only[gV,and_self,and_true]at h ⊢; exact h
 |_=>simp[turns]at ht
theorem Zj{s:Sv}{x:Nat×List Value}(ht:turns op=false)(h:rD C loc dst ty op fr L H s):rD C loc dst ty op fr (L++[x]) H s:=by
 cases hr:reads op with
 |false=>exact Ot hr h ht
 |true=>
  unfold rD DF at*
  cases op with
  |load t y=>
   simp only[gV,and_self,and_true]at h ⊢
   split at h
   ·rename_i i off hx
    split at h
    ·rename_i m cs ti hL hti
     have:=(List.getElem?_eq_some_iff.1 hL).1
     simp only[List.getElem?_append_left this,hL,hti]
     exact h
    ·exact h.elim
   ·exact h
   ·exact h.elim
  |slice t y lo hi mx=>simp only[gV,and_self,and_true]at h ⊢; exact h
  |lookup t y i ok=>simp only[gV,and_self,and_true]at h ⊢; exact h
  |call c=>
   obtain⟨callee,args,ts⟩:=c
   cases callee with
   |builtin b=>cases b<;>first|(simp[turns]at ht; done)|(simp[reads]at hr; done)|(simp only[gV,kW,and_self,and_true]at h ⊢; exact h)
   |_=>simp[turns]at ht
  |_=>simp[reads]at hr
theorem LR.fill(h:HR M H w)(l:LR M H L ML w){i m:Nat}{cs:List Value}{c:Array Value}(t:TypeId)(sz:Nat)(hi:ML[i]? =some none)(hL:L[i]? =some (m,cs))(hn:cs.length≤c.size)(hv:VL M cs (c.toList.take cs.length)):
  Sm M H ML w M H (ML.set i (some ⟨w.heap.size,0,false,cs.length,sz,c.size⟩)) (w.alloc (.cells c t (0,0)))∧
  LR M H L (ML.set i (some ⟨w.heap.size,0,false,cs.length,sz,c.size⟩)) (w.alloc (.cells c t (0,0))):=by
 have hs:=Stp.hidden h (.cells c t (0,0))
 have l':=l.step hs
 have hlt:i<ML.length:=(List.getElem?_eq_some_iff.1 hi).1
 have hnew:∀(j:Nat) (e:jd),(ML.set i (some (⟨w.heap.size,0,false,cs.length,sz,c.size⟩:jd)))[j]? =some (some e)->(ML[j]? =some (some e)∧j≠i)∨(j=i∧e=⟨w.heap.size,0,false,cs.length,sz,c.size⟩):=by
  intro j e hj
  by_cases hji:j=i
  ·subst hji
   rw[List.getElem?_set_self hlt]at hj
   simp at hj; exact .inr ⟨rfl,hj.symm⟩
  ·rw[List.getElem?_set_ne (Ne.symm hji)]at hj; exact .inl ⟨hj,hji⟩
 have hw:(w.alloc (.cells c t (0,0))).heap[w.heap.size]? =some (.cells c t (0,0)):=by
  show(w.heap.push _)[w.heap.size]? =_
  rw[Array.getElem?_push,if_pos rfl]
 refine⟨⟨hs.toL ML,fun j e hj=> ?_⟩,by simp[l.len],fun j e m' cs' hj hLj=> ?_,fun j j' e e' hne hj hj'=> ?_,fun j e hj b e' hb hl=> ?_⟩
 ·rcases hnew j e hj with⟨h1,_⟩|⟨_,rfl⟩
  ·exact .inl ⟨j,h1⟩
  ·exact .inr (Nat.le_refl _)
 ·rcases hnew j e hj with⟨h1,_⟩|⟨rfl,rfl⟩
  ·exact l'.loc j e m' cs' h1 hLj
  ·rw[hL]at hLj
   simp at hLj; obtain⟨_,rfl⟩:=hLj
   exact⟨rfl,rfl,rfl,rfl,fun _=>⟨c,t,(0,0),hw,rfl,by simpa using hn,by simpa using hv,fun _=>rfl⟩⟩
 ·rcases hnew j e hj with⟨h1,_⟩|⟨q1,q2⟩<;>rcases hnew j' e' hj' with⟨h3,_⟩|⟨q3,q4⟩
  ·exact l.sep1 j j' e e' hne h1 h3
  ·have:=l.lt h1; rw[q4]; simp; omega
  ·have:=l.lt h3; rw[q2]; simp; omega
  ·exact absurd (q1.trans q3.symm) hne
 ·rcases hnew j e hj with⟨h1,_⟩|⟨_,rfl⟩
  ·exact l.sep2 j e h1 b e' hb hl
  ·have:=h.lC hb hl
   show e'.blk≠w.heap.size; omega
theorem yx.fill{i:Nat}{x:Option jd}{s:Sv}{u:Value}(hi:ML[i]? =some none)(h:yx M ML s u):yx M (ML.set i x) s u:=by
 cases s with
 |v v=>exact h
 |lp j off=>
  obtain⟨e,h1,h2⟩:=h
  have:i≠j:=fun e=>by subst e; rw[hi]at h1; simp at h1
  exact⟨e,by rw[List.getElem?_set_ne this]; exact h1,h2⟩
 |ls j n=>
  obtain⟨e,h1,h2⟩:=h
  have:i≠j:=fun e=>by subst e; rw[hi]at h1; simp at h1
  exact⟨e,by rw[List.getElem?_set_ne this]; exact h1,h2⟩
theorem LR.keep(l:LR M H L ML w)(x:Nat×List Value):LR M H (L++[x]) (ML++[none]) w:=by
 have hold:∀(i:Nat) (e:jd),(ML++[none])[i]? =some (some e)->ML[i]? =some (some e):=by
  intro i e hi
  by_cases hl:i<ML.length
  ·rw[List.getElem?_append_left hl]at hi; exact hi
  ·rw[List.getElem?_append_right (by omega)]at hi
   cases hq:i-ML.length with
   |zero=>rw[hq]at hi; simp at hi
   |succ q=>rw[hq]at hi; simp at hi
 refine⟨by simp[l.len],fun i e m cs hi hL=> ?_,fun i j e e' hne hi hj=>l.sep1 i j e e' hne (hold i e hi) (hold j e' hj),fun i e hi=>l.sep2 i e (hold i e hi)⟩
 have h1:=hold i e hi
 have hlt:i<L.length:=by rw[←l.len]; exact(List.getElem?_eq_some_iff.1 h1).1
 rw[List.getElem?_append_left hlt]at hL
 exact l.loc i e m cs h1 hL
theorem AQ{t j:Nat}:∀{l:List Nat},j∈l->l.findIdx (· ==j)<l.findIdx (· ==t)->j∈l.takeWhile (· !=t)
 |[],h,_=>by simp at h
 |x::r,h,hlt=>by
  rw[List.findIdx_cons,List.findIdx_cons]at hlt
  by_cases hx:x=t
  ·subst hx; simp at hlt
  ·have ht:(x==t)=false:=by simpa using hx
   have htn:(x !=t)=true:=by simpa using hx
   rw[List.takeWhile_cons,if_pos htn]
   by_cases hj:x=j
   ·subst hj; simp
   ·have hjf:(x==j)=false:=by simpa using hj
    rw[ht,hjf]at hlt
    simp only[cond_false]at hlt
    have:j∈r:=by
     rcases List.mem_cons.1 h with e|e
     ·exact absurd e.symm hj
     ·exact e
    exact List.mem_cons_of_mem _ (AQ this (by omega))
theorem mapM_mem{α β:Type}{f:α->Option β}:∀{l:List α} {r:List β},l.mapM f=some r->∀x∈l,∃y∈r,f x=some y
 |[],r,h,x,hx=>by simp at hx
 |z::l,r,h,x,hx=>by
  rw[List.mapM_cons]at h
  cases h1:f z with
  |none=>rw[h1]at h; simp at h
  |some y=>
   rw[h1]at h
   cases h2:l.mapM f with
   |none=>rw[h2]at h; simp at h
   |some r'=>
    rw[h2]at h
    simp at h; subst h
    rcases List.mem_cons.1 hx with rfl|hx
    ·exact⟨y,by simp,h1⟩
    ·obtain⟨y',q1,q2⟩:=mapM_mem h2 x hx
     exact⟨y',by simp[q1],q2⟩
theorem Js{b:Array Nat}{tau:List Nat}:∀{l:List Nat} {S:List Step},Dy loc ops b tau l=some S->S.length=l.length∧∀q i:Nat,l[q]? =some i->∃(o:Oper) (as:List Oper),ops[i]? =some o∧S[q]? =some (Step.mk i o as)∧
  (if Y9 loc ops b i then(WV loc ops b tau i).mapM (fun j=>ops[j]?)else some [])=some as
 |[],S,h=>by simp[Dy]at h; subst h; exact⟨rfl,fun q i hq=>by simp at hq⟩
 |x::r,S,h=>by
  simp only[Dy]at h
  split at h
  ·rename_i o as s h1 h2 h3
   simp at h; subst h
   obtain⟨g1,g2⟩:=Js h3
   refine⟨by simp[g1],fun q i hq=> ?_⟩
   cases q with
   |zero=>simp at hq; subst hq; exact⟨o,as,h1,rfl,h2⟩
   |succ q=>exact g2 q i (by simpa using hq)
  ·simp at h
structure Good(loc:List Nat)(ops:Array Oper)(A:Nat->Nat->Prop)(T:Nat->Prop)(pos:Nat->Nat)(S:List Step):Prop where
 back:∀(i:Nat) (o:Oper) (e:Edge),ops[i]? =some o->e∈o.after.toList->Region.binds .any e=true->e.on<i
 edge:∀i j,A i j->∃(o:Oper) (e:Edge),ops[i]? =some o∧e∈o.after.toList∧Region.binds .any e=true∧(j=e.on∨A e.on j)
 slen:S.length=ops.size
 sat:∀(i:Nat) (o:Oper),ops[i]? =some o->∃as,S[pos i]? =some (Step.mk i o as)∧(¬T i->as=[])∧(T i->∀(j:Nat) (oj:Oper),ops[j]? =some oj->pos j<pos i->reads oj.op=true->¬A i j->¬T j->oj∈as)
 lt:∀(i:Nat) (o:Oper),ops[i]? =some o->pos i<ops.size
 inv:∀q:Nat,q<ops.size->∃(i:Nat) (o:Oper),ops[i]? =some o∧pos i=q
 ord:∀i j,i<ops.size->j<ops.size->A i j->pos j<pos i
 tt:∀i j,i<ops.size->j<ops.size->T j->pos j<pos i->A i j
 dsts:∀(i j:Nat) (oi oj:Oper) (d:Nat),ops[i]? =some oi->ops[j]? =some oj->oi.dst=some d->oj.dst=some d->i=j
 use:∀(p:Nat) (o:Oper) (t q:Nat) (oq:Oper),ops[p]? =some o->t∈kX ops o->ops[q]? =some oq->oq.dst=some t->A p q∨(T q∧(q=p∨A q p))
 nt:∀(i:Nat) (o:Oper),ops[i]? =some o->¬T i->Y8 loc o=true∨turns o.op=false
 inj:∀i j,i<ops.size->j<ops.size->pos i=pos j->i=j
theorem EY:∀{l:List Nat},Jo l=true->l.Nodup
 |[],_=>List.nodup_nil
 |x::r,h=>by
  simp only[Jo,Bool.and_eq_true,Bool.not_eq_true']at h
  exact List.nodup_cons.2 ⟨by simpa using h.1,EY h.2⟩
theorem sQ{β:Type}{f:β->Option Nat}:∀{l:List β},(l.filterMap f).Nodup->∀(i j:Nat) (x y:β) (d:Nat),l[i]? =some x->l[j]? =some y->f x=some d->f y=some d->i=j
 |[],_,i,j,x,y,d,hi,_,_,_=>by simp at hi
 |z::r,hn,i,j,x,y,d,hi,hj,hx,hy=>by
  have key:∀(q:Nat) (u:β),r[q]? =some u->f u=some d->d∈r.filterMap f:=fun q u hq hu=>List.mem_filterMap.2 ⟨u,List.mem_of_getElem? hq,hu⟩
  cases i with
  |zero=>
   cases j with
   |zero=>rfl
   |succ j=>
    simp at hi hj; subst hi
    rw[List.filterMap_cons,hx]at hn
    exact absurd (key j y hj hy) (List.nodup_cons.1 hn).1
  |succ i=>
   cases j with
   |zero=>
    simp at hi hj; subst hj
    rw[List.filterMap_cons,hy]at hn
    exact absurd (key i x hi hx) (List.nodup_cons.1 hn).1
   |succ j=>
    have hn':(r.filterMap f).Nodup:=by
     rw[List.filterMap_cons]at hn
     split at hn
     ·exact hn
     ·exact(List.nodup_cons.1 hn).2
    rw[sQ hn' i j x y d (by simpa using hi) (by simpa using hj) hx hy]
theorem abo{S:List Step}(h:Iw loc ops=some S):∃(A:Nat->Nat->Prop) (T:Nat->Prop) (pos:Nat->Nat),Good loc ops A T pos S:=by
 unfold Iw at h
 simp only at h
 generalize htau:ada ops (Region.before ops) ((List.range ops.size).filter (Y9 loc ops (Region.before ops))) ((List.range ops.size).filter (Y9 loc ops (Region.before ops))) 0=tau at h
 generalize hb:Region.before ops=b at h
 split at h
 ·rename_i hg
  unfold RZ at hg
  simp only[Bool.and_eq_true]at hg
  obtain⟨⟨⟨⟨⟨⟨⟨h1,hnd⟩,h2⟩,h3⟩,h4⟩,h5⟩,h6⟩,h7⟩:=hg
  have h2:tau.length=ops.size:=by simpa using h2
  have hmem:∀i,i<ops.size->i∈tau:=fun i hi=>by simpa using List.all_eq_true.1 h3 i (by simpa using hi)
  obtain⟨g1,g2⟩:=Js h
  have hlt:∀i,i<ops.size->tau.findIdx (· ==i)<ops.size:=fun i hi=>by
   rw[←h2]; exact List.findIdx_lt_length_of_exists ⟨i,hmem i hi,by simp⟩
  have hget:∀i,i<ops.size->tau[tau.findIdx (· ==i)]? =some i:=fun i hi=>by
   have hl:=hlt i hi
   rw[List.getElem?_eq_getElem (by rw[h2]; exact hl)]
   have:=List.findIdx_getElem (w:=by rw[h2]; exact hl) (xs:=tau) (p:=(· ==i))
   simpa using this
  have hinj:∀i j,i<ops.size->j<ops.size->tau.findIdx (· ==i)=tau.findIdx (· ==j)->i=j:=fun i j hi hj e=>by
   have a1:=hget i hi
   have a2:=hget j hj
   rw[e,a2]at a1; simpa using a1.symm
  have ilt:∀i o,ops[i]? =some o->i<ops.size:=fun i o hi=>(Array.getElem?_eq_some_iff.1 hi).1
  refine⟨fun i j=>ahead b i j=true,fun i=>Y9 loc ops b i=true,fun i=>tau.findIdx (· ==i),fun i o e hi he hbd=> ?_,fun i j hij=> ?_,by rw[g1,h2],fun i o hi=> ?_,fun i o hi=>hlt i (ilt i o hi),fun q hq=> ?_,
   fun i j hi hj hA=> ?_,fun i j hi hj hT hp=> ?_,fun i j oi oj d hi hj hdi hdj=> ?_,fun p o t q oq hp ht hq hd=> ?_,fun i o hi hT=> ?_,hinj⟩
  ·have:=Je ops.toList 0 h1 i o e (by simpa using hi) he hbd
   simpa using this
  ·subst hb; exact Gw hij
  ·obtain⟨o',as,q1,q2,q3⟩:=g2 _ i (hget i (ilt i o hi))
   rw[hi]at q1; simp at q1; subst q1
   refine⟨as,q2,fun hT=> ?_,fun hT j oj hj hp hr hA hTj=> ?_⟩
   ·rw[if_neg hT]at q3; simpa using q3.symm
   ·rw[if_pos hT]at q3
    have hjm:j∈WV loc ops b tau i:=by
     unfold WV
     rw[List.mem_filter]
     refine⟨AQ (hmem j (ilt j oj hj)) hp,?_⟩
     simp only[hj,hr,Bool.true_and,Bool.and_eq_true,Bool.not_eq_true']
     exact⟨by simpa using hA,by simpa using hTj⟩
    obtain⟨y,y1,y2⟩:=mapM_mem q3 j hjm
    rw[hj]at y2; simp at y2; subst y2; exact y1
  ·have hq':q<tau.length:=by rw[h2]; exact hq
   obtain⟨o,as,q1,q2,_⟩:=g2 q tau[q] (List.getElem?_eq_getElem hq')
   refine⟨tau[q],o,q1,?_⟩
   have hil:=ilt _ o q1
   have hq2:=hget _ hil
   exact sQ (f:=some) (l:=tau) (by rw[List.filterMap_some]; exact EY hnd) _ q tau[q] tau[q] tau[q] hq2 (List.getElem?_eq_getElem hq') rfl rfl
  ·have:=List.all_eq_true.1 (List.all_eq_true.1 h4 i (by simpa using hi)) j (by simpa using hj)
   simp only[hA,Bool.not_true,Bool.false_or,decide_eq_true_eq]at this
   exact this
  ·have:=List.all_eq_true.1 (List.all_eq_true.1 h5 i (by simpa using hi)) j (by simpa using hj)
   simpa[hT,hp]using this
  ·exact sQ (f:=(·.dst)) (EY h6) i j oi oj d (by simpa using hi) (by simpa using hj) hdi hdj
  ·have:=List.all_eq_true.1 (List.all_eq_true.1 (List.all_eq_true.1 h7 (o,p) (mem_zipIdx hp)) t ht) (oq,q) (mem_zipIdx hq)
   simp only[hd,bne_self_eq_false,Bool.false_or,Bool.or_eq_true,Bool.and_eq_true,beq_iff_eq]at this
   rcases this with h|⟨h,h'⟩
   ·exact .inl h
   ·exact .inr ⟨h,h'⟩
  ·unfold Y9 at hT
   rw[hi]at hT
   simp only[Bool.and_eq_true,Bool.or_eq_true,Bool.not_eq_true',not_and,not_or]at hT
   cases hf:Y8 loc o with
   |true=>exact .inl rfl
   |false=>exact .inr (by simpa using(hT hf).1)
 ·simp at h
end
section
variable{C:kL}{M M' M0:Mp}{H H' H0:Heap}{w w' w0:World}{L L' L0:Loc}{ML ML' ML0:Ml}{fr fr' fr0:fK}{a a' a0:Act}{ro:Option Nat}{n:Nat}{Q:Exit->Act->World->Prop}{Kw:Act->World->Prop}{loc:List Nat}
 {ops:Array Oper} {A:Nat->Nat->Prop} {T:Nat->Prop} {pos:Nat->Nat} {S:List Step} {K0:fK->Loc->Heap->Prop} {lst:Nat->Bool} {p:Nat} {idf:Nat->Nat}
def Rn(ops:Array Oper)(o:Oper)(fr:fK):Prop:=o.guard=none∨∃j want d,o.guard=some (j,want)∧(ops[j]?).bind (·.dst)=some d∧aW fr.l d=some (.v (.bool want))
def Unw(ops:Array Oper)(o:Oper)(fr:fK):Prop:=∃j want,o.guard=some (j,want)∧((ops[j]?).bind (·.dst)=none∨∃d v,(ops[j]?).bind (·.dst)=some d∧aW fr.l d=some (.v v)∧Oo v want=false)
theorem lF{d:Nat}{s:Sv}{t:Nat}:aW (fr.put d s).l t=if d=t then some s else aW fr.l t:=rfl
theorem Ou{d:Nat}{s:Sv}(h:aW fr.l d=some s)(t:Nat):aW (fr.put d s).l t=aW fr.l t:=by
 rw[lF]; split
 ·rename_i e; subst e; exact h.symm
 ·rfl
theorem Gy{o:Oper}{K:fK->Loc->Heap->Prop}(h:Ol C loc ops o fr L H K):kM fr o.dst=true∧∃fr1,Rk fr fr1∧(∀t,aW fr1.l t=aW fr.l t)∧
  ((Unw ops o fr∧K (fr1.dU o.dst (.v undef)) L H)∨(Rn ops o fr∧gV C loc o.dst o.type o.op fr1 L H fun s L H=>K (fr1.dU o.dst s) L H)):=by
 unfold Ol at h
 split at h
 ·rename_i hp
  refine⟨hp,?_⟩
  split at h
  ·rename_i hg
   exact⟨fr,.refl fr,fun _=>rfl,.inr ⟨.inl hg,h⟩⟩
  ·rename_i j want hg
   split at h
   ·rename_i hd
    exact⟨fr,.refl fr,fun _=>rfl,.inl ⟨⟨j,want,hg,.inl hd⟩,h⟩⟩
   ·rename_i d hd
    split at h
    ·rename_i g hgd
     cases g with
     |true=>
      simp only[aK]at h
      refine⟨_,.put fr d (.v (.bool true)),Ou hgd,?_⟩
      cases want with
      |true=>simp only[if_true]at h; exact .inr ⟨.inr ⟨j,true,d,hg,hd,hgd⟩,h⟩
      |false=>simp at h; exact .inl ⟨⟨j,false,hg,.inr ⟨d,_,hd,hgd,rfl⟩⟩,h⟩
     |false=>
      simp only[aK]at h
      refine⟨_,.put fr d (.v (.bool false)),Ou hgd,?_⟩
      cases want with
      |true=>simp at h; exact .inl ⟨⟨j,true,hg,.inr ⟨d,_,hd,hgd,rfl⟩⟩,h⟩
      |false=>simp only[if_true]at h; exact .inr ⟨.inr ⟨j,false,d,hg,hd,hgd⟩,h⟩
    ·rename_i xs hgd
     exact⟨fr,.refl fr,fun _=>rfl,.inl ⟨⟨j,want,hg,.inr ⟨d,_,hd,hgd,rfl⟩⟩,h⟩⟩
    ·exact h.elim
 ·exact h.elim
def ael(C:kL)(loc:List Nat)(ops:Array Oper)(fr:fK)(L:Loc)(H:Heap)(ML0 ML:Ml)(id:Nat)(o:Oper):Prop:=
 kM fr o.dst=true∧((Unw ops o fr∧∀d,o.dst=some d->aW fr.l d=some (.v undef))∨
  (Rn ops o fr∧((∃t ti m,o.op= .alloc t∧C.E.ty t=some ti∧(∀d,o.dst=some d->aW fr.l d=some (.lp id 0))∧ML0.length≤id∧ML[id]? =some none∧L[id]? =some (m,ti.zero))∨
   (∃s,(∀d,o.dst=some d->aW fr.l d=some s)∧turns o.op=false∧rD C loc o.dst o.type o.op fr L H s))))
structure J(C:kL)(loc:List Nat)(ops:Array Oper)(A:Nat->Nat->Prop)(T:Nat->Prop)(pos:Nat->Nat)(S:List Step)(K0:fK->Loc->Heap->Prop)(M0:Mp)(H0:Heap)(L0:Loc)(ML0:Ml)(w0:World)(fr0:fK)(a0:Act)
  (lst:Nat->Bool) (p:Nat) (fr:fK) (L:Loc) (H:Heap) (M:Mp) (ML:Ml) (idf:Nat->Nat) (a:Act) (w:World):Prop where
 le:p≤ops.size
 t1:∀(i:Nat) (o:Oper),ops[i]? =some o->T i->(lst i=true↔pos i<p)
 t2:∀(i:Nat) (o:Oper),ops[i]? =some o->lst i=true->pos i<p
 cl:∀i j,lst i=true->A i j->lst j=true
 run:BG C loc ops (S.drop p) fr L H K0
 st:Sm M0 H0 ML0 w0 M H ML w
 rel:yA L0 L
 suf:Rk fr0 fr
 mlx:∃N,ML=ML0++N
 defers:a.defers=a0.defers
 size:a.tmps.size=fr.n
 slots:∀t s,aW fr.l t=some s->(∀(i:Nat) (o:Oper),ops[i]? =some o->o.dst=some t->pos i<p->lst i=true)->yx M ML s (a.tmps.getD t undef)
 lr:LR M H L ML w
 pend:∀(i:Nat) (o:Oper),ops[i]? =some o->pos i<p->lst i=false->ael C loc ops fr L H ML0 ML (idf i) o
 ids:∀(i i':Nat) (o o':Oper) (t t':TypeId),ops[i]? =some o->ops[i']? =some o'->pos i<p->pos i'<p->lst i=false->lst i'=false->o.op= .alloc t->o'.op= .alloc t'->Rn ops o fr->Rn ops o' fr->idf i=idf i'->i=i'
theorem qo{o:Oper}{s:Sv}(h:∀t,t∈kX ops o->aW fr'.l t=aW fr.l t)(hv:rD C loc o.dst o.type o.op fr L H s):rD C loc o.dst o.type o.op fr' L H s:=by
 unfold rD at*
 rw[Oq (fr':=fr) fun t ht=>h t ?_]
 ·exact hv
 ·unfold kX tmpsOf; simp only[List.mem_append,List.mem_filterMap]; exact .inl ⟨_,ht,rfl⟩
theorem zN{o:Oper}{j:Nat}{want:Bool}{d:Nat}(hg:o.guard=some (j,want))(hd:(ops[j]?).bind (·.dst)=some d):d∈kX ops o:=by
 unfold kX; rw[hg]; simp[hd]
theorem Rn.congr{o:Oper}(h:∀t,t∈kX ops o->aW fr'.l t=aW fr.l t)(hw:Rn ops o fr):Rn ops o fr':=by
 rcases hw with hg|⟨j,want,d,hg,hd,hc⟩
 ·exact .inl hg
 ·exact .inr ⟨j,want,d,hg,hd,by rw[h d (zN hg hd)]; exact hc⟩
theorem Unw.congr{o:Oper}(h:∀t,t∈kX ops o->aW fr'.l t=aW fr.l t)(hw:Unw ops o fr):Unw ops o fr':=by
 obtain⟨j,want,hg,hh⟩:=hw
 refine⟨j,want,hg,?_⟩
 rcases hh with hd|⟨d,v,hd,hc,he⟩
 ·exact .inl hd
 ·exact .inr ⟨d,v,hd,by rw[h d (zN hg hd)]; exact hc,he⟩
theorem Rn.not{o:Oper}(h:Rn ops o fr)(k:Unw ops o fr):False:=by
 obtain⟨j,want,hg,hh⟩:=k
 rcases h with h|⟨j',want',d',hg',hd',hc'⟩
 ·rw[h]at hg; simp at hg
 ·rw[hg']at hg; simp at hg; obtain⟨rfl,rfl⟩:=hg
  rcases hh with hd|⟨d,v,hd,hc,he⟩
  ·rw[hd']at hd; simp at hd
  ·rw[hd']at hd; simp at hd; subst hd
   rw[hc']at hc; simp at hc; subst hc
   simp[Oo]at he
theorem rV{i:Nat}{o:Oper}(hi:ops[i]? =some o):i<ops.size:=(Array.getElem?_eq_some_iff.1 hi).1
theorem J.ae_(g:Good loc ops A T pos S)(j:J C loc ops A T pos S K0 M0 H0 L0 ML0 w0 fr0 a0 lst p fr L H M ML idf a w){i:Nat}{o:Oper}(hi:ops[i]? =some o)(hp:pos i=p)(hT:¬T i)(hl:lst i=false):
  ∃fr' L' ML' idf',J C loc ops A T pos S K0 M0 H0 L0 ML0 w0 fr0 a0 lst (p+1) fr' L' H M ML' idf' a w:=by
 obtain⟨as,hS,has,_⟩:=g.sat i o hi
 have:=has hT; subst this
 rw[hp]at hS
 have hlt:p<ops.size:=by rw[←hp]; exact g.lt i o hi
 have hdrop:S.drop p=⟨i,o,[]⟩::S.drop (p+1):=by
  obtain⟨h1,h2⟩:=List.getElem?_eq_some_iff.1 hS
  rw[List.drop_eq_getElem_cons h1,h2]
 have hrun:=j.run
 rw[hdrop]at hrun
 simp only[BG,Si]at hrun
 obtain⟨hput,fr1,hs1,hc1,hcase⟩:=Gy hrun
 have hone:∀(q:Nat) (oq:Oper),ops[q]? =some oq->pos q<p+1->pos q<p∨q=i:=fun q oq hq hlt=>by
  by_cases e:pos q=p
  ·exact .inr (g.inj q i (rV hq) (rV hi) (e.trans hp.symm))
  ·exact .inl (by omega)
 have hnouse:∀(q:Nat) (oq:Oper) (d:Nat),ops[q]? =some oq->pos q<p+1->o.dst=some d->d∉kX ops oq:=fun q oq d hq hlt hd hmem=>by
  rcases g.use q oq d i o hq hmem hi hd with hA|⟨hTi,_⟩
  ·have:=g.ord q i (rV hq) (rV hi) hA
   omega
  ·exact hT hTi
 have huse:∀(s:Sv) (q:Nat) (oq:Oper),ops[q]? =some oq->pos q<p+1->∀t,t∈kX ops oq->aW (fr1.dU o.dst s).l t=aW fr.l t:=fun s q oq hq hlt t ht=>by
  cases hd:o.dst with
  |none=>exact hc1 t
  |some d=>
   show aW (fr1.put d s).l t=_
   rw[lF,if_neg (fun e=>hnouse q oq d hq hlt hd (by rw[e]; exact ht))]
   exact hc1 t
 have hdstne:∀(s:Sv) (q:Nat) (oq:Oper) (d:Nat),ops[q]? =some oq->q≠i->oq.dst=some d->aW (fr1.dU o.dst s).l d=aW fr.l d:=fun s q oq d hq hne hdq=>by
  cases hd:o.dst with
  |none=>exact hc1 d
  |some d'=>
   show aW (fr1.put d' s).l d=_
   rw[lF,if_neg (fun e=>hne (g.dsts q i oq o d hq hi hdq (by rw[hd,e])))]
   exact hc1 d
 have hself:∀(s:Sv) (d:Nat),o.dst=some d->aW (fr1.dU o.dst s).l d=some s:=fun s d hd=>by
  rw[hd]; show aW (fr1.put d s).l d=_
  rw[lF,if_pos rfl]
 have hn:∀s:Sv,(fr1.dU o.dst s).n=fr.n:=fun s=>((hs1.trans (.dU _ _ _)).1)
 have hputn:∀(s:Sv) (oq:Oper),kM fr oq.dst=true->kM (fr1.dU o.dst s) oq.dst=true:=fun s oq h=>by unfold kM at h ⊢; rw[hn s]; exact h
 have hslots:∀(s:Sv) (ML2:Ml),(∃N,ML2=ML++N)->∀t s',aW (fr1.dU o.dst s).l t=some s'->(∀(q:Nat) (oq:Oper),ops[q]? =some oq->oq.dst=some t->pos q<p+1->lst q=true)->yx M ML2 s' (a.tmps.getD t undef):=by
  intro s ML2 hML t s' hs' hall
  have hne:o.dst≠some t:=fun hd=>by
   have:=hall i o hi hd (by omega)
   rw[hl]at this; simp at this
  have hold:aW fr.l t=some s':=by
   cases hd:o.dst with
   |none=>rw[hd]at hs'; rw[←hc1 t]; exact hs'
   |some d=>
    rw[hd]at hs'
    have hs2:aW (fr1.put d s).l t=some s':=hs'
    rw[lF,if_neg (fun e=>hne (by rw[hd,e]))]at hs2
    rw[←hc1 t]; exact hs2
  obtain⟨N,rfl⟩:=hML
  exact(j.slots t s' hold fun q oq hq hdq hlt=>hall q oq hq hdq (by omega)).app
 have ht1:∀(q:Nat) (oq:Oper),ops[q]? =some oq->T q->(lst q=true↔pos q<p+1):=fun q oq hq hTq=>by
  rw[j.t1 q oq hq hTq]
  constructor
  ·intro h; omega
  ·intro h
   rcases hone q oq hq h with h|h
   ·exact h
   ·exact absurd (h▸hTq) hT
 have hpend:∀(s:Sv) (L2:Loc) (ML2:Ml) (idf2:Nat->Nat),(∀q,q≠i->idf2 q=idf q)->(∀k:Nat,ML[k]? =some none->ML2[k]? =some none∧L2[k]? =L[k]?)->(∀(oq:Oper) (s:Sv),turns oq.op=false->rD C loc oq.dst oq.type oq.op fr L H s->rD C loc oq.dst oq.type oq.op fr L2 H s)→
   ∀(q:Nat) (oq:Oper),ops[q]? =some oq->pos q<p+1->lst q=false->q≠i->ael C loc ops (fr1.dU o.dst s) L2 H ML0 ML2 (idf2 q) oq:=by
  intro s L2 ML2 idf2 hidf hk hv q oq hq hlt hlq hne
  have hq':pos q<p:=(hone q oq hq hlt).resolve_right hne
  obtain⟨h1,h2⟩:=j.pend q oq hq hq' hlq
  rw[hidf q hne]
  refine⟨hputn s oq h1,?_⟩
  rcases h2 with⟨h2,h3⟩|⟨h2,h3⟩
  ·exact .inl ⟨h2.congr (huse s q oq hq hlt),fun d hd=>by rw[hdstne s q oq d hq hne hd]; exact h3 d hd⟩
  ·refine .inr ⟨h2.congr (huse s q oq hq hlt),?_⟩
   rcases h3 with⟨t,ti,m,e1,e2,e3,e4,e5,e6⟩|⟨s',e1,e2,e3⟩
   ·obtain⟨k1,k2⟩:=hk _ e5
    exact .inl ⟨t,ti,m,e1,e2,fun d hd=>by rw[hdstne s q oq d hq hne hd]; exact e3 d hd,e4,k1,by rw[k2]; exact e6⟩
   ·exact .inr ⟨s',fun d hd=>by rw[hdstne s q oq d hq hne hd]; exact e1 d hd,e2,qo (huse s q oq hq hlt) (hv oq s' e2 e3)⟩
 have hids:∀(s:Sv) (idf2:Nat->Nat),(∀q,q≠i->idf2 q=idf q)->(∀(q:Nat) (oq:Oper) (t:TypeId),ops[q]? =some oq->q≠i->pos q<p->lst q=false->oq.op= .alloc t->Rn ops oq fr->(∃t',o.op= .alloc t')->Rn ops o (fr1.dU o.dst s)->idf2 i≠idf q)→
   ∀(q q':Nat) (oq oq':Oper) (t t':TypeId),ops[q]? =some oq->ops[q']? =some oq'->pos q<p+1->pos q'<p+1->lst q=false->lst q'=false->oq.op= .alloc t->oq'.op= .alloc t'->Rn ops oq (fr1.dU o.dst s)->Rn ops oq' (fr1.dU o.dst s)->idf2 q=idf2 q'->q=q':=by
  intro s idf2 hidf hnew q q' oq oq' t t' hq hq' h1 h2 h3 h4 h5 h6 h7 h8 he
  by_cases e1:q=i
  ·by_cases e2:q'=i
   ·rw[e1,e2]
   ·exfalso
    subst e1
    rw[hi]at hq; simp at hq; subst hq
    rw[hidf q' e2]at he
    exact hnew q' oq' t' hq' e2 ((hone q' oq' hq' h2).resolve_right e2) h4 h6 (h8.congr fun t ht=>(huse s q' oq' hq' h2 t ht).symm) ⟨t,h5⟩ h7 he
  ·by_cases e2:q'=i
   ·exfalso
    subst e2
    rw[hi]at hq'; simp at hq'; subst hq'
    rw[hidf q e1]at he
    exact hnew q oq t hq e1 ((hone q oq hq h1).resolve_right e1) h3 h5 (h7.congr fun t ht=>(huse s q oq hq h1 t ht).symm) ⟨t',h6⟩ h8 he.symm
   ·rw[hidf q e1,hidf q' e2]at he
    exact j.ids q q' oq oq' t t' hq hq' ((hone q oq hq h1).resolve_right e1) ((hone q' oq' hq' h2).resolve_right e2) h3 h4 h5 h6 (h7.congr fun t ht=>(huse s q oq hq h1 t ht).symm)
     (h8.congr fun t ht=>(huse s q' oq' hq' h2 t ht).symm) he
 have hvals0:∀(oq:Oper) (s:Sv),turns oq.op=false->rD C loc oq.dst oq.type oq.op fr L H s->rD C loc oq.dst oq.type oq.op fr L H s:=fun _ _ _ h=>h
 rcases hcase with⟨hu,hk⟩|⟨hw,hop⟩
 ·
  refine⟨fr1.dU o.dst (.v undef),L,ML,idf,by omega,ht1,fun q oq hq hlq=>by have:=j.t2 q oq hq hlq; omega,j.cl,hk,j.st,j.rel,j.suf.trans (hs1.trans (.dU _ _ _)),j.mlx,j.defers,by rw[j.size,hn],hslots _ ML ⟨[],by simp⟩,j.lr,fun q oq hq hlt hlq=> ?_,
   hids _ idf (fun _ _=>rfl) fun q oq t hq hne hlt hlq ho hwq _ hwi=>(hwi.not (hu.congr (huse _ i o hi (by omega)))).elim⟩
  by_cases e:q=i
  ·subst e
   rw[hi]at hq; simp at hq; subst hq
   exact⟨hputn _ o hput,.inl ⟨hu.congr (huse _ q o hi (by omega)),fun d hd=>hself _ d hd⟩⟩
  ·exact hpend _ L ML idf (fun _ _=>rfl) (fun k hk=>⟨hk,rfl⟩) hvals0 q oq hq hlt hlq e
 ·by_cases hfl:Y8 loc o=true
  ·
   unfold Y8 at hfl
   cases hoop:o.op with
   |alloc t=>
    rw[hoop]at hfl hop
    simp only at hfl
    simp only[gV]at hop
    split at hop
    ·rename_i ti hti
     rw[if_pos hfl]at hop
     have hlen:=j.lr.len
     have hkeep:∀k:Nat,ML[k]? =some none->(ML++[none])[k]? =some none∧(L++[(0,ti.zero)])[k]? =L[k]? :=fun k hk=>by
      have h1:=(List.getElem?_eq_some_iff.1 hk).1
      exact⟨by rw[List.getElem?_append_left h1]; exact hk,by rw[List.getElem?_append_left (by omega)]⟩
     refine⟨_,L++[(0,ti.zero)],ML++[none],fun q=>if q=i then L.length else idf q,by omega,ht1,fun q oq hq hlq=>by have:=j.t2 q oq hq hlq; omega,j.cl,hop,⟨j.st.st,fun q e hq=> ?_⟩,j.rel.trans (.app _ _),
      j.suf.trans (hs1.trans (.dU _ _ _)),?_,j.defers,by rw[j.size,hn],hslots _ _ ⟨_,rfl⟩,j.lr.keep _,fun q oq hq hlt hlq=> ?_,hids _ _ (fun q hq=>by simp[hq]) fun q oq t' hq hne hlt hlq ho hwq _ _=> ?_⟩
     ·refine j.st.mx q e ?_
      by_cases h:q<ML.length
      ·rw[List.getElem?_append_left h]at hq; exact hq
      ·rw[List.getElem?_append_right (by omega)]at hq
       cases hx:q-ML.length with
       |zero=>rw[hx]at hq; simp at hq
       |succ x=>rw[hx]at hq; simp at hq
     ·obtain⟨N,hN⟩:=j.mlx
      exact⟨N++[none],by rw[hN,List.append_assoc]⟩
     ·by_cases e:q=i
      ·subst e
       rw[hi]at hq; simp at hq; subst hq
       refine⟨hputn _ o hput,.inr ⟨hw.congr (huse _ q o hi (by omega)),.inl ⟨t,ti,0,hoop,hti,fun d hd=>by simpa using hself _ d hd,?_,?_,?_⟩⟩⟩
       ·obtain⟨N,hN⟩:=j.mlx
        simp only[if_true]
        rw[←hlen,hN]; simp
       ·simp only[if_true]; rw[←hlen]; simp
       ·simp
      ·exact hpend _ _ _ (fun q=>if q=i then L.length else idf q) (fun q hq=>if_neg hq) hkeep (fun oq s h1 h2=>Zj h1 h2) q oq hq hlt hlq e
     ·have hp1:=j.pend q oq hq hlt hlq
      simp only[if_true]
      rcases hp1.2 with⟨hu,_⟩|⟨_,⟨t2,ti2,m,e1,e2,e3,e4,e5,e6⟩|⟨s',e1,e2,e3⟩⟩
      ·exact(hwq.not hu).elim
      ·have:=(List.getElem?_eq_some_iff.1 e6).1
       omega
      ·rw[ho]at e2; simp[turns]at e2
    ·exact hop.elim
   |_=>rw[hoop]at hfl; simp at hfl
  ·have htu:turns o.op=false:=(g.nt i o hi hT).resolve_left hfl
   obtain⟨s,hv,hk⟩:=Zi htu hop
   refine⟨fr1.dU o.dst s,L,ML,idf,by omega,ht1,fun q oq hq hlq=>by have:=j.t2 q oq hq hlq; omega,j.cl,hk,j.st,j.rel,j.suf.trans (hs1.trans (.dU _ _ _)),j.mlx,j.defers,by rw[j.size,hn],hslots _ ML ⟨[],by simp⟩,j.lr,fun q oq hq hlt hlq=> ?_,
    hids _ idf (fun _ _=>rfl) fun q oq t hq hne hlt hlq ho hwq he _=>by obtain⟨t',he⟩:=he; rw[he]at htu; simp[turns]at htu⟩
   by_cases e:q=i
   ·subst e
    rw[hi]at hq; simp at hq; subst hq
    refine⟨hputn _ o hput,.inr ⟨hw.congr (huse _ q o hi (by omega)),.inr ⟨s,fun d hd=>hself _ d hd,htu,?_⟩⟩⟩
    exact qo (huse _ q o hi (by omega)) (qo (ops:=ops) (fr:=fr1) (fun t _=>(hc1 t).symm) hv)
   ·exact hpend _ L ML idf (fun _ _=>rfl) (fun k hk=>⟨hk,rfl⟩) hvals0 q oq hq hlt hlq e
end
section
variable{C:kL}{M M' M0:Mp}{H H' H0:Heap}{w w' w0:World}{L L' L0:Loc}{ML ML' ML0:Ml}{fr fr' fr0:fK}{a a' a0:Act}{ro:Option Nat}{n:Nat}{Q:Exit->Act->World->Prop}{Kw:Act->World->Prop}{loc:List Nat}
 {ops:Array Oper} {A:Nat->Nat->Prop} {T:Nat->Prop} {pos:Nat->Nat} {S:List Step} {K0:fK->Loc->Heap->Prop} {lst:Nat->Bool} {p:Nat} {idf:Nat->Nat}
def SI(ops:Array Oper)(o:Oper)(fr:fK):fK:=⟨fr.n,(kX ops o).map fun t=>(t,aW fr.l t)⟩
theorem Jt:∀{l:List Nat} {t:Nat} {f:Nat->Option Sv},aW (l.map fun t=>(t,f t)) t=if t∈l then f t else none
 |[],t,f=>by simp[aW]
 |x::r,t,f=>by
  simp only[List.map_cons,aW,Jt (l:=r)]
  by_cases h:x=t
  ·subst h; simp
  ·rw[if_neg h]
   have:t∈x::r↔t∈r:=by simp[Ne.symm h]
   simp only[this]
theorem XZ{o:Oper}{t:Nat}(h:t∈kX ops o):aW (SI ops o fr).l t=aW fr.l t:=by unfold SI; rw[Jt,if_pos h]
theorem SK{o:Oper}(hs:a.tmps.size=fr.n)(h:∀t s,t∈kX ops o->aW fr.l t=some s->yx M ML s (a.tmps.getD t undef)):FS M ML (SI ops o fr) a.tmps:=
 ⟨hs,fun t s hg=>by
  unfold SI at hg; rw[Jt]at hg
  split at hg
  ·rename_i hm; exact h t s hm hg
  ·simp at hg⟩
theorem Zk{o:Oper}(h:Rn ops o fr)(hs:∀t s,t∈kX ops o->aW fr.l t=some s->yx M ML s (a.tmps.getD t undef)):Region.wanted o (yielded ops a.tmps)=true:=by
 rcases h with hg|⟨j,want,d,hg,hd,hc⟩
 ·exact SE hg
 ·rw[Iy hg hd (hs d _ (zN hg hd) hc)]; simp[Oo]
theorem Zl{o:Oper}(h:Unw ops o fr)(hs:∀t s,t∈kX ops o->aW fr.l t=some s->yx M ML s (a.tmps.getD t undef)):Region.wanted o (yielded ops a.tmps)=false:=by
 obtain⟨j,want,hg,hh⟩:=h
 rcases hh with hd|⟨d,v,hd,hc,he⟩
 ·exact SG hg hd
 ·rw[Iy hg hd (hs d _ (zN hg hd) hc)]; exact he
theorem W9{d:Option Nat}{u:Value}{t:Nat}(h:d≠some t):(a.put d u).tmps.getD t undef=a.tmps.getD t undef:=Jf h
theorem Xa{u:Value}{t:Nat}(h:t<a.tmps.size):(a.put (some t) u).tmps.getD t undef=u:=Oi h
theorem SL(a:Act)(d:Option Nat)(u:Value):(a.put d u).tmps.size=a.tmps.size:=by cases d<;>simp[Act.put]
theorem yx.aem{s:Sv}{u:Value}(h:yx M ML s u)(x:Ext M M')(e:∃N,ML'=ML++N):yx M' ML' s u:=by
 obtain⟨N,rfl⟩:=e
 exact(h.mono x).app
theorem J.sees(g:Good loc ops A T pos S)(j:J C loc ops A T pos S K0 M0 H0 L0 ML0 w0 fr0 a0 lst p fr L H M ML idf a w){i:Nat}{o:Oper}(hi:ops[i]? =some o)(hA:∀q,A i q->lst q=true):
  ∀t s,t∈kX ops o->aW fr.l t=some s->yx M ML s (a.tmps.getD t undef):=fun t s ht hc=>
 j.slots t s hc fun q oq hq hd hlt=>by
  rcases g.use i o t q oq hi ht hq hd with h|⟨hT,_⟩
  ·exact hA q h
  ·exact(j.t1 q oq hq hT).2 hlt
theorem Ov{o:Oper}{k:Sv->Loc->Heap->Prop}{fr1:fK}(h1:∀t,aW fr1.l t=aW fr.l t)(h:gV C loc o.dst o.type o.op fr1 L H k):gV C loc o.dst o.type o.op (SI ops o fr) L H k:=by
 rw[Oq (fr':=fr1) fun t ht=> ?_]
 ·exact h
 ·rw[XZ (by unfold kX tmpsOf; simp only[List.mem_append,List.mem_filterMap]; exact .inl ⟨_,ht,rfl⟩),h1 t]
theorem J.exP(g:Good loc ops A T pos S)(hE:C.E.Ok C.P)(j:J C loc ops A T pos S K0 M0 H0 L0 ML0 w0 fr0 a0 lst p fr L H M ML idf a w){i:Nat}{o:Oper}(hi:ops[i]? =some o)(hp:pos i<p)(hT:¬T i)(hl:lst i=false)(hA:∀q,A i q->lst q=true)
  (hK:∀M' ML' a' w',J C loc ops A T pos S K0 M0 H0 L0 ML0 w0 fr0 a0 (fun q=>lst q||q==i) p fr L H M' ML' idf a' w'->Kw a' w'):wpOpIn (Fw ro) n C.P ops Q i Kw a w:=by
 obtain⟨hput,hcase⟩:=j.pend i o hi hp hl
 have hsee:=j.sees g hi hA
 have fin:∀(M':Mp) (ML':Ml) (w':World) (u:Value),Sm M H ML w M' H ML' w'->LR M' H L ML' w'->(∃N,ML'=ML0++N)->(∀s u,yx M ML s u->yx M' ML' s u)->(∀d,o.dst=some d->∃s,aW fr.l d=some s∧yx M' ML' s u)→
   (∀(q:Nat) (oq:Oper),ops[q]? =some oq->pos q<p->lst q=false->q≠i->∀t,oq.op= .alloc t->Rn ops oq fr->ML'[idf q]? =some none)→
   J C loc ops A T pos S K0 M0 H0 L0 ML0 w0 fr0 a0 (fun q=>lst q||q==i) p fr L H M' ML' idf (a.put o.dst u) w':=by
  intro M' ML' w' u hst hlr hmlx hsv hdst hkeep
  refine⟨j.le,fun q oq hq hTq=> ?_,fun q oq hq hlq=> ?_,fun x y hx hxy=> ?_,j.run,j.st.trans hst,j.rel,j.suf,hmlx,by rw[put_defers]; exact j.defers,by rw[SL]; exact j.size,fun t s hs hall=> ?_,hlr,fun q oq hq hlt hlq=> ?_,
   fun q q' oq oq' t t' hq hq' h1 h2 h3 h4=> ?_⟩
  ·have hne:q≠i:=fun e=>hT (e▸hTq)
   have:(q==i)=false:=by simpa using hne
   simp only[this,Bool.or_false]
   exact j.t1 q oq hq hTq
  ·simp only[Bool.or_eq_true,beq_iff_eq]at hlq
   rcases hlq with h|h
   ·exact j.t2 q oq hq h
   ·subst h; exact hp
  ·simp only[Bool.or_eq_true,beq_iff_eq]at hx ⊢
   rcases hx with h|h
   ·exact .inl (j.cl x y h hxy)
   ·subst h; exact .inl (hA y hxy)
  ·by_cases e:o.dst=some t
   ·obtain⟨s',c1,c2⟩:=hdst t e
    rw[hs]at c1; simp at c1; subst c1
    have hlt:t<a.tmps.size:=by
     have hput':=hput
     unfold kM at hput'
     rw[e]at hput'
     rw[j.size]; simpa using hput'
    rw[e,Xa hlt]; exact c2
   ·rw[W9 e]
    exact hsv s _ (j.slots t s hs fun q oq hq hd hlt=>by
     have:=hall q oq hq hd hlt
     simp only[Bool.or_eq_true,beq_iff_eq]at this
     rcases this with h|h
     ·exact h
     ·subst h; rw[hi]at hq; simp at hq; subst hq; exact absurd hd e)
  ·simp only[Bool.or_eq_false_iff,beq_eq_false_iff_ne]at hlq
   obtain⟨h1,h2⟩:=j.pend q oq hq hlt hlq.1
   refine⟨h1,?_⟩
   rcases h2 with h2|⟨h2,h3⟩
   ·exact .inl h2
   ·refine .inr ⟨h2,?_⟩
    rcases h3 with⟨t,ti,m,e1,e2,e3,e4,e5,e6⟩|h3
    ·exact .inl ⟨t,ti,m,e1,e2,e3,e4,hkeep q oq hq hlt hlq.1 hlq.2 t e1 h2,e6⟩
    ·exact .inr h3
  ·simp only[Bool.or_eq_false_iff]at h3 h4
   exact j.ids q q' oq oq' t t' hq hq' h1 h2 h3.1 h4.1
 have hkeep0:∀(q:Nat) (oq:Oper),ops[q]? =some oq->pos q<p->lst q=false->∀t,oq.op= .alloc t->Rn ops oq fr->ML[idf q]? =some none:=fun q oq hq hlt hlq t ho hw=>by
  obtain⟨_,h2⟩:=j.pend q oq hq hlt hlq
  rcases h2 with⟨hu,_⟩|⟨_,⟨t2,ti,m,e1,e2,e3,e4,e5,e6⟩|⟨s,e1,e2,e3⟩⟩
  ·exact(hw.not hu).elim
  ·exact e5
  ·rw[ho]at e2; simp[turns]at e2
 unfold wpOpIn
 rw[hi]
 simp only
 rcases hcase with⟨hu,hd⟩|⟨hw,hval⟩
 ·rw[Zl hu hsee]
  refine⟨fun _ _=>trivial,hK M ML _ w (fin M ML w undef (.refl j.st.st.hr ML) j.lr j.mlx (fun _ _ h=>h) (fun d he=>⟨_,hd d he,VR.undef M⟩) fun q oq hq hlt hlq _ t ho hwq=>hkeep0 q oq hq hlt hlq t ho hwq)⟩
 ·rw[Zk hw hsee]
  rcases hval with⟨t,ti,m,e1,e2,e3,e4,e5,e6⟩|⟨s,e1,e2,e3⟩
  ·obtain⟨c,q1,q2,q3⟩:=Om (M:=M) (w:=w) hE e2
   obtain⟨f1,f2⟩:=j.lr.fill j.st.st.hr t ti.size e5 e6 q2 q3
   have hid:=(List.getElem?_eq_some_iff.1 e5).1
   obtain⟨dst,op,ty,ps,after,guard⟩:=o
   simp only at e1; subst e1
   refine iZ (s:=Instr.alloc t true (.tuple #[])) (fun c=>by simp) rfl q1 (hK M _ _ _ (fin M _ _ _ f1 f2 ?_ (fun _ _ h=>h.fill e5) (fun d he=>⟨_,e3 d he,_,List.getElem?_set_self hid,rfl⟩) fun q oq hq hlt hlq hne t' ho hwq=> ?_))
   ·obtain⟨N,hN⟩:=j.mlx
    refine⟨N.set (idf i-ML0.length) (some ⟨w.heap.size,0,false,ti.zero.length,ti.size,c.size⟩),?_⟩
    rw[hN,List.set_append,if_neg (by omega)]
   ·have hidne:idf i≠idf q:=fun e=>hne (j.ids i q _ oq t t' hi hq hp hlt hl hlq rfl ho hw hwq e).symm
    rw[List.getElem?_set_ne hidne]
    exact hkeep0 q oq hq hlt hlq t' ho hwq
  ·have hop:=Ov (ops:=ops) (fr:=fr) (fun _=>rfl) e3
   exact Vl (ro:=ro) (n:=n) (Q:=Q) (pos:=o.pos) (after:=o.after) (guard:=o.guard) hE j.st.st.hr j.lr (SK j.size hsee) hop fun s' L' H' M' ML' w' u hk ha hu=>by
    obtain⟨rfl,rfl,rfl⟩:=hk
    obtain⟨h1,h2,_,_,⟨N,hN⟩,_⟩:=ha
    have hN0:N=[]:=by
     have l1:=h2.len
     have l2:=j.lr.len
     rw[hN]at l1; simp at l1
     exact List.length_eq_zero_iff.1 (by omega)
    subst hN0
    simp at hN; subst hN
    exact hK M' _ _ w' (fin M' _ w' u h1 h2 j.mlx (fun _ _ h=>h.mono h1.st.ext) (fun d he=>⟨_,e1 d he,hu⟩) fun q oq hq hlt hlq _ t ho hwq=>hkeep0 q oq hq hlt hlq t ho hwq)
def Asked(C:kL)(ops:Array Oper)(fr:fK)(L:Loc)(H:Heap)(o:Oper):Prop:=
 Rn ops o fr->match o.op,o.dst with
  | .load t x,some d=>match LZ fr x,aW fr.l d,C.E.ty t with
   |some (.v (.pointer (some ⟨b,off,none⟩))),some (.v v),some _=>LD (C.tag t) H b off fun x=>(C.tag t).enc x=v
   |some (.lp i off),some (.v v),some ti=>match L[i]? with
    |some (_,cs)=>off+ti.size≤cs.length∧gJ ti.k ((cs.drop off).take ti.size)=some v
    |none=>False
   |_,_,_=>False
  | .slice t x lo hi mx,some d=>match mQ fr x,xH fr lo,xH fr hi,xH fr mx,aW fr.l d with
   |some v,some lo,some hi,some mx,some (.v u)=>dS C.E t v lo hi mx H=some u
   |_,_,_,_,_=>False
  | .lookup t x i ok,some d=>match mQ fr x,mQ fr i,aW fr.l d with
   |some x,some i,some (.v u)=>nU C.E t x i ok H=some u
   |_,_,_=>False
  | .call ⟨.builtin .len,args,ts⟩,some _=>match args.toList,ts.toList with
   |[x],[t]=>match mQ fr x,C.E.ty t with
    |some (.slice _ _ _),some ⟨.slice _,_,_,_⟩=>True
    |_,_=>False
   |_,_=>False
  |_,_=>False
theorem Vm{o:Oper}{k:Prop}(h:adb C ops fr L H o k):k∧Asked C ops fr L H o:=by
 unfold adb at h
 have key:∀{q:Prop},(match o.op,o.dst with
  | .load t x,some d=>match LZ fr x,aW fr.l d,C.E.ty t with
   |some (.v (.pointer (some ⟨b,off,none⟩))),some (.v v),some _=>LD (C.tag t) H b off fun x=>vT ((C.tag t).enc x=v) q
   |some (.lp i off),some (.v v),some ti=>match L[i]? with
    |some (_,cs)=>if off+ti.size≤cs.length then vT (gJ ti.k ((cs.drop off).take ti.size)=some v) q else False
    |none=>False
   |_,_,_=>False
  | .slice t x lo hi mx,some d=>match mQ fr x,xH fr lo,xH fr hi,xH fr mx,aW fr.l d with
   |some v,some lo,some hi,some mx,some (.v u)=>vT (dS C.E t v lo hi mx H=some u) q
   |_,_,_,_,_=>False
  | .lookup t x i ok,some d=>match mQ fr x,mQ fr i,aW fr.l d with
   |some x,some i,some (.v u)=>vT (nU C.E t x i ok H=some u) q
   |_,_,_=>False
  | .call ⟨.builtin .len,args,ts⟩,some _=>match args.toList,ts.toList with
   |[x],[t]=>match mQ fr x,C.E.ty t with
    |some (.slice _ _ _),some ⟨.slice _,_,_,_⟩=>q
    |_,_=>False
   |_,_=>False
  |_,_=>False)->q∧Asked C ops fr L H o:=by
  intro q hq
  unfold Asked
  split at hq
  ·rename_i t x d ho hd
   split at hq
   ·rename_i b off v ti h1 h2 h3
    obtain⟨y,g1,g2,g3⟩:=hq
    refine⟨g3,fun _=> ?_⟩
    exact⟨y,g1,g2⟩
   ·rename_i i off v ti h1 h2 h3
    split at hq
    ·rename_i m cs hL
     split at hq
     ·rename_i hlen
      obtain⟨g1,g2⟩:=hq
      refine⟨g2,fun _=> ?_⟩
      exact⟨hlen,g1⟩
     ·exact hq.elim
    ·exact hq.elim
   ·exact hq.elim
  ·split at hq
   ·exact⟨hq.2,fun _=>hq.1⟩
   ·exact hq.elim
  ·split at hq
   ·exact⟨hq.2,fun _=>hq.1⟩
   ·exact hq.elim
  ·split at hq
   ·split at hq
    ·exact⟨hq,fun _=>trivial⟩
    ·exact hq.elim
   ·exact hq.elim
  ·exact hq.elim
 simp only at h
 split at h
 ·exact key h
 ·rename_i j want hg
  split at h
  ·rename_i hd
   refine⟨h,fun hw=> ?_⟩
   exact(hw.not ⟨j,want,hg,.inl hd⟩).elim
  ·rename_i d hd
   split at h
   ·rename_i b hc
    cases want with
    |true=>
     simp only[if_true]at h
     cases b with
     |true=>exact key h
     |false=>exact⟨h,fun hw=>(hw.not ⟨j,true,hg,.inr ⟨d,_,hd,hc,rfl⟩⟩).elim⟩
    |false=>
     simp only[Bool.false_eq_true,if_false]at h
     cases b with
     |true=>exact⟨h,fun hw=>(hw.not ⟨j,false,hg,.inr ⟨d,_,hd,hc,rfl⟩⟩).elim⟩
     |false=>exact key h
   ·rename_i xs hc
    exact⟨h,fun hw=>(hw.not ⟨j,want,hg,.inr ⟨d,_,hd,hc,rfl⟩⟩).elim⟩
   ·exact h.elim
theorem Gz:∀{as:List Oper} {k:Prop},Si C ops fr L H as k->k∧∀o∈as,Asked C ops fr L H o
 |[],k,h=>⟨h,fun o ho=>by simp at ho⟩
 |o::r,k,h=>by
  obtain⟨h1,h2⟩:=Vm h
  obtain⟨h3,h4⟩:=Gz h1
  refine⟨h3,fun o' ho'=> ?_⟩
  rcases List.mem_cons.1 ho' with rfl|ho'
  ·exact h2
  ·exact h4 o' ho'
theorem Vo{o:Oper}{s:Sv}(hv:rD C loc o.dst o.type o.op fr L H s)(hu:∀t,t∈kX ops o->aW fr'.l t=aW fr.l t)(hd:∀d,o.dst=some d->aW fr'.l d=some s)(hw:Rn ops o fr')(ha:Asked C ops fr' L' H' o):
  rD C loc o.dst o.type o.op fr' L' H' s:=by
 have ha:=ha hw
 have hv:=qo hu hv
 split at ha
 ·rename_i t x d ho hdst
  unfold rD DF at*
  rw[ho]at hv ⊢
  simp only[gV,and_self,and_true]at hv ⊢
  have hcd:=hd d hdst
  split at ha
  ·rename_i b off v ti h1 h2 h3
   rw[h2]at hcd; simp at hcd; subst hcd
   simp only[h1,h3]at hv ⊢
   split at hv
   ·rename_i hc
    rw[if_pos hc]
    obtain⟨y,g1,g2⟩:=ha
    exact⟨y,g1,by simp[g2]⟩
   ·exact hv.elim
  ·rename_i i off v ti h1 h2 h3
   rw[h2]at hcd; simp at hcd; subst hcd
   simp only[h1,h3]at hv ⊢
   split at ha
   ·rename_i m cs hL
    simp only[hL,if_pos ha.1,ha.2]
   ·exact ha.elim
  ·exact ha.elim
 ·rename_i t x lo hi mx d ho hdst
  unfold rD DF at*
  rw[ho]at hv ⊢
  simp only[gV,and_self,and_true]at hv ⊢
  have hcd:=hd d hdst
  split at ha
  ·rename_i v lo' hi' mx' u h1 h2 h3 h4 h5
   rw[h5]at hcd; simp at hcd; subst hcd
   simp only[h1,h2,h3,h4]at hv ⊢
   obtain⟨y,_,g2⟩:=hv
   have g2:Sv.v u= .v ((C.tag o.type).enc y):=by first|exact g2.symm|exact g2.1.symm
   injection g2 with g2
   exact⟨y,by rw[ha,g2],by rw[g2]⟩
  ·exact ha.elim
 ·rename_i t x i ok d ho hdst
  unfold rD DF at*
  rw[ho]at hv ⊢
  simp only[gV,and_self,and_true]at hv ⊢
  have hcd:=hd d hdst
  split at ha
  ·rename_i v i' u h1 h2 h3
   rw[h3]at hcd; simp at hcd; subst hcd
   simp only[h1,h2]at hv ⊢
   split at hv
   ·rename_i hok
    subst hok
    split at hv
    ·rename_i T hT
     rw[if_pos rfl]
     obtain⟨y,b,_,g2⟩:=hv
     have g2:Sv.v u= .v (.tuple #[T.enc y,.bool b]):=by first|exact g2.symm|exact g2.1.symm
     injection g2 with g2
     exact⟨y,b,by rw[ha,g2],by rw[g2]⟩
    ·exact hv.elim
   ·rename_i hok
    rw[if_neg hok]
    obtain⟨y,_,g2⟩:=hv
    have g2:Sv.v u= .v ((C.tag o.type).enc y):=by first|exact g2.symm|exact g2.1.symm
    injection g2 with g2
    exact⟨y,by rw[ha,g2],by rw[g2]⟩
  ·exact ha.elim
 ·rename_i args ts d ho hdst
  unfold rD DF at*
  rw[ho]at hv ⊢
  simp only[gV,kW,and_self,and_true]at hv ⊢
  split at ha
  ·rename_i x t ea et
   split at ha
   ·rename_i p m c e1 e2 e3 h1 h2
    simp only[ea,et,h1,h2]at hv ⊢
    exact hv
   ·exact ha.elim
  ·exact ha.elim
 ·exact ha.elim
end
section
variable{C:kL}{M M' M0:Mp}{H H' H0:Heap}{w w' w0:World}{L L' L0:Loc}{ML ML' ML0:Ml}{fr fr' fr0:fK}{a a' a0:Act}{ro:Option Nat}{n:Nat}{Q:Exit->Act->World->Prop}{Kw:Act->World->Prop}{loc:List Nat}
 {ops:Array Oper} {A:Nat->Nat->Prop} {T:Nat->Prop} {pos:Nat->Nat} {S:List Step} {K0:fK->Loc->Heap->Prop} {lst:Nat->Bool} {p:Nat} {idf:Nat->Nat}
theorem J.exT(g:Good loc ops A T pos S)(hE:C.E.Ok C.P)(j:J C loc ops A T pos S K0 M0 H0 L0 ML0 w0 fr0 a0 lst p fr L H M ML idf a w){i:Nat}{o:Oper}(hi:ops[i]? =some o)(hp:pos i=p)(hT:T i)(hl:lst i=false)(hA:∀q,A i q->lst q=true)
  (hK:∀fr' L' H' M' ML' a' w',J C loc ops A T pos S K0 M0 H0 L0 ML0 w0 fr0 a0 (fun q=>lst q||q==i) (p+1) fr' L' H' M' ML' idf a' w'->Kw a' w'):wpOpIn (Fw ro) n C.P ops Q i Kw a w:=by
 obtain⟨as,hS,_,has⟩:=g.sat i o hi
 have has:=has hT
 rw[hp]at hS has
 have hlt:p<ops.size:=by rw[←hp]; exact g.lt i o hi
 have hdrop:S.drop p=⟨i,o,as⟩::S.drop (p+1):=by
  obtain⟨h1,h2⟩:=List.getElem?_eq_some_iff.1 hS
  rw[List.drop_eq_getElem_cons h1,h2]
 have hrun:=j.run
 rw[hdrop]at hrun
 simp only[BG]at hrun
 obtain⟨hput,fr1,hs1,hc1,hcase⟩:=Gy hrun
 have hsee:=j.sees g hi hA
 have hone:∀(q:Nat) (oq:Oper),ops[q]? =some oq->q≠i->pos q<p+1->pos q<p:=fun q oq hq hne hlt=>by
  have:pos q≠p:=fun e=>hne (g.inj q i (rV hq) (rV hi) (e.trans hp.symm))
  omega
 have huse:∀(s:Sv) (q:Nat) (oq:Oper),ops[q]? =some oq->q≠i->pos q<p->lst q=false->∀t,t∈kX ops oq->aW (fr1.dU o.dst s).l t=aW fr.l t:=fun s q oq hq hne hlt hlq t ht=>by
  cases hd:o.dst with
  |none=>exact hc1 t
  |some d=>
   show aW (fr1.put d s).l t=_
   rw[lF,if_neg fun e=> ?_]
   ·exact hc1 t
   ·subst e
    rcases g.use q oq d i o hq ht hi hd with h|⟨_,h|h⟩
    ·have:=g.ord q i (rV hq) (rV hi) h; omega
    ·exact hne h.symm
    ·have:=hA q h; rw[hlq]at this; simp at this
 have hdstne:∀(s:Sv) (q:Nat) (oq:Oper) (d:Nat),ops[q]? =some oq->q≠i->oq.dst=some d->aW (fr1.dU o.dst s).l d=aW fr.l d:=fun s q oq d hq hne hdq=>by
  cases hd:o.dst with
  |none=>exact hc1 d
  |some d'=>
   show aW (fr1.put d' s).l d=_
   rw[lF,if_neg (fun e=>hne (g.dsts q i oq o d hq hi hdq (by rw[hd,e])))]
   exact hc1 d
 have hn:∀s:Sv,(fr1.dU o.dst s).n=fr.n:=fun s=>((hs1.trans (.dU _ _ _)).1)
 have fin:∀(s:Sv) (L':Loc) (H':Heap) (M':Mp) (ML':Ml) (w':World) (u:Value),Sm M H ML w M' H' ML' w'->LR M' H' L' ML' w'->(∃N,ML'=ML++N)->yA L L'->(∀k:Nat,ML[k]? =some none->L'[k]? =L[k]?)→
   Si C ops (fr1.dU o.dst s) L' H' as (BG C loc ops (S.drop (p+1)) (fr1.dU o.dst s) L' H' K0)->yx M' ML' s u→
   J C loc ops A T pos S K0 M0 H0 L0 ML0 w0 fr0 a0 (fun q=>lst q||q==i) (p+1) (fr1.dU o.dst s) L' H' M' ML' idf (a.put o.dst u) w':=by
  intro s L' H' M' ML' w' u hst hlr hml hrel hkeep hasks hu
  obtain⟨hrun',hasked⟩:=Gz hasks
  have hml0:∀k:Nat,ML[k]? =some none->ML'[k]? =some none:=fun k hk=>by
   obtain⟨N,rfl⟩:=hml
   rw[List.getElem?_append_left (List.getElem?_eq_some_iff.1 hk).1]; exact hk
  refine⟨by omega,fun q oq hq hTq=> ?_,fun q oq hq hlq=> ?_,fun x y hx hxy=> ?_,hrun',j.st.trans hst,j.rel.trans hrel,j.suf.trans (hs1.trans (.dU _ _ _)),?_,by rw[put_defers]; exact j.defers,by rw[SL,hn]; exact j.size,
   fun t s' hs' hall=> ?_,hlr,fun q oq hq hlt hlq=> ?_,fun q q' oq oq' t t' hq hq' h1 h2 h3 h4 h5 h6 h7 h8 he=> ?_⟩
  ·by_cases e:q=i
   ·subst e; simp[hp]
   ·have:(q==i)=false:=by simpa using e
    simp only[this,Bool.or_false]
    rw[j.t1 q oq hq hTq]
    exact⟨fun h=>by omega,fun h=>hone q oq hq e h⟩
  ·simp only[Bool.or_eq_true,beq_iff_eq]at hlq
   rcases hlq with h|h
   ·have:=j.t2 q oq hq h; omega
   ·subst h; omega
  ·simp only[Bool.or_eq_true,beq_iff_eq]at hx ⊢
   rcases hx with h|h
   ·exact .inl (j.cl x y h hxy)
   ·subst h; exact .inl (hA y hxy)
  ·obtain⟨N,hN⟩:=j.mlx
   obtain⟨N',hN'⟩:=hml
   exact⟨N++N',by rw[hN',hN,List.append_assoc]⟩
  ·by_cases e:o.dst=some t
   ·rw[e]at hs'
    have hs2:aW (fr1.put t s).l t=some s':=hs'
    rw[lF,if_pos rfl]at hs2
    simp at hs2; subst hs2
    have hlt:t<a.tmps.size:=by
     have hput':=hput
     unfold kM at hput'
     rw[e]at hput'
     rw[j.size]; simpa using hput'
    rw[e,Xa hlt]; exact hu
   ·rw[W9 e]
    have hold:aW fr.l t=some s':=by
     cases hd:o.dst with
     |none=>rw[hd]at hs'; rw[←hc1 t]; exact hs'
     |some d=>
      rw[hd]at hs'
      have hs2:aW (fr1.put d s).l t=some s':=hs'
      rw[lF,if_neg (fun e'=>e (by rw[hd,e']))]at hs2
      rw[←hc1 t]; exact hs2
    refine(j.slots t s' hold fun q oq hq hd hlt=> ?_).aem hst.st.ext hml
    have:=hall q oq hq hd (by omega)
    simp only[Bool.or_eq_true,beq_iff_eq]at this
    rcases this with h|h
    ·exact h
    ·subst h; rw[hi]at hq; simp at hq; subst hq; exact absurd hd e
  ·simp only[Bool.or_eq_false_iff,beq_eq_false_iff_ne]at hlq
   obtain⟨hlq,hne⟩:=hlq
   have hlt':=hone q oq hq hne hlt
   obtain⟨h1,h2⟩:=j.pend q oq hq hlt' hlq
   refine⟨by unfold kM at h1 ⊢; rw[hn]; exact h1,?_⟩
   rcases h2 with⟨h2,h3⟩|⟨h2,h3⟩
   ·exact .inl ⟨h2.congr (huse s q oq hq hne hlt' hlq),fun d hd=>by rw[hdstne s q oq d hq hne hd]; exact h3 d hd⟩
   ·have hw':=h2.congr (huse s q oq hq hne hlt' hlq)
    refine .inr ⟨hw',?_⟩
    rcases h3 with⟨t,ti,m,e1,e2,e3,e4,e5,e6⟩|⟨s',e1,e2,e3⟩
    ·exact .inl ⟨t,ti,m,e1,e2,fun d hd=>by rw[hdstne s q oq d hq hne hd]; exact e3 d hd,e4,hml0 _ e5,by rw[hkeep _ e5]; exact e6⟩
    ·have hd':∀d,oq.dst=some d->aW (fr1.dU o.dst s).l d=some s':=fun d hd=>by rw[hdstne s q oq d hq hne hd]; exact e1 d hd
     refine .inr ⟨s',hd',e2,?_⟩
     cases hr:reads oq.op with
     |false=>exact Ot hr (qo (huse s q oq hq hne hlt' hlq) e3) e2
     |true=>
      have hnT:¬T q:=fun hTq=>by
       have:=(j.t1 q oq hq hTq).2 hlt'
       rw[hlq]at this; simp at this
      have hnA:¬A i q:=fun h=>by have:=hA q h; rw[hlq]at this; simp at this
      exact Vo e3 (huse s q oq hq hne hlt' hlq) hd' hw' (hasked oq (has q oq hq hlt' hr hnA hnT))
  ·simp only[Bool.or_eq_false_iff,beq_eq_false_iff_ne]at h3 h4
   have k1:=hone q oq hq h3.2 h1
   have k2:=hone q' oq' hq' h4.2 h2
   exact j.ids q q' oq oq' t t' hq hq' k1 k2 h3.1 h4.1 h5 h6 (h7.congr fun t ht=>(huse s q oq hq h3.2 k1 h3.1 t ht).symm) (h8.congr fun t ht=>(huse s q' oq' hq' h4.2 k2 h4.1 t ht).symm) he
 unfold wpOpIn
 rw[hi]
 simp only
 rcases hcase with⟨hu,hk⟩|⟨hw,hop⟩
 ·rw[Zl hu hsee]
  exact⟨fun _ _=>trivial,hK _ _ _ _ _ _ _ (fin _ L H M ML w undef (.refl j.st.st.hr ML) j.lr ⟨[],by simp⟩ (.refl L) (fun _ _=>rfl) hk (VR.undef M))⟩
 ·rw[Zk hw hsee]
  exact Vl (ro:=ro) (n:=n) (Q:=Q) (pos:=o.pos) (after:=o.after) (guard:=o.guard) hE j.st.st.hr j.lr (SK j.size hsee) (Ov hc1 hop) fun s L' H' M' ML' w' u hk ha hu=>
   hK _ _ _ _ _ _ _ (fin s L' H' M' ML' w' u ha.1 ha.2.1 ha.2.2.2.2.1 ha.2.2.2.1 ha.2.2.2.2.2 hk hu)
theorem J.adv(g:Good loc ops A T pos S):∀(m p:Nat) (fr:fK) (L:Loc) (ML:Ml) (idf:Nat->Nat),J C loc ops A T pos S K0 M0 H0 L0 ML0 w0 fr0 a0 lst p fr L H M ML idf a w->p+m≤ops.size->(∀i o,ops[i]? =some o->p≤pos i->pos i<p+m->¬T i∧lst i=false)→
  ∃fr' L' ML' idf',J C loc ops A T pos S K0 M0 H0 L0 ML0 w0 fr0 a0 lst (p+m) fr' L' H M ML' idf' a w
 |0,p,fr,L,ML,idf,j,_,_=>⟨fr,L,ML,idf,j⟩
 |m+1,p,fr,L,ML,idf,j,hle,hno=>by
  obtain⟨i,o,hi,hp⟩:=g.inv p (by omega)
  obtain⟨h1,h2⟩:=hno i o hi (by omega) (by omega)
  obtain⟨fr1,L1,ML1,idf1,j1⟩:=j.ae_ g hi hp h1 h2
  obtain⟨fr2,L2,ML2,idf2,j2⟩:=J.adv g m (p+1) fr1 L1 ML1 idf1 j1 (by omega) (fun i o hi h1 h2=>hno i o hi (by omega) (by omega))
  exact⟨fr2,L2,ML2,idf2,by rw[show p+(m+1)=p+1+m by omega]; exact j2⟩
def JJ(C:kL)(loc:List Nat)(ops:Array Oper)(A:Nat->Nat->Prop)(T:Nat->Prop)(pos:Nat->Nat)(S:List Step)(K0:fK->Loc->Heap->Prop)(M0:Mp)(H0:Heap)(L0:Loc)(ML0:Ml)(w0:World)(fr0:fK)(a0:Act)(lst:Nat->Bool)(a:Act)(w:World):Prop:=
 ∃p fr L H M ML idf,J C loc ops A T pos S K0 M0 H0 L0 ML0 w0 fr0 a0 lst p fr L H M ML idf a w
theorem JJ.step(g:Good loc ops A T pos S)(hE:C.E.Ok C.P)(jj:JJ C loc ops A T pos S K0 M0 H0 L0 ML0 w0 fr0 a0 lst a w){i:Nat}{o:Oper}(hi:ops[i]? =some o)(hl:lst i=false)(he:∀e∈o.after.toList,Region.binds .any e=true->lst e.on=true)
  (hK:∀a' w',JJ C loc ops A T pos S K0 M0 H0 L0 ML0 w0 fr0 a0 (fun q=>lst q||q==i) a' w'->Kw a' w'):wpOpIn (Fw ro) n C.P ops Q i Kw a w:=by
 obtain⟨p,fr,L,H,M,ML,idf,j⟩:=jj
 have hA:∀q,A i q->lst q=true:=fun q hq=>by
  obtain⟨o',e,h1,h2,h3,h4⟩:=g.edge i q hq
  rw[hi]at h1; simp at h1; subst h1
  have:=he e h2 h3
  rcases h4 with rfl|h4
  ·exact this
  ·exact j.cl _ _ this h4
 have hno:∀(q:Nat) (oq:Oper),ops[q]? =some oq->p≤pos q->pos q<pos i->¬T q∧lst q=false:=fun q oq hq h1 h2=>by
  have hlq:lst q=false:=by
   cases h:lst q with
   |false=>rfl
   |true=>have:=j.t2 q oq hq h; omega
  refine⟨fun hTq=> ?_,hlq⟩
  have:=hA q (g.tt i q (rV hi) (rV hq) hTq h2)
  rw[hlq]at this; simp at this
 have hpi:=g.lt i o hi
 by_cases hT:T i
 ·have hge:p≤pos i:=by
   rcases Nat.lt_or_ge (pos i) p with h|h
   ·have:=(j.t1 i o hi hT).2 h
    rw[hl]at this; simp at this
   ·exact h
  obtain⟨fr1,L1,ML1,idf1,j1⟩:=J.adv g (pos i-p) p fr L ML idf j (by omega) (fun q oq hq h1 h2=>hno q oq hq h1 (by omega))
  rw[show p+(pos i-p)=pos i by omega]at j1
  exact j1.exT g hE hi rfl hT hl hA fun fr' L' H' M' ML' a' w' j'=>hK a' w' ⟨_,_,_,_,_,_,_,j'⟩
 ·by_cases hlt:pos i<p
  ·exact j.exP g hE hi hlt hT hl hA fun M' ML' a' w' j'=>hK a' w' ⟨_,_,_,_,_,_,_,j'⟩
  ·obtain⟨fr1,L1,ML1,idf1,j1⟩:=J.adv g (pos i+1-p) p fr L ML idf j (by omega) (fun q oq hq h1 h2=>by
    by_cases e:pos q=pos i
    ·have:=g.inj q i (rV hq) (rV hi) e
     subst this
     exact⟨hT,hl⟩
    ·exact hno q oq hq h1 (by omega))
   rw[show p+(pos i+1-p)=pos i+1 by omega]at j1
   exact j1.exP g hE hi (by omega) hT hl hA fun M' ML' a' w' j'=>hK a' w' ⟨_,_,_,_,_,_,_,j'⟩
theorem abp{P:Program}{I:(Nat->Bool)->Act->World->Prop}(back:∀(i:Nat) (o:Oper) (e:Edge),ops[i]? =some o->e∈o.after.toList->Region.binds .any e=true->e.on<i)
  (step:∀(lst:Nat->Bool) (a:Act) (w:World) (i:Nat) (o:Oper) (K:Act->World->Prop),I lst a w->ops[i]? =some o->lst i=false->(∀e∈o.after.toList,Region.binds .any e=true->lst e.on=true)->(∀a' w',I (fun q=>lst q||q==i) a' w'->K a' w')->wpOpIn (Fw ro) n P ops Q i K a w)
  (hQ:∀lst a w,(∀q,q<ops.size->lst q=true)->I lst a w->Q .normal a w):
  ∀(fuel:Nat) (listed:Array Bool) (a:Act) (w:World),listed.size=ops.size->(List.range ops.size).countP (fun i=> !xB listed i)≤fuel->I (xB listed) a w->wpAnyIn (Fw ro) n P .any ops Q fuel listed a w:=by
 have allListed:∀(listed:Array Bool),listed.size=ops.size->Region.ready .any ops listed=[]->∀q,q<ops.size->xB listed q=true:=by
  intro listed hls hr q
  induction q using Nat.strongRecOn with
  |_ q ih=>
   intro hq
   cases hL:xB listed q with
   |true=>rfl
   |false=>
    exfalso
    have:q∈Region.ready .any ops listed:=by
     rw[mem_ready]
     refine⟨?_,ops[q],Array.getElem?_eq_getElem hq,fun e he hb=> ?_⟩
     ·unfold xB at hL
      have hql:q<listed.size:=by omega
      simp only[Array.getD_eq_getD_getElem?,Array.getElem?_eq_getElem hql,Option.getD_some]at hL ⊢
      exact hL
     ·have hlt:=back q _ e (Array.getElem?_eq_getElem hq) (by simpa using he) hb
      exact ih e.on hlt (by omega)
    rw[hr]at this; simp at this
 intro fuel
 induction fuel with
 |zero=>
  intro listed a w hls hcnt d
  have hall:∀q,q<ops.size->xB listed q=true:=by
   intro q hq
   have h0:(List.range ops.size).countP (fun i=> !xB listed i)=0:=by omega
   have:=List.countP_eq_zero.1 h0 q (by simpa using hq)
   simpa using this
  refine⟨?_,hQ _ a w hall d⟩
  apply List.eq_nil_iff_forall_not_mem.2
  intro i hi
  rw[mem_ready]at hi
  obtain⟨h1,o,h2,_⟩:=hi
  have hin:i<ops.size:=(Array.getElem?_eq_some_iff.1 h2).1
  have:=hall i hin
  unfold xB at this
  have hql:i<listed.size:=by omega
  simp only[Array.getD_eq_getD_getElem?,Array.getElem?_eq_getElem hql,Option.getD_some]at h1 this
  rw[h1]at this; simp at this
 |succ fuel ih=>
  intro listed a w hls hcnt d
  refine⟨fun hr=>hQ _ a w (allListed listed hls hr) d,fun i hi=> ?_⟩
  rw[mem_ready]at hi
  obtain⟨h1,o,h2,h3⟩:=hi
  have hin:i<ops.size:=(Array.getElem?_eq_some_iff.1 h2).1
  have hql:i<listed.size:=by omega
  have hL:xB listed i=false:=by
   unfold xB
   simp only[Array.getD_eq_getD_getElem?,Array.getElem?_eq_getElem hql,Option.getD_some]at h1 ⊢
   exact h1
  refine step _ a w i o _ d h2 hL (fun e he hb=>h3 e (by simpa using he) hb) fun a' w' d'=> ?_
  have hLe:(fun q=>xB listed q||q==i)=xB (listed.setIfInBounds i true):=by
   funext q
   unfold xB
   by_cases e:i=q
   ·subst e
    simp[hql]
   ·rw[getD_set_ne false e]
    have:(q==i)=false:=by simpa using Ne.symm e
    rw[this,Bool.or_false]
  rw[hLe]at d'
  refine ih _ a' w' (by simpa using hls) ?_ d'
  have:=Oj (l:=List.range ops.size) (p:=fun i=> !xB listed i) (q:=fun q=> !xB (listed.setIfInBounds i true) q) (i:=i) ?_ (by simpa using hin) (by simp[hL]) (by rw[←hLe]; simp)
  ·omega
  ·intro x hx
   rw[←hLe]at hx
   simp at hx ⊢
   exact hx.1
theorem LR.drew(l:LR M H L ML w):LR M H L ML w.drew:=
 ⟨l.len,fun i e n cs hi hL=>l.loc i e n cs hi hL,l.sep1,l.sep2⟩
theorem Zm(hE:C.E.Ok C.P){id:Nat}(hS:Iw loc ops=some S)(ho:BG C loc ops S fr L H K0)(h:HR M H w)(l:LR M H L ML w)(f:FS M ML fr a.tmps)
  (hQ:∀fr' L' H' M' ML' a' w',K0 fr' L' H'->Behind M H L ML w fr a M' H' L' ML' w' fr' a'->Q .normal a' w'):(Code.region id ops true).wpIn (Fw ro) n C.P Q a w:=by
 obtain⟨A,T,pos,g⟩:=abo hS
 refine wpIn_region_any hE.ord ?_
 have hL0:∀q,xB (Array.replicate ops.size false) q=false:=by
  intro q
  unfold xB
  rcases Nat.lt_or_ge q ops.size with hq|hq
  ·simp[hq]
  ·simp[hq]
 refine abp (I:=JJ C loc ops A T pos S K0 M H L ML w fr a) g.back (fun lst a' w' i o K jj hi hl he hK=>jj.step g hE hi hl he hK) (fun lst a' w' hall jj=> ?_) ops.size _ a _ (by simp) ?_ ?_
 ·obtain⟨p,fr',L',H',M',ML',idf,j⟩:=jj
  have hp:p=ops.size:=by
   rcases Nat.lt_or_ge p ops.size with h|h
   ·obtain⟨i,o,hi,hpi⟩:=g.inv p h
    have:=j.t2 i o hi (hall i (rV hi))
    omega
   ·have:=j.le; omega
  subst hp
  have hrun:=j.run
  rw[List.drop_of_length_le (by rw[g.slen]; exact Nat.le_refl _)]at hrun
  exact hQ fr' L' H' M' ML' a' w' hrun ⟨j.st,j.lr,⟨j.size,fun t s hs=>j.slots t s hs fun i o hi _ _=>hall i (rV hi)⟩,j.rel,j.suf,j.mlx,.of_eq j.defers⟩
 ·have:=List.countP_le_length (p:=fun i=> !xB (Array.replicate ops.size false) i) (l:=List.range ops.size)
  simpa using this
 ·refine⟨0,fr,L,H,M,ML,fun _=>0,Nat.zero_le _,fun i o hi _=> ?_,fun i o hi hl=> ?_,fun i q hi=> ?_,ho,(Stp.drew h).WW ML,.refl L,.refl fr,⟨[],by simp⟩,rfl,f.size,fun t s hs _=>f.get t s hs,l.drew,fun i o hi hlt=>by omega,fun i i' o o' t t' hi hi' h1=>by omega⟩
  ·rw[hL0]; simp
  ·rw[hL0]at hl; simp at hl
  ·rw[hL0]at hi; simp at hi
theorem Zn(hE:C.E.Ok C.P){id:Nat}{draw:Bool}(ho:abk C loc ops draw fr L H K0)(h:HR M H w)(l:LR M H L ML w)(f:FS M ML fr a.tmps)
  (hQ:∀fr' L' H' M' ML' a' w',K0 fr' L' H'->Behind M H L ML w fr a M' H' L' ML' w' fr' a'->Q .normal a' w'):(Code.region id ops draw).wpIn (Fw ro) n C.P Q a w:=by
 unfold abk at ho
 cases draw with
 |false=>simp at ho; exact abn hE ho h l f hQ
 |true=>
  simp only[if_true]at ho
  split at ho
  ·rename_i S hS; exact Zm hE hS ho h l f hQ
  ·exact ho.elim
end
end Go.Proofs.YtijnknjopjmiiaaGreatDoor.Zq
end
section
namespace Go.Proofs.YtijnknjopjmiiaaGreatDoor.Zq
variable{C:kL}{M M':Mp}{H H':Heap}{w w':World}{L L':Loc}{ML ML':Ml}{fr fr':fK}{a a':Act}{ro:Option Nat}{n:Nat}{loc:List Nat}
theorem EZ:∀{sl:List (Nat×Tag)} {x:vU sl} {l:List (Nat×Option Sv)} {t:Nat} {s:Sv},Jl fr' sl=some x->aW (ql sl x l) t=some s->aW fr'.l t=some s∨((∀p∈sl,p.1≠t)∧aW l t=some s)
 |[],x,l,t,s,_,h=>.inr ⟨fun p hp=>by simp at hp,h⟩
 |(d,T)::r,x,l,t,s,hg,h=>by
  simp only[Jl]at hg
  split at hg
  ·rename_i v hv
   split at hg
   ·rename_i y z h1 h2
    have hg:=Option.some.inj hg
    subst hg
    simp only[ql,aW]at h
    split at h
    ·rename_i e; subst e
     simp at h; subst h
     left
     rw[hv]
     have:v=T.enc y:=by
      unfold Tag.dec at h1
      unfold Tag.enc Pm
      split at h1
      ·rename_i cs
       split at h1
       ·rename_i ha; rw[if_pos ha,←T.ok _ _ h1]
       ·simp at h1
      ·simp at h1
      ·split at h1
       ·simp at h1
       ·rename_i ha; rw[if_neg ha,←T.ok _ _ h1]
     rw[this]
    ·rename_i e
     rcases EZ (x:=z) h2 h with h|⟨h3,h4⟩
     ·exact .inl h
     ·exact .inr ⟨fun p hp=>(List.mem_cons.1 hp).elim (fun h=>by subst h; exact e) (h3 p),h4⟩
   ·cases hg
  ·cases hg
theorem gG:∀{lo:List (Nat×Tag)} {x:vU lo},(mJ lo x L).length=L.length
 |[],_=>rfl
 |(i,T)::r,x=>by
  simp only[mJ]
  split
  ·simp[gG (lo:=r)]
  ·exact gG (lo:=r)
theorem uV:∀{lo:List (Nat×Tag)} {x:vU lo} {i n m q:Nat} {cs cs' ds:List Value},yw L' lo=some x->L[i]? =some (n,cs)->L'[i]? =some (m,cs')->(mJ lo x L)[i]? =some (q,ds)→
  ((∃p∈lo,p.1=i)∧ds=cs'∧q=n+1)∨((∀p∈lo,p.1≠i)∧ds=cs∧q=n)
 |[],x,i,n,m,q,cs,cs',ds,_,h1,_,h3=>by
  simp only[mJ]at h3
  rw[h1]at h3; simp at h3
  exact .inr ⟨fun p hp=>by simp at hp,h3.2.symm,h3.1.symm⟩
 |(j,T)::r,x,i,n,m,q,cs,cs',ds,hg,h1,h2,h3=>by
  simp only[yw]at hg
  split at hg
  ·rename_i mm cc hc
   split at hg
   ·rename_i y z g1 g2
    have hg:=Option.some.inj hg
    subst hg
    simp only[mJ]at h3
    by_cases e:j=i
    ·subst e
     rw[h1]at h3
     simp only at h3
     rw[List.getElem?_set_self (by rw[gG]; exact(List.getElem?_eq_some_iff.1 h1).1)]at h3
     rw[h2]at hc; simp at hc; obtain⟨_,rfl⟩:=hc
     simp at h3
     exact .inl ⟨⟨(j,T),by simp,rfl⟩,by rw[←h3.2]; exact(T.ok _ _ g1).symm,h3.1.symm⟩
    ·have h3':(mJ r z L)[i]? =some (q,ds):=by
      split at h3
      ·rw[List.getElem?_set_ne e]at h3; exact h3
      ·exact h3
     rcases uV g2 h1 h2 h3' with⟨⟨p,hp,hpi⟩,h4⟩|⟨h4,h5⟩
     ·exact .inl ⟨⟨p,by simp[hp],hpi⟩,h4⟩
     ·exact .inr ⟨fun p hp=>(List.mem_cons.1 hp).elim (fun h=>by subst h; exact e) (h4 p),h5⟩
   ·cases hg
  ·cases hg
theorem SN:∀{lo:List (Nat×Tag)} {i:Nat} {L L':Loc},RX lo i L L'=true->L.length≤L'.length∧∀(k n m:Nat) (cs cs':List Value),L[k]? =some (n,cs)->L'[k]? =some (m,cs')->n=m∨∃p∈lo,p.1=i+k
 |lo,i,[],L',_=>⟨by simp,fun k n m cs cs' h=>by simp at h⟩
 |lo,i,x::r,[],h=>by simp[RX]at h
 |lo,i,(n,cs)::r,(m,cs')::r',h=>by
  simp only[RX,Bool.and_eq_true,Bool.or_eq_true,beq_iff_eq,List.any_eq_true]at h
  obtain⟨h1,h2⟩:=SN h.2
  refine⟨by simpa using h1,fun k p q ds ds' g1 g2=> ?_⟩
  cases k with
  |zero=>
   simp at g1 g2
   rcases h.1 with h|⟨p,hp,he⟩
   ·exact .inl (by omega)
   ·exact .inr ⟨p,hp,by omega⟩
  |succ k=>
   rcases h2 k p q ds ds' (by simpa using g1) (by simpa using g2)with h|⟨p,hp,he⟩
   ·exact .inl h
   ·exact .inr ⟨p,hp,by omega⟩
theorem Ju:∀{x l:List (Nat×Option Sv)} {t:Nat},(∀p∈x,p.1≠t)->aW (x++l) t=aW l t
 |[],l,t,_=>rfl
 |(i,v)::r,l,t,h=>by
  simp only[List.cons_append,aW]
  rw[if_neg (h (i,v) (by simp)),Ju (fun p hp=>h p (by simp[hp]))]
theorem uX:∀{c:List Nat} {l:List (Nat×Option Sv)} {t:Nat} {s:Sv},aW (c.map (fun t=>(t,none))++l) t=some s->t∉c∧aW l t=some s
 |[],l,t,s,h=>⟨by simp,h⟩
 |i::r,l,t,s,h=>by
  simp only[List.map_cons,List.cons_append,aW]at h
  split at h
  ·simp at h
  ·rename_i e
   obtain⟨h1,h2⟩:=uX h
   exact⟨by simp[h1,Ne.symm e],h2⟩
theorem yC:∀{sl:List (Nat×Tag)} {x:vU sl} {l:List (Nat×Option Sv)} {t:Nat} {s:Sv},((∃i off,s= .lp i off)∨∃i m,s= .ls i m)->(∃q∈sl,q.1=t)->¬aW (ql sl x l) t=some s
 |[],_,_,_,_,_,⟨q,hq,_⟩=>by simp at hq
 |(d,T)::r,x,l,t,s,hs,⟨q,hq,he⟩=>by
  simp only[ql,aW]
  split
  ·rename_i e
   rcases hs with⟨i,off,rfl⟩|⟨i,m,rfl⟩<;>simp
  ·rename_i e
   refine yC hs ⟨q,?_,he⟩
   rcases List.mem_cons.1 hq with rfl|hq
   ·exact absurd he e
   ·exact hq
theorem vX:∀{sl:List (Nat×Tag)} {x:vU sl} {l:List (Nat×Option Sv)} {t:Nat} {s:Sv},(∀p∈sl,p.1≠t)->aW (ql sl x l) t=some s->aW l t=some s
 |[],_,_,_,_,_,h=>h
 |(d,T)::r,x,l,t,s,hn,h=>by
  simp only[ql,aW]at h
  rw[if_neg (hn (d,T) (by simp))]at h
  exact vX (fun p hp=>hn p (by simp[hp])) h
theorem E5:∀(sl:List (Nat×Tag)) (x:vU sl) (clr:List Nat) (l:List (Nat×Option Sv)),∃news,ql sl x (clr.map (fun t=>(t,none))++l)=news++l
 |[],_,clr,l=>⟨_,rfl⟩
 |(d,T)::r,x,clr,l=>by
  obtain⟨news,h⟩:=E5 r x.2 clr l
  exact⟨(d,some (.v (T.enc x.1)))::news,by simp only[ql,h,List.cons_append]⟩
theorem yx.less{N:Ml}{s:Sv}{u u0:Value}(h0:yx M ML s u0)(h:yx M' (ML++N) s u):yx M' ML s u:=by
 cases s with
 |v v=>exact h
 |lp i off=>
  obtain⟨e,h1,h2⟩:=h
  obtain⟨e0,h3,_⟩:=h0
  have:=(List.getElem?_eq_some_iff.1 h3).1
  exact⟨e,by rw[List.getElem?_append_left this]at h1; exact h1,h2⟩
 |ls i m=>
  obtain⟨e,h1,h2⟩:=h
  obtain⟨e0,h3,_⟩:=h0
  have:=(List.getElem?_eq_some_iff.1 h3).1
  exact⟨e,by rw[List.getElem?_append_left this]at h1; exact h1,h2⟩
theorem Jv{J:Jn}{k:J.S->Prop}(h:Jm J fr fr' L L' k):∃x:J.S,J.ok fr fr' L L'=true∧Jl fr' J.sl=some x.1∧yw L' J.lo=some x.2∧k x:=by
 unfold Jm at h
 split at h
 ·rename_i hok
  split at h
  ·rename_i y z h1 h2; exact⟨(y,z),hok,h1,h2,h⟩
  ·exact h.elim
 ·exact h.elim
theorem Pv{J:Jn}{x:J.S}(f:FS M ML fr a.tmps)(l:LR M H L ML w)(b:Behind M H L ML w fr a M' H' L' ML' w' fr' a')(hok:J.ok fr fr' L L'=true)(h1:Jl fr' J.sl=some x.1)(h2:yw L' J.lo=some x.2):
  Behind M H L ML w fr a M' H' (J.loc L x) ML w' (J.fr fr x) a':=by
 unfold Jn.ok at hok
 simp only[Bool.and_eq_true]at hok
 obtain⟨⟨hk1,hk2⟩,hk3⟩:=hok
 obtain⟨hn,news,hnews⟩:=b.suf
 obtain⟨N,hN⟩:=b.mlx
 obtain⟨kl1,kl2⟩:=SN hk2
 have hnw:fr'.l.take (fr'.l.length-fr.l.length)=news:=by rw[hnews]; simp
 rw[hnw]at hk1
 have hdst:∀p∈news,(∃q∈J.sl,q.1=p.1)∨p.1∈J.clr:=fun p hp=>by
  have:=List.all_eq_true.1 hk1 p hp
  simpa using this
 have lre:∀i:Nat,i<L.length->∃n cs m cs' q ds,L[i]? =some (n,cs)∧L'[i]? =some (m,cs')∧(J.loc L x)[i]? =some (q,ds)∧ds=cs'∧n≤q∧(q=n->cs'=cs):=fun i hi=>by
  have hi2:i<L'.length:=by omega
  have hi3:i<(J.loc L x).length:=by unfold Jn.loc; rw[gG]; exact hi
  obtain⟨⟨n0,cs0⟩,e1⟩:∃p,L[i]? =some p:=⟨_,List.getElem?_eq_getElem hi⟩
  obtain⟨⟨m0,cs0'⟩,e2⟩:∃p,L'[i]? =some p:=⟨_,List.getElem?_eq_getElem hi2⟩
  obtain⟨⟨q,ds⟩,e3⟩:∃p,(J.loc L x)[i]? =some p:=⟨_,List.getElem?_eq_getElem hi3⟩
  refine⟨_,_,_,_,_,_,e1,e2,e3,?_⟩
  obtain⟨r1,r2⟩:=b.rel.2 i _ _ _ _ e1 e2
  rcases uV h2 e1 e2 e3 with⟨_,g2,g3⟩|⟨g1,g2,g3⟩
  ·exact⟨g2,by omega,fun e=>by omega⟩
  ·have hv:n0=m0:=by
    rcases kl2 i _ _ _ _ e1 e2 with h|⟨p,hp,he⟩
    ·exact h
    ·exact absurd (by omega) (g1 p hp)
   have:=r2 hv.symm
   exact⟨by rw[g2,this],by omega,fun _=>this⟩
 refine⟨⟨b.st.st,fun i e hi=>b.st.mx i e (by rw[hN,List.getElem?_append_left (List.getElem?_eq_some_iff.1 hi).1]; exact hi)⟩,⟨?_,fun i e m cs hi hL=> ?_,fun i j e e' hne hi hj=> ?_,fun i e hi=> ?_⟩,⟨by rw[b.fs.size]; exact hn,fun t s hs=> ?_⟩,⟨?_,fun i n cs m cs' hL hL'=> ?_⟩,⟨rfl,?_⟩,⟨[],by simp⟩,b.defers⟩
 ·unfold Jn.loc; rw[gG]; exact l.len
 ·have hiL:i<L.length:=by rw[←l.len]; exact(List.getElem?_eq_some_iff.1 hi).1
  obtain⟨n0,cs0,m0,cs0',q,ds,a1,a2,a3,a4,_,_⟩:=lre i hiL
  rw[hL]at a3; simp at a3
  obtain⟨_,rfl⟩:=a3
  subst a4
  exact b.lr.loc i e m0 _ (by rw[hN,List.getElem?_append_left (List.getElem?_eq_some_iff.1 hi).1]; exact hi) a2
 ·exact b.lr.sep1 i j e e' hne (by rw[hN,List.getElem?_append_left (List.getElem?_eq_some_iff.1 hi).1]; exact hi) (by rw[hN,List.getElem?_append_left (List.getElem?_eq_some_iff.1 hj).1]; exact hj)
 ·exact b.lr.sep2 i e (by rw[hN,List.getElem?_append_left (List.getElem?_eq_some_iff.1 hi).1]; exact hi)
 ·unfold Jn.fr at hs
  have key:∀s,aW fr'.l t=some s->(∃u0,yx M ML s u0)->yx M' ML s (a'.tmps.getD t undef):=fun s hc ⟨u0,h0⟩=>by
   have:=b.fs.get t s hc
   rw[hN]at this
   exact h0.less this
  rcases EZ h1 hs with h|⟨h,h'⟩
  ·
   cases s with
   |v v=>exact b.fs.get t _ h
   |lp i off=>
    rcases Classical.em (∃q∈J.sl,q.1=t)with hq|hq
    ·exact absurd hs (yC (.inl ⟨i,off,rfl⟩) hq)
    ·have h':=vX (fun p hp e=>hq ⟨p,hp,e⟩) hs
     obtain⟨g1,g2⟩:=uX h'
     exact key _ h ⟨_,f.get t _ g2⟩
   |ls i m=>
    rcases Classical.em (∃q∈J.sl,q.1=t)with hq|hq
    ·exact absurd hs (yC (.inr ⟨i,m,rfl⟩) hq)
    ·have h':=vX (fun p hp e=>hq ⟨p,hp,e⟩) hs
     obtain⟨g1,g2⟩:=uX h'
     exact key _ h ⟨_,f.get t _ g2⟩
  ·obtain⟨g1,g2⟩:=uX h'
   have hc:aW fr'.l t=some s:=by
    rw[hnews,Ju fun p hp e=> ?_]
    ·exact g2
    ·rcases hdst p hp with⟨q,hq,he⟩|hc
     ·exact h q hq (he.trans e)
     ·exact g1 (e▸hc)
   exact key s hc ⟨_,f.get t s g2⟩
 ·unfold Jn.loc; rw[gG]; exact Nat.le_refl _
 ·have hi:=(List.getElem?_eq_some_iff.1 hL).1
  obtain⟨n0,cs0,m0,cs0',q,ds,a1,a2,a3,a4,a5,a6⟩:=lre i hi
  rw[hL]at a1; simp at a1; obtain⟨rfl,rfl⟩:=a1
  rw[hL']at a3; simp at a3; obtain⟨rfl,rfl⟩:=a3
  exact⟨a5,fun e=>by rw[a4]; exact a6 e⟩
 ·exact E5 J.sl x.1 J.clr fr.l
end Go.Proofs.YtijnknjopjmiiaaGreatDoor.Zq
end
section
namespace Go.Proofs.YtijnknjopjmiiaaGreatDoor.Zq
variable{C:kL}{M M':Mp}{H H':Heap}{w w':World}{L L':Loc}{ML ML':Ml}{fr fr':fK}{a a':Act}{ro:Option Nat}{n:Nat}{loc:List Nat}
def Goes(C:kL)(ro:Option Nat)(c:Code)(fr:fK)(L:Loc)(H:Heap)(K:CK):Prop:=
 ∀(n:Nat) (M:Mp) (ML:Ml) (a:Act) (w:World),HR M H w->LR M H L ML w->FS M ML fr a.tmps→
  c.wpIn (Fw ro) n C.P (fun x a' w'=>∃e fr' L' H' M' ML',K e fr' L' H'∧ExR e x∧Behind M H L ML w fr a M' H' L' ML' w' fr' a') a w
theorem Goes.mono{c:Code}{K K':CK}(h:Goes C ro c fr L H K)(hk:∀e fr' L' H',K e fr' L' H'->K' e fr' L' H'):Goes C ro c fr L H K':=
 fun n M ML a w h1 h2 h3=>wpIn_mono (h n M ML a w h1 h2 h3) fun _ _ _ ⟨e,fr',L',H',M',ML',q1,q2⟩=>⟨e,fr',L',H',M',ML',hk _ _ _ _ q1,q2⟩
theorem LR.same{L2:Loc}(l:LR M H L ML w)(hl:L2.length=L.length)(hc:∀(i n m:Nat) (cs cs':List Value),L[i]? =some (n,cs)->L2[i]? =some (m,cs')->cs'=cs):LR M H L2 ML w:=by
 refine⟨by rw[hl]; exact l.len,fun i e m cs hi hL=> ?_,l.sep1,l.sep2⟩
 have hi':i<L.length:=by rw[←l.len]; exact(List.getElem?_eq_some_iff.1 hi).1
 obtain⟨⟨n0,cs0⟩,e1⟩:∃p,L[i]? =some p:=⟨_,List.getElem?_eq_getElem hi'⟩
 have:=hc i n0 m cs0 cs e1 hL
 subst this
 exact l.loc i e n0 _ hi e1
theorem FS.same{fr2:fK}(f:FS M ML fr a.tmps)(hn:fr2.n=fr.n)(hc:∀t s,aW fr2.l t=some s->aW fr.l t=some s):FS M ML fr2 a.tmps:=
 ⟨by rw[hn]; exact f.size,fun t s h=>f.get t s (hc t s h)⟩
theorem qp:∀{lo:List (Nat×Tag)} {x:vU lo} {L:Loc} {i:Nat},(∀p∈lo,p.1≠i)->(mJ lo x L)[i]? =L[i]?
 |[],_,_,_,_=>rfl
 |(j,T)::r,x,L,i,hn=>by
  have ih:=qp (lo:=r) (x:=x.2) (L:=L) (i:=i) fun p hp=>hn p (by simp[hp])
  simp only[mJ]
  split
  ·rw[List.getElem?_set_ne (hn (j,T) (by simp))]; exact ih
  ·exact ih
theorem Ox:∀{lo:List (Nat×Tag)} {x:vU lo} {L:Loc} {i n m:Nat} {cs cs':List Value},L[i]? =some (n,cs)->(mJ lo x L)[i]? =some (m,cs')->(∃p∈lo,p.1=i)->m=n+1
 |[],_,_,_,_,_,_,_,_,_,⟨p,hp,_⟩=>by simp at hp
 |(j,T)::r,x,L,i,n,m,cs,cs',h1,h2,⟨p,hp,he⟩=>by
  simp only[mJ]at h2
  by_cases e:j=i
  ·subst e
   rw[h1]at h2
   simp only at h2
   rw[List.getElem?_set_self (by rw[gG]; exact(List.getElem?_eq_some_iff.1 h1).1)]at h2
   simp at h2; exact h2.1.symm
  ·have h2':(mJ r x.2 L)[i]? =some (m,cs'):=by
    split at h2
    ·rw[List.getElem?_set_ne e]at h2; exact h2
    ·exact h2
   refine Ox h1 h2' ⟨p,?_,he⟩
   rcases List.mem_cons.1 hp with rfl|hp
   ·exact absurd he e
   ·exact hp
theorem SQ:∀{lo:List (Nat×Tag)} {x:vU lo} {L:Loc},yw L lo=some x->∀p∈lo,p.1<L.length
 |[],_,_,_,p,hp=>by simp at hp
 |(j,T)::r,x,L,h,p,hp=>by
  simp only[yw]at h
  split at h
  ·rename_i m cs hc
   split at h
   ·rename_i y z g1 g2
    rcases List.mem_cons.1 hp with rfl|hp
    ·exact(List.getElem?_eq_some_iff.1 hc).1
    ·exact SQ g2 p hp
   ·cases h
  ·cases h
theorem BJ:∀{sl:List (Nat×Tag)} {x:vU sl} {l:List (Nat×Option Sv)} {t:Nat},(∀p∈sl,p.1≠t)->aW (ql sl x l) t=aW l t
 |[],_,_,_,_=>rfl
 |(d,T)::r,x,l,t,hn=>by
  simp only[ql,aW]
  rw[if_neg (hn (d,T) (by simp)),BJ (fun p hp=>hn p (by simp[hp]))]
theorem SS:∀{sl:List (Nat×Tag)} {x:vU sl} {l l':List (Nat×Option Sv)} {t:Nat} {s:Sv},(∃p∈sl,p.1=t)->aW (ql sl x l) t=some s->aW (ql sl x l') t=some s
 |[],_,_,_,_,_,⟨p,hp,_⟩,_=>by simp at hp
 |(d,T)::r,x,l,l',t,s,⟨p,hp,he⟩,h=>by
  simp only[ql,aW]at h ⊢
  by_cases e:d=t
  ·rw[if_pos e]at h ⊢; exact h
  ·rw[if_neg e]at h ⊢
   refine SS ⟨p,?_,he⟩ h
   rcases List.mem_cons.1 hp with rfl|hp
   ·exact absurd he e
   ·exact hp
theorem Vp:∀{lo:List (Nat×Tag)} {x y:vU lo} {L:Loc} {i n m:Nat} {cs cs':List Value},(mJ lo x (mJ lo y L))[i]? =some (n,cs)->(mJ lo x L)[i]? =some (m,cs')->(∃L2:Loc,yw L2 lo=some x)->cs'=cs:=by
 intro lo x y L i n m cs cs' h1 h2 ⟨L2,h3⟩
 have hi:i<L.length:=by have:=(List.getElem?_eq_some_iff.1 h2).1; rw[gG]at this; exact this
 have hb:∀p∈lo,p.1<L2.length:=SQ h3
 rcases Classical.em (∃p∈lo,p.1=i)with hq|hq
 ·obtain⟨p,hp,he⟩:=hq
  have hi2:i<L2.length:=by rw[←he]; exact hb p hp
  obtain⟨⟨a,ds⟩,e1⟩:∃q,L2[i]? =some q:=⟨_,List.getElem?_eq_getElem hi2⟩
  obtain⟨⟨a1,ds1⟩,e2⟩:∃q,L[i]? =some q:=⟨_,List.getElem?_eq_getElem hi⟩
  obtain⟨⟨a2,ds2⟩,e3⟩:∃q,(mJ lo y L)[i]? =some q:=⟨_,List.getElem?_eq_getElem (by rw[gG]; exact hi)⟩
  rcases uV h3 e2 e1 h2 with⟨_,g,_⟩|⟨g,_⟩
  ·rcases uV h3 e3 e1 h1 with⟨_,g',_⟩|⟨g',_⟩
   ·rw[g,g']
   ·exact absurd he (g' p hp)
  ·exact absurd he (g p hp)
 ·have hn:∀p∈lo,p.1≠i:=fun p hp e=>hq ⟨p,hp,e⟩
  rw[qp hn,qp hn]at h1
  rw[qp hn]at h2
  rw[h1]at h2; simp at h2; exact h2.2.symm
theorem Zo{J:Jn}{s s':J.S}(h:yw L' J.lo=some s'.2):∀(i n m:Nat) (cs cs':List Value),(J.loc (J.loc L s) s')[i]? =some (n,cs)->(J.loc L s')[i]? =some (m,cs')->cs'=cs:=
 fun _ _ _ _ _ h1 h2=>Vp h1 h2 ⟨L',h⟩
theorem Zp{J:Jn}(s:J.S):yA L (J.loc L s):=by
 refine⟨by unfold Jn.loc; rw[gG]; exact Nat.le_refl _,fun i n cs m cs' h1 h2=> ?_⟩
 unfold Jn.loc at h2
 rcases Classical.em (∃p∈J.lo,p.1=i)with hq|hq
 ·have:=Ox h1 h2 hq
  exact⟨by omega,fun e=>by omega⟩
 ·rw[qp (fun p hp e=>hq ⟨p,hp,e⟩),h1]at h2
  simp at h2; exact⟨by omega,fun _=>h2.2.symm⟩
theorem abq{J:Jn}{s s':J.S}:∀t v,aW (J.fr fr s').l t=some v->aW (J.fr (J.fr fr s) s').l t=some v:=by
 intro t v h
 unfold Jn.fr at h ⊢
 simp only at h ⊢
 rcases Classical.em (∃p∈J.sl,p.1=t)with hq|hq
 ·exact SS hq h
 ·have hn:∀p∈J.sl,p.1≠t:=fun p hp e=>hq ⟨p,hp,e⟩
  have h1:=vX hn h
  rw[BJ hn]
  obtain⟨g1,g2⟩:=uX h1
  rw[Ju fun p hp e=> ?_,BJ hn]
  ·exact h1
  ·simp at hp; obtain⟨c,hc,rfl⟩:=hp; exact g1 (e▸hc)
theorem acV{J:Jn}{j:J.S->Heap->Prop}{K:CK}{e:Ex}(h:jK J fr L j K e fr' L' H'):(e= .normal∧Jm J fr fr' L L' fun x=>j x H')∨(e≠ .normal∧K e fr' L' H'):=by
 unfold jK at h
 cases e with
 |normal=>exact .inl ⟨rfl,h⟩
 |exit i=>exact .inr ⟨by simp,h⟩
 |ret=>exact .inr ⟨by simp,h⟩
theorem Oy{c:Code}{J:Jn}{B:J.S->Heap->Prop}{K:CK}(h:Goes C ro c fr L H (jK J fr L B K))(hB:∀x H',B x H'->K .normal (J.fr fr x) (J.loc L x) H'):Goes C ro c fr L H K:=by
 intro n M ML a w h1 h2 h3
 refine wpIn_mono (h n M ML a w h1 h2 h3) ?_
 rintro x a' w' ⟨e,fr',L',H',M',ML',q1,q2,q3⟩
 rcases acV q1 with⟨rfl,hj⟩|⟨hne,hk⟩
 ·obtain⟨y,g1,g2,g3,g4⟩:=Jv hj
  exact⟨.normal,_,_,H',M',ML,hB y H' g4,q2,Pv h3 h2 q3 g1 g2 g3⟩
 ·exact⟨e,fr',L',H',M',ML',hk,q2,q3⟩
theorem Jw{tmps:Array Value}{m:Nat}:∀{l:List (Nat×Option Sv)} {l':List (Nat×Option Value)},qm l=some l'->∀t v,look l' t=some v->aW l t=some (.v v)
 |[],l',h,t,v,hv=>by simp[qm]at h; subst h; simp[look]at hv
 |(i,none)::r,l',h,t,v,hv=>by
  simp only[qm]at h
  split at h
  ·rename_i q hq
   simp at h; subst h
   simp only[look]at hv
   simp only[aW]
   split at hv
   ·simp at hv
   ·rename_i hi; rw[if_neg hi]; exact Jw (tmps:=tmps) (m:=m) hq t v hv
  ·simp at h
 |(i,some (.v x))::r,l',h,t,v,hv=>by
  simp only[qm]at h
  split at h
  ·rename_i q hq
   simp at h; subst h
   simp only[look]at hv
   simp only[aW]
   split at hv
   ·rename_i hi; rw[if_pos hi]; simp at hv; rw[hv]
   ·rename_i hi; rw[if_neg hi]; exact Jw (tmps:=tmps) (m:=m) hq t v hv
  ·simp at h
 |(i,some (.lp _ _))::r,l',h,t,v,hv=>by simp[qm]at h
 |(i,some (.ls _ _))::r,l',h,t,v,hv=>by simp[qm]at h
theorem E8:∀{l:List (Nat×Option Sv)} {l':List (Nat×Option Value)},qm l=some l'->∀t s,aW l t=some s->∃v,s= .v v∧look l' t=some v
 |[],l',h,t,s,hs=>by simp[aW]at hs
 |(i,none)::r,l',h,t,s,hs=>by
  simp only[qm]at h
  split at h
  ·rename_i q hq
   simp at h; subst h
   simp only[aW]at hs
   simp only[look]
   split at hs
   ·simp at hs
   ·rename_i hi; rw[if_neg hi]; exact E8 hq t s hs
  ·simp at h
 |(i,some (.v x))::r,l',h,t,s,hs=>by
  simp only[qm]at h
  split at h
  ·rename_i q hq
   simp at h; subst h
   simp only[aW]at hs
   simp only[look]
   split at hs
   ·rename_i hi; rw[if_pos hi]; simp at hs; exact⟨x,hs.symm,rfl⟩
   ·rename_i hi; rw[if_neg hi]; exact E8 hq t s hs
  ·simp at h
 |(i,some (.lp _ _))::r,l',h,t,s,hs=>by simp[qm]at h
 |(i,some (.ls _ _))::r,l',h,t,s,hs=>by simp[qm]at h
theorem SV:∀{sl:List (Nat×Tag)} {x:Tup (sl.map (·.2))} {args':List Value} {l:List (Nat×Option Sv)} {k:Nat} {tmps:Array Value},(∀p∈sl,p.1<k)->FS M [] ⟨k,l⟩ tmps->VL M (encs (sl.map (·.2)) x) args'→
  args'.length=sl.length∧FS M [] ⟨k,RY sl x l⟩ (((sl.map (·.1)).zip args').foldl (fun tmps x=>tmps.setIfInBounds x.1 x.2) tmps)
 |[],x,args',l,k,tmps,_,hf,hv=>by
  have:=hv.of_nil; subst this
  exact⟨rfl,hf⟩
 |(t,T)::r,x,args',l,k,tmps,hk,hf,hv=>by
  obtain⟨u,us,rfl,hu,ht⟩:=hv.of_cons
  have hf2:FS M [] ⟨k,(t,some (.v (T.enc x.1)))::l⟩ (tmps.setIfInBounds t u):=hf.put (d:=t) (hk (t,T) (by simp)) (s:=.v (T.enc x.1)) hu
  obtain⟨g1,g2⟩:=SV (sl:=r) (x:=x.2) (fun p hp=>hk p (by simp[hp])) hf2 ht
  exact⟨by simp[g1],g2⟩
theorem abr{es:List Ex}{e:Ex}{K:Ex->Prop}(h:RFX es e K):K e:=by
 induction es with
 |nil=>exact h.elim
 |cons x r ih=>rcases h with⟨rfl,h⟩|h; exact h; exact ih h
theorem LR.empty{w:World}:LR M H [] [] w:=⟨rfl,fun i e m cs hi=>by simp at hi,fun i j e e' _ hi=>by simp at hi,fun i e hi=>by simp at hi⟩
theorem Zr{asg body:Code}{h:dL}{J:Jn}{l:Nat}{k:Nat}{fl:List (Nat×Option Value)}{fs:List (Nat×Option Sv)}{hb:Hint}{x:Tup (J.sl.map (·.2))}{H1:Heap}{kk:Value->Heap->Prop}
  (iha:∀(ro:Option Nat) (h:dL) (fr:fK) (L:Loc) (H:Heap) (K:CK),comp C loc asg h fr L H K->Goes C ro asg fr L H K)
  (ihb:∀(ro:Option Nat) (h:dL) (fr:fK) (L:Loc) (H:Heap) (K:CK),comp C loc body h fr L H K->Goes C ro body fr L H K)
  (hk:∀p∈J.sl,p.1<k)
  (lb:LoopState->Option Ex->gI) (hlb:lb=fun st pend=>.loop st pend ⟨k,fl⟩ (J.sl.map (·.1)) asg body hb)
  (fsr:∀t s,aW fs t=some s->∃v,s= .v v∧look fl t=some v)
  (hc:H1[l]? =some (lb .ready none)∧comp C loc asg .leaf ⟨k,RY J.sl x fs⟩ [] H1 fun e fr2 L2 H2=>match e with
   | .normal=>vT (H2[l]? =some (lb .ready none)) (comp C loc body h fr2 L2 (H2.set l (lb .busy none)) fun e _ _ H3=>RK lb l kk e H3)
   |_=>False):EVY C.P l (encs (J.sl.map (·.2)) x) H1 kk:=by
 subst hlb
 obtain⟨hl1,hc⟩:=hc
 intro n M w args' en hr hva hen
 obtain⟨L,b1,b2,b3,b4,b5,b6,b7⟩:=hr.blk _ _ _ hen hl1
 have f0:FS M [] ⟨k,fs⟩ L.tmps:=⟨b4.size,fun t s hs=>by
  obtain⟨v,rfl,hv⟩:=fsr t s hs
  exact b4.get t v hv⟩
 obtain⟨p1,p2⟩:=SV hk f0 hva
 refine⟨L,b1,by rw[p1]; have:=congrArg List.length b5; simpa using this.symm,?_⟩
 have hfold:(L.params.zip args'.toArray).foldl (fun tmps (t,a)=>tmps.setIfInBounds t a) L.tmps=((J.sl.map (·.1)).zip args').foldl (fun tmps x=>tmps.setIfInBounds x.1 x.2) L.tmps:=by
  rw[←Array.foldl_toList,Array.toList_zip,b5]
 rw[hfold,b6,b7]
 refine roundIn_of_wpIn (F:=Fence.wide) trivial (wpIn_mono (iha (some en.blk) _ _ _ _ _ hc n M [] _ w hr .empty p2) ?_)
 rintro x1 a1 w1 ⟨e1,fr2,L2,H2,M1,ML1,q1,r1,q3⟩
 cases e1 with
 |exit i=>exact q1.elim
 |ret=>exact q1.elim
 |normal=>
  cases x1<;>first|exact r1.elim|skip
  obtain⟨hl2,hc2⟩:=q1
  have s1:=q3.st.st
  have hen1:=s1.ext _ _ hen
  obtain⟨L1,c1,c2,c3,c4,c5,c6,c7⟩:=s1.hr.blk _ _ _ hen1 hl2
  have hlt1:=(Array.getElem?_eq_some_iff.1 c1).1
  have hH1:l<H2.length:=(List.getElem?_eq_some_iff.1 hl2).1
  have s2:=Stp.vI (k':=.loop .busy none ⟨k,fl⟩ (J.sl.map (·.1)) asg body hb) (o':=.loop { L1 with state:=.busy }) s1.hr hl2 hen1 (by unfold aZ; rw[hl2]; trivial) (by unfold aZ; rw[List.getElem?_set_self hH1]; trivial)
   ⟨{ L1 with state:=.busy },by simp[hlt1],rfl,c3,c4,c5,c6,c7⟩
  refine⟨{ w1 with heap:=w1.heap.setIfInBounds en.blk (.loop { L1 with state:=.busy }) },?_,?_⟩
  ·have hg:=run_getLoop (P:=C.P) c1
   have hs':=rU (P:=C.P) c1
   simp only[Instr.beginRound,Sem.run_bind,hg,Result.andThen_ok,hs',c2,Sem.run_pure]
  ·refine wpIn_mono (ihb (some en.blk) _ _ _ _ _ hc2 n M1 ML1 a1 _ s2.hr (q3.lr.step s2) (q3.fs.step s2.ext)) ?_
   rintro x2 a2 w2 ⟨e2,fr3,L3,H3,M2,ML2,⟨hl3,hk3⟩,t1,t3⟩
   have u3:=t3.st.st
   have hen2:=u3.ext _ _ hen1
   obtain⟨L2',d1,d2,d3,d4,d5,d6,d7⟩:=u3.hr.blk _ _ _ hen2 hl3
   have hlt2:=(Array.getElem?_eq_some_iff.1 d1).1
   have hH2:l<H3.length:=(List.getElem?_eq_some_iff.1 hl3).1
   have s12:Stp M H1 w M2 H3 w2:=((q3.st.trans (s2.WW ML1)).trans t3.st).st.acT fun i e hi=>by simp at hi
   have fin:∀(s:LoopState) (pe:Option Ex) (j:Option Code),YQ pe j->Stp M H1 w M2 (H3.set l (.loop s pe ⟨k,fl⟩ (J.sl.map (·.1)) asg body hb)) { w2 with heap:=w2.heap.setIfInBounds en.blk (.loop { L2' with state:=s,pending:=j }) }:=fun s pe j hp=>
    s12.trans (Stp.vI u3.hr hl3 hen2 (by unfold aZ; rw[hl3]; trivial) (by unfold aZ; rw[List.getElem?_set_self hH2]; trivial)
     ⟨{ L2' with state:=s,pending:=j },by simp[hlt2],rfl,hp,d4,d5,d6,d7⟩)
   have hend:∀j:Option Code,(Instr.endRound en.blk j).run C.P w2= .ok (.bool j.isNone) { w2 with heap:=w2.heap.setIfInBounds en.blk (.loop { L2' with state:=if j.isNone then .ready else .done,pending:=j }) }:=fun j=>by
    have hg:=run_getLoop (P:=C.P) d1
    have hs':=rU (P:=C.P) d1
    simp only[Instr.endRound,Sem.run_bind,hg,Result.andThen_ok,hs',Sem.run_pure]
   cases e2 with
   |normal=>
    cases x2<;>first|exact t1.elim|skip
    exact⟨_,_,hend none,_,_,M2,_,rfl,fin _ none none trivial,.bool _,hk3⟩
   |ret=>
    cases x2<;>first|exact t1.elim|skip
    exact⟨_,_,hend (some .ret),_,_,M2,_,rfl,fin _ (some .ret) (some .ret) trivial,.bool _,hk3⟩
   |exit i=>
    cases x2<;>first|exact t1.elim|skip
    rename_i i2
    have t1:i=i2:=t1
    subst t1
    exact⟨_,_,hend (some (.exit i)),_,_,M2,_,rfl,fin _ (some (.exit i)) (some (.exit i)) rfl,.bool _,hk3⟩
set_option maxHeartbeats 2000000 in
theorem X0{g:Operand}{ps:Array Tmp}{asg body:Code}{h:dL}{J:Jn}{f:FuncId}{xs ys:Array Value}{fl:List (Nat×Option Value)}{K:CK}
  (iha:∀(ro:Option Nat) (h:dL) (fr:fK) (L:Loc) (H:Heap) (K:CK),comp C loc asg h fr L H K->Goes C ro asg fr L H K)
  (ihb:∀(ro:Option Nat) (h:dL) (fr:fK) (L:Loc) (H:Heap) (K:CK),comp C loc body h fr L H K->Goes C ro body fr L H K)
  {es:List Ex} (hj:J.sl.map (·.1)=ps.toList) (h1:mQ fr g=some (.func (.func f) xs ys)) (hfl:qm fr.l=some fl) (hk:∀p∈J.sl,p.1<fr.n)
  (hc:RF C.P (J.sl.map (·.2)) f xs.toList ys.toList H (fun lb x H1 k=>comp C loc asg .leaf ⟨fr.n,RY J.sl x fr.l⟩ [] H1 fun e fr2 L2 H2=>match e with
     | .normal=>vT (H2[H.length]? =some (lb .ready none)) (comp C loc body h fr2 L2 (H2.set H.length (lb .busy none)) fun e _ _ H3=>k e H3)
     |_=>False) fun e H'=>RFX es e fun x=>K x fr [] H') (hr:HR M H w) (hf:FS M [] fr a.tmps):
  (Code.rangeFunc g ps asg body).wpIn (Fw none) n C.P (fun x a' w'=>∃e H' M',K e fr [] H'∧ExR e x∧Stp M H w M' H' w'∧FS M' [] fr a'.tmps∧Marks w w' a.defers a'.defers) a w:=by
 have fsr:∀t s,aW fr.l t=some s->∃v,s= .v v∧look fl t=some v:=E8 hfl
 let lb:LoopState->Option Ex->gI:=fun st pend=>.loop st pend ⟨fr.n,fl⟩ (J.sl.map (·.1)) asg body .leaf
 have hev:=hc lb fun x H1 k hx=>Zr (hb:=.leaf) (k:=fr.n) (fl:=fl) (fs:=fr.l) (J:=J) iha ihb hk lb rfl fsr hx
 refine wpIn_rangeFunc fun fn _=> ?_
 have hfv:=dQ hf h1
 obtain⟨us,ws,hfe,hu,hw⟩:∃us ws,a.eval g= .func (.func f) us ws∧VL M xs.toList us.toList∧VL M ys.toList ws.toList:=by
  generalize hq:a.eval g=q at hfv
  cases hfv with
  |func hx hy gx gy=>
   exact⟨_,_,rfl,⟨by simpa using hx,fun i x u hx hu=>gx i x u (by simpa using hx) (by simpa using hu)⟩,⟨by simpa using hy,fun i x u hx hu=>gy i x u (by simpa using hx) (by simpa using hu)⟩⟩
 have s1:=Stp.hidden hr (.deferred (some []))
 let L0:Loop:={ state:=.ready,pending:=none,fn,tmps:=a.tmps,params:=ps,assign:=asg,body,defers:=w.heap.size }
 let en:jd:=⟨w.heap.size+1,0,false,0,0,0⟩
 have hw1s:(w.alloc (.deferred (some []))).heap.size=w.heap.size+1:=by simp
 have hfr0:FR M ⟨fr.n,fl⟩ a.tmps:=⟨hf.size,fun t v hv=>hf.get t _ (Jw (tmps:=a.tmps) (m:=0) hfl t v hv)⟩
 have s2:=Stp.O5 (o:=.loop L0) (k:=lb .ready none) s1.hr en (by rw[hw1s]) ⟨L0,by
   show((w.alloc (.deferred (some []))).heap.push _)[w.heap.size+1]? =_
   rw[Array.getElem?_push,if_pos (by rw[hw1s])],rfl,trivial,hfr0.mono (Ext.app M [some en]),hj.symm,rfl,rfl⟩
 have s12:=s1.trans s2
 have hdef:((w.alloc (.deferred (some []))).alloc (.loop L0)).heap[w.heap.size]? =some (.deferred (some [])):=by
  show(((w.heap.push _).push _))[w.heap.size]? =_
  rw[Array.getElem?_push,if_neg (by simp),Array.getElem?_push,if_pos rfl]
 obtain⟨⟨fng,q1,q2,q3⟩,q4⟩:=hev
 have hargs:VL (M++[some en]) (xs.toList++[.func (.yield H.length) #[] #[]]++ys.toList) (us.toList++[.func (.yield (w.heap.size+1)) #[] #[]]++ws.toList):=
  ((hu.mono s2.ext).append (.cons (.yield (pV hr en)) (.nil _))).append (hw.mono s2.ext)
 have hcall:=q4 (n-1) (M++[some en]) _ _ s2.hr hargs
 have hbn:fng.body.isNone=false:=by cases hb:fng.body<;>simp_all
 refine⟨w.heap.size+1,[{ target:=.collected w.heap.size,args:= #[] }],(w.alloc (.deferred (some []))).alloc (.loop L0),{ target:=.fn (.func f) ws,args:=us++ #[Value.func (.yield (w.heap.size+1)) #[] #[]] },(w.alloc (.deferred (some []))).alloc (.loop L0),f,(us.toList++[Value.func (.yield (w.heap.size+1)) #[] #[]]++ws.toList).toArray,(w.alloc (.deferred (some []))).alloc (.loop L0),?_,?_,fun _ _=>trivial,?_,by simp[Fw,Fence.wide],(nV hcall).mono ?_⟩
 ·simp only[Instr.enterLoop,Fw,Sem.run_bind,run_newObj,Result.andThen_ok,Sem.run_pure,World.alloc_eq]
  rw[hw1s]
 ·have he:(rangeCall g (w.heap.size+1)).args.map a.eval= #[Value.func (.yield (w.heap.size+1)) #[] #[]]:=by simp only[List.map_toArray,List.map_cons,List.map_nil]; rfl
  simp only[resolve]
  rw[hfe,he]
  simp only[Deferred.ofValue,Sem.run_pure]
 ·simp only[invoke,callFunc,Sem.run_bind,run_program,Result.andThen_ok,q1,q3,Bool.false_eq_true,if_false,hbn,Sem.run_pure]
  congr 2
  apply Array.ext'; simp
 ·rintro e w3 ⟨v,v',M',H2,rfl,hs,_,st,pend,hl2,hst,hkk⟩
  have hen:M'[H.length]? =some (some en):=hs.ext _ _ (pV hr en)
  obtain⟨L,k1,k2,k3,k4⟩:=hs.hr.blk _ _ _ hen hl2
  have hgl:(Instr.getLoop (w.heap.size+1)).run C.P w3= .ok L w3:=by
   have:w3.heap[w.heap.size+1]? =some (.loop L):=k1
   simp[Instr.getLoop,getObj,Sem.run,this]
  have hso:∀o,(setObj (w.heap.size+1) o).run C.P w3= .ok () { w3 with heap:=w3.heap.setIfInBounds (w.heap.size+1) o }:=fun o=>by
   have:w3.heap[w.heap.size+1]? =some (.loop L):=k1
   simp[setObj,Sem.run,this]
  have hlt:w.heap.size+1<w3.heap.size:=(Array.getElem?_eq_some_iff.1 k1).1
  have hnb:(L.state== .busy)=false:=by rw[k2]; simpa using hst
  have hl2l:H.length<H2.length:=(List.getElem?_eq_some_iff.1 hl2).1
  have s4:=Stp.vI (k':=lb .exhausted pend) (o':=.loop { L with state:=.exhausted }) hs.hr hl2 hen (by unfold aZ; rw[hl2]; trivial) (by unfold aZ; rw[List.getElem?_set_self hl2l]; trivial)
   ⟨{ L with state:=.exhausted },by simp[en,hlt],rfl,k3,k4⟩
  have sall:=(s12.trans hs).trans s4
  have hmarks:Marks w { w3 with heap:=w3.heap.setIfInBounds en.blk (.loop { L with state:=.exhausted }) } a.defers ([{ target:=.collected w.heap.size,args:= #[] }]++a.defers):=by
   refine⟨[w.heap.size],rfl,by simp,fun r hr'=> ?_⟩
   simp at hr'; subst hr'
   exact⟨Nat.le_refl _,ku hs.hr s4 (ku s2.hr hs hdef)⟩
  refine⟨L.pending,{ w3 with heap:=w3.heap.setIfInBounds (w.heap.size+1) (.loop { L with state:=.exhausted }) },?_,?_⟩
  ·simp only[Instr.endLoop,Sem.run_bind,hgl,Result.andThen_ok,hnb,Bool.false_eq_true,if_false,Sem.run_ite,Sem.run_pure,hso]
  ·have hfin:∀x:Exit,ExR (pend.getD .normal) x->∃e H' M'',K e fr [] H'∧ExR e x∧Stp M H w M'' H' { w3 with heap:=w3.heap.setIfInBounds (w.heap.size+1) (.loop { L with state:=.exhausted }) }∧FS M'' [] fr a.tmps∧
     Marks w { w3 with heap:=w3.heap.setIfInBounds (w.heap.size+1) (.loop { L with state:=.exhausted }) } a.defers ([{ target:=.collected w.heap.size,args:= #[] }]++a.defers):=fun x hx=>⟨_,_,M',abr hkk,hx,sall,hf.step sall.ext,hmarks⟩
   cases hp:L.pending with
   |none=>
    rw[hp]at k3 hfin
    cases pend with
    |none=>refine hfin _ ?_; trivial
    |some e=>cases e<;>exact k3.elim
   |some c=>
    rw[hp]at k3 hfin
    cases pend with
    |none=>exact k3.elim
    |some e=>
     cases e with
     |normal=>cases c<;>exact k3.elim
     |ret=>cases c<;>first|exact k3.elim|exact wpIn_ret (by refine hfin _ ?_; trivial)
     |exit i=>cases c<;>first|exact k3.elim|exact wpIn_exit (by refine hfin _ ?_; exact k3)
theorem abt(hE:C.E.Ok C.P):∀(c:Code) (ro:Option Nat) (_:L9 c=true∨ro=none) (h:dL) (fr:fK) (L:Loc) (H:Heap) (K:CK),comp C loc c h fr L H K->Goes C ro c fr L H K:=by
 intro c
 induction c with
 |skip=>
  intro ro hro h fr L H K hc n M ML a w h1 h2 h3
  replace hc:K .normal fr L H:=hc
  exact wpIn_skip ⟨.normal,_,_,_,M,ML,hc,trivial,.refl h1 h2 h3⟩
 |label l=>
  intro ro hro h fr L H K hc n M ML a w h1 h2 h3
  replace hc:K .normal fr L H:=hc
  exact wpIn_label ⟨.normal,_,_,_,M,ML,hc,trivial,.refl h1 h2 h3⟩
 |exit id=>
  intro ro hro h fr L H K hc n M ML a w h1 h2 h3
  replace hc:K (.exit id) fr L H:=hc
  exact wpIn_exit ⟨.exit id,_,_,_,M,ML,hc,rfl,.refl h1 h2 h3⟩
 |ret=>
  intro ro hro h fr L H K hc n M ML a w h1 h2 h3
  replace hc:K .ret fr L H:=hc
  exact wpIn_ret ⟨.ret,_,_,_,M,ML,hc,trivial,.refl h1 h2 h3⟩
 |region id ops draw=>
  intro ro hro h fr L H K hc
  simp only[comp]at hc
  split at hc
  ·intro n M ML a w h1 h2 h3
   exact Zn hE hc h1 h2 h3 fun fr' L' H' M' ML' a' w' hk hb=>⟨.normal,fr',L',H',M',ML',hk,trivial,hb⟩
  ·rename_i J hj
   unfold JOIN at hc
   intro n M ML a w h1 h2 h3
   refine Zn hE hc h1 h2 h3 fun fr' L' H' M' ML' a' w' hk hb=> ?_
   obtain⟨y,g1,g2,g3,g4⟩:=Jv hk
   exact⟨.normal,_,_,H',M',ML,g4,trivial,Pv h3 h2 hb g1 g2 g3⟩
 |seq x y ihx ihy=>
  intro ro hro h fr L H K hc n M ML a w h1 h2 h3
  simp only[comp]at hc
  refine wpIn_seq (wpIn_mono (ihx ro (hro.imp_left fun q=>by simp only[L9,Bool.and_eq_true]at q; exact q.1) h.a fr L H _ hc n M ML a w h1 h2 h3) ?_)
  rintro x a' w' ⟨e,fr',L',H',M',ML',q1,q2,q3⟩
  cases e with
  |normal=>
   cases x<;>first|exact q2.elim|skip
   simp only at q1
   refine wpIn_mono (ihy ro (hro.imp_left fun q=>by simp only[L9,Bool.and_eq_true]at q; exact q.2) h.b fr' L' H' K q1 n M' ML' a' w' q3.st.st.hr q3.lr q3.fs) ?_
   rintro x2 a2 w2 ⟨e2,fr2,L2,H2,M2,ML2,r1,r2,r3⟩
   exact⟨e2,fr2,L2,H2,M2,ML2,r1,r2,q3.trans r3⟩
  |exit i=>cases x<;>first|exact q2.elim|exact⟨.exit i,fr',L',H',M',ML',q1,q2,q3⟩
  |ret=>cases x<;>first|exact q2.elim|exact⟨.ret,fr',L',H',M',ML',q1,q2,q3⟩
 |cond c x y ihx ihy=>
  intro ro hro h fr L H K hc
  simp only[comp]at hc
  split at hc
  ·rename_i g hg
   have two:∀K,aK g (comp C loc x h.a fr L H K) (comp C loc y h.b fr L H K)->Goes C ro (.cond c x y) fr L H K:=by
    intro K hk n M ML a w h1 h2 h3
    have hv:=(dQ h3 hg).of_bool
    cases g with
    |true=>exact wpIn_cond_true hv (ihx ro (hro.imp_left fun q=>by simp only[L9,Bool.and_eq_true]at q; exact q.1) h.a fr L H K hk n M ML a w h1 h2 h3)
    |false=>exact wpIn_cond_false hv (ihy ro (hro.imp_left fun q=>by simp only[L9,Bool.and_eq_true]at q; exact q.2) h.b fr L H K hk n M ML a w h1 h2 h3)
   split at hc
   ·exact two K hc
   ·rename_i J hj
    unfold JOIN at hc
    exact Oy (two _ hc) fun x H' hx=>hx
  ·exact hc.elim
 |block id c ih=>
  intro ro hro h fr L H K hc
  simp only[comp]at hc
  have out:∀(K1 K:CK),Goes C ro c fr L H K1->(∀fr' L' H',K1 .normal fr' L' H'->K .normal fr' L' H')->(∀fr' L' H',K1 (.exit id) fr' L' H'->K .normal fr' L' H')->(∀i fr' L' H',i≠id->K1 (.exit i) fr' L' H'->K (.exit i) fr' L' H')->(∀fr' L' H',K1 .ret fr' L' H'->K .ret fr' L' H')->Goes C ro (.block id c) fr L H K:=by
   intro K1 K hg k1 k2 k3 k4 n M ML a w h1 h2 h3
   refine wpIn_block (wpIn_mono (hg n M ML a w h1 h2 h3) ?_)
   rintro x a' w' ⟨e,fr',L',H',M',ML',q1,q2,q3⟩
   cases e with
   |normal=>cases x<;>first|exact q2.elim|exact⟨.normal,fr',L',H',M',ML',k1 _ _ _ q1,trivial,q3⟩
   |ret=>cases x<;>first|exact q2.elim|exact⟨.ret,fr',L',H',M',ML',k4 _ _ _ q1,trivial,q3⟩
   |exit i=>
    cases x<;>first|exact q2.elim|skip
    rename_i i2
    have q2:i=i2:=q2
    subst q2
    by_cases hi:i=id
    ·subst hi
     simp only[Exit.inBlock,if_true]
     exact⟨.normal,fr',L',H',M',ML',k2 _ _ _ q1,trivial,q3⟩
    ·simp only[Exit.inBlock,if_neg hi]
     exact⟨.exit i,fr',L',H',M',ML',k3 _ _ _ _ hi q1,rfl,q3⟩
  split at hc
  ·refine out _ K (ih ro (hro.imp_left fun q=>q) h.a fr L H _ hc) (fun _ _ _ h=>h) (fun _ _ _ h=> ?_) (fun i _ _ _ hi h=> ?_) (fun _ _ _ h=>h)
   ·simpa using h
   ·simpa[hi]using h
  ·rename_i J hj
   unfold JOIN at hc
   refine Oy (J:=J) (B:=fun x H'=>K .normal (J.fr fr x) (J.loc L x) H') (out _ _ (ih ro (hro.imp_left fun q=>q) h.a fr L H _ hc) (fun _ _ _ h=>h) (fun _ _ _ h=> ?_) (fun i _ _ _ hi h=> ?_) (fun _ _ _ h=>h)) fun x H' hx=>hx
   ·simpa[jK]using h
   ·simpa[jK,hi]using h
 |scope c ih=>
  intro ro hro h fr L H K hc n M ML a w h1 h2 h3
  replace hc:comp C loc c h fr L H K:=hc
  refine pK (wpIn_mono (ih ro (hro.imp_left fun q=>q) h fr L H K hc n M ML a w h1 h2 h3) ?_)
  rintro x a' w' ⟨e,fr',L',H',M',ML',q1,q2,q3⟩
  cases x with
  |goto l=>cases e<;>exact q2.elim
  |_=>exact⟨e,fr',L',H',M',ML',q1,q2,q3⟩
 |loop c ih=>
  intro ro hro h fr L H K hc
  simp only[comp]at hc
  split at hc
  ·rename_i J hj
   split at hc
   ·rename_i y z hy hz
    obtain⟨m,hm⟩:=hc
    intro n M ML a w h1 h2 h3
    have rounds:∀(m:Nat) (s:J.S) (H:Heap) (M':Mp) (a':Act) (w':World),itP (fun rec (s:J.S) H=>comp C loc c h.a (J.fr fr s) (J.loc L s) H (jK J (J.fr fr s) (J.loc L s) rec K)) m s H→
      HR M' H w'->LR M' H (J.loc L s) ML w'->FS M' ML (J.fr fr s) a'.tmps→
      Code.roundsIn (Fw ro) n C.P c (fun x a2 w2=>∃e fr' L' H' M2 ML2 s2,K e fr' L' H'∧ExR e x∧Sm M' H ML w' M2 H' ML2 w2∧LR M2 H' L' ML2 w2∧FS M2 ML2 fr' a2.tmps∧yA (J.loc L s2) L'∧Rk (J.fr fr s2) fr'∧(∃N,ML2=ML++N)∧Marks w' w2 a'.defers a2.defers) m a' w':=by
     intro m
     induction m with
     |zero=>intro s H M' a' w' hi; exact hi.elim
     |succ m ihm=>
      intro s H M' a' w' hi g1 g2 g3
      rw[roundsIn_succ]
      refine wpIn_mono (ih ro (hro.imp_left fun q=>q) h.a _ _ _ _ hi n M' ML a' w' g1 g2 g3) ?_
      rintro x a2 w2 ⟨e,fr',L',H',M2,ML2,q1,q2,q3⟩
      rcases acV q1 with⟨rfl,hjx⟩|⟨hne,hk⟩
      ·cases x<;>first|exact q2.elim|skip
       obtain⟨s',k1,k2,k3,k4⟩:=Jv hjx
       have b:=Pv g3 g2 q3 k1 k2 k3
       have f':FS M2 ML (J.fr fr s') a2.tmps:=b.fs.same rfl abq
       have l':LR M2 H' (J.loc L s') ML w2:=b.lr.same (by unfold Jn.loc; simp only[gG]) (Zo k3)
       refine rQ ?_ m a2 w2 (ihm s' H' M2 a2 w2 k4 b.st.st.hr l' f')
       rintro x3 a3 w3 ⟨e3,fr3,L3,H3,M3,ML3,s3,r1,r2,r3,r4,r5,r6,r7,r8,r9⟩
       exact⟨e3,fr3,L3,H3,M3,ML3,s3,r1,r2,b.st.trans r3,r4,r5,r6,r7,r8,b.defers.Zf b.st.st.hr b.lr r3.st b.st.st.size r9⟩
      ·have done:∃e fr' L' H' M2 ML2 s2,K e fr' L' H'∧ExR e x∧Sm M' H ML w' M2 H' ML2 w2∧LR M2 H' L' ML2 w2∧FS M2 ML2 fr' a2.tmps∧yA (J.loc L s2) L'∧Rk (J.fr fr s2) fr'∧(∃N,ML2=ML++N)∧Marks w' w2 a'.defers a2.defers:=
        ⟨e,fr',L',H',M2,ML2,s,hk,q2,q3.st,q3.lr,q3.fs,q3.rel,q3.suf,q3.mlx,q3.defers⟩
       cases e with
       |normal=>exact absurd rfl hne
       |exit i=>cases x<;>first|exact q2.elim|exact done
       |ret=>cases x<;>first|exact q2.elim|exact done
    refine wpIn_loop_rounds m ?_
    have b0:=Behind.refl h1 h2 h3
    have f0:FS M ML (J.fr fr (y,z)) a.tmps:=⟨h3.size,fun t s hs=>by
     unfold Jn.fr at hs
     rcases EZ hy hs with h|⟨_,h'⟩
     ·exact h3.get t s h
     ·exact h3.get t s (uX h').2⟩
    have l0:LR M H (J.loc L (y,z)) ML w:=h2.same (by unfold Jn.loc; simp only[gG]) fun i n m cs cs' e1 e2=>by
     rcases uV hz e1 e1 e2 with⟨_,g,_⟩|⟨_,g,_⟩
     ·exact g
     ·exact g
    refine rQ ?_ m a w (rounds m (y,z) H M a w hm h1 l0 f0)
    rintro x a2 w2 ⟨e,fr',L',H',M2,ML2,s2,r1,r2,r3,r4,r5,r6,r7,r8,r9⟩
    exact⟨e,fr',L',H',M2,ML2,r1,r2,⟨r3,r4,r5,(Zp s2).trans r6,Rk.trans (fr':=J.fr fr s2) ⟨rfl,E5 J.sl s2.1 J.clr fr.l⟩ r7,r8,r9⟩⟩
   ·exact hc.elim
  ·exact hc.elim
 |rangeFunc g ps asg body iha ihb=>
  intro ro hro h fr L H K hc
  simp only[comp]at hc
  split at hc
  ·rename_i fv fl J hg hfl hj
   split at hc
   ·rename_i hps
    obtain⟨f,xs,ys,rfl,hc⟩:=hc
    simp only[Bool.and_eq_true,beq_iff_eq,List.all_eq_true,decide_eq_true_eq]at hps
    obtain⟨⟨hp1,hp2⟩,hp3,hp4⟩:=hps
    obtain rfl:ro=none:=by
     rcases hro with q|q
     ·cases q
     ·exact q
    intro n M ML a w h1 h2 h3
    have hML:ML=[]:=List.length_eq_zero_iff.1 (by rw[h2.len]; rfl)
    subst hML
    refine wpIn_mono (X0 (hj:=hp1) (iha:=fun ro=>iha ro (.inl hp3)) (ihb:=fun ro=>ihb ro (.inl hp4)) hg hfl (fun p hp=>hp2 p.1 (by rw[←hp1]; exact List.mem_map_of_mem hp)) hc h1 h3) ?_
    rintro x a' w' ⟨e,H',M',k1,k2,k3,k4,k5⟩
    exact⟨e,fr,[],H',M',[],k1,k2,⟨k3.WW [],.empty,k4,.refl _,.refl _,⟨[],rfl⟩,k5⟩⟩
   ·exact hc.elim
  ·exact hc.elim
 |_=>intro ro hro h fr L H K hc; simp[comp]at hc
end Go.Proofs.YtijnknjopjmiiaaGreatDoor.Zq
end
section
namespace Go.Proofs.YtijnknjopjmiiaaGreatDoor.Zq
def kOk(P:Program)(t:TypeId):TK->TypeDesc->Bool
 | .bool,.bool=>true
 | .int k,.int k'=>decide (k=k')
 | .string,.string=>true
 | .pointer e,.pointer e'=>e==e'
 | .slice e,.slice e'=>e==e'
 | .array n e,.array n' e'=>n==n'&&e==e'&& !P.eqGuardType P.depth t
 | .map k e,.map k' e'=>k==k'&&e==e'
 | .struct fs,.struct gs=>decide (fs=gs.toList.map (fun f=>(f.offset,f.type)))&&gs.toList.all (fun f=>f.name !="_")&& !P.stoodInHeld t&& !P.eqGuardType P.depth t&&(gs.toList.mapM (fun f=>(P.info? f.type).map fun i=>(f.offset,i.size))).isSome
 | .func,.func _ _ _=>true
 | .iface,.interface _=>true
 |_,_=>false
theorem adh{P:Program}{t:TypeId}{k:TK}{d:TypeDesc}(h:kOk P t k d=true):KOk P t k d:=by
 unfold kOk at h
 split at h
 case h_8 fs gs=>
  simp only[Bool.and_eq_true,decide_eq_true_eq,Bool.not_eq_true',List.all_eq_true,bne_iff_ne]at h
  obtain⟨⟨⟨⟨h1,h2⟩,h3⟩,h4⟩,h5⟩:=h
  exact⟨h1,h2,h3,h4,h5⟩
 all_goals simp_all [KOk]
def Zt:Value->Bool
 | .agg _=>true
 |_=>false
def abu(P:Program)(t:TypeId)(ti:TI):Bool:=
 match P.info? t,P.underlying t with
 |some i,some d=>
  match i.zero with
  |some z=>i.size==ti.size&&i.bytes==ti.bytes&&IU z.cells.toList ti.zero&&ti.zero.all rM&&ti.zero.length==ti.size&&(mO ti.k==Zt z)&&kOk P t ti.k d
  |none=>false
 |_,_=>false
theorem abv{P:Program}{t:TypeId}{ti:TI}(h:abu P t ti=true):∃i d z,vJ P t ti i d z:=by
 unfold abu at h
 split at h
 ·rename_i i d hi hd
  split at h
  ·rename_i z hz
   simp only[Bool.and_eq_true,beq_iff_eq]at h
   obtain⟨⟨⟨⟨⟨⟨h1,h2⟩,h3⟩,h4⟩,h5⟩,h6⟩,h7⟩:=h
   refine⟨i,d,z,hi,hd,h1,h2,hz,Jb h3,h4,h5,?_,adh h7⟩
   rw[h6]
   unfold Zt
   split
   ·exact⟨fun _=>⟨_,rfl⟩,fun _=>rfl⟩
   ·rename_i hn
    exact⟨fun h=>by simp at h,fun⟨cs,hc⟩=>absurd hc (hn cs)⟩
  ·simp at h
 ·simp at h
def adi(tab:List (Option TI))(t:TypeId):Option TI:=(tab[t]?).join
def SX(P:Program):List (Option TI)->Nat->Bool
 |[],_=>true
 |none::r,i=>SX P r (i+1)
 |some ti::r,i=>abu P i ti&&SX P r (i+1)
theorem Jy{P:Program}:∀(l:List (Option TI)) (i:Nat),SX P l i=true->∀j ti,l[j]? =some (some ti)->abu P (i+j) ti=true
 |[],i,_,j,ti,h=>by simp at h
 |none::r,i,h,j,ti,hj=>by
  cases j with
  |zero=>simp at hj
  |succ j=>
   have:=Jy r (i+1) h j ti (by simpa using hj)
   rw[show i+(j+1)=i+1+j by omega]; exact this
 |some t::r,i,h,j,ti,hj=>by
  simp only[SX,Bool.and_eq_true]at h
  cases j with
  |zero=>simp at hj; subst hj; exact h.1
  |succ j=>
   have:=Jy r (i+1) h.2 j ti (by simpa using hj)
   rw[show i+(j+1)=i+1+j by omega]; exact this
def adk(P:Program)(l:List FuncId)(f:FuncId):Option Func:=if l.contains f then P.funcs[f]? else none
def aen(P:Program)(l:List FuncId):Bool:=l.all fun f=>match P.funcs[f]? with|some fn=> !(fn.name=="runtime.NumGoroutine")|none=>true
theorem adl{P:Program}{tab:List (Option TI)}{l:List FuncId}{hint:FuncId->Hint}{ext:FuncId->Option (List Value->Heap->Option (Value×Heap))}(h1:SX P tab 0=true)(h2:aen P l=true)(h3:P.follows .mixedOrders=true):
  Env.Ok { ty:=adi tab,fn:=adk P l,hint,ext } P:=by
 refine⟨fun t ti ht=> ?_,fun f fn hf=> ?_,h3⟩
 ·have:tab[t]? =some (some ti):=by
   unfold adi at ht
   cases hq:tab[t]? with
   |none=>simp[hq]at ht
   |some o=>simp[hq]at ht; rw[ht]
  have:=Jy tab 0 h1 t ti this
  rw[Nat.zero_add]at this
  exact abv this
 ·simp only[adk]at hf
  split at hf
  ·rename_i hc
   refine⟨hf,?_⟩
   have:=List.all_eq_true.1 h2 f (by simpa using hc)
   rw[hf]at this
   simpa using this
  ·simp at hf
theorem abw{P:Program}{ty:TypeId->Option TI}{fn:FuncId->Option Func}{hint:FuncId->Hint}:acR P { ty,fn,hint,ext:=fun _=>none }:=fun f x h=>by simp at h
end Go.Proofs.YtijnknjopjmiiaaGreatDoor.Zq
end
section
namespace Go.Proofs.YtijnknjopjmiiaaGreatDoor.Zq
open Go.RowKit
theorem Stp.below{M M':Mp}{H H':Heap}{w w':World}(h:Stp M H w M' H' w')(hn:∀b,¬aZ H b):Below w.heap.size w w':=
 ⟨h.os,h.tape,h.output,h.size,fun k hk=>h.frame k hk fun b _ _ hw=>absurd hw (hn b)⟩
theorem HR.nil(w:World):HR [] [] w:=⟨rfl,fun b e k h=>by simp at h,fun b b' e e' _ h=>by simp at h⟩
end Go.Proofs.YtijnknjopjmiiaaGreatDoor.Zq
end
section
namespace Go.Proofs.YtijnknjopjmiiaaGreatDoor.Zq
variable{C:kL}{M M':Mp}{H H':Heap}{w w':World}{L L':Loc}{ML ML':Ml}{fr fr':fK}{a a':Act}{n:Nat}{loc:List Nat}
theorem Jz:∀(l:List Value) (i t:Nat),aW (Dz i l) t=if i≤t then(l[t-i]?).map .v else none
 |[],i,t=>by simp[Dz,aW]
 |v::r,i,t=>by
  simp only[Dz,aW,Jz r (i+1) t]
  by_cases h:i=t
  ·subst h; simp
  ·rw[if_neg h]
   by_cases h2:i≤t
   ·rw[if_pos h2,if_pos (by omega)]
    obtain⟨q,hq⟩:∃q,t-i=q+1:=⟨t-i-1,by omega⟩
    rw[hq,show t-(i+1)=q by omega]; rfl
   ·rw[if_neg h2,if_neg (by omega)]
theorem X3{ntmps:Nat}{args args':List Value}(h:VL M args args'):FS M [] (Pq ntmps args) (args'.toArray++Array.replicate (ntmps-args'.toArray.size) undef):=by
 refine⟨by simp[Pq,h.1],fun t s hs=> ?_⟩
 unfold Pq at hs
 simp only[Jz,Nat.zero_le,if_true,Nat.sub_zero,Option.map_eq_some_iff]at hs
 obtain⟨v,hv,rfl⟩:=hs
 have ht:t<args.length:=(List.getElem?_eq_some_iff.1 hv).1
 have ht':t<args'.length:=by rw[←h.1]; exact ht
 have:=h.2 t v args'[t] hv (List.getElem?_eq_getElem ht')
 have hsz:t<(args'.toArray++Array.replicate (ntmps-args'.toArray.size) undef).size:=by simp; omega
 have he:(args'.toArray++Array.replicate (ntmps-args'.toArray.size) undef).getD t undef=args'[t]:=by
  simp only[Array.getD,hsz,dite_true]
  simp[ht']
 show VR M v _
 rw[he]; exact this
theorem Px(hE:C.E.Ok C.P)(l:LR M H L ML w)(f:FS M ML fr a.tmps){g:ResultVar->Sem Value}(g1:∀t,g (.tmp t)=pure (a.tmps.getD t undef))(g2:∀b t,g (.cell b t)=(do loadVar t (←asAddr (a.tmps.getD b undef)))):∀{rs:List ResultVar} {vs:List Value},Sj C fr L rs=some vs→
  ∃us:List Value,(rs.mapM g).run C.P w= .ok us w∧VL M vs us
 |[],vs,hr=>by simp[Sj]at hr; subst hr; exact⟨[],by simp,.nil M⟩
 | .tmp t::rs,vs,hr=>by
  simp only[Sj]at hr
  split at hr
  ·rename_i v vs' h1 h2
   simp at hr; subst hr
   obtain⟨us,k1,k2⟩:=Px hE l f g1 g2 h2
   exact⟨_::us,by simp only[List.mapM_cons,Sem.run_bind,g1,Sem.run_pure,Result.andThen_ok,k1],.cons (f.get t _ h1) k2⟩
  ·simp at hr
 | .cell b t::rs,vs,hr=>by
  simp only[Sj]at hr
  split at hr
  ·rename_i i off ti vs' h1 h2 h3
   split at hr
   ·rename_i m cs hL
    split at hr
    ·rename_i hlen
     split at hr
     ·rename_i v hv
      simp at hr; subst hr
      obtain⟨e,e1,e2⟩:=f.get b _ h1
      obtain⟨u,q1,q2⟩:=Jq hE l e1 hL h2 hlen hv
      obtain⟨us,k1,k2⟩:=Px hE l f g1 g2 h3
      exact⟨u::us,by simp only[List.mapM_cons,Sem.run_bind,g2,e2,asAddr,Sem.run_pure,Result.andThen_ok,q1,k1],.cons q2 k2⟩
     ·simp at hr
    ·simp at hr
   ·simp at hr
  ·simp at hr
theorem Xb:∀{rs:List Tag} {vs:List Value} {x:Tup rs},decs rs vs=some x->vs=encs rs x
 |[],[],x,h=>rfl
 |[],_::_,x,h=>by simp[decs]at h
 |T::r,[],x,h=>by simp[decs]at h
 |T::r,v::vs,x,h=>by
  simp only[decs]at h
  split at h
  ·rename_i y z h1 h2
   have h:=Option.some.inj h
   subst h
   simp only[encs]
   rw[Xb h2]
   have:v=T.enc y:=by
    unfold Tag.dec at h1
    unfold Tag.enc Pm
    split at h1
    ·rename_i cs
     split at h1
     ·rename_i ha; rw[if_pos ha,←T.ok _ _ h1]
     ·simp at h1
    ·simp at h1
    ·split at h1
     ·simp at h1
     ·rename_i ha; rw[if_neg ha,←T.ok _ _ h1]
   rw[this]
  ·cases h
theorem AU{M M':Mp}{H H':Heap}{w:World}{P:Program}{fn:Func}{tmps:Array Value}{R:Ending->World->Prop}{n:Nat}{I:World->Prop}
  (hI:∀(w':World) (r:Nat),I w'->w'.heap[r]? =some (.deferred (some []))->I { w' with heap:=w'.heap.setIfInBounds r (.deferred none) })
  (hR:∀w',Stp M H w M' H' w'->I w'->∃v,(results fn tmps).run P w'= .ok v w'∧R (.returned v) w'):
  ∀(rs:List Nat) (w':World),Stp M H w M' H' w'->I w'->rs.Nodup->(∀r∈rs,w.heap.size≤r∧w'.heap[r]? =some (.deferred (some [])))→
   LeavesInM Fence.wide n P fn tmps R (rs.map fun r=>{ target:=.collected r,args:= #[] }) .returning w'
 |[],w',hs,hi,_,_=>hR w' hs hi
 |r::rs,w',hs,hi,hn,ha=>by
  obtain⟨h1,h2⟩:=ha r (by simp)
  have hlt:=(Array.getElem?_eq_some_iff.1 h2).1
  refine⟨by simp,.inl ⟨r,{ w' with heap:=w'.heap.setIfInBounds r (.deferred none) },rfl,?_,AU hI hR rs _ (hs.Pj _ h1 h2) (hI _ _ hi h2) (List.nodup_cons.1 hn).2 ?_⟩⟩
  ·have hg:(getObj r).run P w'= .ok (.deferred (some [])) w':=by simp[getObj,Sem.run,h2]
   have hs':∀o,(setObj r o).run P w'= .ok () { w' with heap:=w'.heap.setIfInBounds r o }:=fun o=>by simp[setObj,Sem.run,h2]
   simp only[Instr.takeDeferred,Sem.run_bind,hg,Result.andThen_ok,hs',Sem.run_pure]
  ·intro q hq
   obtain⟨g1,g2⟩:=ha q (by simp[hq])
   refine⟨g1,?_⟩
   have hqr:r≠q:=fun e=>(List.nodup_cons.1 hn).1 (e▸hq)
   show(w'.heap.setIfInBounds r _)[q]? =_
   rw[Array.getElem?_setIfInBounds_ne hqr]; exact g2
theorem LR.Pj{M:Mp}{H:Heap}{L:Loc}{ML:Ml}{w:World}(l:LR M H L ML w){r:Nat}(hd:w.heap[r]? =some (.deferred (some []))):LR M H L ML { w with heap:=w.heap.setIfInBounds r (.deferred none) }:=by
 refine⟨l.len,fun i e m cs hi hL=> ?_,l.sep1,l.sep2⟩
 obtain⟨h1,h2,h3,h4,h5⟩:=l.loc i e m cs hi hL
 obtain⟨c,t,fz,g,g'⟩:=h5 rfl
 refine⟨h1,h2,h3,h4,fun _=>⟨c,t,fz,?_,g'⟩⟩
 show(w.heap.setIfInBounds r _)[e.blk]? =_
 rw[Array.getElem?_setIfInBounds_ne (fun q=>by rw[q,g]at hd; simp at hd)]
 exact g
theorem abx(hE:C.E.Ok C.P){f:FuncId}{fn:Func}{c:Code}{h:dL}{rs:List Tag}{args:List Value}{k:Tup rs->Heap->Prop}(hf:C.P.funcs[f]? =some fn)(hb:fn.body=some c)(hn:(fn.name=="runtime.NumGoroutine")=false)
  (hc:fB C loc fn.ntmps fn.results.toList rs c h args H k):CALL C.P rs f args H k:=by
 refine⟨⟨fn,hf,by simp[hb],hn⟩,fun n M w args' hr hv=> ?_⟩
 unfold fB at hc
 have hg:=abt hE c none (.inr rfl) h _ _ _ _ hc
 have l0:LR M H [] [] w:=⟨rfl,fun i e m cs hi=>by simp at hi,fun i j e e' _ hi=>by simp at hi,fun i e hi=>by simp at hi⟩
 refine callsIn_of_wp_marks hf hb trivial (wpIn_mono (hg n M [] _ w hr l0 (X3 hv)) ?_)
 rintro x a' w' ⟨e,fr',L',H',M',ML',q1,q2,q3⟩
 have hst:Stp M H w M' H' w':=q3.st.st.acT fun i e hi=>by simp at hi
 obtain⟨rs0,e0,n0,a0⟩:=q3.defers
 have fin:(match Sj C fr' L' fn.results.toList with
   |some vs=>ade rs vs fun x=>k x H'
   |none=>False)->LeavesInM Fence.wide n C.P fn a'.tmps (fun e w'=>∃v v' M' H',e= .returned v'∧Stp M H w M' H' w'∧VR M' v v'∧∃x:Tup rs,v=gQ (encs rs x)∧k x H') a'.defers .returning w':=by
  intro hres
  split at hres
  ·rename_i vs hvs
   unfold ade at hres
   split at hres
   ·rename_i x hx
    have hvx:=Xb hx
    rw[e0]
    simp only[List.append_nil]
    refine AU (M:=M) (M':=M') (I:=LR M' H' L' ML') (fun _ _ hi hd=>hi.Pj hd) (fun w'' hs hi=> ?_) rs0 w' hst q3.lr n0 a0
    obtain⟨us,l1,l2⟩:=Px (g:=fun r=>match r with| .tmp t=>pure (a'.tmps.getD t undef)| .cell b t=>do loadVar t (←asAddr (a'.tmps.getD b undef))) hE hi q3.fs (fun _=>rfl) (fun _ _=>rfl) hvs
    refine⟨_,?_,_,_,M',H',rfl,hs,Jk l2,x,by rw[hvx],hres⟩
    unfold results
    rw[Array.mapM_eq_mapM_toList]
    simp only[Sem.run_bind,Sem.run_map,Sem.run_pure]
    erw [l1]
    rfl
   ·exact hres.elim
  ·exact hres.elim
 cases e with
 |normal=>cases x<;>first|exact q2.elim|exact fin q1
 |ret=>cases x<;>first|exact q2.elim|exact fin q1
 |exit i=>exact q1.elim
theorem EV.mono{P:Program}{g:FuncId}{args:List Value}{Q Q':Value->Heap->Prop}(h:EV P g args H Q)(hq:∀v H',Q v H'->Q' v H'):EV P g args H Q':=
 ⟨h.1,fun n M w args' hr hv=>(h.2 n M w args' hr hv).mono fun _ _ ⟨v,v',M',H',q1,q2,q3,q4⟩=>⟨v,v',M',H',q1,q2,q3,hq v H' q4⟩⟩
theorem CALL.mono{P:Program}{rs:List Tag}{g:FuncId}{args:List Value}{k k':Tup rs->Heap->Prop}(h:CALL P rs g args H k)(hk:∀x H',k x H'->k' x H'):CALL P rs g args H k':=
 EV.mono h fun _ _ ⟨x,q1,q2⟩=>⟨x,q1,hk x _ q2⟩
theorem aby{P:Program}{call:iU}(hC:kK P call){rs:List Tag}{g:FuncId}{args:List Value}{x:Tup rs}{k:Tup rs->Heap->Prop}(h:call (.fn g) args H=some (gQ (encs rs x),H'))(hk:k x H'):CALL P rs g args H k:=by
 obtain⟨h1,h2⟩:=hC.fn _ _ _ _ _ h
 exact⟨h1,fun n M w args' hr hv=>(h2 n M w args' hr hv).mono fun _ _ ⟨v',M',q1,q2,q3⟩=>⟨_,v',M',H',q1,q2,q3,x,rfl,hk⟩⟩
theorem EV.law{P:Program}{g:FuncId}{args args':List Value}(h:EV P g args H fun v _=>v= .bool true)(hr:HR M H w)(hv:VL M args args')(hn:∀b,¬aZ H b):
  Calls P g args'.toArray w fun e w'=>e= .returned (.bool true)∧RowKit.Below w.heap.size w w':=by
 refine(callsIn_wide (n:=0)).1 ((h.2 0 M w args' hr hv).mono ?_)
 rintro e w' ⟨v,v',M',H',rfl,hs,hb,rfl⟩
 have:=hb.of_bool
 subst this
 exact⟨rfl,hs.below hn⟩
end Go.Proofs.YtijnknjopjmiiaaGreatDoor.Zq
end
section
namespace Go.Proofs.YtijnknjopjmiiaaGreatDoor.Zq
abbrev au(k:IntKind):Tag:=⟨Int,false,1,fun x=>[.int k x],fun cs=>match cs with|[.int k' x]=>if k'=k then some x else none|_=>none,fun cs x h=>by
 split at h
 ·split at h
  ·rename_i e; subst e; simp at h; subst h; rfl
  ·simp at h
 ·simp at h⟩
abbrev ah:Tag:=⟨Bool,false,1,fun x=>[.bool x],fun cs=>match cs with|[.bool x]=>some x|_=>none,fun cs x h=>by
 split at h
 ·simp at h; subst h; rfl
 ·simp at h⟩
abbrev dG:Tag:=⟨ByteArray,false,1,fun x=>[.string x],fun cs=>match cs with|[.string x]=>some x|_=>none,fun cs x h=>by
 split at h
 ·simp at h; subst h; rfl
 ·simp at h⟩
abbrev dJ:Tag:=⟨Option Addr,false,1,fun x=>[.pointer x],fun cs=>match cs with|[.pointer x]=>some x|_=>none,fun cs x h=>by
 split at h
 ·simp at h; subst h; rfl
 ·simp at h⟩
structure Sl where
 p:Option Addr
 len:Nat
 cap:Nat
def Sl.v(s:Sl):Value:=.slice s.p s.len s.cap
abbrev aJ:Tag:=⟨Sl,false,1,fun x=>[.slice x.p x.len x.cap],fun cs=>match cs with|[.slice p n c]=>some ⟨p,n,c⟩|_=>none,fun cs x h=>by
 split at h
 ·simp at h; subst h; rfl
 ·simp at h⟩
abbrev uY:Tag:=⟨Value,false,1,fun x=>[x],fun cs=>match cs with|[x]=>some x|_=>none,fun cs x h=>by
 split at h
 ·simp at h; subst h; rfl
 ·simp at h⟩
def NEW(H:Heap)(cs:List Value)(sz:Nat)(k:Heap->Prop):Prop:=k (mk H cs sz false)
def aP(fn:Func):Code:=match fn.body with|some c=>c|none=>.skip
theorem aB{C:kL}(hE:C.E.Ok C.P){f:FuncId}{fn:Func}{h:dL}{loc:List Nat}{rs:List Tag}{args:List Value}{H:Heap}{k:Tup rs->Heap->Prop}{p:Prop}(hf:C.P.funcs[f]? =some fn)(hb:fn.body=some (aP fn))(hn:(fn.name=="runtime.NumGoroutine")=false)
  (he:p=fB C loc fn.ntmps fn.results.toList rs (aP fn) h args H k) (hp:p):CALL C.P rs f args H k:=
 abx hE hf hb hn (he▸hp)
end Go.Proofs.YtijnknjopjmiiaaGreatDoor.Zq
end
section
namespace Go.Proofs.YtijnknjopjmiiaaGreatDoor.Zq
theorem dO{T:Tag}{H:Heap}{b off:Nat}{c:List Value}{sz:Nat}{o ro:Bool}{k:T.α->Prop}(x:T.α)(A B:List Value)(h:H[b]? =some (.row c sz o ro true))(hc:c=A++(T.cells x++B))(ho:off=A.length)(hn:(T.cells x).length=T.n)(hk:k x):LD T H b off k:=by
 refine⟨x,?_,hk⟩
 unfold rd
 rw[h]
 subst hc; subst ho
 simp only
 rw[if_pos (by simp; omega),List.drop_left,←hn,List.take_left]
theorem pO{H:Heap}{b off:Nat}{c:List Value}{sz:Nat}{o:Bool}{vs:List Value}{k:Heap->Prop}(A B C:List Value)(h:H[b]? =some (.row c sz o false true))(hc:c=A++(B++C))(ho:off=A.length)(hl:B.length=vs.length)(hv:vs.all cell1=true)(hk:k (H.set b (.row (A++(vs++C)) sz o false true))):ST H b off vs k:=by
 refine⟨_,?_,hk⟩
 unfold wr
 rw[h]
 subst hc; subst ho
 simp only
 rw[if_pos (by simp; omega),if_pos hv]
 unfold patch
 rw[List.take_left,←List.drop_drop,List.drop_left,←hl,List.drop_left,List.append_assoc]
theorem bT{g:Bool}{a b:Prop}(h1:g=true->a)(h2:g=false->b):aK g a b:=by
 cases g
 ·exact h2 rfl
 ·exact h1 rfl
theorem iJ{g:Bool}{a b:Prop}(h:g=true)(h1:a):aK g a b:=bT (fun _=>h1) (fun q=>by simp[h]at q)
theorem bI{g:Bool}{a b:Prop}(h:g=false)(h1:b):aK g a b:=bT (fun q=>by simp[h]at q) (fun _=>h1)
theorem bF{S:Type}{A:(S->Heap->Prop)->Prop}{B:S->Heap->Prop}(h:A B):JOIN A B:=h
theorem aS{S:Type}{A:(S->Heap->Prop)->Prop}{B:S->Heap->Prop}(I:S->Heap->Prop)(hA:∀j:S->Heap->Prop,(∀z H,I z H->j z H)->A j)(h:∀z H,I z H->B z H):JOIN A B:=hA B h
theorem abz{S:Type}{A:(S->Heap->Prop)->Prop}{B:S->Heap->Prop}(z:S)(H:Heap)(hA:∀j:S->Heap->Prop,j z H->A j)(h:B z H):JOIN A B:=hA B h
theorem bG{S:Type}{F:(S->Heap->Prop)->S->Heap->Prop}(I:S->Heap->Prop)(μ:S->Nat)(hF:∀(G:S->Heap->Prop) s H,I s H->(∀s' H',I s' H'->μ s'<μ s->G s' H')->F G s H){s:S}{H:Heap}(h:I s H):LOOP F s H:=by
 refine⟨μ s+1,?_⟩
 have:∀n s H,μ s<n->I s H->itP F n s H:=by
  intro n
  induction n with
  |zero=>intro s H h; omega
  |succ n ih=>intro s H hm hi; exact hF _ s H hi fun s' H' h1 h2=>ih s' H' (by omega) h1
 exact this _ s H (by omega) h
def Fr(b:Nat)(H H':Heap):Prop:=H.length≤H'.length∧∀c,c<H.length->c≠b->H'[c]? =H[c]?
theorem Fr.refl(b:Nat)(H:Heap):Fr b H H:=⟨Nat.le_refl _,fun _ _ _=>rfl⟩
theorem Fr.trans{b:Nat}{H H' H'':Heap}(h:Fr b H H')(k:Fr b H' H''):Fr b H H'':=
 ⟨Nat.le_trans h.1 k.1,fun c hc hb=>by rw[k.2 c (Nat.lt_of_lt_of_le hc h.1) hb,h.2 c hc hb]⟩
theorem Fr.set(b:Nat)(H:Heap)(x:gI):Fr b H (H.set b x):=⟨by simp,fun c _ hb=>by rw[List.getElem?_set_ne (Ne.symm hb)]⟩
theorem Fr.app(b:Nat)(H K:Heap):Fr b H (H++K):=⟨by simp,fun c hc _=>List.getElem?_append_left hc⟩
theorem Fr.get{b:Nat}{H H':Heap}(h:Fr b H H'){c:Nat}{x:gI}(hb:c≠b)(hx:H[c]? =some x):H'[c]? =some x:=by
 rw[h.2 c (List.getElem?_eq_some_iff.1 hx).1 hb,hx]
theorem dI{H:Heap}{c:Nat}{x:gI}(h:H[c]? =some x):c<H.length:=(List.getElem?_eq_some_iff.1 h).1
theorem fD{H:Heap}{b:Nat}{x:gI}(h:b<H.length):(H.set b x)[b]? =some x:=by simp[h]
theorem dA{x:Int}(h: -9223372036854775808≤x)(k:x≤9223372036854775807):IntKind.wrap .i64 x=x:=IntWalk.i64_in x ⟨h,k⟩
def fl(T:Tag)(l:List T.α):List Value:=l.flatMap T.cells
theorem iK(T:Tag)(a b:List T.α):fl T (a++b)=fl T a++fl T b:=by simp[fl]
theorem bW{T:Tag}(hT:∀x,(T.cells x).length=T.n):∀l:List T.α,(fl T l).length=l.length*T.n
 |[]=>by simp[fl]
 |x::r=>by
  have:=bW hT r
  simp only[fl,List.flatMap_cons,List.length_append,hT,List.length_cons]at this ⊢
  rw[this,Nat.add_mul]; omega
theorem iF{T:Tag}(l:List T.α)(i:Nat)(x:T.α)(h:l[i]? =some x):fl T l=fl T (l.take i)++(T.cells x++fl T (l.drop (i+1))):=by
 obtain⟨hi,hx⟩:=List.getElem?_eq_some_iff.1 h
 have:l=l.take i++(x::l.drop (i+1)):=by
  rw[←hx,List.getElem_cons_drop]; simp
 conv=>lhs; rw[this]
 simp[fl]
def SlR(T:Tag)(H:Heap)(s:Sl)(l:List T.α):Prop:=
 s.len=l.length∧(l=[]∨∃b B sz o ro,s.p=some ⟨b,0,none⟩∧H[b]? =some (.row (fl T l++B) sz o ro true))
end Go.Proofs.YtijnknjopjmiiaaGreatDoor.Zq
end
section
namespace Go.Proofs.YtijnknjopjmiiaaGreatDoor.Zq
def bP(B:List Nat)(H H':Heap):Prop:=H.length≤H'.length∧∀c,c<H.length->c∉B->H'[c]? =H[c]?
theorem bP.refl(B:List Nat)(H:Heap):bP B H H:=⟨Nat.le_refl _,fun _ _ _=>rfl⟩
theorem bP.trans{B:List Nat}{H H' H'':Heap}(h:bP B H H')(k:bP B H' H''):bP B H H'':=
 ⟨Nat.le_trans h.1 k.1,fun c hc hb=>by rw[k.2 c (Nat.lt_of_lt_of_le hc h.1) hb,h.2 c hc hb]⟩
theorem bP.then {B C:List Nat}{H H' H'':Heap}(h:bP B H H')(k:bP C H' H'')(hC:∀c∈C,c∈B∨H.length≤c):bP B H H'':=
 ⟨Nat.le_trans h.1 k.1,fun c hc hb=>by rw[k.2 c (Nat.lt_of_lt_of_le hc h.1) (fun hm=>by rcases hC c hm with q|q; exact hb q; omega),h.2 c hc hb]⟩
theorem bP.mono{B C:List Nat}{H H':Heap}(h:bP B H H')(hB:∀c∈B,c∈C):bP C H H':=⟨h.1,fun c hc hb=>h.2 c hc fun q=>hb (hB c q)⟩
theorem bP.get{B:List Nat}{H H':Heap}(h:bP B H H'){c:Nat}{x:gI}(hb:c∉B)(hx:H[c]? =some x):H'[c]? =some x:=by rw[h.2 c (dI hx) hb,hx]
theorem bP.app(B:List Nat)(H K:Heap):bP B H (H++K):=⟨by simp,fun c hc _=>List.getElem?_append_left hc⟩
theorem bP.set{B:List Nat}{b:Nat}(H:Heap)(x:gI)(hb:b∈B):bP B H (H.set b x):=⟨by simp,fun c _ hc=>by rw[List.getElem?_set_ne (by rintro rfl; exact hc hb)]⟩
theorem Fr.cO{b:Nat}{H H':Heap}(h:Fr b H H'):bP [b] H H':=⟨h.1,fun c hc hb=>h.2 c hc (by simpa using hb)⟩
theorem bP.fr{b:Nat}{H H':Heap}(h:bP [b] H H'):Fr b H H':=⟨h.1,fun c hc hb=>h.2 c hc (by simpa using hb)⟩
def Sl.off(s:Sl)(B:List Nat):Prop:=∀b∈B,s.p≠some ⟨b,0,none⟩
theorem SlR.cO{T:Tag}{H H':Heap}{s:Sl}{l:List T.α}{B:List Nat}(h:SlR T H s l)(f:bP B H H')(o:s.off B):SlR T H' s l:=by
 obtain⟨h1,h2|⟨c,D,sz,op,ro,h3,h4⟩⟩:=h
 ·exact⟨h1,.inl h2⟩
 ·exact⟨h1,.inr ⟨c,D,sz,op,ro,h3,f.get (fun q=>o c q h3) h4⟩⟩
def Ow(T:Tag)(H:Heap)(s:Sl)(l sp:List T.α):Prop:=
 s.len=l.length∧s.cap=l.length+sp.length∧s.cap≤9223372036854775807∧(s.p=none∧l=[]∧sp=[]∨∃c,s.p=some ⟨c,0,none⟩∧H[c]? =some (.row (fl T (l++sp)) T.n false false true))
theorem Ow.nil(T:Tag)(H:Heap):Ow T H ⟨none,0,0⟩ [] []:=⟨rfl,rfl,by simp,.inl ⟨rfl,rfl,rfl⟩⟩
theorem Ow.rd{T:Tag}{H:Heap}{s:Sl}{l sp:List T.α}(h:Ow T H s l sp):SlR T H s l:=by
 obtain⟨h1,_,_,⟨_,h3,_⟩|⟨c,h4,h5⟩⟩:=h
 ·exact⟨h1,.inl h3⟩
 ·exact⟨h1,.inr ⟨c,fl T sp,T.n,false,false,h4,by rw[h5,iK]⟩⟩
theorem Ow.cO{T:Tag}{H H':Heap}{s:Sl}{l sp:List T.α}{B:List Nat}(h:Ow T H s l sp)(f:bP B H H')(o:s.off B):Ow T H' s l sp:=by
 obtain⟨h1,h2,h0,h3|⟨c,h4,h5⟩⟩:=h
 ·exact⟨h1,h2,h0,.inl h3⟩
 ·exact⟨h1,h2,h0,.inr ⟨c,h4,f.get (fun q=>o c q h4) h5⟩⟩
theorem Ow.lt{T:Tag}{H:Heap}{s:Sl}{l sp:List T.α}(h:Ow T H s l sp){c:Nat}(hc:s.p=some ⟨c,0,none⟩):c<H.length:=by
 obtain⟨_,_,_,⟨h3,_⟩|⟨c',h4,h5⟩⟩:=h
 ·rw[h3]at hc; cases hc
 ·rw[h4]at hc; simp at hc; subst hc; exact dI h5
structure Oz(E:Env)(T:Tag)(ts:TypeId)(z:T.α):Prop where
 w:∃ti e te,E.ty ts=some ti∧ti.k= .slice e∧E.ty e=some te∧te.size=T.n∧te.bytes≠0∧te.bytes≤4096∧te.zero=T.cells z
 n:0<T.n
 len:∀x,(T.cells x).length=T.n
 one:∀x,(T.cells x).all cell1=true
theorem Py{T:Tag}(h1:∀x,(T.cells x).all cell1=true):∀l:List T.α,(fl T l).all cell1=true
 |[]=>rfl
 |x::r=>by
  have:=Py h1 r
  simp only[fl,List.flatMap_cons,List.all_append,Bool.and_eq_true]
  exact⟨h1 x,this⟩
theorem Pz{T:Tag}(z:T.α):∀n:Nat,rep n (T.cells z)=fl T (List.replicate n z)
 |0=>rfl
 |n+1=>by
  have:=Pz z n
  simp only[rep,this,List.replicate_succ,fl,List.flatMap_cons]
theorem Iz{T:Tag}(hT:∀x,(T.cells x).length=T.n)(l:List T.α)(m:Nat):(fl T l).take (m*T.n)=fl T (l.take m):=by
 by_cases h:m≤l.length
 ·conv=>lhs; rw[←List.take_append_drop m l,iK]
  rw[List.take_left' (by rw[bW hT]; simp[Nat.min_eq_left h])]
 ·rw[List.take_of_length_le (by rw[bW hT]; exact Nat.mul_le_mul_right _ (by omega)),List.take_of_length_le (by omega)]
theorem PD{T:Tag}(hT:∀x,(T.cells x).length=T.n)(l:List T.α)(m:Nat):(fl T l).drop (m*T.n)=fl T (l.drop m):=by
 by_cases h:m≤l.length
 ·conv=>lhs; rw[←List.take_append_drop m l,iK]
  rw[List.drop_left' (by rw[bW hT]; simp[Nat.min_eq_left h])]
 ·rw[List.drop_of_length_le (by rw[bW hT]; exact Nat.mul_le_mul_right _ (by omega)),List.drop_of_length_le (by omega)]; rfl
def After(s:Sl)(H H':Heap):Prop:=H.length≤H'.length∧∀d,d<H.length->s.p≠some ⟨d,0,none⟩->H'[d]? =H[d]?
theorem After.refl(s:Sl)(H:Heap):After s H H:=⟨Nat.le_refl _,fun _ _ _=>rfl⟩
theorem After.cO{s:Sl}{H H':Heap}{B:List Nat}(h:After s H H')(hb:∀d,s.p=some ⟨d,0,none⟩->d∈B∨H.length≤d):bP B H H':=
 ⟨h.1,fun c hc hn=>h.2 c hc fun e=>by rcases hb c e with q|q; exact hn q; omega⟩
theorem JA{E:Env}{T:Tag}{ts tx:TypeId}{z:T.α}(ty:Oz E T ts z){tj:TI}(h2:E.ty tx=some tj)(h4:∀k,tj.k≠ .int k)
  {H:Heap} {s:Sl} {l sp:List T.α} (xs:List T.α) {m:Nat} (hm:m=xs.length) {cs:List Value} (hcs:cs=fl T xs) (hbig:2*(l.length+xs.length)*4096≤281474976710656) (h:Ow T H s l sp) {k:Sl->Heap->Prop}
  (hk:∀s' H' sp',Ow T H' s' (l++xs) sp'->(s'.p=s.p∨s'.p=some ⟨H.length,0,none⟩∧H.length<H'.length)->After s H H'->k s' H'):EW aJ (lenV s.v+m) (fC E [ts,tx] s.v m cs H) k:=by
 obtain⟨⟨ti,e,te,e1,e2,e3,e4,e5,e6,e7⟩,hn,hT,hone⟩:=ty
 subst hm; subst hcs
 obtain⟨p,n,c⟩:=s
 obtain⟨g1,g2,g0,g3⟩:=h
 simp only at g1 g2 g0 g3; subst g1; subst g2
 have hxl:(fl T xs).length=xs.length*T.n:=bW hT xs
 have hb2:2*(l.length+xs.length)*te.bytes≤281474976710656:=Nat.le_trans (Nat.mul_le_mul_left _ e6) hbig
 have hne:te.size≠0:=by omega
 intro x hx
 have hcap:l.length+xs.length+x≤9223372036854775807:=by
  rcases hx with rfl|hx
  ·omega
  ·exact hx
 have grow:∀old:List Value,old=fl T l->growE E [ts,tx] l.length xs.length old (fl T xs) H x=some (.slice (some ⟨H.length,0,none⟩) (l.length+xs.length) (l.length+xs.length+x),mk H (fl T (l++xs++List.replicate x z)) T.n false):=by
  rintro old rfl
  have hol:=bW hT l
  have:growE E [ts,tx] l.length xs.length (fl T l) (fl T xs) H x=(if te.size=0∨(fl T xs).length≠xs.length*te.size∨(fl T l).length≠l.length*te.size then none
     else if 2*(l.length+xs.length)*te.bytes≤281474976710656∧te.bytes≠0 then some (.slice (some ⟨H.length,0,none⟩) (l.length+xs.length) (l.length+xs.length+x),mk H (fl T l++fl T xs++rep x te.zero) te.size false)else none):=by
   unfold growE
   simp only[e1,h2,e2,e3]
  rw[this,e4,if_neg (by omega),if_pos ⟨hb2,e5⟩,e7,Pz,iK,iK]
 have done:k ⟨some ⟨H.length,0,none⟩,l.length+xs.length,l.length+xs.length+x⟩ (mk H (fl T (l++xs++List.replicate x z)) T.n false):=by
  refine hk _ _ (List.replicate x z) ⟨by simp,by simp,hcap,.inr ⟨H.length,rfl,?_⟩⟩ (.inr ⟨rfl,by simp[mk]⟩) ⟨by simp[mk],fun d hd _=>by simp[mk,List.getElem?_append_left hd]⟩
  simp[mk]
 have apx:∀(s2:Value),uQ E [ts,tx] s2 xs.length (fl T xs) H=(if te.size=0∨(fl T xs).length≠xs.length*te.size then none else
    match s2 with
    | .slice none 0 0=>
     if xs.length=0 then some (.slice none 0 0,H)
     else if 2*xs.length*te.bytes≤281474976710656∧te.bytes≠0∧(fl T xs).all cell1=true then some (.slice (some ⟨H.length,0,none⟩) xs.length xs.length,mk H (fl T xs) te.size true)else none
    | .slice (some ⟨b,off,none⟩) len cap=>
     if xs.length=0 then(if len≤cap then some (s2,H)else none)
     else if len+xs.length≤cap then(wr H b (off+len*te.size) (fl T xs)).bind fun H'=>some (.slice (some ⟨b,off,none⟩) (len+xs.length) cap,H')
     else if 2*(len+xs.length)*te.bytes≤281474976710656∧te.bytes≠0∧(fl T xs).all cell1=true then
      (rd H b off (len*te.size)).bind fun old=>
       if exact H b off cap then
        some (.slice (some ⟨H.length,0,none⟩) (len+xs.length) (len+xs.length),mk H (old++fl T xs) te.size true)
       else
        match H[b]? with
        |some (.row _ sz _ false true)=>if sz=te.size then some (.slice (some ⟨H.length,0,none⟩) (len+xs.length) (len+xs.length),mk (kill H b) (old++fl T xs) te.size true)else none
        |_=>none
     else none
    | .slice (some ⟨b,off,some 0⟩) 0 0=>if xs.length=0 then some (.slice (some ⟨b,off,some 0⟩) 0 0,H)else none
    |_=>none):=fun s2=>by
  unfold uQ
  simp only[e1,h2,e2,e3,Option.bind_some]
  rfl
 have hif:¬(te.size=0∨(fl T xs).length≠xs.length*te.size):=by rw[e4]; omega
 rcases g3 with⟨rfl,rfl,rfl⟩|⟨c,rfl,hc⟩
 ·by_cases hx0:xs=[]
  ·subst hx0
   have v0:fC E [ts,tx] (.slice none 0 0) ([]:List T.α).length (fl T []) H x=some (.slice none 0 0,H):=by
    unfold fC
    simp only[List.length_nil,if_true]
    have:=apx (.slice none 0 0)
    simp only[List.length_nil]at this
    rw[this,if_neg (by simpa using hif)]
    rfl
   exact⟨⟨none,0,0⟩,H,v0,hk _ _ [] (Ow.nil T H) (.inl rfl) (After.refl _ _)⟩
  ·have v0:fC E [ts,tx] (.slice none 0 0) xs.length (fl T xs) H x=some (.slice (some ⟨H.length,0,none⟩) (([]:List T.α).length+xs.length) (([]:List T.α).length+xs.length+x),mk H (fl T ([]++xs++List.replicate x z)) T.n false):=by
    unfold fC
    simp only
    rw[if_neg (by simpa using hx0)]
    exact grow [] rfl
   exact⟨⟨some ⟨H.length,0,none⟩,([]:List T.α).length+xs.length,([]:List T.α).length+xs.length+x⟩,_,v0,done⟩
 ·have hlt:=dI hc
  have hex:Zq.exact H c 0 (l.length+sp.length)=true:=by unfold Zq.exact; rw[hc]; rfl
  by_cases hroom:xs.length≠0∧l.length+sp.length<l.length+xs.length
  ·have v0:fC E [ts,tx] (.slice (some ⟨c,0,none⟩) l.length (l.length+sp.length)) xs.length (fl T xs) H x=some (.slice (some ⟨H.length,0,none⟩) (l.length+xs.length) (l.length+xs.length+x),mk H (fl T (l++xs++List.replicate x z)) T.n false):=by
    unfold fC
    simp only
    rw[if_pos ⟨hroom.1,hroom.2,hex⟩]
    have helt:XT E [ts,tx]=T.n:=by simp[XT,e1,e2,e3,e4]
    have hrd:Zq.rd H c 0 (l.length*XT E [ts,tx])=some (fl T l):=by
     unfold Zq.rd
     rw[hc,helt]
     simp only
     rw[if_pos (by rw[bW hT,Nat.zero_add]; exact Nat.mul_le_mul_right _ (by simp)),List.drop_zero,Iz hT,List.take_left]
    rw[hrd]
    exact grow _ rfl
   exact⟨⟨some ⟨H.length,0,none⟩,l.length+xs.length,l.length+xs.length+x⟩,_,v0,done⟩
  ·by_cases hx0:xs=[]
   ·subst hx0
    have v0:fC E [ts,tx] (.slice (some ⟨c,0,none⟩) l.length (l.length+sp.length)) ([]:List T.α).length (fl T []) H x=some (.slice (some ⟨c,0,none⟩) l.length (l.length+sp.length),H):=by
     unfold fC
     simp only
     rw[if_neg (fun q=>hroom ⟨q.1,q.2.1⟩),apx,if_neg hif]
     simp
    exact⟨⟨some ⟨c,0,none⟩,l.length,l.length+sp.length⟩,H,v0,hk _ _ sp ⟨by simp,by simp,g0,.inr ⟨c,rfl,by simpa using hc⟩⟩ (.inl rfl) (After.refl _ _)⟩
   ·have hxl0:xs.length≠0:=by simpa using hx0
    have hsp:xs.length≤sp.length:=by omega
    have hw:wr H c (0+l.length*te.size) (fl T xs)=some (H.set c (.row (fl T (l++xs++sp.drop xs.length)) T.n false false true)):=by
     unfold wr
     rw[hc]
     simp only
     have hsz:(fl T (l++sp)).length=(l.length+sp.length)*T.n:=by rw[bW hT]; simp
     rw[if_pos (by rw[hsz,hxl,e4,Nat.zero_add,←Nat.add_mul]; exact Nat.mul_le_mul_right _ (by omega)),if_pos (Py hone xs)]
     congr 3
     unfold patch
     rw[hxl,e4,Nat.zero_add,←Nat.add_mul,Iz hT,PD hT,List.take_left,iK,iK]
     congr 2
     rw[←List.drop_drop,List.drop_left]
    have v0:fC E [ts,tx] (.slice (some ⟨c,0,none⟩) l.length (l.length+sp.length)) xs.length (fl T xs) H x=some (.slice (some ⟨c,0,none⟩) (l.length+xs.length) (l.length+sp.length),H.set c (.row (fl T (l++xs++sp.drop xs.length)) T.n false false true)):=by
     unfold fC
     simp only
     rw[if_neg (fun q=>hroom ⟨q.1,q.2.1⟩),apx,if_neg hif]
     simp only
     rw[if_neg hxl0,if_pos (by omega),hw]
     rfl
    exact⟨⟨some ⟨c,0,none⟩,l.length+xs.length,l.length+sp.length⟩,_,v0,hk _ _ (sp.drop xs.length) ⟨by simp,by simp; omega,g0,.inr ⟨c,rfl,by rw[fD hlt]⟩⟩ (.inl rfl) ⟨by simp,fun d _ hd=>by rw[List.getElem?_set_ne (by rintro rfl; exact hd rfl)]⟩⟩
def eY(T:Tag)(H:Heap)(s:Sl)(l:List T.α):Prop:=
 s.len=l.length∧((s.p=none∧l=[]∧s.cap=0)∨(∃b off,s.p=some ⟨b,off,some 0⟩∧l=[]∧s.cap=0)∨∃b A B sz o ro,s.p=some ⟨b,A.length,none⟩∧H[b]? =some (.row (A++(fl T l++B)) sz o ro true))
theorem eY.cO{T:Tag}{H H':Heap}{s:Sl}{l:List T.α}{B:List Nat}(h:eY T H s l)(f:bP B H H')(o:∀b∈B,∀off,s.p≠some ⟨b,off,none⟩):eY T H' s l:=by
 obtain⟨h1,h2|h2|⟨c,A,D,sz,op,ro,h3,h4⟩⟩:=h
 ·exact⟨h1,.inl h2⟩
 ·exact⟨h1,.inr (.inl h2)⟩
 ·exact⟨h1,.inr (.inr ⟨c,A,D,sz,op,ro,h3,f.get (fun q=>o c q _ h3) h4⟩)⟩
theorem Ow.rC{T:Tag}{H:Heap}{s:Sl}{l sp:List T.α}(h:Ow T H s l sp):eY T H s l:=by
 obtain⟨h1,h2,_,⟨h3,h4,h5⟩|⟨c,h4,h5⟩⟩:=h
 ·subst h4; subst h5; exact⟨h1,.inl ⟨h3,rfl,by simpa using h2⟩⟩
 ·exact⟨h1,.inr (.inr ⟨c,[],fl T sp,T.n,false,false,h4,by rw[h5,iK]; rfl⟩)⟩
theorem Ow.pre{T:Tag}{H:Heap}{s:Sl}{l sp:List T.α}(h:Ow T H s l sp)(n c:Nat)(hn:n≤l.length)(hc:s.p=none->c=0):eY T H ⟨s.p,n,c⟩ (l.take n):=by
 obtain⟨h1,h2,_,⟨h3,h4,h5⟩|⟨d,h4,h5⟩⟩:=h
 ·subst h4; subst h5; exact⟨by simp at hn; simpa using hn,.inl ⟨h3,by simp,hc h3⟩⟩
 ·exact⟨by simp; omega,.inr (.inr ⟨d,[],fl T (l.drop n++sp),T.n,false,false,h4,by rw[h5,←iK,←List.append_assoc,List.take_append_drop]; rfl⟩)⟩
theorem bf{T:Tag}(hT:∀x,(T.cells x).length=T.n){H:Heap}{s:Sl}{l:List T.α}(h:eY T H s l){i:Int}{n:Nat}{x:T.α}(hi:i=n)(hx:l[n]? =some x){k:T.α->Prop}{sz:Nat}(hz:sz=T.n)(hk:k x):dw s.p s.len i sz fun b o=>LD T H b o k:=by
 have hl:=(List.getElem?_eq_some_iff.1 hx).1
 obtain⟨h1,⟨_,h2,_⟩|⟨_,_,_,h2,_⟩|⟨b,A,B,z,o,ro,h3,h4⟩⟩:=h
 ·subst h2; simp at hl
 ·subst h2; simp at hl
 ·unfold dw NIL
  rw[h3]
  refine⟨⟨by omega,by omega⟩,?_⟩
  refine dO x (A++fl T (l.take n)) (fl T (l.drop (n+1))++B) h4 ?_ ?_ (hT x) hk
  ·rw[iF l n x hx]; simp[List.append_assoc]
  ·rw[List.length_append,bW hT,hi,hz,List.length_take,Nat.min_eq_left (by omega)]; simp
theorem PE{E:Env}{T:Tag}{ts tx:TypeId}{z:T.α}(ty:Oz E T ts z){tj:TI}(h2:E.ty tx=some tj)(h4:∀k,tj.k≠ .int k)
  {H:Heap} {s x:Sl} {l sp xs:List T.α} (hx:eY T H x xs) (hbig:2*(l.length+xs.length)*4096≤281474976710656) (h:Ow T H s l sp) {k:Sl->Heap->Prop}
  (hk:∀s' H' sp',Ow T H' s' (l++xs) sp'->(s'.p=s.p∨s'.p=some ⟨H.length,0,none⟩∧H.length<H'.length)->After s H H'->k s' H'):EW aJ (lenV s.v+(oH x.v).getD 0) (dM E [ts,tx] s.v x.v H) k:=by
 have hx1:x.len=xs.length:=hx.1
 have hfo:gK x.v x.len T.n H=some (fl T xs):=by
  obtain⟨p,n,c⟩:=x
  obtain⟨_,⟨h3,h5,h6⟩|⟨b,off,h3,h5,h6⟩|⟨b,A,B,sz,o,ro,h3,h5⟩⟩:=hx
  ·simp only at h3 h6 hx1; subst h3; subst h5; subst h6; subst hx1; simp[gK,Sl.v,fl]
  ·simp only at h3 h6 hx1; subst h3; subst h5; subst h6; subst hx1; simp[gK,Sl.v,fl]
  ·simp only at h3 hx1; subst h3; subst hx1
   simp only[gK,Sl.v]
   unfold Zq.rd
   rw[h5]
   simp only
   rw[if_pos (by simp[bW ty.len]),List.drop_left,List.take_left' (by rw[bW ty.len])]
 have:=JA (E:=E) (tx:=tx) ty h2 h4 (m:=x.len) xs hx1 rfl hbig h hk
 intro y hy
 have h3:=this y (by simpa[oH,Sl.v]using hy)
 obtain⟨⟨ti,e,te,e1,e2,e3,e4,e5,e6,e7⟩,hn,hT,hone⟩:=ty
 have e8:dM E [ts,tx] s.v x.v H y=fC E [ts,tx] s.v x.len (fl T xs) H y:=by
  unfold dM
  simp only[e1,e2,e3,e4]
  have:oH x.v=some x.len:=rfl
  rw[this]
  simp only[hfo]
 rw[e8]
 exact h3
section
variable{E:Env}{T:Tag}{ts tx:TypeId}{z:T.α}
def bJ(T:Tag)(H:Heap)(s':Sl)(H':Heap)(l sp:List T.α):Prop:=Ow T H' s' l sp∧(∀d,s'.p=some ⟨d,0,none⟩->H.length≤d)∧bP [] H H'
theorem Xc{H0 H H':Heap}{s:Sl}{l sp:List T.α}(h:Ow T H s l sp)(hp:∀d,s.p=some ⟨d,0,none⟩->H0.length≤d)(f:bP [] H0 H)(a:After s H H'):bP [] H0 H':=by
 obtain⟨_,_,_,⟨q,_⟩|⟨c,q,_⟩⟩:=h
 ·exact f.trans (a.cO fun d hd=>by rw[q]at hd; cases hd)
 ·exact f.then (a.cO (B:=[c]) fun d hd=>by rw[q]at hd; simp at hd; exact .inl (by simp[hd])) (fun d hd=>by simp at hd; subst hd; exact .inr (hp _ q))
theorem bJ.app{H H1:Heap}{s:Sl}{l sp:List T.α}(h:bJ T H s H1 l sp){H2:Heap}{s2:Sl}{l2 sp2:List T.α}(k1:Ow T H2 s2 l2 sp2)(k2:s2.p=s.p∨s2.p=some ⟨H1.length,0,none⟩∧H1.length<H2.length)(k3:After s H1 H2):bJ T H s2 H2 l2 sp2:=by
 obtain⟨h1,h2,h3⟩:=h
 refine⟨k1,fun d hd=> ?_,Xc h1 h2 h3 k3⟩
 rcases k2 with k2|⟨k2,_⟩
 ·exact h2 d (by rw[←k2,hd])
 ·rw[k2]at hd; simp at hd; subst hd; exact h3.1
theorem PG(ty:Oz E T ts z){tj:TI}(h2:E.ty tx=some tj)(h4:∀k,tj.k≠ .int k){H:Heap}{a:Sl}{l:List T.α}(ha:eY T H a l)(hl:l.length≤1048600){k:Sl->Heap->Prop}
  (hk:∀s' H' sp,bJ T H s' H' l sp->k s' H'):EW aJ (lenV (Sl.mk none 0 0).v+(oH a.v).getD 0) (dM E [ts,tx] (Sl.mk none 0 0).v a.v H) k:=by
 refine PE ty h2 h4 ha (by simp only[List.length_nil]; omega) (Ow.nil T H) fun s' H' sp h1 h2 h3=>hk s' H' sp ?_
 have h0:bJ T H ⟨none,0,0⟩ H [] []:=⟨Ow.nil T H,by simp,.refl _ _⟩
 exact h0.app (by simpa only[List.nil_append]using h1) h2 h3
theorem JB(ty:Oz E T ts z){H:Heap}{a b:Int}{n m:Nat}(ha:a=n)(hb:b=m)(hnm:n≤m)(hm:m≤2000000){k:Sl->Heap->Prop}
  (hk:∀s',s'=⟨some ⟨H.length,0,none⟩,n,m⟩->bJ T H s' (mk H (fl T (List.replicate m z)) T.n false) (List.replicate n z) (List.replicate (m-n) z)->k s' (mk H (fl T (List.replicate m z)) T.n false)):
  GEN aJ (dR E ts (.int .i64 a) (.int .i64 b) H) k:=by
 obtain⟨⟨ti,e,te,e1,e2,e3,e4,e5,e6,e7⟩,hn,hT,hone⟩:=ty
 subst ha; subst hb
 have hmk:dR E ts (.int .i64 (n:Int)) (.int .i64 (m:Int)) H=some (.slice (some ⟨H.length,0,none⟩) n m,mk H (fl T (List.replicate m z)) T.n false):=by
  unfold dR
  simp only[e1,e2,e3,Option.bind_some]
  have:(te.bytes:Int)*m≤281474976710656:=by
   have:te.bytes*m≤4096*2000000:=Nat.mul_le_mul e6 hm
   have h2:((te.bytes*m:Nat):Int)≤281474976710656:=by omega
   simpa using h2
  rw[if_pos ⟨by omega,by omega,this,by omega⟩,e7,Pz,e4]
  rfl
 refine⟨⟨some ⟨H.length,0,none⟩,n,m⟩,_,hmk,hk _ rfl ⟨⟨by simp,by simp; omega,by simp; omega,.inr ⟨_,rfl,?_⟩⟩,by simp,bP.app [] _ _⟩⟩
 rw[List.replicate_append_replicate,show n+(m-n)=m by omega]
 simp[mk]
theorem Vq(hT:∀x,(T.cells x).length=T.n){ne:T.α->T.α->Bool}(hne:∀x y,ne x y=false↔x=y){n:Nat}(hn:n=T.n){H:Heap}{a b:Sl}{l m:List T.α}(ha:eY T H a l)(hb:eY T H b m)(hl:l.length≤4611686018427387904){Q:Bool×Unit->Heap->Prop}
  (hq:∀r:Bool,(r=true↔l=m)->Q (r,()) H):
  aK ((a.len:Int) !=(b.len:Int)) (Q (false,()) H) (JOIN (fun(j1:(Unit)×(Unit)->Heap->Prop)=>LOOP (fun(r3:(Int×Unit)×(Unit)->Heap->Prop) (s4:(Int×Unit)×(Unit)) H2=>
   aK (decide (s4.1.1<(a.len:Int))) (dw a.p a.len s4.1.1 n fun b5 o6=>LD T H2 b5 o6 fun x7=>dw b.p b.len s4.1.1 n fun b8 o9=>LD T H2 b8 o9 fun x10=>aK (ne x7 x10) (Q (false,()) H2) (r3 ((IntKind.wrap .i64 (s4.1.1+1),()),(())) H2)) (j1 ((()),(())) H2)) ((0,()),(())) H) fun(_:(Unit)×(Unit)) H1=>Q (true,()) H1):=by
 have ha1:a.len=l.length:=ha.1
 have hb1:b.len=m.length:=hb.1
 subst hn
 refine bT (fun h=> ?_) (fun h=> ?_)
 ·refine hq false ⟨fun h=>(by cases h),fun e=> ?_⟩
  subst e
  rw[ha1,hb1]at h
  simp at h
 ·have hlm:l.length=m.length:=by rw[ha1,hb1]at h; have:(l.length:Int)=m.length:=(by simpa using h); omega
  refine bF ?_
  refine bG (fun(s:(Int×Unit)×Unit) H'=>H'=H∧∃n:Nat,s.1.1=n∧n≤l.length∧l.take n=m.take n) (fun s=>l.length-s.1.1.toNat) ?_ ⟨rfl,0,rfl,Nat.zero_le _,by simp⟩
  rintro G ⟨⟨i,_⟩,_⟩ H' ⟨rfl,n,hi,hn,heq⟩ hG
  simp only at hi; subst hi
  dsimp only at hG ⊢
  refine bT (fun hlt=> ?_) (fun hge=> ?_)
  ·have hlt:n<l.length:=by have:=of_decide_eq_true hlt; omega
   have hlt2:n<m.length:=by omega
   refine bf (T:=T) hT ha rfl (List.getElem?_eq_getElem hlt) rfl ?_
   refine bf (T:=T) hT hb rfl (List.getElem?_eq_getElem hlt2) rfl ?_
   refine bT (fun h1=> ?_) (fun h1=> ?_)
   ·refine hq false ⟨fun h=>(by cases h),fun e=> ?_⟩
    subst e
    have:=(hne l[n] l[n]).2 rfl
    rw[this]at h1; cases h1
   ·have he:=(hne _ _).1 h1
    rw[dA (by omega) (by omega)]
    refine hG _ _ ⟨rfl,n+1,by simp,hlt,?_⟩ (by simp; omega)
    rw[List.take_succ_eq_append_getElem hlt,List.take_succ_eq_append_getElem hlt2,heq,he]
  ·have hge:l.length≤n:=by have:=of_decide_eq_false hge; omega
   refine hq true ⟨fun _=> ?_,fun _=>rfl⟩
   rw[List.take_of_length_le hge,List.take_of_length_le (by omega)]at heq
   exact heq
end
end Go.Proofs.YtijnknjopjmiiaaGreatDoor.Zq
end
