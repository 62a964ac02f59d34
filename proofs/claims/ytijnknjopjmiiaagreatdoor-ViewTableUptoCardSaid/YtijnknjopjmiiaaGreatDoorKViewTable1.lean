/- Part 1 of the proof of ViewTable: what its row stands on (lemmas about the model, the evaluator, contracts of functions), put together and cut to what is used. -/
import Derived.Test.YtijnknjopjmiiaaGreatDoorKViewTable0
import Derived.LoopNIn
import Derived.RangeFuncLeaves
import Derived.Scope
section
namespace Go.Proofs.YtijnknjopjmiiaaGreatDoor.Zq
variable{P:Program}{E:Env}{M:Mp}{H H':Heap}{w:World}{call:iU}{ro:Option Nat}{n:Nat}{fr fr':dK}{a:Act}{Q:Exit->Act->World->Prop}
theorem zM{ops:Array Oper}{o:Oper}{b:Bool}(hf:FR M fr a.tmps)(h:iy ops fr o=some b):Region.wanted o (yielded ops a.tmps)=b:=by
 unfold iy at h
 unfold Region.wanted
 split at h
 ·rename_i hg; simp at h; subst h; rw[hg]
 ·rename_i j want hg
  rw[hg]
  simp only
  unfold yielded
  split at h
  ·rename_i hd; simp at h; subst h; rw[hd]; rfl
  ·rename_i d hd
   rw[hd]
   obtain⟨v,hv,h2⟩:=aj h
   have hr:=hf.get d v hv
   simp only[Option.bind_some]
   split at h2
   ·rename_i c
    simp at h2; subst h2
    have:=hr.of_bool
    simp only[Array.getD_eq_getD_getElem?]at this
    cases hq:a.tmps[d]? with
    |none=>rw[hq]at this; simp[undef]at this
    |some u=>rw[hq]at this; simp at this; subst this; simp
   ·rename_i hnb
    simp at h2; subst h2
    simp only[Array.getD_eq_getD_getElem?]at hr
    cases hq:a.tmps[d]? with
    |none=>simp
    |some u=>
     rw[hq]at hr
     simp only[Option.getD_some]at hr
     cases u with
     |bool c=>exfalso; cases hr; exact hnb _ rfl
     |_=>simp
theorem FR.put'{tmps:Act}(h:FR M fr tmps.tmps){d:Option Nat}(hd:Di fr d=true){v v':Value}(hv:VR M v v'):FR M (fr.dU d v) (tmps.put d v').tmps:=by
 cases d with
 |none=>exact h
 |some d=>exact h.put (by simpa[Di]using hd) hv
theorem put_defers(a:Act)(d:Option Nat)(v:Value):(a.put d v).defers=a.defers:=by cases d<;>rfl
theorem abd(hE:E.Ok P)(hC:kK P call)(h:HR M H w){ops:Array Oper}{o:Oper}{i:Nat}(hi:ops[i]? =some o)(hf:FR M fr a.tmps)(ho:IK E call ops o fr H=some (fr',H')){K:Act->World->Prop}
  (hK:∀M' a' w',Stp M H w M' H' w'->FR M' fr' a'.tmps->a'.defers=a.defers->K a' w'):wpOpIn (Fw ro) n P ops Q i K a w:=by
 unfold IK at ho
 split at ho
 ·rename_i hp
  obtain⟨b,hb,h2⟩:=aj ho
  have hw:=zM hf hb
  unfold wpOpIn
  rw[hi]
  simp only
  rw[hw]
  cases b with
  |true=>
   simp only[if_true]at h2 ⊢
   obtain⟨r,hr,h3⟩:=aj h2
   simp at h3; obtain⟨rfl,rfl⟩:=h3
   obtain⟨v,H1⟩:=r
   exact YX hE hC h hf hr fun v' M' w' hs hv=>hK M' _ w' hs ((hf.mono hs.ext).put' hp hv) (put_defers _ _ _)
  |false=>
   simp at h2; obtain⟨rfl,rfl⟩:=h2
   simp only[Bool.false_eq_true,if_false]
   exact⟨fun _ _=>trivial,hK M _ w (.refl h) (hf.put' hp (.undef M)) (put_defers _ _ _)⟩
 ·simp at ho
theorem YZ(hE:E.Ok P)(hC:kK P call){ops:Array Oper}:∀(os:List Oper) (k:Nat) (fr:dK) (H:Heap) (M:Mp) (a:Act) (w:World),ops.toList.drop k=os->IL E call ops os fr H=some (fr',H')->HR M H w->FR M fr a.tmps→
  (∀M' a' w',Stp M H w M' H' w'->FR M' fr' a'.tmps->a'.defers=a.defers->Q .normal a' w')->wpOpsIn (Fw ro) n P ops Q (List.range' k os.length) a w
 |[],k,fr,H,M,a,w,_,ho,h,hf,hQ=>by
  simp[IL]at ho; obtain⟨rfl,rfl⟩:=ho
  exact hQ M a w (.refl h) hf rfl
 |o::os,k,fr,H,M,a,w,hd,ho,h,hf,hQ=>by
  simp only[IL]at ho
  obtain⟨r,h1,h2⟩:=aj ho
  obtain⟨fr1,H1⟩:=r
  have hi:ops[k]? =some o:=by
   have:=congrArg (·[0]?) hd
   simpa using this
  have hd':ops.toList.drop (k+1)=os:=by
   rw[←List.drop_drop,hd]; rfl
  simp only[List.length_cons,List.range'_succ]
  rw[wpOpsIn_cons]
  refine abd hE hC h hi hf h1 fun M1 a1 w1 hs1 hf1 hdef1=> ?_
  exact YZ hE hC os (k+1) fr1 H1 M1 a1 w1 hd' h2 hs1.hr hf1 fun M' a' w' hs' hf' hdef'=>hQ M' a' w' (hs1.trans hs') hf' (hdef'.trans hdef1)
theorem XO(hE:E.Ok P)(hC:kK P call){ops:Array Oper}{id:Nat}(ho:IL E call ops ops.toList fr H=some (fr',H'))(h:HR M H w)(hf:FR M fr a.tmps)
  (hQ:∀M' a' w',Stp M H w M' H' w'->FR M' fr' a'.tmps->a'.defers=a.defers->Q .normal a' w'):(Code.region id ops false).wpIn (Fw ro) n P Q a w:=by
 refine wpIn_region ?_
 have:=YZ (ro:=ro) (n:=n) (Q:=Q) hE hC ops.toList 0 fr H M a w (by simp) ho h hf hQ
 rw[List.range_eq_range']
 simpa using this
end Go.Proofs.YtijnknjopjmiiaaGreatDoor.Zq
end
section
namespace Go.Proofs.YtijnknjopjmiiaaGreatDoor.Zq
variable{P:Program}{E:Env}{call call':iU}{fr fr':dK}{H H' H2:Heap}{v:Value}
theorem dZ{x:Operand}(h:∀t,x= .tmp t->fr.get t=fr'.get t):nS fr x=nS fr' x:=by
 cases x<;>simp[nS]
 exact h _ rfl
theorem vN:∀{l:List Operand},(∀t,Operand.tmp t∈l->fr.get t=fr'.get t)->GX fr l=GX fr' l
 |[],_=>rfl
 |x::l,h=>by
  simp only[GX]
  rw[dZ (fun t e=>h t (by simp[e])),vN (fun t e=>h t (by simp[e]))]
theorem vO:∀{l:List (Nat×Operand)},(∀t,Operand.tmp t∈l.map (·.2)->fr.get t=fr'.get t)->qc fr l=qc fr' l
 |[],_=>rfl
 |(i,x)::l,h=>by
  simp only[qc]
  rw[dZ (fun t e=>h t (by simp[e])),vO (fun t e=>h t (by simp only[List.map_cons,List.mem_cons]; exact .inr e))]
theorem BA{x:Option Operand}(h:∀t,x=some (.tmp t)->fr.get t=fr'.get t):IJ fr x=IJ fr' x:=by
 cases x with
 |none=>rfl
 |some x=>simp only[IJ]; rw[dZ (fun t e=>h t (by rw[e]))]
theorem Y0{o:Op}(h:∀t,Operand.tmp t∈o.operands.toList->fr.get t=fr'.get t):iI E call fr o H=iI E call fr' o H:=by
 cases o with
 |makeFunc f first caps=>
  cases f<;>simp only[iI]
  rw[vN (l:=first.toList) (fun t e=>h t (by simp[Op.operands]; left; simpa using e)),vN (l:=caps.toList) (fun t e=>h t (by simp[Op.operands]; right; simpa using e))]
 |call c=>
  simp only[iI]
  rw[vN (l:=c.args.toList) (fun t e=>h t (by simp[Op.operands,Call.operands]; right; simpa using e))]
  have hv:∀f,c.callee= .value f->nS fr f=nS fr' f:=fun f hf=>dZ fun t e=>h t (by simp[Op.operands,Call.operands,hf,e])
  obtain⟨callee,args,ts⟩:=c
  cases callee with
  |value f=>simp only[hv f rfl]
  |builtin b=>cases b<;>rfl
  |invoke r m=>rfl
 |build t ps=>
  simp only[iI]
  rw[vO (fun t e=>h t (by simpa[Op.operands]using e))]
 |buildSlice t n ps=>
  simp only[iI]
  rw[vO (fun t e=>h t (by simpa[Op.operands]using e))]
 |slice t x lo hi mx=>
  simp only[iI]
  rw[dZ (x:=x) (fun t e=>h t (by simp[Op.operands,e])),BA (x:=lo) (fun t e=>h t (by simp[Op.operands,e])),BA (x:=hi) (fun t e=>h t (by simp[Op.operands,e])),BA (x:=mx) (fun t e=>h t (by simp[Op.operands,e]))]
 |move x|assign x|box _ x|load _ x|nilCheck x|unOp _ _ x|convert _ _ x|fieldAddr _ x _|field _ x _|extract x _|range _ x=>
  simp only[iI]
  rw[dZ (x:=x) (fun t e=>h t (by simp[Op.operands,e]))]
 |pick c x y=>
  simp only[iI]
  rw[dZ (x:=c) (fun t e=>h t (by simp[Op.operands,e])),dZ (x:=x) (fun t e=>h t (by simp[Op.operands,e])),dZ (x:=y) (fun t e=>h t (by simp[Op.operands,e]))]
 |makeMap t r=>cases r<;>rfl
 |next x st=>
  cases st with
  |false=>rfl
  |true=>
   simp only[iI]
   rw[dZ (x:=x) (fun t e=>h t (by simp[Op.operands,e]))]
 |mapUpdate t m k x|insert t m k x=>
  simp only[iI]
  rw[dZ (x:=m) (fun t e=>h t (by simp[Op.operands,e])),dZ (x:=k) (fun t e=>h t (by simp[Op.operands,e])),dZ (x:=x) (fun t e=>h t (by simp[Op.operands,e]))]
 |store _ x y|binOp _ _ x y _|makeSlice _ x y|indexAddr _ x y|index _ x y|lookup _ x y _=>
  simp only[iI]
  rw[dZ (x:=x) (fun t e=>h t (by simp[Op.operands,e])),dZ (x:=y) (fun t e=>h t (by simp[Op.operands,e]))]
 |_=>rfl
theorem XP{o:Op}(h:YM o=false):iI E call fr o H=iI E call' fr o H:=by
 cases o with
 |call c=>
  obtain⟨callee,args,ts⟩:=c
  cases callee with
  |builtin b=>cases b<;>first|rfl|(simp[YM]at h)
  |_=>simp[YM]at h
 |makeFunc f first caps=>cases f<;>rfl
 |makeMap t r=>cases r<;>rfl
 |_=>first|rfl|(simp[YM]at h)
theorem ES{o:Op}(h:YM o=false)(ho:iI E call fr o H=some (v,H')):H'=H:=by
 cases o with
 |call c=>
  obtain⟨callee,args,ts⟩:=c
  cases callee with
  |builtin b=>
   cases b<;>first|(simp[YM]at h; done)|skip
   all_goals
    simp only[iI]at ho
    obtain⟨vs,h1,h2⟩:=aj ho
    split at h2
    ·obtain⟨u,h3,h4⟩:=aj h2
     simp at h4; exact h4.2.symm
    ·simp at h2
  |_=>simp[YM]at h
 |makeFunc f first caps=>
  cases f<;>simp only[iI]at ho
  ·obtain⟨xs,h1,h2⟩:=aj ho
   obtain⟨ys,h3,h4⟩:=aj h2
   simp at h4; exact h4.2.symm
  all_goals simp at ho
 |pick c x y=>
  simp only[iI]at ho
  obtain⟨u,h1,h2⟩:=aj ho
  unfold Rj at h2
  split at h2
  ·obtain⟨u2,h3,h4⟩:=aj h2
   simp at h4; exact h4.2.symm
  ·obtain⟨u2,h3,h4⟩:=aj h2
   simp at h4; exact h4.2.symm
  ·simp at h2
 |move x|assign x=>
  simp only[iI]at ho
  obtain⟨u,h1,h2⟩:=aj ho
  simp at h2; exact h2.2.symm
 |nilCheck x=>
  simp only[iI]at ho
  obtain⟨u,h1,h2⟩:=aj ho
  split at h2
  ·simp at h2; exact h2.2.symm
  ·simp at h2; exact h2.2.symm
  ·simp at h2; exact h2.2.symm
  ·simp at h2
 |build t ps|unOp _ _ x|convert _ _ x|fieldAddr _ x _|field _ x _|extract x _|load _ x=>
  simp only[iI]at ho
  obtain⟨u,h1,h2⟩:=aj ho
  obtain⟨u2,h3,h4⟩:=aj h2
  simp at h4; exact h4.2.symm
 |binOp _ _ x y _|indexAddr _ x y|index _ x y|lookup _ x y _=>
  simp only[iI]at ho
  obtain⟨u,h1,h2⟩:=aj ho
  obtain⟨u2,h3,h4⟩:=aj h2
  obtain⟨u3,h5,h6⟩:=aj h4
  simp at h6; exact h6.2.symm
 |slice t x lo hi mx=>
  simp only[iI]at ho
  obtain⟨u,h1,h2⟩:=aj ho
  obtain⟨lo,h3,h4⟩:=aj h2
  obtain⟨hi,h5,h6⟩:=aj h4
  obtain⟨mx,h7,h8⟩:=aj h6
  obtain⟨r,h9,h10⟩:=aj h8
  simp at h10; exact h10.2.symm
 |_=>first|(simp[YM]at h; done)|(simp[iI]at ho)
theorem XQ{o:Op}(h:isPure o=true)(ho:iI E call fr o H=some (v,H'))(H2:Heap):iI E call fr o H2=some (v,H2):=by
 cases o with
 |call c=>
  obtain⟨callee,args,ts⟩:=c
  cases callee with
  |builtin b=>
   cases b<;>first|(simp[isPure]at h; done)|skip
   all_goals
    simp only[iI]at ho ⊢
    obtain⟨vs,h1,h2⟩:=aj ho
    rw[h1]
    simp only[Option.bind_some]
    split at h2
    ·obtain⟨u,h3,h4⟩:=aj h2
     simp at h4
     simp[h3,h4.1]
    ·simp at h2
  |_=>simp[isPure]at h
 |makeFunc f first caps=>
  cases f<;>simp only[iI]at ho ⊢
  ·obtain⟨xs,h1,h2⟩:=aj ho
   obtain⟨ys,h3,h4⟩:=aj h2
   simp at h4; simp[h1,h3,h4.1]
  all_goals simp at ho
 |pick c x y=>
  simp only[iI]at ho ⊢
  obtain⟨u,h1,h2⟩:=aj ho
  rw[h1]; simp only[Option.bind_some]
  unfold Rj at h2 ⊢
  split at h2
  ·obtain⟨u2,h3,h4⟩:=aj h2
   simp at h4; simp[h3,h4.1]
  ·obtain⟨u2,h3,h4⟩:=aj h2
   simp at h4; simp[h3,h4.1]
  ·simp at h2
 |move x|assign x=>
  simp only[iI]at ho ⊢
  obtain⟨u,h1,h2⟩:=aj ho
  simp at h2; simp[h1,h2.1]
 |nilCheck x=>
  simp only[iI]at ho ⊢
  obtain⟨u,h1,h2⟩:=aj ho
  rw[h1]; simp only[Option.bind_some]
  split at h2
  ·simp at h2; simp[h2.1]
  ·simp at h2; simp[h2.1]
  ·simp at h2; simp[h2.1]
  ·simp at h2
 |build t ps|unOp _ _ x|convert _ _ x|fieldAddr _ x _|field _ x _|extract x _=>
  simp only[iI]at ho ⊢
  obtain⟨u,h1,h2⟩:=aj ho
  obtain⟨u2,h3,h4⟩:=aj h2
  simp at h4; simp[h1,h3,h4.1]
 |binOp _ _ x y _|indexAddr _ x y|index _ x y=>
  simp only[iI]at ho ⊢
  obtain⟨u,h1,h2⟩:=aj ho
  obtain⟨u2,h3,h4⟩:=aj h2
  obtain⟨u3,h5,h6⟩:=aj h4
  simp at h6; simp[h1,h3,h5,h6.1]
 |_=>first|(simp[isPure]at h; done)|(simp[iI]at ho)
theorem RP{a b:Value}(h:WA a b=true):a=b:=by
 unfold WA at h
 split at h
 ·simp at h; rw[h]
 ·simp at h; rw[h.1,h.2]
 ·rename_i x y
  obtain⟨⟨x⟩⟩:=x
  obtain⟨⟨y⟩⟩:=y
  simp at h; rw[h]
 ·simp at h; rw[h]
 ·simp at h; rw[h.1.1,h.1.2,h.2]
 ·simp at h; rw[h]
 ·rfl
 ·rfl
 ·simp at h
theorem Jb:∀{a b:List Value},IU a b=true->a=b
 |[],[],_=>rfl
 |[],_::_,h=>by simp[IU]at h
 |_::_,[],h=>by simp[IU]at h
 |a::x,b::y,h=>by
  simp[IU]at h
  rw[RP h.1,Jb h.2]
theorem Y1{a b:Value}(h:WB a b=true):a=b:=by
 unfold WB at h
 split at h
 ·have:=Jb h
  rw[Array.ext' this]
 ·exact RP h
end Go.Proofs.YtijnknjopjmiiaaGreatDoor.Zq
end
section
namespace Go.Proofs.YtijnknjopjmiiaaGreatDoor.Zq
variable{P:Program}{E:Env}{call:iU}{ops:Array Oper}
def nY(ops:Array Oper)(q:Nat):Option Nat:=(ops[q]?).bind (·.dst)
def uU(ops:Array Oper)(q:Nat):Prop:=∃o,ops[q]? =some o∧xG o.op=true
structure Trace(E:Env)(call:iU)(ops:Array Oper)(pr:Nat->Option Value)(F:Nat->dK)(Hs:Nat->Heap):Prop where
 step:∀i o,ops[i]? =some o->yc E call ops (pr i) o (F i) (Hs i)=some (F (i+1),Hs (i+1))
 al:∀i o,ops[i]? =some o->(pr i).isSome=IQ o.op
 inj:∀i j p,pr i=some p->pr j=some p->i=j
theorem Trace.n{pr:Nat->Option Value}{F:Nat->dK}{Hs:Nat->Heap}(t:Trace E call ops pr F Hs):∀i,i≤ops.size->(F i).n=(F 0).n
 |0,_=>rfl
 |i+1,h=>by
  have hi:ops[i]? =some ops[i]:=Array.getElem?_eq_getElem (by omega)
  have hs:=t.step i _ hi
  have:(F (i+1)).n=(F i).n:=by
   unfold yc at hs
   split at hs
   ·obtain⟨b,hb,h2⟩:=aj hs
    cases b with
    |true=>
     simp only[if_true]at h2
     obtain⟨r,hr,h3⟩:=aj h2
     simp at h3; rw[←h3.1]; cases (ops[i]).dst<;>rfl
    |false=>simp at h2; rw[←h2.1]; cases (ops[i]).dst<;>rfl
   ·simp at hs
  rw[this]; exact t.n i (by omega)
theorem Y2{fr:dK}{d:Option Nat}{v:Value}{t:Nat}(h:d≠some t):(fr.dU d v).get t=fr.get t:=by
 cases d with
 |none=>rfl
 |some d=>
  simp only[dK.dU,dK.put,dK.get,look]
  rw[if_neg (fun e=>h (by rw[e]))]
theorem Oh{fr:dK}{v:Value}{t:Nat}:(fr.dU (some t) v).get t=some v:=by
 simp[dK.dU,dK.put,dK.get,look]
theorem BF{pv:Option Value}{o:Oper}{fr fr':dK}{H H':Heap}(h:yc E call ops pv o fr H=some (fr',H')):
  Di fr o.dst=true∧∃v,fr'=fr.dU o.dst v∧((iy ops fr o=some true∧U4 E call pv fr o.op H=some (v,H'))∨(iy ops fr o=some false∧v=undef∧H'=H)):=by
 unfold yc at h
 split at h
 ·rename_i hp
  refine⟨hp,?_⟩
  obtain⟨b,hb,h2⟩:=aj h
  cases b with
  |true=>
   simp only[if_true]at h2
   obtain⟨r,hr,h3⟩:=aj h2
   obtain⟨v,H1⟩:=r
   simp at h3; obtain⟨rfl,rfl⟩:=h3
   exact⟨v,rfl,.inl ⟨hb,hr⟩⟩
  |false=>simp at h2; obtain⟨rfl,rfl⟩:=h2; exact⟨undef,rfl,.inr ⟨hb,rfl,rfl⟩⟩
 ·simp at h
section
variable{pr:Nat->Option Value}{F:Nat->dK}{Hs:Nat->Heap}
theorem Trace.heap(t:Trace E call ops pr F Hs){i:Nat}{o:Oper}(hi:ops[i]? =some o)(hx:xG o.op=false):Hs (i+1)=Hs i:=by
 obtain⟨_,v,_,h⟩:=BF (t.step i o hi)
 rcases h with⟨_,h⟩|⟨_,_,h⟩
 ·have ha:=t.al i o hi
  unfold U4 at h
  cases hp:pr i with
  |some p=>rw[hp]at h; simp at h; exact h.2.symm
  |none=>
   rw[hp]at h ha
   simp only at h
   have hal:IQ o.op=false:=by simpa using ha.symm
   have hxx:YM o.op=false:=by simpa[xG,hal]using hx
   exact ES hxx h
 ·exact h
theorem Trace.heaps(t:Trace E call ops pr F Hs){p:Nat}:∀{q:Nat},p≤q->q≤ops.size->(∀x,p≤x->x<q->¬uU ops x)->Hs q=Hs p:=by
 intro q hpq
 induction q with
 |zero=>intro _ _; have:p=0:=(by omega); subst this; rfl
 |succ q ih=>
  intro hq hn
  by_cases e:p=q+1
  ·subst e; rfl
  ·have hi:ops[q]? =some ops[q]:=Array.getElem?_eq_getElem (by omega)
   have hx:xG (ops[q]).op=false:=by
    cases hc:xG (ops[q]).op with
    |false=>rfl
    |true=>exact absurd ⟨_,hi,hc⟩ (hn q (by omega) (by omega))
   rw[t.heap hi hx]
   exact ih (by omega) (by omega) (fun x h1 h2=>hn x h1 (by omega))
theorem Trace.get(tr:Trace E call ops pr F Hs){t p:Nat}:∀{q:Nat},p≤q->q≤ops.size->(∀x,p≤x->x<q->nY ops x≠some t)->(F q).get t=(F p).get t:=by
 intro q hpq
 induction q with
 |zero=>intro _ _; have:p=0:=(by omega); subst this; rfl
 |succ q ih=>
  intro hq hn
  by_cases e:p=q+1
  ·subst e; rfl
  ·have hi:ops[q]? =some ops[q]:=Array.getElem?_eq_getElem (by omega)
   obtain⟨_,v,hv,_⟩:=BF (tr.step q _ hi)
   rw[hv,Y2 (by have:=hn q (by omega) (by omega); unfold nY at this; rw[hi]at this; exact this)]
   exact ih (by omega) (by omega) (fun x h1 h2=>hn x h1 (by omega))
end
structure Plan(ops:Array Oper)(A:Nat->Nat->Prop):Prop where
 edge:∀i j,A i j->∃o e,ops[i]? =some o∧e∈o.after.toList∧Region.binds .any e=true∧(j=e.on∨A e.on j)
 back:∀i o e,ops[i]? =some o->e∈o.after.toList->Region.binds .any e=true->e.on<i
 xs:∀i j,uU ops i->uU ops j->i<j->A j i
 names:∀i o t q,ops[i]? =some o->t∈fQ ops o->nY ops q=some t->q≠i->(q<i->A i q)∧(i<q->A q i)
structure zV(P:Program)(E:Env)(ops:Array Oper)(A:Nat->Nat->Prop)(pr:Nat->Option Value)(H0:Heap)(F:Nat->dK)(Hs:Nat->Heap)(M0:Mp)(w0:World)(a0:Act)(L:Nat->Bool)(M:Mp)(c:Nat)(a:Act)(w:World):Prop where
 closed:∀i j,L i=true->A i j->L j=true
 st:Stp M0 H0 w0 M (Hs c) w
 res:∀i o t,ops[i]? =some o->o.op= .alloc t->L i=false->∃b ti,pr i=some (.pointer (some ⟨b,0,none⟩))∧E.ty t=some ti∧M0.length≤b∧M[b]? =some none∧(Hs c)[b]? =some (.row ti.zero ti.size false false true)
 c_le:c≤ops.size
 c_x:c=0∨∃x,c=x+1∧uU ops x∧L x=true
 c_max:∀y,uU ops y->L y=true->y<c
 size:a.tmps.size=(F 0).n
 defers:a.defers=a0.defers
 new:∀i t v,L i=true->i<ops.size->nY ops i=some t->(∀q,L q=true->nY ops q=some t->q≤i)->(F (i+1)).get t=some v->VR M v (a.tmps.getD t undef)
 old:∀t v,(∀q,L q=true->nY ops q≠some t)->(F 0).get t=some v->VR M v (a.tmps.getD t undef)
theorem Jc(W:Nat->Prop)(i:Nat):(∃q,q<i∧W q∧∀r,r<i->W r->r≤q)∨(∀q,q<i->¬W q):=by
 induction i with
 |zero=>exact .inr fun q h=>by omega
 |succ i ih=>
  by_cases h:W i
  ·exact .inl ⟨i,by omega,h,fun r hr _=>by omega⟩
  ·rcases ih with⟨q,h1,h2,h3⟩|h1
   ·refine .inl ⟨q,by omega,h2,fun r hr hw=> ?_⟩
    by_cases e:r=i
    ·subst e; exact absurd hw h
    ·exact h3 r (by omega) hw
   ·refine .inr fun q hq hw=> ?_
    by_cases e:q=i
    ·subst e; exact h hw
    ·exact h1 q (by omega) hw
section
variable{A:Nat->Nat->Prop}{pr:Nat->Option Value}{H0:Heap}{F:Nat->dK}{Hs:Nat->Heap}{M0 M:Mp}{w0 w:World}{a0 a:Act}{L:Nat->Bool}{c:Nat}
theorem zV.names(d:zV P E ops A pr H0 F Hs M0 w0 a0 L M c a w)(pl:Plan ops A)(tr:Trace E call ops pr F Hs){i:Nat}{o:Oper}(hi:ops[i]? =some o)(hL:L i=false)(hA:∀j,A i j->L j=true){t:Nat}(ht:t∈fQ ops o){v:Value}
  (hv:(F i).get t=some v):VR M v (a.tmps.getD t undef):=by
 have hin:i<ops.size:=(Array.getElem?_eq_some_iff.1 hi).1
 have lt_of:∀q,L q=true->nY ops q=some t->q<i:=by
  intro q hq hd
  by_cases e:q=i
  ·subst e; rw[hL]at hq; simp at hq
  ·rcases Nat.lt_or_gt_of_ne e with h|h
   ·exact h
   ·have:=d.closed q i hq ((pl.names i o t q hi ht hd e).2 h)
    rw[hL]at this; simp at this
 have list_of:∀q,q<i->nY ops q=some t->L q=true:=fun q hq hd=>hA q ((pl.names i o t q hi ht hd (by omega)).1 hq)
 rcases Jc (fun q=>nY ops q=some t) i with⟨q,h1,h2,h3⟩|h1
 ·refine d.new q t v (list_of q h1 h2) (by omega) h2 (fun r hr hd=>h3 r (lt_of r hr hd) hd) ?_
  rw[←tr.get (t:=t) (p:=q+1) (q:=i) (by omega) (by omega) (fun x hx1 hx2 hd=>by have:=h3 x hx2 hd; omega)]
  exact hv
 ·refine d.old t v (fun q hq hd=>h1 q (lt_of q hq hd) hd) ?_
  rw[←tr.get (t:=t) (p:=0) (q:=i) (by omega) (by omega) (fun x _ hx2 hd=>h1 x hx2 hd)]
  exact hv
theorem zV.acP(d:zV P E ops A pr H0 F Hs M0 w0 a0 L M c a w)(pl:Plan ops A)(tr:Trace E call ops pr F Hs){i:Nat}{o:Oper}(hi:ops[i]? =some o)(hx:xG o.op=true)(hL:L i=false)(hA:∀j,A i j->L j=true):Hs i=Hs c∧c≤i:=by
 have hin:i<ops.size:=(Array.getElem?_eq_some_iff.1 hi).1
 have hxi:uU ops i:=⟨o,hi,hx⟩
 have hci:c≤i:=by
  rcases d.c_x with h|⟨x,rfl,hxx,hLx⟩
  ·omega
  ·by_cases e:x=i
   ·subst e; rw[hL]at hLx; simp at hLx
   ·rcases Nat.lt_or_gt_of_ne e with h|h
    ·omega
    ·have:=d.closed x i hLx (pl.xs i x hxi hxx h)
     rw[hL]at this; simp at this
 refine⟨tr.heaps hci (by omega) fun x h1 h2 hxx=> ?_,hci⟩
 have:=d.c_max x hxx (hA x (pl.xs x i hxx hxi h2))
 omega
end
def sO(acc:Array Nat)(o:Oper):Nat:=
 o.after.foldl (fun s e=>if Region.binds .any e then s ||| 2 ^ e.on ||| acc.getD e.on 0 else s) 0
theorem RQ(acc:Array Nat)(j:Nat):∀(l:List Edge) (s:Nat),(l.foldl (fun s e=>if Region.binds .any e then s ||| 2 ^ e.on ||| acc.getD e.on 0 else s) s).testBit j=true→
  s.testBit j=true∨∃e∈l,Region.binds .any e=true∧(j=e.on∨(acc.getD e.on 0).testBit j=true)
 |[],s,h=>.inl h
 |e::l,s,h=>by
  simp only[List.foldl_cons]at h
  rcases RQ acc j l _ h with h1|⟨e',h1,h2,h3⟩
  ·split at h1
   ·rename_i hb
    simp only[Nat.testBit_or,Bool.or_eq_true,Nat.testBit_two_pow,decide_eq_true_eq]at h1
    rcases h1 with(h1|h1)|h1
    ·exact .inl h1
    ·exact .inr ⟨e,by simp,hb,.inl h1.symm⟩
    ·exact .inr ⟨e,by simp,hb,.inr h1⟩
   ·exact .inl h1
  ·exact .inr ⟨e',by simp[h1],h2,h3⟩
theorem Gu:∀(os:List Oper) (acc:Array Nat),(∀i,i<acc.size->(os.foldl (fun acc o=>acc.push (sO acc o)) acc).getD i 0=acc.getD i 0)∧
  (os.foldl (fun acc o=>acc.push (sO acc o)) acc).size=acc.size+os.length∧
  ∀k o,os[k]? =some o->∃acc':Array Nat,acc'.size=acc.size+k∧(∀q,q<acc'.size->acc'.getD q 0=(os.foldl (fun acc o=>acc.push (sO acc o)) acc).getD q 0)∧
   (os.foldl (fun acc o=>acc.push (sO acc o)) acc).getD (acc.size+k) 0=sO acc' o
 |[],acc=>⟨fun _ _=>rfl,by simp,fun k o h=>by simp at h⟩
 |o::os,acc=>by
  obtain⟨h1,h2,h3⟩:=Gu os (acc.push (sO acc o))
  simp only[List.foldl_cons]
  have hp:∀i,i<acc.size->(acc.push (sO acc o)).getD i 0=acc.getD i 0:=by
   intro i hi
   simp only[Array.getD_eq_getD_getElem?,Array.getElem?_push]
   rw[if_neg (by omega)]
  refine⟨fun i hi=>by rw[h1 i (by simp; omega),hp i hi],by rw[h2]; simp; omega,fun k o' hk=> ?_⟩
  cases k with
  |zero=>
   simp at hk; subst hk
   refine⟨acc,rfl,fun q hq=>by rw[h1 q (by simp; omega),hp q hq],?_⟩
   rw[Nat.add_zero,h1 acc.size (by simp)]
   simp[Array.getD_eq_getD_getElem?]
  |succ k=>
   obtain⟨acc',g1,g2,g3⟩:=h3 k o' (by simpa using hk)
   refine⟨acc',by rw[g1]; simp; omega,g2,?_⟩
   have:acc.size+(k+1)=(acc.push (sO acc o)).size+k:=by simp; omega
   rw[this]; exact g3
theorem Gw{i j:Nat}(h:ahead (Region.before ops) i j=true):∃o e,ops[i]? =some o∧e∈o.after.toList∧Region.binds .any e=true∧(j=e.on∨ahead (Region.before ops) e.on j=true):=by
 have hb:Region.before ops=ops.toList.foldl (fun acc o=>acc.push (sO acc o)) #[]:=by
  unfold Region.before
  rw[←Array.foldl_toList]; rfl
 obtain⟨_,h2,h3⟩:=Gu ops.toList #[]
 unfold ahead at h
 have hi:i<ops.size:=by
  rcases Nat.lt_or_ge i ops.size with hl|hl
  ·exact hl
  ·rw[hb,Array.getD_eq_getD_getElem?,Array.getElem?_eq_none (by rw[h2]; simpa using hl)]at h
   simp at h
 obtain⟨acc',g1,g2,g3⟩:=h3 i ops[i] (by simp[hi])
 have e0:(#[]:Array Nat).size+i=i:=by simp
 rw[e0]at g1 g3
 rw[hb,g3]at h
 unfold sO at h
 rw[←Array.foldl_toList]at h
 rcases RQ acc' j _ _ h with hz|⟨e,k1,k2,k3⟩
 ·simp at hz
 ·refine⟨ops[i],e,Array.getElem?_eq_getElem hi,k1,k2,?_⟩
  rcases k3 with k3|k3
  ·exact .inl k3
  ·refine .inr ?_
   unfold ahead
   rcases Nat.lt_or_ge e.on i with hl|hl
   ·rw[hb,←g2 e.on (by omega)]; exact k3
   ·rw[Array.getD_eq_getD_getElem?,Array.getElem?_eq_none (by omega)]at k3
    simp at k3
theorem RS:∀(os:List Oper) (i x:Nat),x∈xsOf os i↔∃k o,x=i+k∧os[k]? =some o∧xG o.op=true
 |[],i,x=>by simp[xsOf]
 |o::os,i,x=>by
  unfold xsOf
  have ih:=RS os (i+1) x
  constructor
  ·intro h
   split at h
   ·rename_i hx
    rcases List.mem_cons.1 h with rfl|h
    ·exact⟨0,o,rfl,rfl,hx⟩
    ·obtain⟨k,o',h1,h2,h3⟩:=ih.1 h
     exact⟨k+1,o',by omega,by simpa using h2,h3⟩
   ·obtain⟨k,o',h1,h2,h3⟩:=ih.1 h
    exact⟨k+1,o',by omega,by simpa using h2,h3⟩
  ·rintro⟨k,o',h1,h2,h3⟩
   cases k with
   |zero=>
    simp at h2; subst h2
    rw[if_pos h3]; simp[h1]
   |succ k=>
    have:=ih.2 ⟨k,o',by omega,by simpa using h2,h3⟩
    split
    ·exact List.mem_cons_of_mem _ this
    ·exact this
theorem Jd{x:Nat}:x∈xsOf ops.toList 0↔uU ops x:=by
 rw[RS]
 unfold uU
 constructor
 ·rintro⟨k,o,rfl,h1,h2⟩
  exact⟨o,by simpa using h1,h2⟩
 ·rintro⟨o,h1,h2⟩
  exact⟨x,o,by simp,by simpa using h1,h2⟩
theorem Je:∀(os:List Oper) (i:Nat),Rt os i=true->∀k o e,os[k]? =some o->e∈o.after.toList->Region.binds .any e=true->e.on<i+k
 |[],i,_,k,o,e,hk,_,_=>by simp at hk
 |p::os,i,h,k,o,e,hk,he,hb=>by
  unfold Rt at h
  simp only[Bool.and_eq_true]at h
  cases k with
  |zero=>
   simp at hk; subst hk
   have:=List.all_eq_true.1 h.1 e he
   simp[hb]at this
   omega
  |succ k=>
   have:=Je os (i+1) h.2 k o e (by simpa using hk) he hb
   omega
theorem mem_zipIdx{i:Nat}{o:Oper}(h:ops[i]? =some o):(o,i)∈ops.toList.zipIdx:=by
 rw[List.mem_zipIdx_iff_getElem?]
 simpa using h
theorem abe(h:EI ops=true):Plan ops (fun i j=>ahead (Region.before ops) i j=true):=by
 unfold EI at h
 simp only[Bool.and_eq_true]at h
 obtain⟨⟨h1,h2⟩,h3⟩:=h
 refine⟨fun i j hij=>Gw hij,fun i o e hi he hb=> ?_,fun i j hi hj hlt=> ?_,fun i o t q hi ht hd hne=> ?_⟩
 ·have:=Je ops.toList 0 h1 i o e (by simpa using hi) he hb
  simpa using this
 ·have:=List.all_eq_true.1 (List.all_eq_true.1 h2 i (Jd.2 hi)) j (Jd.2 hj)
  simpa[hlt]using this
 ·have h4:=List.all_eq_true.1 (List.all_eq_true.1 h3 (o,i) (mem_zipIdx hi)) t ht
  unfold nY at hd
  cases hq:ops[q]? with
  |none=>rw[hq]at hd; simp at hd
  |some oq=>
   rw[hq]at hd; simp at hd
   have h5:=List.all_eq_true.1 h4 (oq,q) (mem_zipIdx hq)
   simp only[hd,bne_self_eq_false,Bool.false_or,Bool.or_eq_true,beq_iff_eq]at h5
   rcases h5 with h5|h5
   ·exact absurd h5 hne
   ·constructor
    ·intro hlt; rw[if_pos hlt]at h5; exact h5
    ·intro hlt; rw[if_neg (by omega)]at h5; exact h5
end Go.Proofs.YtijnknjopjmiiaaGreatDoor.Zq
end
section
namespace Go.Proofs.YtijnknjopjmiiaaGreatDoor.Zq
variable{M M0:Mp}{H H0:Heap}{w w0:World}
theorem Dt{X:Heap}{b:Nat}{e:jd}(h:(M++X.map fun _=>none)[b]? =some (some e)):M[b]? =some (some e)∧b<M.length:=by
 by_cases hl:b<M.length
 ·rw[List.getElem?_append_left hl]at h; exact⟨h,hl⟩
 ·rw[List.getElem?_append_right (by omega)]at h
  simp only[List.getElem?_map]at h
  cases hx:X[b-M.length]? with
  |none=>rw[hx]at h; simp at h
  |some x=>rw[hx]at h; simp at h
theorem Stp.reserve(h:HR M H w)(X:Heap):Stp M H w (M++X.map fun _=>none) (H++X) w:=by
 have hx:Ext M (M++X.map fun _=>none):=Ext.app M _
 have hH:∀b:Nat,b<M.length->(H++X)[b]? =H[b]? :=fun b hb=>by
  rw[List.getElem?_append_left (by rw[←h.len]; exact hb)]
 have hlive:∀b,b<M.length->(bQ (H++X) b↔bQ H b):=fun b hb=>by unfold bQ; rw[hH b hb]
 have hwrit:∀b,b<M.length->(aZ (H++X) b↔aZ H b):=fun b hb=>by unfold aZ; rw[hH b hb]
 refine⟨hx,⟨by simp[h.len],fun b e k hb hk=> ?_,fun b b' e e' hne hb hb' h1 h2=> ?_⟩,rfl,rfl,rfl,Nat.le_refl _,Nat.le_refl _,fun _ _ _=>rfl,fun b e hb h1 _=> ?_,fun b hb=> ?_,fun b e hb h1 _=> ?_⟩
 ·obtain⟨hb',hl⟩:=Dt hb
  rw[hH b hl]at hk
  exact(h.blk b e k hb' hk).mono hx
 ·obtain⟨hb1,hl1⟩:=Dt hb
  obtain⟨hb2,hl2⟩:=Dt hb'
  exact h.sep b b' e e' hne hb1 hb2 ((hwrit b hl1).1 h1) ((hlive b' hl2).1 h2)
 ·obtain⟨hb',hl⟩:=Dt hb
  exact⟨b,e,hb',(hwrit b hl).1 h1,rfl⟩
 ·have hl:b<M.length:=(List.getElem?_eq_some_iff.1 hb).1
  exact⟨by rw[List.getElem?_append_left hl]; exact hb,hH b hl⟩
 ·obtain⟨hb',hl⟩:=Dt hb
  exact⟨b,e,hb',(hlive b hl).1 h1,rfl⟩
theorem Ext.fill{b:Nat}{e:jd}(hb:M[b]? =some none):Ext M (M.set b (some e)):=fun j ej hj=>by
 have:j≠b:=fun e0=>by subst e0; rw[hb]at hj; simp at hj
 rw[List.getElem?_set_ne (Ne.symm this)]; exact hj
theorem Stp.fill(s:Stp M0 H0 w0 M H w){b:Nat}{cells:List Value}{sz:Nat}{c:Array Value}(t:TypeId)(hb:M[b]? =some none)(h0:M0.length≤b)(hk:H[b]? =some (.row cells sz false false true))
  (hn:cells.length≤c.size) (hv:VL M cells (c.toList.take cells.length)):
  Stp M0 H0 w0 (M.set b (some ⟨w.heap.size,0,false,cells.length,sz,c.size⟩)) H (w.alloc (.cells c t (0,0))):=by
 have hx:Ext M (M.set b (some ⟨w.heap.size,0,false,cells.length,sz,c.size⟩)):=Ext.fill hb
 have h:=s.hr
 have hbl:b<M.length:=(List.getElem?_eq_some_iff.1 hb).1
 have old:∀(j:Nat) (e:jd),(M.set b (some ⟨w.heap.size,0,false,cells.length,sz,c.size⟩))[j]? =some (some e)->M[j]? =some (some e)∨(j=b∧e=⟨w.heap.size,0,false,cells.length,sz,c.size⟩):=by
  intro j e hj
  by_cases hjb:j=b
  ·subst hjb
   rw[List.getElem?_set_self hbl]at hj
   simp at hj; exact .inr ⟨rfl,hj.symm⟩
  ·rw[List.getElem?_set_ne (Ne.symm hjb)]at hj; exact .inl hj
 have hheap:∀k,k<w.heap.size->(w.alloc (.cells c t (0,0))).heap[k]? =w.heap[k]? :=fun k hk=>by
  show(w.heap.push _)[k]? =_
  rw[Array.getElem?_push,if_neg (by omega)]
 refine⟨s.ext.trans hx,⟨by simpa using h.len,fun j e k hj hkj=> ?_,fun j j' e e' hne hj hj' h1 h2=> ?_⟩,s.os,s.output,s.tape,by have:=s.size; simp; omega,s.dr,fun k hk hn=> ?_,fun j e hj h1 hlt=> ?_,fun j hj=> ?_,fun j e hj h1 hlt=> ?_⟩
 ·rcases old j e hj with hj'|⟨rfl,rfl⟩
  ·refine((h.blk j e k hj' hkj).mono hx).same fun hlv=>hheap _ ?_
   refine h.lC hj' ?_
   unfold bQ; rw[hkj]; cases k<;>exact hlv
  ·rw[hk]at hkj; simp at hkj; subst hkj
   refine⟨rfl,rfl,rfl,fun _=>⟨c,t,(0,0),?_,rfl,by simpa using hn,?_,fun _=>rfl⟩⟩
   ·show(w.heap.push _)[w.heap.size]? =_
    rw[Array.getElem?_push,if_pos rfl]
   ·simpa using hv.mono hx
 ·rcases old j e hj with hj1|⟨rfl,rfl⟩<;>rcases old j' e' hj' with hj2|⟨rfl,rfl⟩
  ·exact h.sep j j' e e' hne hj1 hj2 h1 h2
  ·have:=h.lC hj1 h1.live
   show e.blk≠w.heap.size; omega
  ·have:=h.lC hj2 h2
   show w.heap.size≠e'.blk; omega
  ·exact absurd rfl hne
 ·rw[hheap k (Nat.lt_of_lt_of_le hk s.size)]
  exact s.frame k hk hn
 ·rcases old j e hj with hj1|⟨rfl,rfl⟩
  ·exact s.wm j e hj1 h1 hlt
  ·have:=s.size
   exact absurd hlt (by simp; omega)
 ·obtain⟨k1,k2⟩:=s.keep j hj
  have hjl:j<M0.length:=(List.getElem?_eq_some_iff.1 hj).1
  exact⟨by rw[List.getElem?_set_ne (by omega)]; exact k1,k2⟩
 ·rcases old j e hj with hj1|⟨rfl,rfl⟩
  ·exact s.lm j e hj1 h1 hlt
  ·have:=s.size
   exact absurd hlt (by simp; omega)
end Go.Proofs.YtijnknjopjmiiaaGreatDoor.Zq
end
section
namespace Go.Proofs.YtijnknjopjmiiaaGreatDoor.Zq
variable{P:Program}{E:Env}{call:iU}{ops:Array Oper}{ro:Option Nat}{n:Nat}
 {A:Nat->Nat->Prop} {pr:Nat->Option Value} {H0:Heap} {F:Nat->dK} {Hs:Nat->Heap} {M0 M M':Mp} {w0 w w':World} {a0 a:Act} {L:Nat->Bool} {c c':Nat}
theorem ET:∀(live:List Nat) (j:Nat) (s:List (Option Value)) (t:Nat),look (mkL live j s) t=match live.idxOf? t with|some i=>(s[j+i]?).join|none=>none
 |[],j,s,t=>by simp[mkL,look]
 |x::r,j,s,t=>by
  simp only[mkL,look,List.idxOf?_cons]
  by_cases h:x=t
  ·simp[h]
  ·have hb:(x==t)=false:=by simpa using h
   rw[if_neg h,ET r (j+1) s t,hb]
   cases r.idxOf? t with
   |none=>simp
   |some i=>simp[Nat.add_comm,Nat.add_left_comm]
theorem WR{N:Nat}{l:List Nat}{fr:dK}{t:Nat}(h:t∈l):(oI N l (l.map fr.get)).get t=fr.get t:=by
 unfold dK.get oI
 simp only
 rw[ET]
 cases hi:l.idxOf? t with
 |none=>exact absurd h (by simpa using hi)
 |some i=>
  obtain⟨hl,ht,_⟩:=List.idxOf?_eq_some_iff.1 hi
  have:l[i]=t:=by simpa using ht
  simp only[Nat.zero_add,List.getElem?_map,List.getElem?_eq_getElem hl,Option.map_some,Option.join_some,this]
theorem Pg{N:Nat}{l:List Nat}{fr:dK}{t:Nat}{v:Value}(h:(oI N l (l.map fr.get)).get t=some v):t∈l∧fr.get t=some v:=by
 have hm:t∈l:=by
  unfold dK.get oI at h
  simp only at h
  rw[ET]at h
  cases hi:l.idxOf? t with
  |none=>rw[hi]at h; simp at h
  |some i=>
   obtain⟨hl,ht,_⟩:=List.idxOf?_eq_some_iff.1 hi
   have:l[i]=t:=by simpa using ht
   rw[←this]; exact List.getElem_mem hl
 exact⟨hm,by rw[WR hm]at h; exact h⟩
theorem zV.lim(d:zV P E ops A pr H0 F Hs M0 w0 a0 L M c a w)(pl:Plan ops A)(tr:Trace E call ops pr F Hs){i:Nat}{o:Oper}(hi:ops[i]? =some o)(hL:L i=false)(hA:∀j,A i j->L j=true):
  FR M (oI (F 0).n (fQ ops o) ((fQ ops o).map (F i).get)) a.tmps:=
 ⟨d.size,fun t v hv=>by
  obtain⟨h1,h2⟩:=Pg hv
  exact d.names pl tr hi hL hA h1 h2⟩
theorem Du{o:Oper}{fr fr':dK}(h:∀t,t∈fQ ops o->fr.get t=fr'.get t):iy ops fr o=iy ops fr' o:=by
 unfold iy
 cases hg:o.guard with
 |none=>rfl
 |some g=>
  obtain⟨j,want⟩:=g
  simp only
  cases hd:(ops[j]?).bind (·.dst)with
  |none=>rfl
  |some d=>
   simp only
   rw[h d (by unfold fQ; rw[hg]; simp[hd])]
theorem Y3{o:Oper}{fr fr':dK}{H:Heap}(h:∀t,t∈fQ ops o->fr.get t=fr'.get t):iI E call fr o.op H=iI E call fr' o.op H:=
 Y0 fun t ht=>h t (by unfold fQ tmpsOf; simp only[List.mem_append,List.mem_filterMap]; exact .inl (.inr ⟨_,ht,rfl⟩))
theorem Jf{d:Option Nat}{v:Value}{t:Nat}(h:d≠some t):(a.put d v).tmps.getD t undef=a.tmps.getD t undef:=by
 cases d with
 |none=>rfl
 |some d=>
  have:d≠t:=fun e=>h (by rw[e])
  simp only[Act.put,Array.getD_eq_getD_getElem?,Array.getElem?_setIfInBounds,if_neg this]
theorem Oi{v:Value}{t:Nat}(h:t<a.tmps.size):(a.put (some t) v).tmps.getD t undef=v:=by
 simp[Act.put,h]
theorem zV.next(d:zV P E ops A pr H0 F Hs M0 w0 a0 L M c a w)(pl:Plan ops A){i:Nat}{o:Oper}(hi:ops[i]? =some o)(hL:L i=false)(hA:∀j,A i j->L j=true){v v':Value}(hF:F (i+1)=(F i).dU o.dst v)(hp:Di (F i) o.dst=true)(hn:(F i).n=(F 0).n)
  (hst:Stp M0 H0 w0 M' (Hs c') w') (hext:Ext M M') (hres:∀j oj t,ops[j]? =some oj->oj.op= .alloc t->(L j||j==i)=false->∃b ti,pr j=some (.pointer (some ⟨b,0,none⟩))∧E.ty t=some ti∧M0.length≤b∧M'[b]? =some none∧(Hs c')[b]? =some (.row ti.zero ti.size false false true))
  (hv:VR M' v v') (hc:(xG o.op=true∧c'=i+1∧c≤i)∨(xG o.op=false∧c'=c)):
  zV P E ops A pr H0 F Hs M0 w0 a0 (fun q=>L q||q==i) M' c' (a.put o.dst v') w':=by
 have hin:i<ops.size:=(Array.getElem?_eq_some_iff.1 hi).1
 have L':∀q,(L q||q==i)=true↔L q=true∨q=i:=fun q=>by simp
 have hdi:nY ops i=o.dst:=by unfold nY; rw[hi]; rfl
 have later:∀q t,L q=true->nY ops q=some t->o.dst=some t->q<i:=by
  intro q t hq hd ho
  by_cases e:q=i
  ·subst e; rw[hL]at hq; simp at hq
  ·rcases Nat.lt_or_gt_of_ne e with h|h
   ·exact h
   ·have ht:t∈fQ ops o:=by unfold fQ; rw[ho]; simp
    have:=d.closed q i hq ((pl.names i o t q hi ht hd e).2 h)
    rw[hL]at this; simp at this
 refine⟨?_,hst,hres,?_,?_,?_,?_,?_,?_,?_⟩
 ·intro q j hq hqj
  rcases(L' q).1 hq with hq|rfl
  ·exact(L' j).2 (.inl (d.closed q j hq hqj))
  ·exact(L' j).2 (.inl (hA j hqj))
 ·rcases hc with⟨_,rfl,_⟩|⟨_,rfl⟩
  ·omega
  ·exact d.c_le
 ·rcases hc with⟨hx,rfl,_⟩|⟨_,rfl⟩
  ·exact .inr ⟨i,rfl,⟨o,hi,hx⟩,(L' i).2 (.inr rfl)⟩
  ·rcases d.c_x with h|⟨x,h1,h2,h3⟩
   ·exact .inl h
   ·exact .inr ⟨x,h1,h2,(L' x).2 (.inl h3)⟩
 ·intro y hy hLy
  rcases(L' y).1 hLy with hLy|rfl
  ·have:=d.c_max y hy hLy
   rcases hc with⟨_,rfl,h⟩|⟨_,rfl⟩<;>omega
  ·rcases hc with⟨_,rfl,_⟩|⟨hx,_⟩
   ·omega
   ·obtain⟨o',h1,h2⟩:=hy
    rw[hi]at h1; simp at h1; subst h1
    rw[hx]at h2; simp at h2
 ·rw[←d.size]; cases o.dst<;>simp[Act.put]
 ·rw[put_defers]; exact d.defers
 ·intro q t u hLq hqn hd hmax hu
  rcases(L' q).1 hLq with hLq|rfl
  ·have hne:o.dst≠some t:=by
    intro ho
    have h1:=later q t hLq hd ho
    have:=hmax i ((L' i).2 (.inr rfl)) (by rw[hdi]; exact ho)
    omega
   rw[Jf hne]
   exact(d.new q t u hLq hqn hd (fun r hr hdr=>hmax r ((L' r).2 (.inl hr)) hdr) hu).mono hext
  ·rw[hdi]at hd
   rw[hd]at hp hF ⊢
   rw[hF,Oh]at hu
   simp at hu; subst hu
   have:t<a.tmps.size:=by rw[d.size,←hn]; simpa[Di]using hp
   rw[Oi this]; exact hv
 ·intro t u hno hu
  have hne:o.dst≠some t:=by
   have:=hno i ((L' i).2 (.inr rfl))
   rw[hdi]at this; exact this
  rw[Jf hne]
  exact(d.old t u (fun q hq=>hno q ((L' q).2 (.inl hq))) hu).mono hext
def Vb(E:Env)(ops:Array Oper)(A:Nat->Nat->Prop)(F:Nat->dK)(Hs:Nat->Heap):Prop:=
 ∀i o c,ops[i]? =some o->xG o.op=false->IQ o.op=false->isPure o.op=false->iy ops (F i) o=some true->(c=0∨∃x,c=x+1∧uU ops x∧¬A x i)->(∀x,uU ops x->A i x->x<c)→
  (∃x,uU ops x∧((c≤x∧x<i)∨(i≤x∧x<c)))->∃v H1,iI E (fun _ _ _=>none) (F i) o.op (Hs c)=some (v,H1)∧∃d,o.dst=some d∧(F (i+1)).get d=some v
theorem zV.Dv(d:zV P E ops A pr H0 F Hs M0 w0 a0 L M c a w){i:Nat}(hs:Stp M (Hs c) w M' (Hs c') w'):
  ∀j oj t,ops[j]? =some oj->oj.op= .alloc t->(L j||j==i)=false->∃b ti,pr j=some (.pointer (some ⟨b,0,none⟩))∧E.ty t=some ti∧M0.length≤b∧M'[b]? =some none∧(Hs c')[b]? =some (.row ti.zero ti.size false false true):=by
 intro j oj t hj ho hL
 simp only[Bool.or_eq_false_iff]at hL
 obtain⟨b,ti,h1,h2,h3,h4,h5⟩:=d.res j oj t hj ho hL.1
 obtain⟨k1,k2⟩:=hs.keep b h4
 exact⟨b,ti,h1,h2,h3,k1,k2.trans h5⟩
theorem Jg{o:Op}(h:IQ o=true):∃t,o= .alloc t:=by
 cases o<;>simp[IQ]at h
 exact⟨_,rfl⟩
theorem zV.step(hE:E.Ok P)(hC:kK P call){Q:Exit->Act->World->Prop}{K:Act->World->Prop}(d:zV P E ops A pr H0 F Hs M0 w0 a0 L M c a w)(pl:Plan ops A)(tr:Trace E call ops pr F Hs)(ag:Vb E ops A F Hs){i:Nat}{o:Oper}(hi:ops[i]? =some o)(hL:L i=false)(hA:∀j,A i j->L j=true)
  (hK:∀M' c' a' w',zV P E ops A pr H0 F Hs M0 w0 a0 (fun q=>L q||q==i) M' c' a' w'->K a' w'):wpOpIn (Fw ro) n P ops Q i K a w:=by
 have hin:i<ops.size:=(Array.getElem?_eq_some_iff.1 hi).1
 obtain⟨hp,v,hF,hcase⟩:=BF (tr.step i o hi)
 have hfr:=d.lim pl tr hi hL hA
 have hcg:∀t,t∈fQ ops o->(oI (F 0).n (fQ ops o) ((fQ ops o).map (F i).get)).get t=(F i).get t:=fun t ht=>WR ht
 have hn:=tr.n i (by omega)
 have hal:=tr.al i o hi
 unfold wpOpIn
 rw[hi]
 simp only
 rcases hcase with⟨hw,hop⟩|⟨hw,rfl,hH⟩
 ·have hw':iy ops (oI (F 0).n (fQ ops o) ((fQ ops o).map (F i).get)) o=some true:=by rw[Du hcg]; exact hw
  rw[zM hfr hw']
  simp only[if_true]
  cases ha:IQ o.op with
  |true=>
   obtain⟨t,ho⟩:=Jg ha
   obtain⟨b,ti,h1,h2,h3,h4,h5⟩:=d.res i o t hi ho hL
   obtain⟨_,_,z,T⟩:=hE.ty t ti h2
   have hv:v= .pointer (some ⟨b,0,none⟩):=by
    unfold U4 at hop; rw[h1]at hop; simp at hop; exact hop.1.symm
   subst hv
   have hx:xG o.op=false:=by simp[xG,ha]
   have hz:ti.zero.length=z.cells.size:=by rw[←T.cells]; simp
   have hrun:(Instr.alloc t true (.tuple #[])).run P w= .ok (.pointer (some ⟨w.heap.size,0,none⟩)) (w.alloc (.cells z.cells t (0,0))):=by
    simp[Instr.alloc,T.lD,qg]
   have hst:=d.st.fill (c:=z.cells) t h4 h3 h5 (Nat.le_of_eq hz) (by rw[hz,List.take_of_length_le (by simp)]; exact T.vl M)
   have hbl:b<M.length:=(List.getElem?_eq_some_iff.1 h4).1
   obtain⟨odst,oop,oty,opos,oafter,oguard⟩:=o
   simp only at ho; subst ho
   refine⟨fun _ _=>trivial,?_⟩
   rw[Oper.semAt_eq _ _ _ (fun c=>by simp)]
   simp only[execOp,Sem.run_bind,hrun,Result.andThen_ok,Sem.run_pure]
   refine hK _ c _ _ (d.next pl hi hL hA hF hp hn hst (Ext.fill h4) ?_ ?_ (.inr ⟨hx,rfl⟩))
   ·intro j oj t' hj ho' hLj
    simp only[Bool.or_eq_false_iff,beq_eq_false_iff_ne]at hLj
    obtain⟨b',ti',g1,g2,g3,g4,g5⟩:=d.res j oj t' hj ho' hLj.1
    have hbb:b≠b':=fun e=>hLj.2 (tr.inj j i _ g1 (by rw[←e]; exact h1))
    exact⟨b',ti',g1,g2,g3,by rw[List.getElem?_set_ne hbb]; exact g4,g5⟩
   ·have:=VR.ptr (M:=M.set b (some ⟨w.heap.size,0,false,ti.zero.length,ti.size,z.cells.size⟩)) (off:=0) (List.getElem?_set_self hbl)
    simpa using this
  |false=>
   rw[ha]at hal
   have hpn:pr i=none:=by cases hq:pr i<;>simp_all
   have hop:iI E call (F i) o.op (Hs i)=some (v,Hs (i+1)):=by unfold U4 at hop; rw[hpn]at hop; exact hop
   have hxd:xG o.op=YM o.op:=by simp[xG,ha]
   cases hx:YM o.op with
   |true=>
    obtain⟨hh,hci⟩:=d.acP pl tr hi (by rw[hxd]; exact hx) hL hA
    refine YX hE hC d.st.hr hfr (v:=v) (H':=Hs (i+1)) ?_ fun v' M' w' hs hv=>hK M' (i+1) _ w' (d.next pl hi hL hA hF hp hn (d.st.trans hs) hs.ext (d.Dv hs) hv (.inl ⟨by rw[hxd]; exact hx,rfl,hci⟩))
    rw[Y3 hcg,←hh]; exact hop
   |false=>
    have hxd':xG o.op=false:=by rw[hxd]; exact hx
    have hsame:iI E call (F i) o.op (Hs c)=some (v,Hs c):=by
     cases hpu:isPure o.op with
     |true=>exact XQ hpu hop (Hs c)
     |false=>
      by_cases hb:∃x,uU ops x∧((c≤x∧x<i)∨(i≤x∧x<c))
      ·have h1:c=0∨∃x,c=x+1∧uU ops x∧¬A x i:=by
        rcases d.c_x with h|⟨x,h1,h2,h3⟩
        ·exact .inl h
        ·refine .inr ⟨x,h1,h2,fun hxi=> ?_⟩
         have:=d.closed x i h3 hxi
         rw[hL]at this; simp at this
       obtain⟨v2,H1,g1,dd,g2,g3⟩:=ag i o c hi hxd' ha hpu hw h1 (fun x hxx hAx=>d.c_max x hxx (hA x hAx)) hb
       have:v2=v:=by
        rw[hF,g2,Oh]at g3
        simpa using g3.symm
       subst this
       rw[XP (call':=fun _ _ _=>none) hx]
       have:=ES hx g1
       subst this
       exact g1
      ·have hh:Hs i=Hs c:=by
        rcases Nat.le_total c i with hle|hle
        ·exact tr.heaps hle (by omega) fun x h1 h2 hxx=>hb ⟨x,hxx,.inl ⟨h1,h2⟩⟩
        ·exact(tr.heaps hle d.c_le fun x h1 h2 hxx=>hb ⟨x,hxx,.inr ⟨h1,h2⟩⟩).symm
       have:=ES hx hop
       rw[←hh]
       rw[this]at hop; exact hop
    refine YX hE hC d.st.hr hfr (v:=v) (H':=Hs c) ?_ fun v' M' w' hs hv=>hK M' c _ w' (d.next pl hi hL hA hF hp hn (d.st.trans hs) hs.ext (d.Dv hs) hv (.inr ⟨hxd',rfl⟩))
    rw[Y3 hcg]; exact hsame
 ·have hw':iy ops (oI (F 0).n (fQ ops o) ((fQ ops o).map (F i).get)) o=some false:=by rw[Du hcg]; exact hw
  rw[zM hfr hw']
  simp only[Bool.false_eq_true,if_false]
  refine⟨fun _ _=>trivial,?_⟩
  cases hx:xG o.op with
  |true=>
   obtain⟨hh,hci⟩:=d.acP pl tr hi hx hL hA
   have hcc:Hs (i+1)=Hs c:=by rw[hH,hh]
   refine hK M (i+1) _ w (d.next pl hi hL hA hF hp hn (by rw[hcc]; exact d.st) (.refl M) (by rw[hcc]; exact d.Dv (.refl d.st.hr)) (.undef M) (.inl ⟨hx,rfl,hci⟩))
  |false=>exact hK M c _ w (d.next pl hi hL hA hF hp hn d.st (.refl M) (d.Dv (.refl d.st.hr)) (.undef M) (.inr ⟨hx,rfl⟩))
end Go.Proofs.YtijnknjopjmiiaaGreatDoor.Zq
end
section
namespace Go.Proofs.YtijnknjopjmiiaaGreatDoor.Zq
variable{P:Program}{E:Env}{call:iU}{ops:Array Oper}{ro:Option Nat}{n:Nat}
 {A:Nat->Nat->Prop} {pr:Nat->Option Value} {H0:Heap} {F:Nat->dK} {Hs:Nat->Heap} {M0 M M':Mp} {w0 w w':World} {a0 a:Act} {L:Nat->Bool} {c c':Nat}
theorem Oj{l:List Nat}{p q:Nat->Bool}(h:∀x,q x=true->p x=true){i:Nat}(hi:i∈l)(h1:p i=true)(h2:q i=false):l.countP q<l.countP p:=by
 induction l with
 |nil=>simp at hi
 |cons x l ih=>
  simp only[List.countP_cons]
  have hle:l.countP q≤l.countP p:=List.countP_mono_left fun x _ hx=>h x hx
  rcases List.mem_cons.1 hi with rfl|hi
  ·rw[h1,h2]; simp; omega
  ·have:=ih hi
   have hx:(if q x=true then 1 else 0)≤(if p x=true then 1 else 0):=by
    by_cases hq:q x=true
    ·rw[if_pos hq,if_pos (h x hq)]; exact Nat.le_refl _
    ·rw[if_neg hq]; omega
   omega
def xB(listed:Array Bool)(q:Nat):Bool:=listed.getD q false
theorem any_ok(hE:E.Ok P)(hC:kK P call){Q:Exit->Act->World->Prop}(pl:Plan ops A)(hAe:∀i o,ops[i]? =some o->∀L:Nat->Bool,(∀i j,L i=true->A i j->L j=true)->(∀e∈o.after.toList,Region.binds .any e=true->L e.on=true)->∀j,A i j->L j=true)
  (tr:Trace E call ops pr F Hs) (ag:Vb E ops A F Hs)
  (hQ:∀M c a w L,(∀q,q<ops.size->L q=true)->zV P E ops A pr H0 F Hs M0 w0 a0 L M c a w->Q .normal a w):
  ∀(fuel:Nat) (listed:Array Bool) (M:Mp) (c:Nat) (a:Act) (w:World),listed.size=ops.size->(List.range ops.size).countP (fun i=> !xB listed i)≤fuel->zV P E ops A pr H0 F Hs M0 w0 a0 (xB listed) M c a w→
   wpAnyIn (Fw ro) n P .any ops Q fuel listed a w:=by
 have allListed:∀(listed:Array Bool),listed.size=ops.size->Region.ready .any ops listed=[]->∀q,q<ops.size->xB listed q=true:=by
  intro listed hls hr q
  induction q using Nat.strongRecOn with
  |_ q ih=>
   intro hq
   cases hL:xB listed q with
   |true=>rfl
   |false=>
    exfalso
    have:q∈Region.ready .any ops listed:=by
     rw[mem_ready]
     refine⟨?_,ops[q],Array.getElem?_eq_getElem hq,fun e he hb=> ?_⟩
     ·unfold xB at hL
      have hql:q<listed.size:=by omega
      simp only[Array.getD_eq_getD_getElem?,Array.getElem?_eq_getElem hql,Option.getD_some]at hL ⊢
      exact hL
     ·have hlt:=pl.back q _ e (Array.getElem?_eq_getElem hq) (by simpa using he) hb
      exact ih e.on hlt (by omega)
    rw[hr]at this; simp at this
 intro fuel
 induction fuel with
 |zero=>
  intro listed M c a w hls hcnt d
  have hall:∀q,q<ops.size->xB listed q=true:=by
   intro q hq
   have h0:(List.range ops.size).countP (fun i=> !xB listed i)=0:=by omega
   have:=List.countP_eq_zero.1 h0 q (by simpa using hq)
   simpa using this
  refine⟨?_,hQ M c a w _ hall d⟩
  apply List.eq_nil_iff_forall_not_mem.2
  intro i hi
  rw[mem_ready]at hi
  obtain⟨h1,o,h2,_⟩:=hi
  have hin:i<ops.size:=(Array.getElem?_eq_some_iff.1 h2).1
  have:=hall i hin
  unfold xB at this
  have hql:i<listed.size:=by omega
  simp only[Array.getD_eq_getD_getElem?,Array.getElem?_eq_getElem hql,Option.getD_some]at h1 this
  rw[h1]at this; simp at this
 |succ fuel ih=>
  intro listed M c a w hls hcnt d
  refine⟨fun hr=>hQ M c a w _ (allListed listed hls hr) d,fun i hi=> ?_⟩
  rw[mem_ready]at hi
  obtain⟨h1,o,h2,h3⟩:=hi
  have hin:i<ops.size:=(Array.getElem?_eq_some_iff.1 h2).1
  have hql:i<listed.size:=by omega
  have hL:xB listed i=false:=by
   unfold xB
   simp only[Array.getD_eq_getD_getElem?,Array.getElem?_eq_getElem hql,Option.getD_some]at h1 ⊢
   exact h1
  have hA:∀j,A i j->xB listed j=true:=hAe i o h2 (xB listed) d.closed (fun e he hb=>h3 e (by simpa using he) hb)
  refine d.step hE hC pl tr ag h2 hL hA fun M' c' a' w' d'=> ?_
  have hLe:(fun q=>xB listed q||q==i)=xB (listed.setIfInBounds i true):=by
   funext q
   unfold xB
   by_cases e:i=q
   ·subst e
    simp[hql]
   ·rw[getD_set_ne false e]
    have:(q==i)=false:=by simpa using Ne.symm e
    rw[this,Bool.or_false]
  rw[hLe]at d'
  refine ih _ M' c' a' w' (by simpa using hls) ?_ d'
  have:=Oj (l:=List.range ops.size) (p:=fun i=> !xB listed i) (q:=fun q=> !xB (listed.setIfInBounds i true) q) (i:=i) ?_ (by simpa using hin) (by simp[hL]) (by rw[←hLe]; simp)
  ·omega
  ·intro x hx
   rw[←hLe]at hx
   simp at hx ⊢
   exact hx.1
theorem Jh:∀(os:List Oper) (ps:List (Option Value)) (fr:dK) (H:Heap) (tr:List (dK×Heap)),Gn E call ops os ps fr H=some tr->tr.length=os.length+1∧tr[0]? =some (fr,H)∧
  (∀i o,os[i]? =some o->∃f g f' g',tr[i]? =some (f,g)∧tr[i+1]? =some (f',g')∧yc E call ops (ps[i]?).join o f g=some (f',g'))
 |[],ps,fr,H,tr,h=>by
  simp[Gn]at h; subst h
  exact⟨rfl,rfl,fun i o h=>by simp at h⟩
 |o::os,ps,fr,H,tr,h=>by
  simp only[Gn]at h
  obtain⟨x,h1,h2⟩:=aj h
  obtain⟨y,h3,h4⟩:=aj h2
  simp at h4; subst h4
  obtain⟨fr1,H1⟩:=x
  obtain⟨g1,g2,g3⟩:=Jh os ps.tail fr1 H1 y h3
  refine⟨by simp[g1],rfl,fun i o' hi=> ?_⟩
  cases i with
  |zero=>
   simp at hi; subst hi
   refine⟨fr,H,fr1,H1,rfl,by simpa using g2,?_⟩
   have:(ps[0]?).join=ps.headD none:=by cases ps<;>rfl
   rw[this]; exact h1
  |succ i=>
   obtain⟨f,g,f',g',k1,k2,k3⟩:=g3 i o' (by simpa using hi)
   refine⟨f,g,f',g',by simpa using k1,by simpa using k2,?_⟩
   have:ps[i+1]? =ps.tail[i]? :=by cases ps<;>simp
   rw[this]; exact k3
theorem EU(E:Env):∀(os:List Oper) (H:Heap) (ps:List (Option Value)) (H':Heap),xw E os H=some (ps,H')->ps.length=os.length∧(∃X,H'=H++X)∧
  ∀(i:Nat) (o:Oper),os[i]? =some o->((ps[i]?).join.isSome=IQ o.op)∧
   (∀t:TypeId,o.op= .alloc t->∃(b:Nat) (ti:TI),(ps[i]?).join=some (.pointer (some ⟨b,0,none⟩))∧E.ty t=some ti∧H.length≤b∧H'[b]? =some (.row ti.zero ti.size false false true)∧
    ∀(j:Nat) (p:Value),j≠i->(ps[j]?).join=some p->p≠ .pointer (some ⟨b,0,none⟩))
 |[],H,ps,H',h=>by
  simp[xw]at h; obtain⟨rfl,rfl⟩:=h
  exact⟨rfl,⟨[],by simp⟩,fun i o h=>by simp at h⟩
 |o::os,H,ps,H',h=>by
  have lo:∀(os:List Oper) (H:Heap) (ps:List (Option Value)) (H':Heap),xw E os H=some (ps,H')->∀(j:Nat) (p:Value),(ps[j]?).join=some p->∃b,H.length≤b∧p= .pointer (some ⟨b,0,none⟩):=by
   intro os
   induction os with
   |nil=>intro H ps H' h j p hj; simp[xw]at h; obtain⟨rfl,rfl⟩:=h; simp at hj
   |cons o os ih=>
    intro H ps H' h j p hj
    unfold xw at h
    split at h
    ·obtain⟨x,h1,h2⟩:=aj h
     obtain⟨y,h3,h4⟩:=aj h2
     unfold vG at h1
     obtain⟨ti,_,h1⟩:=aj h1
     simp at h1 h4; subst h1
     obtain⟨rfl,rfl⟩:=h4
     cases j with
     |zero=>simp at hj; exact⟨H.length,Nat.le_refl _,hj.symm⟩
     |succ j=>
      obtain⟨b,q1,q2⟩:=ih _ y.1 y.2 h3 j p (by simpa using hj)
      exact⟨b,by simp[mk]at q1; omega,q2⟩
    ·obtain⟨y,h3,h4⟩:=aj h
     simp at h4; obtain⟨rfl,rfl⟩:=h4
     cases j with
     |zero=>simp at hj
     |succ j=>exact ih _ y.1 y.2 h3 j p (by simpa using hj)
  unfold xw at h
  split at h
  ·rename_i t ho
   obtain⟨x,h1,h2⟩:=aj h
   obtain⟨y,h3,h4⟩:=aj h2
   unfold vG at h1
   obtain⟨ti,ht,h1⟩:=aj h1
   simp at h1 h4; subst h1
   obtain⟨rfl,rfl⟩:=h4
   obtain⟨g1,⟨X,g2⟩,g3⟩:=EU E os _ y.1 y.2 h3
   have hlo:=lo os _ y.1 y.2 h3
   refine⟨by simp[g1],⟨.row ti.zero ti.size false false true::X,by rw[g2]; simp[mk]⟩,fun i o' hi=> ?_⟩
   cases i with
   |zero=>
    simp at hi; subst hi
    refine⟨by simp[ho,IQ],fun t' ho'=> ?_⟩
    rw[ho]at ho'; simp at ho'; subst ho'
    refine⟨H.length,ti,rfl,ht,Nat.le_refl _,by rw[g2]; simp[mk],fun j p hj hp=> ?_⟩
    cases j with
    |zero=>exact absurd rfl hj
    |succ j=>
     obtain⟨b,q1,rfl⟩:=hlo j p (by simpa using hp)
     simp[mk]at q1
     simp; omega
   |succ i=>
    obtain⟨k1,k2⟩:=g3 i o' (by simpa using hi)
    refine⟨by simpa using k1,fun t' ho'=> ?_⟩
    obtain⟨b,ti',q1,q2,q3,q4,q5⟩:=k2 t' ho'
    refine⟨b,ti',by simpa using q1,q2,by simp[mk]at q3; omega,q4,fun j p hj hp=> ?_⟩
    cases j with
    |zero=>simp at hp; subst hp; simp[mk]at q3; simp; omega
    |succ j=>exact q5 j p (by omega) (by simpa using hp)
  ·rename_i hno
   obtain⟨y,h3,h4⟩:=aj h
   simp at h4; obtain⟨rfl,rfl⟩:=h4
   obtain⟨g1,g2,g3⟩:=EU E os _ y.1 y.2 h3
   refine⟨by simp[g1],g2,fun i o' hi=> ?_⟩
   cases i with
   |zero=>
    simp at hi; subst hi
    refine⟨?_,fun t' ho'=>absurd ho' (hno t')⟩
    cases ho:o.op<;>simp[IQ]
    exact hno _ ho
   |succ i=>
    obtain⟨k1,k2⟩:=g3 i o' (by simpa using hi)
    refine⟨by simpa using k1,fun t' ho'=> ?_⟩
    obtain⟨b,ti',q1,q2,q3,q4,q5⟩:=k2 t' ho'
    refine⟨b,ti',by simpa using q1,q2,q3,q4,fun j p hj hp=> ?_⟩
    cases j with
    |zero=>simp at hp
    |succ j=>exact q5 j p (by omega) (by simpa using hp)
theorem Vd{fr fr':dK}{H H':Heap}(h:Gp E call ops fr H=some (fr',H')):
  EI ops=true∧∃ps G tr,xw E ops.toList H=some (ps,G)∧Gn E call ops ops.toList ps fr G=some tr∧tr.getLast? =some (fr',H')∧(yg ops).all (fun p=>p.2.all fun c=>IV E ops tr p.1 c)=true:=by
 unfold Gp at h
 split at h
 ·rename_i hd
  refine⟨hd,?_⟩
  obtain⟨rs,h1,h2⟩:=aj h
  obtain⟨tr,h3,h4⟩:=aj h2
  split at h4
  ·rename_i hall
   exact⟨rs.1,rs.2,tr,h1,h3,h4,hall⟩
  ·simp at h4
 ·simp at h
theorem RU{fr fr':dK}{H H':Heap}(h:Gp E call ops fr H=some (fr',H')):
  ∃(pr:Nat->Option Value) (X:Heap) (F:Nat->dK) (Hs:Nat->Heap),F 0=fr∧Hs 0=H++X∧F ops.size=fr'∧Hs ops.size=H'∧Trace E call ops pr F Hs∧
   Plan ops (fun i j=>ahead (Region.before ops) i j=true)∧Vb E ops (fun i j=>ahead (Region.before ops) i j=true) F Hs∧
   ∀i o t,ops[i]? =some o->o.op= .alloc t->∃b ti,pr i=some (.pointer (some ⟨b,0,none⟩))∧E.ty t=some ti∧H.length≤b∧(H++X)[b]? =some (.row ti.zero ti.size false false true):=by
 obtain⟨hd,ps,G,tr,hrs,ht,hl,hall⟩:=Vd h
 obtain⟨v1,⟨X,rfl⟩,v3⟩:=EU E ops.toList H ps G hrs
 obtain⟨g1,g2,g3⟩:=Jh (E:=E) (call:=call) (ops:=ops) ops.toList ps fr (H++X) tr ht
 have hlen:tr.length=ops.size+1:=by simpa using g1
 let F:Nat->dK:=fun i=>(tr.getD i default).1
 let Hs:Nat->Heap:=fun i=>(tr.getD i default).2
 have hget:∀i,i≤ops.size->tr[i]? =some (F i,Hs i):=by
  intro i hi
  have:i<tr.length:=by omega
  simp[F,Hs,List.getD_eq_getElem?_getD,this]
 have hlast:tr[ops.size]? =some (fr',H'):=by
  rw[List.getLast?_eq_getElem?]at hl
  rw[hlen]at hl; exact hl
 have e0:=hget 0 (by omega)
 rw[g2]at e0
 have en:=hget ops.size (Nat.le_refl _)
 rw[hlast]at en
 simp at e0 en
 have htr:Trace E call ops (fun i=>(ps[i]?).join) F Hs:=by
  refine⟨fun i o hi=> ?_,fun i o hi=>(v3 i o (by simpa using hi)).1,fun i j p hpi hpj=> ?_⟩
  rotate_left
  ·have hil:i<ps.length:=by
    rcases Nat.lt_or_ge i ps.length with h|h
    ·exact h
    ·rw[List.getElem?_eq_none h]at hpi; simp at hpi
   have hio:i<ops.toList.length:=by omega
   obtain⟨q1,q2⟩:=v3 i ops.toList[i] (List.getElem?_eq_getElem hio)
   rw[hpi]at q1
   obtain⟨t,ho⟩:=Jg q1.symm
   obtain⟨b,ti,w1,_,_,_,w5⟩:=q2 t ho
   rw[hpi]at w1; simp at w1; subst w1
   exact Classical.byContradiction fun hne=>w5 j _ (fun e=>hne e.symm) hpj rfl
  have hin:i<ops.size:=(Array.getElem?_eq_some_iff.1 hi).1
  obtain⟨f,g,f',g',k1,k2,k3⟩:=g3 i o (by simpa using hi)
  rw[hget i (by omega)]at k1
  rw[hget (i+1) (by omega)]at k2
  simp at k1 k2
  rw[k1.1,k1.2,k2.1,k2.2]; exact k3
 refine⟨_,X,F,Hs,e0.1.symm,e0.2.symm,en.1.symm,en.2.symm,htr,abe hd,?_,fun i o t hi ho=> ?_⟩
 rotate_left
 ·obtain⟨b,ti,w1,w2,w3,w4,_⟩:=(v3 i o (by simpa using hi)).2 t ho
  exact⟨b,ti,w1,w2,w3,w4⟩
 intro i o c hi hx hal hpu hw hc hlt hbet
 have hin:i<ops.size:=(Array.getElem?_eq_some_iff.1 hi).1
 have hcn:c≤ops.size:=by
  rcases hc with h|⟨x,h1,⟨o',h2,_⟩,_⟩
  ·omega
  ·have:=(Array.getElem?_eq_some_iff.1 h2).1; omega
 have hmem:c∈placesOf (Region.before ops) (xsOf ops.toList 0) i:=by
  unfold placesOf
  rw[List.mem_filter]
  constructor
  ·rcases hc with h|⟨x,h1,h2,h3⟩
   ·rw[h]; simp
   ·refine List.mem_cons_of_mem _ (List.mem_map.2 ⟨x,List.mem_filter.2 ⟨Jd.2 h2,by simpa using h3⟩,h1.symm⟩)
  ·simp only[Bool.and_eq_true,List.all_eq_true,List.any_eq_true,Bool.or_eq_true,decide_eq_true_eq,Bool.not_eq_true']
   refine⟨fun x hxm=> ?_,?_⟩
   ·cases hax:ahead (Region.before ops) i x with
    |false=>exact .inl rfl
    |true=>exact .inr (hlt x (Jd.1 hxm) hax)
   ·obtain⟨x,h1,h2⟩:=hbet
    exact⟨x,Jd.2 h1,h2⟩
 have hplan:(i,placesOf (Region.before ops) (xsOf ops.toList 0) i)∈yg ops:=by
  unfold yg
  rw[List.mem_filterMap]
  refine⟨(o,i),mem_zipIdx hi,?_⟩
  simp only[hx,hal,hpu,Bool.or_self,Bool.false_eq_true,if_false]
  cases hq:placesOf (Region.before ops) (xsOf ops.toList 0) i with
  |nil=>rw[hq]at hmem; simp at hmem
  |cons a b=>rfl
 have hag:=List.all_eq_true.1 (List.all_eq_true.1 hall _ hplan) c hmem
 unfold IV at hag
 simp only[hi,hget i (by omega),hget (i+1) (by omega),hget c hcn,hw]at hag
 cases hop:iI E (fun _ _ _=>none) (F i) o.op (Hs c)with
 |none=>rw[hop]at hag; simp at hag
 |some r=>
  obtain⟨v,H1⟩:=r
  rw[hop]at hag
  cases hdst:o.dst with
  |none=>rw[hdst]at hag; simp at hag
  |some dd=>
   rw[hdst]at hag
   simp only at hag
   cases hg:(F (i+1)).get dd with
   |none=>rw[hg]at hag; simp at hag
   |some u=>
    rw[hg]at hag
    simp only at hag
    have:=Y1 hag
    subst this
    exact⟨v,H1,rfl,dd,rfl,hg⟩
theorem abf(hE:E.Ok P)(hC:kK P call){H H':Heap}{fr fr':dK}{id:Nat}{Q:Exit->Act->World->Prop}(ho:Gp E call ops fr H=some (fr',H'))(h:HR M H w)(hf:FR M fr a.tmps)
  (hQ:∀M' a' w',Stp M H w M' H' w'->FR M' fr' a'.tmps->a'.defers=a.defers->Q .normal a' w'):(Code.region id ops true).wpIn (Fw ro) n P Q a w:=by
 obtain⟨pr,X,F,Hs,hF0,hH0,hFn,hHn,htr,hpl,hag,hrs⟩:=RU ho
 have s0:=Stp.reserve h X
 refine wpIn_region_any hE.ord ?_
 have hL0:∀q,xB (Array.replicate ops.size false) q=false:=by
  intro q
  unfold xB
  rcases Nat.lt_or_ge q ops.size with hq|hq
  ·simp[hq]
  ·simp[hq]
 refine any_ok (M0:=M) (H0:=H) (w0:=w) (a0:=a) hE hC hpl ?_ htr hag ?_ ops.size _ (M++X.map fun _=>none) 0 a _ (by simp) ?_ ?_
 ·intro i o hi L hcl he j hj
  obtain⟨o',e,h1,h2,h3,h4⟩:=hpl.edge i j hj
  rw[hi]at h1; simp at h1; subst h1
  have:=he e h2 h3
  rcases h4 with rfl|h4
  ·exact this
  ·exact hcl _ _ this h4
 ·intro M' c a' w' L hall d
  have hcn:Hs ops.size=Hs c:=htr.heaps d.c_le (Nat.le_refl _) fun x h1 h2 hx=>by
   have:=d.c_max x hx (hall x h2); omega
  have hst:=d.st
  rw[←hcn,hHn]at hst
  refine hQ M' a' w' hst ⟨?_,fun t v hv=> ?_⟩ d.defers
  ·rw[d.size,←hFn,htr.n ops.size (Nat.le_refl _)]
  ·rw[←hFn]at hv
   rcases Jc (fun q=>nY ops q=some t) ops.size with⟨q,h1,h2,h3⟩|h1
   ·refine d.new q t v (hall q h1) h1 h2 (fun r hr hd=>h3 r ?_ hd) ?_
    ·unfold nY at hd
     cases hq:ops[r]? with
     |none=>rw[hq]at hd; simp at hd
     |some x=>exact(Array.getElem?_eq_some_iff.1 hq).1
    ·rw[←htr.get (t:=t) (p:=q+1) (q:=ops.size) (by omega) (Nat.le_refl _) (fun x hx1 hx2 hd=>by have:=h3 x hx2 hd; omega)]
     exact hv
   ·refine d.old t v (fun q hq hd=> ?_) ?_
    ·unfold nY at hd
     cases hq2:ops[q]? with
     |none=>rw[hq2]at hd; simp at hd
     |some x=>exact h1 q (Array.getElem?_eq_some_iff.1 hq2).1 (by unfold nY; rw[hq2]; rw[hq2]at hd; exact hd)
    ·rw[←htr.get (t:=t) (p:=0) (q:=ops.size) (by omega) (Nat.le_refl _) (fun x _ hx2 hd=>h1 x hx2 hd)]
     exact hv
 ·have:=List.countP_le_length (p:=fun i=> !xB (Array.replicate ops.size false) i) (l:=List.range ops.size)
  simpa using this
 ·refine⟨fun i j hi _=> ?_,?_,fun i o t hi ho _=> ?_,Nat.zero_le _,.inl rfl,fun y _ hy=> ?_,?_,rfl,fun i t v hi=> ?_,fun t v _ hv=> ?_⟩
  ·rw[hL0]at hi; simp at hi
  ·rw[hH0]; exact s0.trans (.drew s0.hr)
  ·obtain⟨b,ti,w1,w2,w3,w4⟩:=hrs i o t hi ho
   refine⟨b,ti,w1,w2,by rw[h.len]; exact w3,?_,by rw[hH0]; exact w4⟩
   have hbl:=(List.getElem?_eq_some_iff.1 w4).1
   rw[List.getElem?_append_right (by rw[h.len]; exact w3),List.getElem?_map]
   rw[List.getElem?_append_right w3]at w4
   rw[h.len,w4]; rfl
  ·rw[hL0]at hy; simp at hy
  ·rw[hF0]; exact hf.size
  ·rw[hL0]at hi; simp at hi
  ·rw[hF0]at hv; exact(hf.get t v hv).mono s0.ext
theorem ac9{H H':Heap}{fr fr':dK}(h:Gp E call ops fr H=some (fr',H')):fr'.n=fr.n:=by
 obtain⟨_,_,F,Hs,hF0,hH0,hFn,hHn,htr,_,_,_⟩:=RU h
 rw[←hFn,←hF0]
 exact htr.n ops.size (Nat.le_refl _)
end Go.Proofs.YtijnknjopjmiiaaGreatDoor.Zq
end
section
namespace Go.Proofs.YtijnknjopjmiiaaGreatDoor.Zq
variable{P:Program}{E:Env}{M:Mp}{H H':Heap}{w:World}{call:iU}{ro:Option Nat}{n:Nat}{fr fr':dK}{a:Act}
def ExR:Ex->Exit->Prop
 | .normal,.normal=>True
 | .ret,.ret=>True
 | .exit i,.exit j=>i=j
 |_,_=>False
def Marks(w0 w:World)(ds ds':List Deferred):Prop:=
 ∃rs:List Nat,ds'=rs.map (fun r=>{ target:=.collected r,args:= #[] })++ds∧rs.Nodup∧∀r∈rs,w0.heap.size≤r∧w.heap[r]? =some (.deferred (some []))
theorem Marks.refl(w0 w:World)(ds:List Deferred):Marks w0 w ds ds:=⟨[],rfl,List.nodup_nil,fun r h=>by simp at h⟩
theorem Marks.of_eq{w0 w:World}{ds ds':List Deferred}(h:ds'=ds):Marks w0 w ds ds':=by rw[h]; exact .refl _ _ _
theorem ku{M M':Mp}{H H':Heap}{w w':World}(hr:HR M H w)(hs:Stp M H w M' H' w'){r:Nat}{ds:Option (List Deferred)}(h:w.heap[r]? =some (.deferred ds)):w'.heap[r]? =some (.deferred ds):=by
 rw[hs.frame r (Array.getElem?_eq_some_iff.1 h).1 ?_]
 ·exact h
 ·intro b e hb hw he
  obtain⟨k,hk⟩:=hr.get' hb
  have hbr:=hr.blk b e k hb hk
  unfold aZ at hw
  rw[hk]at hw
  cases k with
  |row c sz opn ro live=>
   obtain⟨_,_,_,h4⟩:=hbr
   obtain⟨c',t,fz,g,_⟩:=h4 hw.1
   rw[he,h]at g; simp at g
  |map es clock=>
   obtain⟨es',g,_⟩:=hbr
   rw[he,h]at g; simp at g
  |iter s pos=>
   have g:=hbr.2
   rw[he,h]at g; simp at g
  |loop=>
   obtain⟨L,g,_⟩:=hbr
   rw[he,h]at g; simp at g
theorem Marks.trans{M1 M2:Mp}{H1 H2:Heap}{w0 w1 w2:World}{ds ds1 ds2:List Deferred}(h:Marks w0 w1 ds ds1)(hr:HR M1 H1 w1)(hs:Stp M1 H1 w1 M2 H2 w2)(h0:w0.heap.size≤w1.heap.size)(k:Marks w1 w2 ds1 ds2):Marks w0 w2 ds ds2:=by
 obtain⟨rs,e1,n1,a1⟩:=h
 obtain⟨qs,e2,n2,a2⟩:=k
 refine⟨qs++rs,by rw[e2,e1]; simp,?_,?_⟩
 ·rw[List.nodup_append]
  refine⟨n2,n1,fun a ha b hb hab=> ?_⟩
  subst hab
  have:=(a2 a ha).1
  have:=(Array.getElem?_eq_some_iff.1 (a1 a hb).2).1
  omega
 ·intro r hr'
  rcases List.mem_append.1 hr' with h|h
  ·exact⟨by have:=(a2 r h).1; omega,(a2 r h).2⟩
  ·exact⟨(a1 r h).1,ku hr hs (a1 r h).2⟩
def Runs(P:Program)(ro:Option Nat)(c:Code)(fr:dK)(H:Heap)(e:Ex)(fr':dK)(H':Heap):Prop:=
 fr'.n=fr.n∧∀(n:Nat) (M:Mp) (a:Act) (w:World),HR M H w->FR M fr a.tmps->c.wpIn (Fw ro) n P (fun x a' w'=>ExR e x∧∃M',Stp M H w M' H' w'∧FR M' fr' a'.tmps∧Marks w w' a.defers a'.defers) a w
theorem RV:∀(live:List Nat) (j:Nat) (s:List (Option Value)) (t:Nat),look (mkL live j s) t=match live.idxOf? t with|some i=>(s[j+i]?).join|none=>none
 |[],j,s,t=>by simp[mkL,look]
 |x::r,j,s,t=>by
  simp only[mkL,look,List.idxOf?_cons]
  by_cases h:x=t
  ·simp[h]
  ·have hb:(x==t)=false:=by simpa using h
   rw[if_neg h,RV r (j+1) s t,hb]
   cases r.idxOf? t with
   |none=>simp
   |some i=>simp[Nat.add_comm,Nat.add_left_comm]
theorem Y4{n:Nat}{live:List Nat}{fr:dK}{t:Nat}{v:Value}(h:(oI n live (live.map fr.get)).get t=some v):fr.get t=some v:=by
 unfold dK.get oI at h
 simp only at h
 rw[RV]at h
 split at h
 ·rename_i i hi
  have hi':=List.idxOf?_eq_some_iff.1 hi
  simp only[Nat.zero_add,List.getElem?_map]at h
  obtain⟨hl,ht,_⟩:=hi'
  rw[List.getElem?_eq_getElem hl]at h
  simp at h
  have:live[i]=t:=by simpa using ht
  rw[this]at h
  exact h
 ·simp at h
theorem FR.restrict{tmps:Array Value}(h:FR M fr tmps)(live:List Nat):FR M (oI fr.n live (live.map fr.get)) tmps:=
 ⟨h.size,fun t v hv=>h.get t v (Y4 hv)⟩
theorem Runs.restrict{c:Code}{e:Ex}(h:Runs P ro c fr H e fr' H')(live:List Nat):Runs P ro c fr H e (oI fr.n live (live.map fr'.get)) H':=by
 refine⟨rfl,fun n M a w hr hf=>wpIn_mono (h.2 n M a w hr hf) fun x a' w' ⟨h1,M',h2,h3,h4⟩=>⟨h1,M',h2,?_,h4⟩⟩
 have:=h3.restrict live
 rw[h.1]at this; exact this
def Sound(P:Program)(ro:Option Nat)(c:Code)(m:dK->Heap->(R:Type)->(Ex->dK->Heap->Option R)->Option R):Prop:=
 ∀(fr:dK) (H:Heap) (R:Type) (K:Ex->dK->Heap->Option R) (r:R),m fr H R K=some r->∃e fr' H',K e fr' H'=some r∧Runs P ro c fr H e fr' H'
theorem Ji{c:Code}{j:Option (List Nat)}{m:dK->Heap->(R:Type)->(Ex->dK->Heap->Option R)->Option R}(h:Sound P ro c m):
  Sound P ro c (fun fr H _ K=>Oc fr.n j (fun R K=>m fr H R K) K):=by
 intro fr H R K r hr
 unfold Oc at hr
 cases j with
 |none=>exact h fr H R K r hr
 |some live=>
  simp only at hr
  obtain⟨s,h1,h2⟩:=aj hr
  obtain⟨e,fr',H',h3,h4⟩:=h fr H St _ s h1
  simp at h3; subst h3
  exact⟨e,_,H',h2,h4.restrict live⟩
theorem rQ{F:Fence}{c:Code}{Q Q':Exit->Act->World->Prop}(hq:∀x a w,Q x a w->Q' x a w):∀(m:Nat) (a:Act) (w:World),Code.roundsIn F n P c Q m a w->Code.roundsIn F n P c Q' m a w
 |0,_,_,h=>h
 |m+1,a,w,h=>by
  refine wpIn_mono (c:=c) h fun x a' w' hx=> ?_
  cases x with
  |normal=>exact rQ hq m a' w' hx
  |_=>exact hq _ _ _ hx
theorem Ve{c:Code}{live:List Nat}{N:Nat}{f:List (Option Value)×Heap->Option (Ex×List (Option Value)×Heap)}
  (hf:∀s H e s' H',f (s,H)=some (e,s',H')->Runs P ro c (oI N live s) H e (oI N live s') H'):
  ∀(k:Nat) (s:List (Option Value)) (H:Heap) (e:Ex) (s':List (Option Value)) (H':Heap),IW k f (s,H)=some (e,s',H')->∀(n:Nat) (M:Mp) (a:Act) (w:World),HR M H w->FR M (oI N live s) a.tmps→
   Code.roundsIn (Fw ro) n P c (fun x a' w'=>ExR e x∧∃M',Stp M H w M' H' w'∧FR M' (oI N live s') a'.tmps∧Marks w w' a.defers a'.defers) k a w:=by
 intro k
 induction k with
 |zero=>intro s H e s' H' h; simp[IW]at h
 |succ k ih=>
  intro s H e s' H' h n M a w hr hfr
  simp only[IW]at h
  obtain⟨x,h1,h2⟩:=aj h
  obtain⟨e1,s1,H1⟩:=x
  have hrun:=hf s H e1 s1 H1 h1
  rw[roundsIn_succ]
  refine wpIn_mono (hrun.2 n M a w hr hfr) ?_
  rintro x a' w' ⟨q1,M',q2,q3,q4⟩
  cases e1 with
  |normal=>
   cases x<;>first|exact q1.elim|skip
   simp only at h2
   refine rQ ?_ k a' w' (ih s1 H1 e s' H' h2 n M' a' w' q2.hr q3)
   rintro x2 a2 w2 ⟨r1,M2,r2,r3,r4⟩
   exact⟨r1,M2,q2.trans r2,r3,q4.trans q2.hr r2 q2.size r4⟩
  |exit i=>
   cases x<;>first|exact q1.elim|skip
   simp at h2; obtain⟨rfl,rfl,rfl⟩:=h2
   exact⟨q1,M',q2,q3,q4⟩
  |ret=>
   cases x<;>first|exact q1.elim|skip
   simp at h2; obtain⟨rfl,rfl,rfl⟩:=h2
   exact⟨q1,M',q2,q3,q4⟩
theorem WS(fr:dK)(d:Option Nat)(v:Value):(fr.dU d v).n=fr.n:=by cases d<;>rfl
theorem ac_{ops:Array Oper}{o:Oper}(h:IK E call ops o fr H=some (fr',H')):fr'.n=fr.n:=by
 unfold IK at h
 split at h
 ·obtain⟨b,hb,h2⟩:=aj h
  cases b with
  |true=>
   simp only[if_true]at h2
   obtain⟨r,hr,h3⟩:=aj h2
   simp at h3; obtain⟨rfl,_⟩:=h3
   exact WS _ _ _
  |false=>simp at h2; obtain⟨rfl,_⟩:=h2; exact WS _ _ _
 ·simp at h
theorem acQ{ops:Array Oper}:∀(os:List Oper) (fr:dK) (H:Heap),IL E call ops os fr H=some (fr',H')->fr'.n=fr.n
 |[],fr,H,h=>by simp[IL]at h; rw[h.1]
 |o::os,fr,H,h=>by
  simp only[IL]at h
  obtain⟨r,h1,h2⟩:=aj h
  exact(acQ os r.1 r.2 h2).trans (ac_ h1)
theorem Stp.hidden{M:Mp}{H:Heap}{w:World}(h:HR M H w)(o:Obj):Stp M H w M H (w.alloc o):=by
 have hh:∀j,j<w.heap.size->(w.alloc o).heap[j]? =w.heap[j]? :=fun j hj=>by
  show(w.heap.push _)[j]? =_
  rw[Array.getElem?_push,if_neg (by omega)]
 refine⟨.refl M,⟨h.len,fun b e k hb hk=>(h.blk b e k hb hk).same fun hlv=>hh _ (h.lC hb ?_),h.sep⟩,rfl,rfl,rfl,by simp,Nat.le_refl _,fun c hc _=>hh c hc,fun b e hb hw _=>⟨b,e,hb,hw,rfl⟩,fun _ h=>⟨h,rfl⟩,fun b e hb hw _=>⟨b,e,hb,hw,rfl⟩⟩
 unfold bQ; rw[hk]; cases k<;>first|exact hlv|trivial
end Go.Proofs.YtijnknjopjmiiaaGreatDoor.Zq
end
section
namespace Go.Proofs.YtijnknjopjmiiaaGreatDoor.Zq
variable{P:Program}{E:Env}{M:Mp}{H H':Heap}{w:World}{call:iU}{ro:Option Nat}{n:Nat}{fr fr':dK}{a:Act}
set_option maxHeartbeats 2000000 in
theorem Y5(hC:kK P call){f:Operand}{ps:Array Tmp}{asg body asg' body':Code}{h hb':Hint}{g:FuncId}{xs ys:Array Value}{res:Value}{H2:Heap}{st:LoopState}{pend:Option Ex}{frl:dK}{ps':List Nat}
  (h1:nS fr f=some (.func (.func g) xs ys)) (h3:call (.fn g) (xs.toList++[.func (.yield H.length) #[] #[]]++ys.toList) (H++[.loop .ready none fr ps.toList asg body h])=some (res,H2))
  (hl2:H2[H.length]? =some (.loop st pend frl ps' asg' body' hb')) (hst:¬st= .busy) {n:Nat} {M:Mp} {a:Act} {w:World} (hr:HR M H w) (hf:FR M fr a.tmps):
  (Code.rangeFunc f ps asg body).wpIn (Fw none) n P (fun x a' w'=>ExR (pend.getD .normal) x∧∃M',Stp M H w M' (H2.set H.length (.loop .exhausted pend frl ps' asg' body' hb')) w'∧FR M' fr a'.tmps∧Marks w w' a.defers a'.defers) a w:=by
 refine wpIn_rangeFunc fun fn _=> ?_
 have hfv:=bV hf h1
 obtain⟨us,ws,hfe,hu,hw⟩:∃us ws,a.eval f= .func (.func g) us ws∧VL M xs.toList us.toList∧VL M ys.toList ws.toList:=by
  generalize hq:a.eval f=q at hfv
  cases hfv with
  |func hx hy gx gy=>
   exact⟨_,_,rfl,⟨by simpa using hx,fun i x u hx hu=>gx i x u (by simpa using hx) (by simpa using hu)⟩,⟨by simpa using hy,fun i x u hx hu=>gy i x u (by simpa using hx) (by simpa using hu)⟩⟩
 have s1:=Stp.hidden hr (.deferred (some []))
 let L0:Loop:={ state:=.ready,pending:=none,fn,tmps:=a.tmps,params:=ps,assign:=asg,body,defers:=w.heap.size }
 let en:jd:=⟨w.heap.size+1,0,false,0,0,0⟩
 have hw1s:(w.alloc (.deferred (some []))).heap.size=w.heap.size+1:=by simp
 have s2:=Stp.O5 (o:=.loop L0) (k:=.loop .ready none fr ps.toList asg body h) s1.hr en (by rw[hw1s]) ⟨L0,by
   show((w.alloc (.deferred (some []))).heap.push _)[w.heap.size+1]? =_
   rw[Array.getElem?_push,if_pos (by rw[hw1s])],rfl,trivial,hf.mono (Ext.app M [some en]),rfl,rfl,rfl⟩
 have s12:=s1.trans s2
 have hdef:((w.alloc (.deferred (some []))).alloc (.loop L0)).heap[w.heap.size]? =some (.deferred (some [])):=by
  show(((w.heap.push _).push _))[w.heap.size]? =_
  rw[Array.getElem?_push,if_neg (by simp),Array.getElem?_push,if_pos rfl]
 obtain⟨⟨fng,q1,q2,q3⟩,q4⟩:=hC.fn _ _ _ _ _ h3
 have hargs:VL (M++[some en]) (xs.toList++[.func (.yield H.length) #[] #[]]++ys.toList) (us.toList++[.func (.yield (w.heap.size+1)) #[] #[]]++ws.toList):=
  ((hu.mono s2.ext).append (.cons (.yield (pV hr en)) (.nil _))).append (hw.mono s2.ext)
 have hcall:=q4 (n-1) (M++[some en]) _ _ s2.hr hargs
 have hbn:fng.body.isNone=false:=by cases hb:fng.body<;>simp_all
 refine⟨w.heap.size+1,[{ target:=.collected w.heap.size,args:= #[] }],(w.alloc (.deferred (some []))).alloc (.loop L0),{ target:=.fn (.func g) ws,args:=us++ #[Value.func (.yield (w.heap.size+1)) #[] #[]] },(w.alloc (.deferred (some []))).alloc (.loop L0),g,(us.toList++[Value.func (.yield (w.heap.size+1)) #[] #[]]++ws.toList).toArray,(w.alloc (.deferred (some []))).alloc (.loop L0),?_,?_,fun _ _=>trivial,?_,by simp[Fw,Fence.wide],(nV hcall).mono ?_⟩
 ·simp only[Instr.enterLoop,Fw,Sem.run_bind,run_newObj,Result.andThen_ok,Sem.run_pure,World.alloc_eq]
  rw[hw1s]
 ·have he:(rangeCall f (w.heap.size+1)).args.map a.eval= #[Value.func (.yield (w.heap.size+1)) #[] #[]]:=by simp only[List.map_toArray,List.map_cons,List.map_nil]; rfl
  simp only[resolve]
  rw[hfe,he]
  simp only[Deferred.ofValue,Sem.run_pure]
 ·simp only[invoke,callFunc,Sem.run_bind,run_program,Result.andThen_ok,q1,q3,Bool.false_eq_true,if_false,hbn,Sem.run_pure]
  congr 2
  apply Array.ext'; simp
 ·rintro e w3 ⟨v',M',rfl,hs,_⟩
  have hen:M'[H.length]? =some (some en):=hs.ext _ _ (pV hr en)
  obtain⟨L,k1,k2,k3,k4⟩:=hs.hr.blk _ _ _ hen hl2
  have hgl:(Instr.getLoop (w.heap.size+1)).run P w3= .ok L w3:=by
   have:w3.heap[w.heap.size+1]? =some (.loop L):=k1
   simp[Instr.getLoop,getObj,Sem.run,this]
  have hso:∀o,(setObj (w.heap.size+1) o).run P w3= .ok () { w3 with heap:=w3.heap.setIfInBounds (w.heap.size+1) o }:=fun o=>by
   have:w3.heap[w.heap.size+1]? =some (.loop L):=k1
   simp[setObj,Sem.run,this]
  have hlt:w.heap.size+1<w3.heap.size:=(Array.getElem?_eq_some_iff.1 k1).1
  have hnb:(L.state== .busy)=false:=by rw[k2]; simpa using hst
  have hl2l:H.length<H2.length:=(List.getElem?_eq_some_iff.1 hl2).1
  have s4:=Stp.vI (k':=.loop .exhausted pend frl ps' asg' body' hb') (o':=.loop { L with state:=.exhausted }) hs.hr hl2 hen (by unfold aZ; rw[hl2]; trivial) (by unfold aZ; rw[List.getElem?_set_self hl2l]; trivial)
   ⟨{ L with state:=.exhausted },by simp[en,hlt],rfl,k3,k4⟩
  have sall:=(s12.trans hs).trans s4
  have hmarks:Marks w { w3 with heap:=w3.heap.setIfInBounds en.blk (.loop { L with state:=.exhausted }) } a.defers ([{ target:=.collected w.heap.size,args:= #[] }]++a.defers):=by
   refine⟨[w.heap.size],rfl,by simp,fun r hr'=> ?_⟩
   simp at hr'; subst hr'
   exact⟨Nat.le_refl _,ku hs.hr s4 (ku s2.hr hs hdef)⟩
  refine⟨L.pending,{ w3 with heap:=w3.heap.setIfInBounds (w.heap.size+1) (.loop { L with state:=.exhausted }) },?_,?_⟩
  ·simp only[Instr.endLoop,Sem.run_bind,hgl,Result.andThen_ok,hnb,Bool.false_eq_true,if_false,Sem.run_ite,Sem.run_pure,hso]
  ·have hfin:∃M'',Stp M H w M'' (H2.set H.length (.loop .exhausted pend frl ps' asg' body' hb')) { w3 with heap:=w3.heap.setIfInBounds (w.heap.size+1) (.loop { L with state:=.exhausted }) }∧FR M'' fr a.tmps∧
     Marks w { w3 with heap:=w3.heap.setIfInBounds (w.heap.size+1) (.loop { L with state:=.exhausted }) } a.defers ([{ target:=.collected w.heap.size,args:= #[] }]++a.defers):=⟨M',sall,hf.mono sall.ext,hmarks⟩
   cases hp:L.pending with
   |none=>
    rw[hp]at k3 hfin
    cases pend with
    |none=>exact⟨trivial,hfin⟩
    |some e=>cases e<;>exact k3.elim
   |some c=>
    rw[hp]at k3 hfin
    cases pend with
    |none=>exact k3.elim
    |some e=>
     cases e with
     |normal=>cases c<;>exact k3.elim
     |ret=>cases c<;>first|exact k3.elim|exact wpIn_ret ⟨trivial,hfin⟩
     |exit i=>cases c<;>first|exact k3.elim|exact wpIn_exit ⟨k3,hfin⟩
end Go.Proofs.YtijnknjopjmiiaaGreatDoor.Zq
end
section
namespace Go.Proofs.YtijnknjopjmiiaaGreatDoor.Zq
variable{P:Program}{E:Env}{M:Mp}{H H':Heap}{w:World}{call:iU}{ro:Option Nat}{n:Nat}{fr fr':dK}{a:Act}
theorem pK{F:Fence}{Q:Exit->Act->World->Prop}{c:Code}(h:c.wpIn F n P (Exit.noGoto Q) a w):(Code.scope c).wpIn F n P Q a w:=by
 intro b k cs hro hb hr
 obtain⟨e,a₁,w₁,hq,harr⟩:=h b (.inScope c::k) cs hro hb hr
 have s1:StepsIn (Machine.fenced P F) P (lone (b.atR a (.code (.scope c)::k)) cs w) (lone (b.atR a (.code c:: .inScope c::k)) cs w):=
  .one (fenced_calm hb hr rfl) (step_lone_go (by simp[stepG,stepG.exec,Frame.atR]))
 cases e with
 |normal=>exact⟨.normal,a₁,w₁,hq,s1.trans (StepsIn.trans harr (.one (fenced_calm hb hr rfl) (step_lone_go (by simp[stepG,stepG.exec,Frame.atR]))))⟩
 |exit id=>
  exact⟨.exit id,a₁,w₁,hq,fun k' hk=>s1.trans (harr.1 k' (by simpa[exitTo]using hk)),
   fun hR hk=>let ⟨k₁,h1,h2⟩:=harr.2 hR (by simpa[exitTo]using hk); ⟨k₁,h1,s1.trans h2⟩⟩
 |goto l=>exact hq.elim
 |ret=>exact⟨_,a₁,w₁,hq,.of_steps s1 harr⟩
 |panic ch=>exact⟨_,a₁,w₁,hq,.of_steps s1 harr⟩
 |outgrown=>exact⟨_,a₁,w₁,hq,.of_steps s1 harr⟩
theorem Ph(hE:E.Ok P)(hC:kK P call)(k:Nat)(out:Bool)(ho:out=true->ro=none):∀(c:Code) (h:Hint),Sound P ro c (fun fr H R K=>dD E call k out c h fr H R K):=by
 intro c
 induction c with
 |skip=>
  intro h fr H R K r hr
  simp only[dD]at hr
  exact⟨.normal,fr,H,hr,rfl,fun n M a w hr hf=>wpIn_skip ⟨trivial,M,.refl hr,hf,.refl _ _ _⟩⟩
 |label l=>
  intro h fr H R K r hr
  simp only[dD]at hr
  exact⟨.normal,fr,H,hr,rfl,fun n M a w hr hf=>wpIn_label ⟨trivial,M,.refl hr,hf,.refl _ _ _⟩⟩
 |exit id=>
  intro h fr H R K r hr
  simp only[dD]at hr
  exact⟨.exit id,fr,H,hr,rfl,fun n M a w hr hf=>wpIn_exit ⟨rfl,M,.refl hr,hf,.refl _ _ _⟩⟩
 |ret=>
  intro h fr H R K r hr
  simp only[dD]at hr
  exact⟨.ret,fr,H,hr,rfl,fun n M a w hr hf=>wpIn_ret ⟨trivial,M,.refl hr,hf,.refl _ _ _⟩⟩
 |region id ops draw=>
  intro h fr H R K r hr
  cases draw with
  |false=>
   simp only[dD]at hr
   obtain⟨x,h1,h2⟩:=aj hr
   obtain⟨fr1,H1⟩:=x
   refine⟨.normal,fr1,H1,h2,?_,fun n M a w hr hf=>XO hE hC h1 hr hf fun M' a' w' q1 q2 q3=>⟨trivial,M',q1,q2,.of_eq q3⟩⟩
   exact acQ _ _ _ h1
  |true=>
   simp only[dD]at hr
   obtain⟨x,h1,h2⟩:=aj hr
   obtain⟨fr1,H1⟩:=x
   refine⟨.normal,fr1,H1,h2,?_,fun n M a w hr hf=>abf hE hC h1 hr hf fun M' a' w' q1 q2 q3=>⟨trivial,M',q1,q2,.of_eq q3⟩⟩
   exact ac9 h1
 |seq x y ihx ihy=>
  intro h fr H R K r hr
  simp only[dD]at hr
  obtain⟨e1,fr1,H1,h1,h2⟩:=ihx h.a fr H R _ r hr
  cases e1 with
  |normal=>
   simp only at h1
   obtain⟨e2,fr2,H2,h3,h4⟩:=ihy h.b fr1 H1 R _ r h1
   refine⟨e2,fr2,H2,h3,h4.1.trans h2.1,fun n M a w hr hf=>wpIn_seq (wpIn_mono (h2.2 n M a w hr hf) ?_)⟩
   rintro x a' w' ⟨q1,M',q2,q3,q4⟩
   cases x<;>first|exact q1.elim|skip
   refine wpIn_mono (h4.2 n M' a' w' q2.hr q3) ?_
   rintro x2 a2 w2 ⟨r1,M2,r2,r3,r4⟩
   exact⟨r1,M2,q2.trans r2,r3,q4.trans q2.hr r2 q2.size r4⟩
  |exit i=>
   refine⟨.exit i,fr1,H1,h1,h2.1,fun n M a w hr hf=>wpIn_seq (wpIn_mono (h2.2 n M a w hr hf) ?_)⟩
   rintro x a' w' ⟨q1,q2⟩
   cases x<;>first|exact q1.elim|exact⟨q1,q2⟩
  |ret=>
   refine⟨.ret,fr1,H1,h1,h2.1,fun n M a w hr hf=>wpIn_seq (wpIn_mono (h2.2 n M a w hr hf) ?_)⟩
   rintro x a' w' ⟨q1,q2⟩
   cases x<;>first|exact q1.elim|exact⟨q1,q2⟩
 |cond c x y ihx ihy=>
  intro h fr H R K r hr
  simp only[dD]at hr
  refine Ji (m:=fun fr H R K=>(nS fr c).bind fun v=>Rj v (dD E call k out x h.a fr H R K) (dD E call k out y h.b fr H R K)) ?_ fr H R K r hr
  intro fr H R K r hr
  obtain⟨v,h1,h2⟩:=aj hr
  unfold Rj at h2
  split at h2
  ·obtain⟨e,fr',H',h3,h4⟩:=ihx h.a fr H R K r h2
   exact⟨e,fr',H',h3,h4.1,fun n M a w hr hf=>wpIn_cond_true (bV hf h1).of_bool (h4.2 n M a w hr hf)⟩
  ·obtain⟨e,fr',H',h3,h4⟩:=ihy h.b fr H R K r h2
   exact⟨e,fr',H',h3,h4.1,fun n M a w hr hf=>wpIn_cond_false (bV hf h1).of_bool (h4.2 n M a w hr hf)⟩
  ·simp at h2
 |block id c ih=>
  intro h fr H R K r hr
  simp only[dD]at hr
  refine Ji (m:=fun fr H R K=>dD E call k out c h.a fr H R fun e fr H=>match e with| .exit i=>if i=id then K .normal fr H else K (.exit i) fr H|e=>K e fr H) ?_ fr H R K r hr
  intro fr H R K r hr
  obtain⟨e,fr',H',h3,h4⟩:=ih h.a fr H R _ r hr
  cases e with
  |normal=>
   refine⟨.normal,fr',H',h3,h4.1,fun n M a w hr hf=>wpIn_block (wpIn_mono (h4.2 n M a w hr hf) ?_)⟩
   rintro x a' w' ⟨q1,q2⟩
   cases x<;>first|exact q1.elim|exact⟨q1,q2⟩
  |ret=>
   refine⟨.ret,fr',H',h3,h4.1,fun n M a w hr hf=>wpIn_block (wpIn_mono (h4.2 n M a w hr hf) ?_)⟩
   rintro x a' w' ⟨q1,q2⟩
   cases x<;>first|exact q1.elim|exact⟨q1,q2⟩
  |exit i=>
   simp only at h3
   split at h3
   ·rename_i hi
    refine⟨.normal,fr',H',h3,h4.1,fun n M a w hr hf=>wpIn_block (wpIn_mono (h4.2 n M a w hr hf) ?_)⟩
    rintro x a' w' ⟨q1,q2⟩
    cases x<;>first|exact q1.elim|skip
    rename_i i2
    have q1:i=i2:=q1
    subst q1; subst hi
    simp only[Exit.inBlock,if_true]
    exact⟨trivial,q2⟩
   ·rename_i hi
    refine⟨.exit i,fr',H',h3,h4.1,fun n M a w hr hf=>wpIn_block (wpIn_mono (h4.2 n M a w hr hf) ?_)⟩
    rintro x a' w' ⟨q1,q2⟩
    cases x<;>first|exact q1.elim|skip
    rename_i i2
    have q1:i=i2:=q1
    subst q1
    simp only[Exit.inBlock,if_neg hi]
    exact⟨rfl,q2⟩
 |loop c ih=>
  intro h fr H R K r hr
  simp only[dD]at hr
  split at hr
  ·rename_i live hc
   obtain⟨x,h1,h2⟩:=aj hr
   obtain⟨e,s,H1⟩:=x
   refine⟨e,oI fr.n live s,H1,h2,rfl,fun n M a w hr hf=>wpIn_loop_rounds k ?_⟩
   refine Ve (P:=P) (ro:=ro) (c:=c) (live:=live) (N:=fr.n) (fun s H e s' H' hfs=> ?_) k _ _ _ _ _ h1 n M a w hr (hf.restrict live)
   obtain⟨e2,fr2,H2,h3,h4⟩:=ih h.a _ _ _ _ _ hfs
   simp at h3; obtain⟨rfl,rfl,rfl⟩:=h3
   exact h4.restrict live
  ·simp at hr
 |scope c ih=>
  intro h fr H R K r hr
  simp only[dD]at hr
  obtain⟨e,fr',H',h3,h4⟩:=ih h.a fr H R K r hr
  refine⟨e,fr',H',h3,h4.1,fun n M a w hr hf=>pK (wpIn_mono (h4.2 n M a w hr hf) ?_)⟩
  rintro x a' w' ⟨q1,q2⟩
  cases x with
  |goto l=>cases e<;>exact q1.elim
  |_=>exact⟨q1,q2⟩
 |rangeFunc f ps asg body _ _=>
  intro h fr H R K r hr
  simp only[dD]at hr
  split at hr
  ·rename_i hout
   have hro:=ho hout
   subst hro
   obtain⟨fv,h1,h2⟩:=aj hr
   split at h2
   ·rename_i g xs ys
    obtain⟨x,h3,h4⟩:=aj h2
    obtain⟨res,H2⟩:=x
    split at h4
    ·rename_i st pend fr' ps' asg' body' hb' hl2
     split at h4
     ·simp at h4
     ·rename_i hst
      refine⟨pend.getD .normal,fr,_,h4,rfl,fun n M a w hr hf=> ?_⟩
      exact Y5 hC h1 h3 hl2 hst hr hf
    ·simp at h4
   ·simp at h2
  ·simp at hr
 |_=>intro h fr H R K r hr; simp[dD]at hr
end Go.Proofs.YtijnknjopjmiiaaGreatDoor.Zq
end
section
namespace Go.Proofs.YtijnknjopjmiiaaGreatDoor.Zq
variable{P:Program}{E:Env}{M:Mp}{H H':Heap}{w:World}{fr fr':dK}{a:Act}
def ae9(P:Program)(f:FuncId)(x:List Value->Heap->Option (Value×Heap)):Prop:=
 ∀args H res H',x args H=some (res,H')->(∃fn,P.funcs[f]? =some fn∧fn.body.isSome=true∧(fn.name=="runtime.NumGoroutine")=false)∧
  ∀(n:Nat) (M:Mp) (w:World) (args':List Value),HR M H w->VL M args args'→
   CallsIn Fence.wide n P f args'.toArray w fun e w'=>∃v' M',e= .returned v'∧Stp M H w M' H' w'∧VR M' res v'
def acR(P:Program)(E:Env):Prop:=∀f x,E.ext f=some x->ae9 P f x
theorem XR(hE:E.Ok P)(h:HR M H w)(hf:FR M fr a.tmps){g:ResultVar->Sem Value}(g1:∀t,g (.tmp t)=pure (a.tmps.getD t undef))(g2:∀b t,g (.cell b t)=(do loadVar t (←asAddr (a.tmps.getD b undef))))
  {r:ResultVar} {v:Value} (hr:Dj E fr H r=some v):∃v',(g r).run P w= .ok v' w∧VR M v v':=by
 cases r with
 |tmp t=>exact⟨_,by rw[g1]; rfl,hf.get t v hr⟩
 |cell b t=>
  simp only[Dj]at hr
  obtain⟨p,h1,h2⟩:=aj hr
  have hp:=hf.get b p h1
  unfold Gj at h2
  split at h2
  ·obtain⟨ti,ht,h3⟩:=aj h2
   obtain⟨cs,h4,h5⟩:=aj h3
   obtain⟨e,he,hq⟩:=hp.Bj
   obtain⟨u,k1,k2⟩:=IY hE h ht he h4 h5
   exact⟨u,by rw[g2]; simp[hq,asAddr,k1],k2⟩
  ·simp at h2
theorem Jj(hE:E.Ok P)(h:HR M H w)(hf:FR M fr a.tmps){g:ResultVar->Sem Value}(g1:∀t,g (.tmp t)=pure (a.tmps.getD t undef))(g2:∀b t,g (.cell b t)=(do loadVar t (←asAddr (a.tmps.getD b undef)))):∀{rs:List ResultVar} {vs:List Value},lu E fr H rs=some vs→
  ∃us:List Value,(rs.mapM g).run P w= .ok us w∧VL M vs us
 |[],vs,hr=>by simp[lu]at hr; subst hr; exact⟨[],by simp,.nil M⟩
 |r::rs,vs,hr=>by
  simp only[lu]at hr
  obtain⟨v,h1,h2⟩:=aj hr
  obtain⟨us,h3,h4⟩:=aj h2
  simp at h4; subst h4
  obtain⟨v',k1,k2⟩:=XR hE h hf g1 g2 h1
  obtain⟨us',k3,k4⟩:=Jj hE h hf g1 g2 h3
  exact⟨v'::us',by simp only[List.mapM_cons,Sem.run_bind,k1,Result.andThen_ok,k3,Sem.run_pure],.cons k2 k4⟩
theorem Jk{vs us:List Value}(h:VL M vs us):VR M (gQ vs) (if h:us.toArray.size=1 then us.toArray[0]else .tuple us.toArray):=by
 have hl:=h.1
 unfold gQ
 split
 ·rename_i v
  obtain⟨u,us',rfl,hu,ht⟩:=h.of_cons
  have:=ht.of_nil; subst this
  simpa using hu
 ·rename_i hne
  have:¬us.toArray.size=1:=by
   intro h1
   simp at h1
   rw[←hl]at h1
   obtain⟨x,hx⟩:=List.length_eq_one_iff.1 h1
   exact hne x hx
  rw[dif_neg this]
  exact h.tuple
theorem Gx:∀(l:List Value) (i t:Nat),look (Bh i l) t=if i≤t then l[t-i]? else none
 |[],i,t=>by simp[Bh,look]
 |v::r,i,t=>by
  simp only[Bh,look,Gx r (i+1) t]
  by_cases h:i=t
  ·subst h; simp
  ·rw[if_neg h]
   by_cases h2:i≤t
   ·rw[if_pos h2,if_pos (by omega)]
    obtain⟨q,hq⟩:∃q,t-i=q+1:=⟨t-i-1,by omega⟩
    rw[hq,show t-(i+1)=q by omega]; rfl
   ·rw[if_neg h2,if_neg (by omega)]
theorem Y6{fn:Func}{args args':List Value}(h:VL M args args'):FR M (zI fn args) (args'.toArray++Array.replicate (fn.ntmps-args'.toArray.size) undef):=by
 refine⟨by simp[zI,h.1],fun t v hv=> ?_⟩
 unfold dK.get zI at hv
 simp only[Gx,Nat.zero_le,if_true,Nat.sub_zero]at hv
 have ht:t<args.length:=(List.getElem?_eq_some_iff.1 hv).1
 have ht':t<args'.length:=by rw[←h.1]; exact ht
 have hg:(args'.toArray++Array.replicate (fn.ntmps-args'.toArray.size) undef)[t]? =some args'[t]:=by
  rw[Array.getElem?_append_left (by simpa using ht')]
  simp[ht']
 rw[Array.getD_eq_getD_getElem?,hg]
 exact h.2 t v _ hv (List.getElem?_eq_getElem ht')
theorem HR.Dw{r:Nat}{x:Option (List Deferred)}(h:HR M H w){b:Nat}{e:jd}(hb:M[b]? =some (some e))(hl:bQ H b)(hd:w.heap[r]? =some (.deferred x)):e.blk≠r:=by
 intro he
 unfold bQ at hl
 obtain⟨k,hk⟩:=h.get' hb
 have hbr:=h.blk b e k hb hk
 rw[hk]at hl
 cases k with
 |row c sz opn ro live=>
  obtain⟨_,_,_,h4⟩:=hbr
  obtain⟨c',t,fz,g,_⟩:=h4 hl
  rw[he,hd]at g; simp at g
 |map es clock=>
  obtain⟨es',g,_⟩:=hbr
  rw[he,hd]at g; simp at g
 |iter s pos=>
  have g:=hbr.2
  rw[he,hd]at g; simp at g
 |loop=>
  obtain⟨L,g,_⟩:=hbr
  rw[he,hd]at g; simp at g
theorem Stp.Pj{M':Mp}{w':World}{r:Nat}{x:Option (List Deferred)}(o:Obj)(h:Stp M H w M' H' w')(hr:w.heap.size≤r)(hd:w'.heap[r]? =some (.deferred x)):
  Stp M H w M' H' { w' with heap:=w'.heap.setIfInBounds r o }:=by
 have hO:∀j:Nat,j≠r->(w'.heap.setIfInBounds r o)[j]? =w'.heap[j]? :=fun j hj=>by rw[Array.getElem?_setIfInBounds_ne (Ne.symm hj)]
 refine⟨h.ext,⟨h.hr.len,fun b e k hb hk=>(h.hr.blk b e k hb hk).same fun hlv=>hO _ (h.hr.Dw hb ?_ hd),h.hr.sep⟩,h.os,h.output,h.tape,by simpa using h.size,h.dr,fun c hc hn=> ?_,h.wm,h.keep,h.lm⟩
 ·unfold bQ; rw[hk]; cases k<;>first|exact hlv|trivial
 ·show(w'.heap.setIfInBounds r o)[c]? =_
  rw[hO c (by omega)]; exact h.frame c hc hn
theorem Dx{fn:Func}{tmps:Array Value}{M':Mp}{R:Ending->World->Prop}{n:Nat}
  (hR:∀w',Stp M H w M' H' w'->∃v,(results fn tmps).run P w'= .ok v w'∧R (.returned v) w'):
  ∀(rs:List Nat) (w':World),Stp M H w M' H' w'->rs.Nodup->(∀r∈rs,w.heap.size≤r∧w'.heap[r]? =some (.deferred (some [])))→
   LeavesInM Fence.wide n P fn tmps R (rs.map fun r=>{ target:=.collected r,args:= #[] }) .returning w'
 |[],w',hs,_,_=>hR w' hs
 |r::rs,w',hs,hn,ha=>by
  obtain⟨h1,h2⟩:=ha r (by simp)
  have hlt:=(Array.getElem?_eq_some_iff.1 h2).1
  refine⟨by simp,.inl ⟨r,{ w' with heap:=w'.heap.setIfInBounds r (.deferred none) },rfl,?_,Dx hR rs _ (hs.Pj _ h1 h2) (List.nodup_cons.1 hn).2 ?_⟩⟩
  ·have hg:(getObj r).run P w'= .ok (.deferred (some [])) w':=by simp[getObj,Sem.run,h2]
   have hs':∀o,(setObj r o).run P w'= .ok () { w' with heap:=w'.heap.setIfInBounds r o }:=fun o=>by simp[setObj,Sem.run,h2]
   simp only[Instr.takeDeferred,Sem.run_bind,hg,Result.andThen_ok,hs',Sem.run_pure]
  ·intro q hq
   obtain⟨g1,g2⟩:=ha q (by simp[hq])
   refine⟨g1,?_⟩
   have hqr:r≠q:=fun e=>(List.nodup_cons.1 hn).1 (e▸hq)
   show(w'.heap.setIfInBounds r _)[q]? =_
   rw[Array.getElem?_setIfInBounds_ne hqr]; exact g2
theorem WT:∀{ps:List Nat} {args args':List Value} {fr fr':dK} {tmps:Array Value},O4 fr ps args=some fr'->FR M fr tmps->VL M args args'→
  args'.length=ps.length∧FR M fr' ((ps.zip args').foldl (fun tmps x=>tmps.setIfInBounds x.1 x.2) tmps)
 |[],[],args',fr,fr',tmps,h,hf,hv=>by
  simp[O4]at h; subst h
  have:=hv.of_nil; subst this
  exact⟨rfl,hf⟩
 |t::ts,v::vs,args',fr,fr',tmps,h,hf,hv=>by
  obtain⟨u,us,rfl,hu,ht⟩:=hv.of_cons
  simp only[O4]at h
  split at h
  ·rename_i hlt
   obtain⟨g1,g2⟩:=WT h (hf.put hlt hu) ht
   exact⟨by simp[g1],g2⟩
  ·simp at h
 |[],_::_,_,_,_,_,h,_,_=>by simp[O4]at h
 |_::_,[],_,_,_,_,h,_,_=>by simp[O4]at h
theorem run_getLoop{l:Nat}{L:Loop}(h:w.heap[l]? =some (.loop L)):(Instr.getLoop l).run P w= .ok L w:=by
 simp[Instr.getLoop,getObj,Sem.run,h]
theorem rU{l:Nat}{L:Loop}(h:w.heap[l]? =some (.loop L))(o:Obj):(setObj l o).run P w= .ok () { w with heap:=w.heap.setIfInBounds l o }:=by
 simp[setObj,Sem.run,h]
theorem aeg(hE:E.Ok P)(hX:acR P E):∀k,kK P (aFn E k):=by
 intro k
 induction k with
 |zero=>exact⟨fun f args H res H' h=>by simp[aFn]at h,fun f args H res H' h=>by simp[aFn]at h⟩
 |succ k ih=>
  constructor
  ·intro f args H res H' h
   simp only[aFn]at h
   split at h
   ·rename_i x hx
    exact hX f x hx args H res H' h
   ·obtain⟨fn,h1,h2⟩:=aj h
    obtain⟨c,h3,h4⟩:=aj h2
    obtain⟨q1,q2⟩:=hE.fn f fn h1
    refine⟨⟨fn,q1,by simp[h3],q2⟩,fun n M w args' hr hv=> ?_⟩
    obtain⟨e,fr',H2,g1,g2⟩:=Ph (ro:=none) hE ih k true (fun _=>rfl) c (E.hint f) (zI fn args) H (Value×Heap) _ _ h4
    refine callsIn_of_wp_marks q1 h3 trivial (wpIn_mono (g2.2 n M _ w hr (Y6 hv)) ?_)
    rintro x a' w' ⟨r1,M',r2,r3,r4⟩
    have hres:∀(hg:((lu E fr' H2 fn.results.toList).bind fun vs=>some (gQ vs,H2))=some (res,H')),
      LeavesInM Fence.wide n P fn a'.tmps (fun e w'=>∃v' M',e= .returned v'∧Stp M H w M' H' w'∧VR M' res v') a'.defers .returning w':=by
     intro hg
     obtain⟨vs,k1,k2⟩:=aj hg
     simp at k2; obtain⟨rfl,rfl⟩:=k2
     obtain⟨rs,e1,n1,a1⟩:=r4
     rw[e1]
     simp only[List.append_nil]
     refine Dx (M:=M) (M':=M') (fun w'' hs=> ?_) rs w' r2 n1 a1
     obtain⟨us,l1,l2⟩:=Jj (g:=fun r=>match r with| .tmp t=>pure (a'.tmps.getD t undef)| .cell b t=>do loadVar t (←asAddr (a'.tmps.getD b undef))) hE hs.hr r3 (fun _=>rfl) (fun _ _=>rfl) k1
     refine⟨_,?_,_,M',rfl,hs,Jk l2⟩
     unfold results
     rw[Array.mapM_eq_mapM_toList]
     simp only[Sem.run_bind,Sem.run_map,Sem.run_pure]
     erw [l1]
     rfl
    cases e with
    |normal=>
     cases x<;>first|exact r1.elim|skip
     exact hres g1
    |ret=>
     cases x<;>first|exact r1.elim|skip
     exact hres g1
    |exit i=>simp at g1
  ·intro l args H res H' h n M w args' en hr hv hen
   simp only[aFn]at h
   split at h
   ·rename_i st pend fr ps asg body hb hl
    obtain⟨fr1,h1,h2⟩:=aj h
    obtain⟨L,b1,b2,b3,b4,b5,b6,b7⟩:=hr.blk _ _ _ hen hl
    obtain⟨p1,p2⟩:=WT h1 b4 hv
    refine⟨L,b1,by rw[p1,←b5]; simp,?_⟩
    have hfold:(L.params.zip args'.toArray).foldl (fun tmps (t,a)=>tmps.setIfInBounds t a) L.tmps=(ps.zip args').foldl (fun tmps x=>tmps.setIfInBounds x.1 x.2) L.tmps:=by
     rw[←Array.foldl_toList,Array.toList_zip,b5]
    rw[hfold,b6,b7]
    obtain⟨e1,fr2,H1,g1,g2⟩:=Ph (ro:=some en.blk) hE ih k false (by simp) asg .leaf fr1 H (Value×Heap) _ _ h2
    refine roundIn_of_wpIn (F:=Fence.wide) trivial (wpIn_mono (g2.2 n M _ w hr p2) ?_)
    rintro x a1 w1 ⟨r1,M1,r2,r3,r4⟩
    split at g1
    ·rename_i pd fr0 ps0 asg0 body0 hb0 hl1
     cases x<;>first|exact r1.elim|skip
     have hen1:=r2.ext _ _ hen
     obtain⟨L1,c1,c2,c3,c4,c5,c6,c7⟩:=r2.hr.blk _ _ _ hen1 hl1
     have hlt1:=(Array.getElem?_eq_some_iff.1 c1).1
     have hH1:l<H1.length:=(List.getElem?_eq_some_iff.1 hl1).1
     have s2:=Stp.vI (k':=.loop .busy pd fr0 ps0 asg0 body0 hb0) (o':=.loop { L1 with state:=.busy }) r2.hr hl1 hen1 (by unfold aZ; rw[hl1]; trivial) (by unfold aZ; rw[List.getElem?_set_self hH1]; trivial)
      ⟨{ L1 with state:=.busy },by simp[hlt1],rfl,c3,c4,c5,c6,c7⟩
     refine⟨{ w1 with heap:=w1.heap.setIfInBounds en.blk (.loop { L1 with state:=.busy }) },?_,?_⟩
     ·have hg:=run_getLoop (P:=P) c1
      have hs':=rU (P:=P) c1
      simp only[Instr.beginRound,Sem.run_bind,hg,Result.andThen_ok,hs',c2,Sem.run_pure]
     ·obtain⟨e2,fr3,H2,g3,g4⟩:=Ph (ro:=some en.blk) hE ih k false (by simp) body hb fr2 _ (Value×Heap) _ _ g1
      refine wpIn_mono (g4.2 n M1 a1 _ s2.hr r3) ?_
      rintro x2 a2 w2 ⟨t1,M2,t2,t3,t4⟩
      split at g3
      ·rename_i st1 pd1 fr4 ps1 asg1 body1 hb1 hl2
       have hen2:=t2.ext _ _ hen1
       obtain⟨L2,d1,d2,d3,d4,d5,d6,d7⟩:=t2.hr.blk _ _ _ hen2 hl2
       have hlt2:=(Array.getElem?_eq_some_iff.1 d1).1
       have hH2:l<H2.length:=(List.getElem?_eq_some_iff.1 hl2).1
       have s12:=(r2.trans s2).trans t2
       have fin:∀(s:LoopState) (pe:Option Ex) (j:Option Code),YQ pe j->Stp M H w M2 (H2.set l (.loop s pe fr4 ps1 asg1 body1 hb1)) { w2 with heap:=w2.heap.setIfInBounds en.blk (.loop { L2 with state:=s,pending:=j }) }:=fun s pe j hp=>
        s12.trans (Stp.vI t2.hr hl2 hen2 (by unfold aZ; rw[hl2]; trivial) (by unfold aZ; rw[List.getElem?_set_self hH2]; trivial)
         ⟨{ L2 with state:=s,pending:=j },by simp[hlt2],rfl,hp,d4,d5,d6,d7⟩)
       have hend:∀j:Option Code,(Instr.endRound en.blk j).run P w2= .ok (.bool j.isNone) { w2 with heap:=w2.heap.setIfInBounds en.blk (.loop { L2 with state:=if j.isNone then .ready else .done,pending:=j }) }:=fun j=>by
        have hg:=run_getLoop (P:=P) d1
        have hs':=rU (P:=P) d1
        simp only[Instr.endRound,Sem.run_bind,hg,Result.andThen_ok,hs',Sem.run_pure]
       cases e2 with
       |normal=>
        cases x2<;>first|exact t1.elim|skip
        simp at g3; obtain⟨rfl,rfl⟩:=g3
        exact⟨_,_,hend none,_,M2,rfl,fin _ none none trivial,.bool _⟩
       |ret=>
        cases x2<;>first|exact t1.elim|skip
        simp at g3; obtain⟨rfl,rfl⟩:=g3
        exact⟨_,_,hend (some .ret),_,M2,rfl,fin _ (some .ret) (some .ret) trivial,.bool _⟩
       |exit i=>
        cases x2<;>first|exact t1.elim|skip
        rename_i i2
        have t1:i=i2:=t1
        subst t1
        simp at g3; obtain⟨rfl,rfl⟩:=g3
        exact⟨_,_,hend (some (.exit i)),_,M2,rfl,fin _ (some (.exit i)) (some (.exit i)) rfl,.bool _⟩
      ·simp at g3
    ·simp at g1
   ·simp at h
end Go.Proofs.YtijnknjopjmiiaaGreatDoor.Zq
end
section
namespace Go.Proofs.YtijnknjopjmiiaaGreatDoor.Zq
structure Tag where
 α:Type
 agg:Bool
 n:Nat
 cells:α->List Value
 of:List Value->Option α
 ok:∀cs x,of cs=some x->cs=cells x
def Pm(agg:Bool)(cs:List Value):Value:=if agg then .agg cs.toArray else match cs with|[v]=>v|_=>undef
def Tag.enc(T:Tag)(x:T.α):Value:=Pm T.agg (T.cells x)
def Tag.dec(T:Tag)(v:Value):Option T.α:=
 match v with
 | .agg cs=>if T.agg then T.of cs.toList else none
 | .tuple _=>none
 |v=>if T.agg then none else T.of [v]
def Tup:List Tag->Type
 |[]=>Unit
 |t::r=>t.α×Tup r
def encs:(ts:List Tag)->Tup ts->List Value
 |[],_=>[]
 |t::r,x=>t.enc x.1::encs r x.2
inductive Sv where
 |v (v:Value)
 |lp (i off:Nat)
 |ls (i n:Nat)
structure fK where
 n:Nat
 l:List (Nat×Option Sv)
def aW:List (Nat×Option Sv)->Nat->Option Sv
 |[],_=>none
 |(i,v)::r,t=>if i=t then v else aW r t
def fK.put(fr:fK)(d:Nat)(s:Sv):fK:=⟨fr.n,(d,some s)::fr.l⟩
def fK.dU(fr:fK)(d:Option Nat)(s:Sv):fK:=
 match d with
 |some d=>fr.put d s
 |none=>fr
abbrev Loc:=List (Nat×List Value)
def LZ(fr:fK):Operand->Option Sv
 | .tmp t=>aW fr.l t
 | .const v=>if flat v then some (.v v)else none
 | .global _=>none
 | .func f=>some (.v (.func (.func f) #[] #[]))
def mQ(fr:fK)(x:Operand):Option Value:=
 match LZ fr x with
 |some (.v v)=>some v
 |_=>none
def vP(fr:fK):List Operand->Option (List Value)
 |[]=>some []
 |x::r=>match mQ fr x,vP fr r with|some v,some vs=>some (v::vs)|_,_=>none
def Pn(fr:fK):List (Nat×Operand)->Option (List (Nat×Value))
 |[]=>some []
 |(i,x)::r=>match mQ fr x,Pn fr r with|some v,some vs=>some ((i,v)::vs)|_,_=>none
def xH(fr:fK):Option Operand->Option (Option Value)
 |none=>some none
 |some x=>match mQ fr x with|some v=>some (some v)|none=>none
def EV(P:Program)(g:FuncId)(args:List Value)(H:Heap)(Q:Value->Heap->Prop):Prop:=
 (∃fn,P.funcs[g]? =some fn∧fn.body.isSome=true∧(fn.name=="runtime.NumGoroutine")=false)∧
 ∀(n:Nat) (M:Mp) (w:World) (args':List Value),HR M H w->VL M args args'→
  CallsIn Fence.wide n P g args'.toArray w fun e w'=>∃v v' M' H',e= .returned v'∧Stp M H w M' H' w'∧VR M' v v'∧Q v H'
def EVY(P:Program)(l:Nat)(args:List Value)(H:Heap)(Q:Value->Heap->Prop):Prop:=
 ∀(n:Nat) (M:Mp) (w:World) (args':List Value) (e:jd),HR M H w->VL M args args'->M[l]? =some (some e)→
  ∃L:Loop,w.heap[e.blk]? =some (.loop L)∧args'.length=L.params.size∧
   RoundIn Fence.wide n P e.blk L.fn ((L.params.zip args'.toArray).foldl (fun tmps (t,a)=>tmps.setIfInBounds t a) L.tmps) L.assign L.body w fun e w'=>∃v v' M' H',e= .returned v'∧Stp M H w M' H' w'∧VR M' v v'∧Q v H'
def RK(lb:LoopState->Option Ex->gI)(l:Nat)(k:Value->Heap->Prop)(e:Ex)(H:Heap):Prop:=
 H[l]? =some (lb .busy none)∧match e with| .normal=>k (.bool true) (H.set l (lb .ready none))|e=>k (.bool false) (H.set l (lb .done (some e)))
def CALL(P:Program)(rs:List Tag)(g:FuncId)(args:List Value)(H:Heap)(k:Tup rs->Heap->Prop):Prop:=
 EV P g args H fun v H'=>∃x:Tup rs,v=gQ (encs rs x)∧k x H'
def WU(P:Program)(rs:List Tag)(f:Value)(args:List Value)(H:Heap)(k:Tup rs->Heap->Prop):Prop:=
 (∃g xs ys,f= .func (.func g) xs ys∧CALL P rs g (xs.toList++args++ys.toList) H k)∨(∃l,f= .func (.yield l) #[] #[]∧EVY P l args H fun v H'=>∃x:Tup rs,v=gQ (encs rs x)∧k x H')
def RFX:List Ex->Ex->(Ex->Prop)->Prop
 |[],_,_=>False
 |x::r,e,K=>(e=x∧K x)∨RFX r e K
def RF(P:Program)(ts:List Tag)(g:FuncId)(xs ys:List Value)(H:Heap)(B:(LoopState->Option Ex->gI)->Tup ts->Heap->(Ex->Heap->Prop)->Prop)(K:Ex->Heap->Prop):Prop:=
 ∀lb:LoopState->Option Ex->gI,(∀(x:Tup ts) H1 k,H1[H.length]? =some (lb .ready none)∧B lb x H1 (RK lb H.length k)->EVY P H.length (encs ts x) H1 k)→
  EV P g (xs++[.func (.yield H.length) #[] #[]]++ys) (H++[lb .ready none]) fun _ H2=>∃st pend,H2[H.length]? =some (lb st pend)∧st≠ .busy∧K (pend.getD .normal) (H2.set H.length (lb .exhausted pend))
def RFV(P:Program)(ts:List Tag)(f:Value)(H:Heap)(B:(LoopState->Option Ex->gI)->Tup ts->Heap->(Ex->Heap->Prop)->Prop)(K:Ex->Heap->Prop):Prop:=
 ∃g xs ys,f= .func (.func g) xs ys∧RF P ts g xs.toList ys.toList H B K
def LD(T:Tag)(H:Heap)(b off:Nat)(k:T.α->Prop):Prop:=∃x,rd H b off T.n=some (T.cells x)∧k x
def ST(H:Heap)(b off:Nat)(cs:List Value)(k:Heap->Prop):Prop:=∃H',wr H b off cs=some H'∧k H'
def NIL(p:Option Addr)(k:Nat->Nat->Prop):Prop:=match p with|some ⟨b,off,none⟩=>k b off|_=>False
def dw(p:Option Addr)(len:Nat)(i:Int)(sz:Nat)(k:Nat->Nat->Prop):Prop:=NIL p fun b off=>(0≤i∧i<len)∧k b (off+i.toNat*sz)
def yu(len:Nat)(i:Int)(k:Prop):Prop:=(0≤i∧i<len)∧k
def GEN(T:Tag)(x:Option (Value×Heap))(k:T.α->Heap->Prop):Prop:=∃y H',x=some (T.enc y,H')∧k y H'
def dW(T:Tag)(x:Option Value)(k:T.α->Prop):Prop:=∃y,x=some (T.enc y)∧k y
def abh(x:Option Heap)(k:Heap->Prop):Prop:=∃H',x=some H'∧k H'
def aeh(x:Option (Value×Heap))(k:Value->Heap->Prop):Prop:=∃y H',x=some (y,H')∧k y H'
def NXT(x:Option (Value×Heap))(k1:Int->Int->Heap->Prop)(k2:Heap->Prop):Prop:=
 (∃i r H',x=some (.tuple #[.bool true,.int .i64 i,.int .i32 r],H')∧k1 i r H')∨(∃H',x=some (.tuple #[.bool false],H')∧k2 H')
def LKP(T:Tag)(x:Option Value)(k:T.α->Bool->Prop):Prop:=∃y b,x=some (.tuple #[T.enc y,.bool b])∧k y b
def growE(E:Env)(ts:List TypeId)(len n:Nat)(old xs:List Value)(H:Heap)(x:Nat):Option (Value×Heap):=
 match ts with
 |[ts,tx]=>match E.ty ts,E.ty tx with
  |some ti,some tj=>match ti.k,tj.k with
   |_,.int _=>none
   | .slice e,_=>match E.ty e with
    |some te=>if te.size=0∨xs.length≠n*te.size∨old.length≠len*te.size then none
     else if 2*(len+n)*te.bytes≤281474976710656∧te.bytes≠0 then some (.slice (some ⟨H.length,0,none⟩) (len+n) (len+n+x),mk H (old++xs++rep x te.zero) te.size false)else none
    |none=>none
   |_,_=>none
  |_,_=>none
 |_=>none
def XT(E:Env)(ts:List TypeId):Nat:=
 match ts with
 |ts::_=>match E.ty ts with
  |some ti=>match ti.k with
   | .slice e=>match E.ty e with|some te=>te.size|none=>0
   |_=>0
  |none=>0
 |[]=>0
def fC(E:Env)(ts:List TypeId)(s:Value)(n:Nat)(xs:List Value)(H:Heap)(x:Nat):Option (Value×Heap):=
 match s with
 | .slice none 0 0=>if n=0 then uQ E ts s n xs H else growE E ts 0 n [] xs H x
 | .slice (some ⟨b,off,none⟩) len cap=>
  if n≠0∧cap<len+n∧exact H b off cap=true then match rd H b off (len*XT E ts)with|some old=>growE E ts len n old xs H x|none=>none
  else uQ E ts s n xs H
 |s=>uQ E ts s n xs H
def dM(E:Env)(ts:List TypeId)(s x:Value)(H:Heap)(y:Nat):Option (Value×Heap):=
 match ts with
 |[t1,t2]=>match E.ty t1 with
  |some ti=>match ti.k with
   | .slice e=>match E.ty e with
    |some te=>match oH x with
     |some n=>match gK x n te.size H with
      |some xs=>fC E [t1,t2] s n xs H y
      |none=>none
     |none=>none
    |none=>none
   |_=>none
  |none=>none
 |_=>none
def lenV:Value->Nat
 | .slice _ n _=>n
 |_=>0
def EW(T:Tag)(m:Nat)(f:Nat->Option (Value×Heap))(k:T.α->Heap->Prop):Prop:=∀x,(x=0∨m+x≤9223372036854775807)->GEN T (f x) k
def vT(c:Prop)(k:Prop):Prop:=c∧k
def JOIN{S:Type}(A:(S->Heap->Prop)->Prop)(B:S->Heap->Prop):Prop:=A B
def itP{S:Type}(F:(S->Heap->Prop)->S->Heap->Prop):Nat->S->Heap->Prop
 |0,_,_=>False
 |m+1,s,H=>F (itP F m) s H
def LOOP{S:Type}(F:(S->Heap->Prop)->S->Heap->Prop)(s:S)(H:Heap):Prop:=∃m,itP F m s H
def aK(g:Bool)(a b:Prop):Prop:=match g with|true=>a|false=>b
mutual
def Vf(E:Env):Nat->TypeId->Value->Value->Option Bool
 |0,_,_,_=>none
 |d+1,t,x,y=>
  match E.ty t with
  |none=>none
  |some ti=>
   match ti.k,x,y with
   | .struct fs,.agg xs,.agg ys=>XU E d fs xs.toList ys.toList
   | .array n e,.agg xs,.agg ys=>match E.ty e with|some te=>Y7 E d e te.size n 0 xs.toList ys.toList|none=>none
   |k,x,y=>eq1 k x y
def XU(E:Env):Nat->List (Nat×TypeId)->List Value->List Value->Option Bool
 |0,_,_,_=>none
 |_+1,[],_,_=>some true
 |d+1,(o,t)::r,xs,ys=>
  match xu E t xs o,xu E t ys o with
  |some x,some y=>match Vf E d t x y,XU E d r xs ys with|some b,some c=>some (b&&c)|_,_=>none
  |_,_=>none
def Y7(E:Env):Nat->TypeId->Nat->Nat->Nat->List Value->List Value->Option Bool
 |0,_,_,_,_,_,_=>none
 |d+1,e,size,n,i,xs,ys=>
  match n with
  |0=>some true
  |n+1=>
   match xu E e xs (i*size),xu E e ys (i*size)with
   |some x,some y=>match Vf E d e x y,Y7 E d e size n (i+1) xs ys with|some b,some c=>some (b&&c)|_,_=>none
   |_,_=>none
end
def Po(E:Env)(op:BinOp)(t:TypeId)(x y:Value)(k:Value->Prop):Prop:=
 match x,y with
 | .int ka a,.int kb b=>
  match op with
  | .shl=>vT (0≤b) (k (.int ka (ka.wrap (a*2 ^ (min b.toNat ka.bits)))))
  | .shr=>vT (0≤b) (k (.int ka (a.fdiv (2 ^ (min b.toNat ka.bits)))))
  | .quo=>if ka=kb then vT (b≠0) (k (.int ka (ka.wrap (a.tdiv b))))else False
  | .rem=>if ka=kb then vT (b≠0) (k (.int ka (a.tmod b)))else False
  |op=>match sK E op t (.int ka a) (.int kb b)with|some v=>k v|none=>False
 | .string a,.string b=>
  match op with
  | .add=>vT (a.size+b.size≤9223372036854775807) (k (.string (a++b)))
  |op=>match sK E op t (.string a) (.string b)with|some v=>k v|none=>False
 | .pointer p,.pointer none=>
  match E.ty t with
  |some ⟨.pointer _,_,_,_⟩=>
   match op with
   | .eql=>k (.bool p.isNone)
   | .neq=>k (.bool !p.isNone)
   |_=>False
  |_=>False
 | .slice p _ _,.slice none 0 0=>
  match E.ty t with
  |some ⟨.slice _,_,_,_⟩=>
   match op with
   | .eql=>k (.bool p.isNone)
   | .neq=>k (.bool !p.isNone)
   |_=>False
  |_=>False
 |x,y=>
  match op with
  | .eql=>match Vf E 100 t x y with|some b=>k (.bool b)|none=>False
  | .neq=>match Vf E 100 t x y with|some b=>k (.bool !b)|none=>False
  |_=>False
structure kL where
 E:Env
 P:Program
 tag:TypeId->Tag
 res:FuncId->List Tag
 lkp:TypeId->Option Tag
 rt:TypeId->List Tag
def kW(C:kL)(fr:fK)(c:Call)(ty:TypeId)(L:Loc)(H:Heap)(k:Sv->Loc->Heap->Prop):Prop:=
 match c.callee with
 | .value (.func g)=>match vP fr c.args.toList with
  |some vs=>CALL C.P (C.res g) g vs H fun x H'=>k (.v (gQ (encs (C.res g) x))) L H'
  |none=>False
 | .value f=>match mQ fr f,vP fr c.args.toList with
  |some f,some vs=>WU C.P (C.rt ty) f vs H fun x H'=>k (.v (gQ (encs (C.rt ty) x))) L H'
  |_,_=>False
 | .builtin .len=>match c.args.toList,c.argTypes.toList with
  |[x],[t]=>match mQ fr x,C.E.ty t with
   |some (.slice _ n _),some ⟨.slice _,_,_,_⟩=>k (.v (.int .i64 n)) L H
   |some v,some _=>dW (C.tag ty) (pU C.E t v H) fun x=>k (.v ((C.tag ty).enc x)) L H
   |_,_=>False
  |_,_=>False
 | .builtin .cap=>match c.args.toList,c.argTypes.toList with
  |[x],[t]=>match mQ fr x with
   |some v=>dW (C.tag ty) (XI C.E t v H) fun x=>k (.v ((C.tag ty).enc x)) L H
   |_=>False
  |_,_=>False
 | .builtin .append=>match c.args.toList with
  |[s,x]=>match mQ fr s,LZ fr x with
   |some s,some (.ls i n)=>match L[i]? with
    |some (_,cs)=>EW (C.tag ty) (lenV s+n) (fC C.E c.argTypes.toList s n cs H) fun x H'=>k (.v ((C.tag ty).enc x)) L H'
    |none=>False
   |some s,some (.v x)=>EW (C.tag ty) (lenV s+(oH x).getD 0) (dM C.E c.argTypes.toList s x H) fun x H'=>k (.v ((C.tag ty).enc x)) L H'
   |_,_=>False
  |_=>False
 | .builtin .copy=>match vP fr c.args.toList with
  |some [d,x]=>GEN (C.tag ty) (Oa C.E c.argTypes.toList d x H) fun x H'=>k (.v ((C.tag ty).enc x)) L H'
  |_=>False
 | .builtin .min=>match vP fr c.args.toList with|some (x::r)=>(match xX false x r with|some v=>k (.v v) L H|none=>False)|_=>False
 | .builtin .max=>match vP fr c.args.toList with|some (x::r)=>(match xX true x r with|some v=>k (.v v) L H|none=>False)|_=>False
 | .builtin .clear=>match vP fr c.args.toList with|some [x]=>abh (vH C.E c.argTypes.toList x H) fun H'=>k (.v undef) L H'|_=>False
 |_=>False
def gV(C:kL)(loc:List Nat)(dst:Option Nat)(ty:TypeId)(op:Op)(fr:fK)(L:Loc)(H:Heap)(k:Sv->Loc->Heap->Prop):Prop:=
 match op with
 | .move x| .assign x=>match LZ fr x with|some s=>k s L H|none=>False
 | .pick c a b=>match mQ fr c with
  |some (.bool g)=>aK g (match LZ fr a with|some s=>k s L H|none=>False) (match LZ fr b with|some s=>k s L H|none=>False)
  |_=>False
 | .alloc t=>match C.E.ty t with
  |some ti=>if loc.contains (dst.getD 0)then k (.lp L.length 0) (L++[(0,ti.zero)]) H else k (.v (.pointer (some ⟨H.length,0,none⟩))) L (mk H ti.zero ti.size false)
  |none=>False
 | .box _ x=>match mQ fr x with
  |some v=>if loc.contains (dst.getD 0)then k (.lp L.length 0) (L++[(0,v.cells.toList)]) H else k (.v (.pointer (some ⟨H.length,0,none⟩))) L (mk H v.cells.toList v.cells.toList.length false)
  |none=>False
 | .build t ps=>match Pn fr ps.toList with
  |some ps=>match EG C.E t ps with|some v=>k (.v v) L H|none=>False
  |none=>False
 | .buildSlice t n ps=>match Pn fr ps.toList with
  |some qs=>match eX C.E t n qs []with
   |some (_,[.row cs sz false false true])=>if loc.contains (dst.getD 0)then k (.ls L.length n) (L++[(0,cs)]) H else k (.v (.slice (some ⟨H.length,0,none⟩) n n)) L (mk H cs sz false)
   |_=>False
  |none=>False
 | .load t x=>match LZ fr x with
  |some (.lp i off)=>match L[i]?,C.E.ty t with
   |some (_,cs),some ti=>if off+ti.size≤cs.length then match gJ ti.k ((cs.drop off).take ti.size)with|some v=>k (.v v) L H|none=>False else False
   |_,_=>False
  |some (.v (.pointer (some ⟨b,off,none⟩)))=>match C.E.ty t with
   |some ti=>if ti.size=(C.tag t).n∧mO ti.k=(C.tag t).agg∧((C.tag t).agg=true∨ti.size=1)then LD (C.tag t) H b off fun x=>k (.v ((C.tag t).enc x)) L H else False
   |none=>False
  |_=>False
 | .store t x y=>match mQ fr y,C.E.ty t with
  |some v,some ti=>if v.cells.toList.length=ti.size then
   match LZ fr x with
   |some (.lp i off)=>match L[i]? with
    |some (n,cs)=>if off+ti.size≤cs.length∧v.cells.toList.all cell1=true then k (.v undef) (L.set i (n+1,patch cs off v.cells.toList)) H else False
    |none=>False
   |some (.v (.pointer (some ⟨b,off,none⟩)))=>ST H b off v.cells.toList fun H'=>k (.v undef) L H'
   |_=>False else False
  |_,_=>False
 | .nilCheck x=>match LZ fr x with
  |some (.lp i off)=>k (.lp i off) L H
  |some (.v (.pointer p))=>NIL p fun b off=>k (.v (.pointer (some ⟨b,off,none⟩))) L H
  |some (.v (.func (.func f) xs ys))=>k (.v (.func (.func f) xs ys)) L H
  |some (.v (.func (.yield l) ⟨[]⟩ ⟨[]⟩))=>k (.v (.func (.yield l) #[] #[])) L H
  |_=>False
 | .binOp op t x y _=>match mQ fr x,mQ fr y with
  |some a,some b=>Po C.E op t a b fun v=>k (.v v) L H
  |_,_=>False
 | .unOp op _ x=>match mQ fr x with
  |some a=>match aUn op a with|some v=>k (.v v) L H|none=>False
  |none=>False
 | .convert s d x=>match mQ fr x with
  |some a=>match Ob C.E s d a with|some v=>k (.v v) L H|none=>False
  |none=>False
 | .makeFunc (.func f) first caps=>match vP fr first.toList,vP fr caps.toList with
  |some xs,some ys=>k (.v (.func (.func f) xs.toArray ys.toArray)) L H
  |_,_=>False
 | .fieldAddr t x i=>match LZ fr x with
  |some (.lp j off)=>match C.E.ty t with
   |some ⟨.struct fs,_,_,_⟩=>match fs[i]? with
    |some (o,ft)=>match C.E.ty ft with
     |some te=>if te.size=0 then False else k (.lp j (off+o)) L H
     |none=>False
    |none=>False
   |_=>False
  |some (.v v)=>match mP C.E t v i with|some v=>k (.v v) L H|none=>False
  |_=>False
 | .field t x i=>match mQ fr x with
  |some v=>match EH C.E t v i with|some v=>k (.v v) L H|none=>False
  |none=>False
 | .indexAddr t x i=>match LZ fr x,mQ fr i with
  |some (.lp j off),some (.int _ n)=>match C.E.ty t with
   |some ⟨.array len e,_,_,_⟩=>match C.E.ty e with
    |some te=>if 0≤n∧n<len then k (.lp j (off+n.toNat*te.size)) L H else False
    |none=>False
   |_=>False
  |some (.v (.slice p len _)),some (.int _ n)=>match C.E.ty t with
   |some ⟨.slice e,_,_,_⟩=>match C.E.ty e with
    |some te=>dw p len n te.size fun b off=>k (.v (.pointer (some ⟨b,off,none⟩))) L H
    |none=>False
   |_=>False
  |some (.v (.pointer (some ⟨b,off,none⟩))),some (.int _ n)=>match C.E.ty t with
   |some ⟨.array len e,_,_,_⟩=>match C.E.ty e with
    |some te=>yu len n (k (.v (.pointer (some ⟨b,off+n.toNat*te.size,none⟩))) L H)
    |none=>False
   |_=>False
  |_,_=>False
 | .extract x i=>match mQ fr x with
  |some v=>match uS v i with|some v=>k (.v v) L H|none=>False
  |none=>False
 | .call c=>kW C fr c ty L H k
 | .mapUpdate t m i x=>match mQ fr m,mQ fr i,mQ fr x with
  |some m,some i,some x=>abh (kJ C.E t m i x H) fun H'=>k (.v undef) L H'
  |_,_,_=>False
 | .index t x i=>match mQ fr x,mQ fr i with
  |some x,some i=>dW (C.tag ty) (dF C.E t x i) fun x=>k (.v ((C.tag ty).enc x)) L H
  |_,_=>False
 | .slice t x lo hi mx=>match mQ fr x,xH fr lo,xH fr hi,xH fr mx with
  |some v,some lo,some hi,some mx=>dW (C.tag ty) (dS C.E t v lo hi mx H) fun x=>k (.v ((C.tag ty).enc x)) L H
  |_,_,_,_=>False
 | .makeSlice t l c=>match mQ fr l,mQ fr c with
  |some l,some c=>GEN (C.tag ty) (dR C.E t l c H) fun x H'=>k (.v ((C.tag ty).enc x)) L H'
  |_,_=>False
 | .makeMap _ none=>k (.v (.map (some H.length))) L (H++[.map [] 0])
 | .lookup t x i ok=>match mQ fr x,mQ fr i with
  |some x,some i=>if ok then(match C.lkp t with|some T=>LKP T (nU C.E t x i true H) fun y b=>k (.v (.tuple #[T.enc y,.bool b])) L H|none=>False)
    else dW (C.tag ty) (nU C.E t x i ok H) fun x=>k (.v ((C.tag ty).enc x)) L H
  |_,_=>False
 | .range t x=>match mQ fr x with
  |some v=>aeh (Bg C.E t v H) fun y H'=>k (.v y) L H'
  |none=>False
 | .next x true=>match mQ fr x with
  |some v=>NXT (xZ v H) (fun i r H'=>k (.v (.tuple #[.bool true,.int .i64 i,.int .i32 r])) L H') (fun H'=>k (.v (.tuple #[.bool false])) L H')
  |none=>False
 |_=>False
def kM(fr:fK):Option Nat->Bool
 |some d=>decide (d<fr.n)
 |none=>true
structure Jn where
 sl:List (Nat×Tag)
 lo:List (Nat×Tag)
 clr:List Nat
def vU:List (Nat×Tag)->Type
 |[]=>Unit
 |(_,T)::r=>T.α×vU r
def Jn.S(J:Jn):Type:=vU J.sl×vU J.lo
def Jl(fr:fK):(sl:List (Nat×Tag))->Option (vU sl)
 |[]=>some ()
 |(t,T)::r=>
  match aW fr.l t with
  |some (.v v)=>match T.dec v,Jl fr r with|some x,some y=>some (x,y)|_,_=>none
  |_=>none
def yw(L:Loc):(lo:List (Nat×Tag))->Option (vU lo)
 |[]=>some ()
 |(i,T)::r=>
  match L[i]? with
  |some (_,cs)=>match T.of cs,yw L r with|some x,some y=>some (x,y)|_,_=>none
  |none=>none
def ql:(sl:List (Nat×Tag))->vU sl->List (Nat×Option Sv)->List (Nat×Option Sv)
 |[],_,l=>l
 |(t,T)::r,x,l=>(t,some (.v (T.enc x.1)))::ql r x.2 l
def mJ:(lo:List (Nat×Tag))->vU lo->Loc->Loc
 |[],_,L=>L
 |(i,T)::r,x,L=>
  match L[i]? with
  |some (n,_)=>(mJ r x.2 L).set i (n+1,T.cells x.1)
  |none=>mJ r x.2 L
def Jn.fr(J:Jn)(fr:fK)(x:J.S):fK:=⟨fr.n,ql J.sl x.1 (J.clr.map (fun t=>(t,none))++fr.l)⟩
def Jn.loc(J:Jn)(L:Loc)(x:J.S):Loc:=mJ J.lo x.2 L
def RX:List (Nat×Tag)->Nat->Loc->Loc->Bool
 |_,_,[],_=>true
 |_,_,_::_,[]=>false
 |lo,i,(n,_)::r,(m,_)::r'=>(n==m||lo.any fun p=>p.1==i)&&RX lo (i+1) r r'
def Jn.ok(J:Jn)(fr fr':fK)(L L':Loc):Bool:=
 (fr'.l.take (fr'.l.length-fr.l.length)).all (fun p=>(J.sl.any fun q=>q.1==p.1)||J.clr.contains p.1)&&RX J.lo 0 L L'&&J.lo.all (fun p=>decide (p.1<L.length))
def Jm(J:Jn)(fr fr':fK)(L L':Loc)(k:J.S->Prop):Prop:=
 if J.ok fr fr' L L' then match Jl fr' J.sl,yw L' J.lo with|some a,some b=>k (a,b)|_,_=>False else False
inductive dL where
 |leaf
 |seq (a b:dL)
 |reg (j:Jn)
 |cond (j:Option Jn) (a b:dL)
 |blk (j:Option Jn) (a:dL)
 |loop (j:Jn) (a:dL)
def dL.a:dL->dL
 | .seq a _| .cond _ a _| .blk _ a| .loop _ a=>a
 |h=>h
def dL.b:dL->dL
 | .seq _ b| .cond _ _ b=>b
 |h=>h
def dL.cj:dL->Option Jn
 | .cond j _ _| .blk j _=>j
 | .reg j| .loop j _=>some j
 |_=>none
def qm:List (Nat×Option Sv)->Option (List (Nat×Option Value))
 |[]=>some []
 |(t,none)::r=>match qm r with|some q=>some ((t,none)::q)|none=>none
 |(t,some (.v v))::r=>match qm r with|some q=>some ((t,some v)::q)|none=>none
 |_=>none
def RY:(sl:List (Nat×Tag))->Tup (sl.map (·.2))->List (Nat×Option Sv)->List (Nat×Option Sv)
 |[],_,l=>l
 |(t,T)::r,x,l=>RY r x.2 ((t,some (.v (T.enc x.1)))::l)
def L9:Code->Bool
 | .seq a b| .cond _ a b=>L9 a&&L9 b
 | .block _ a| .loop a| .scope a=>L9 a
 | .rangeFunc .. =>false
 |_=>true
abbrev CK:=Ex->fK->Loc->Heap->Prop
def Y8(loc:List Nat)(o:Oper):Bool:=
 match o.op with
 | .alloc _=>loc.contains (o.dst.getD 0)
 |_=>false
def turns:Op->Bool
 | .move _| .assign _| .pick .. | .build .. | .load .. | .nilCheck _| .binOp .. | .unOp .. | .convert .. | .makeFunc .. | .slice .. | .fieldAddr .. | .field .. | .indexAddr .. | .index .. | .extract .. | .lookup .. =>false
 | .call { callee:=.builtin .len,.. }| .call { callee:=.builtin .min,.. }| .call { callee:=.builtin .max,.. }=>false
 |_=>true
def reads:Op->Bool
 | .load .. | .slice .. | .lookup .. =>true
 | .call { callee:=.builtin .len,.. }=>true
 |_=>false
def kX(ops:Array Oper)(o:Oper):List Tmp:=
 tmpsOf o.op.operands.toList++(match o.guard with|some (j,_)=>((ops[j]?).bind (·.dst)).toList|none=>[])
def aej(ops:Array Oper)(b:Array Nat)(o:Oper):Bool:=
 match o.dst with
 |some d=>ops.toList.zipIdx.any fun p=>(kX ops p.1).contains d&& !ahead b p.2 (ops.toList.findIdx fun q=>q.dst==some d)
 |none=>false
def Y9(loc:List Nat)(ops:Array Oper)(b:Array Nat)(i:Nat):Bool:=
 match ops[i]? with
 |some o=> !Y8 loc o&&(turns o.op||aej ops b o)
 |none=>false
def ada(ops:Array Oper)(b:Array Nat)(ts:List Nat):List Nat->Nat->List Nat
 |[],i=>(List.range ops.size).filter fun j=> !ts.contains j&&((ts.zipIdx.foldl (fun m p=>if ahead b j p.1 then p.2+1 else m) 0)==i)
 |t::r,i=>((List.range ops.size).filter fun j=> !ts.contains j&&((ts.zipIdx.foldl (fun m p=>if ahead b j p.1 then p.2+1 else m) 0)==i))++t::ada ops b ts r (i+1)
def WV(loc:List Nat)(ops:Array Oper)(b:Array Nat)(tau:List Nat)(t:Nat):List Nat:=
 (tau.takeWhile (· !=t)).filter fun j=>(match ops[j]? with|some o=>reads o.op|none=>false)&& !ahead b t j&& !Y9 loc ops b j
structure Step where
 i:Nat
 o:Oper
 asks:List Oper
def Dy(loc:List Nat)(ops:Array Oper)(b:Array Nat)(tau:List Nat):List Nat->Option (List Step)
 |[]=>some []
 |i::r=>
  match ops[i]?,(if Y9 loc ops b i then(WV loc ops b tau i).mapM (fun j=>ops[j]?)else some []),Dy loc ops b tau r with
  |some o,some as,some s=>some (⟨i,o,as⟩::s)
  |_,_,_=>none
def Jo:List Nat->Bool
 |[]=>true
 |x::r=> !r.contains x&&Jo r
def RZ(loc:List Nat)(ops:Array Oper)(b:Array Nat)(tau:List Nat):Bool:=
 let n:=ops.size
 let pos:=fun i=>tau.findIdx (· ==i)
 Rt ops.toList 0&&Jo tau&&tau.length==n&&(List.range n).all (fun i=>tau.contains i)
  &&(List.range n).all (fun i=>(List.range n).all fun j=> !ahead b i j||decide (pos j<pos i))
  &&(List.range n).all (fun i=>(List.range n).all fun j=> !(Y9 loc ops b j&&decide (pos j<pos i))||ahead b i j)
  &&Jo (ops.toList.filterMap (·.dst))
  &&ops.toList.zipIdx.all (fun p=>(kX ops p.1).all fun t=>ops.toList.zipIdx.all fun q=>q.1.dst !=some t||ahead b p.2 q.2||(Y9 loc ops b q.2&&(q.2==p.2||ahead b q.2 p.2)))
def Iw(loc:List Nat)(ops:Array Oper):Option (List Step):=
 let b:=Region.before ops
 let tau:=ada ops b ((List.range ops.size).filter (Y9 loc ops b)) ((List.range ops.size).filter (Y9 loc ops b)) 0
 if RZ loc ops b tau then Dy loc ops b tau tau else none
def adb(C:kL)(ops:Array Oper)(fr:fK)(L:Loc)(H:Heap)(o:Oper)(k:Prop):Prop:=
 let go:Prop:=match o.op,o.dst with
  | .load t x,some d=>match LZ fr x,aW fr.l d,C.E.ty t with
   |some (.v (.pointer (some ⟨b,off,none⟩))),some (.v v),some _=>LD (C.tag t) H b off fun x=>vT ((C.tag t).enc x=v) k
   |some (.lp i off),some (.v v),some ti=>match L[i]? with
    |some (_,cs)=>if off+ti.size≤cs.length then vT (gJ ti.k ((cs.drop off).take ti.size)=some v) k else False
    |none=>False
   |_,_,_=>False
  | .slice t x lo hi mx,some d=>match mQ fr x,xH fr lo,xH fr hi,xH fr mx,aW fr.l d with
   |some v,some lo,some hi,some mx,some (.v u)=>vT (dS C.E t v lo hi mx H=some u) k
   |_,_,_,_,_=>False
  | .lookup t x i ok,some d=>match mQ fr x,mQ fr i,aW fr.l d with
   |some x,some i,some (.v u)=>vT (nU C.E t x i ok H=some u) k
   |_,_,_=>False
  | .call ⟨.builtin .len,args,ts⟩,some _=>match args.toList,ts.toList with
   |[x],[t]=>match mQ fr x,C.E.ty t with
    |some (.slice _ _ _),some ⟨.slice _,_,_,_⟩=>k
    |_,_=>False
   |_,_=>False
  |_,_=>False
 match o.guard with
 |none=>go
 |some (j,want)=>
  match (ops[j]?).bind (·.dst)with
  |none=>k
  |some d=>match aW fr.l d with
   |some (.v (.bool g))=>if want then aK g go k else aK g k go
   |some (.v (.tuple _))=>k
   |_=>False
def Si(C:kL)(ops:Array Oper)(fr:fK)(L:Loc)(H:Heap):List Oper->Prop->Prop
 |[],k=>k
 |o::r,k=>adb C ops fr L H o (Si C ops fr L H r k)
def Ol(C:kL)(loc:List Nat)(ops:Array Oper)(o:Oper)(fr:fK)(L:Loc)(H:Heap)(K:fK->Loc->Heap->Prop):Prop:=
 if kM fr o.dst then
  match o.guard with
  |none=>gV C loc o.dst o.type o.op fr L H fun s L H=>K (fr.dU o.dst s) L H
  |some (j,want)=>
   match (ops[j]?).bind (·.dst)with
   |none=>K (fr.dU o.dst (.v undef)) L H
   |some d=>
    match aW fr.l d with
    |some (.v (.bool g))=>
     aK g
      (if want=true then gV C loc o.dst o.type o.op (fr.put d (.v (.bool true))) L H fun s L H=>K ((fr.put d (.v (.bool true))).dU o.dst s) L H
       else K ((fr.put d (.v (.bool true))).dU o.dst (.v undef)) L H)
      (if want=false then gV C loc o.dst o.type o.op (fr.put d (.v (.bool false))) L H fun s L H=>K ((fr.put d (.v (.bool false))).dU o.dst s) L H
       else K ((fr.put d (.v (.bool false))).dU o.dst (.v undef)) L H)
    |some (.v (.tuple _))=>K (fr.dU o.dst (.v undef)) L H
    |_=>False
 else False
def abj(C:kL)(loc:List Nat)(ops:Array Oper):List Oper->fK->Loc->Heap->(fK->Loc->Heap->Prop)->Prop
 |[],fr,L,H,K=>K fr L H
 |o::os,fr,L,H,K=>Ol C loc ops o fr L H fun fr L H=>abj C loc ops os fr L H K
def BG(C:kL)(loc:List Nat)(ops:Array Oper):List Step->fK->Loc->Heap->(fK->Loc->Heap->Prop)->Prop
 |[],fr,L,H,K=>K fr L H
 |s::r,fr,L,H,K=>Ol C loc ops s.o fr L H fun fr L H=>Si C ops fr L H s.asks (BG C loc ops r fr L H K)
def abk(C:kL)(loc:List Nat)(ops:Array Oper)(draw:Bool)(fr:fK)(L:Loc)(H:Heap)(K:fK->Loc->Heap->Prop):Prop:=
 if draw then(match Iw loc ops with|some s=>BG C loc ops s fr L H K|none=>False)else abj C loc ops ops.toList fr L H K
def jK(J:Jn)(fr:fK)(L:Loc)(j:J.S->Heap->Prop)(K:CK):CK:=fun e fr' L' H'=>
 match e with
 | .normal=>Jm J fr fr' L L' fun x=>j x H'
 |e=>K e fr' L' H'
def comp(C:kL)(loc:List Nat):Code->dL->fK->Loc->Heap->CK->Prop
 | .skip,_,fr,L,H,K=>K .normal fr L H
 | .label _,_,fr,L,H,K=>K .normal fr L H
 | .region _ ops draw,h,fr,L,H,K=>
  match h.cj with
  |none=>abk C loc ops draw fr L H fun fr L H=>K .normal fr L H
  |some J=>JOIN (fun j=>abk C loc ops draw fr L H fun fr' L' H'=>Jm J fr fr' L L' fun x=>j x H') fun x H'=>K .normal (J.fr fr x) (J.loc L x) H'
 | .seq a b,h,fr,L,H,K=>comp C loc a h.a fr L H fun e fr L H=>
  match e with
  | .normal=>comp C loc b h.b fr L H K
  |e=>K e fr L H
 | .cond c x y,h,fr,L,H,K=>
  match mQ fr c with
  |some (.bool g)=>
   match h.cj with
   |none=>aK g (comp C loc x h.a fr L H K) (comp C loc y h.b fr L H K)
   |some J=>JOIN (fun j=>aK g (comp C loc x h.a fr L H (jK J fr L j K)) (comp C loc y h.b fr L H (jK J fr L j K))) fun x H'=>K .normal (J.fr fr x) (J.loc L x) H'
  |_=>False
 | .block id c,h,fr,L,H,K=>
  match h.cj with
  |none=>comp C loc c h.a fr L H fun e fr L H=>
   match e with
   | .exit i=>if i=id then K .normal fr L H else K (.exit i) fr L H
   |e=>K e fr L H
  |some J=>JOIN (fun j=>comp C loc c h.a fr L H fun e fr' L' H'=>
   match e with
   | .normal=>Jm J fr fr' L L' fun x=>j x H'
   | .exit i=>if i=id then Jm J fr fr' L L' fun x=>j x H' else K (.exit i) fr' L' H'
   |e=>K e fr' L' H') fun x H'=>K .normal (J.fr fr x) (J.loc L x) H'
 | .loop c,h,fr,L,H,K=>
  match h.cj with
  |some J=>
   match Jl fr J.sl,yw L J.lo with
   |some a,some b=>LOOP (fun rec (s:J.S) H=>comp C loc c h.a (J.fr fr s) (J.loc L s) H (jK J (J.fr fr s) (J.loc L s) rec K)) (a,b) H
   |_,_=>False
  |none=>False
 | .rangeFunc g ps asg body,h,fr,L,H,K=>
  match L,mQ fr g,qm fr.l,h.cj with
  |[],some f,some _,some J=>
   if(J.sl.map (·.1)==ps.toList&&(ps.toList.all fun t=>decide (t<fr.n))&&(L9 asg&&L9 body))=true then
    RFV C.P (J.sl.map (·.2)) f H (fun lb x H1 k=>comp C loc asg .leaf ⟨fr.n,RY J.sl x fr.l⟩ [] H1 fun e fr2 L2 H2=>match e with
     | .normal=>vT (H2[H.length]? =some (lb .ready none)) (comp C loc body h.a fr2 L2 (H2.set H.length (lb .busy none)) fun e _ _ H3=>k e H3)
     |_=>False) fun e H'=>RFX (.normal::J.clr.map .exit) e fun x=>K x fr [] H'
   else False
  |_,_,_,_=>False
 | .scope c,h,fr,L,H,K=>comp C loc c h fr L H K
 | .exit id,_,fr,L,H,K=>K (.exit id) fr L H
 | .ret,_,fr,L,H,K=>K .ret fr L H
 |_,_,_,_,_,_=>False
def Sj(C:kL)(fr:fK)(L:Loc):List ResultVar->Option (List Value)
 |[]=>some []
 | .tmp t::r=>match aW fr.l t,Sj C fr L r with|some (.v v),some vs=>some (v::vs)|_,_=>none
 | .cell a t::r=>
  match aW fr.l a,C.E.ty t,Sj C fr L r with
  |some (.lp i off),some ti,some vs=>
   match L[i]? with
   |some (_,cs)=>if off+ti.size≤cs.length then match gJ ti.k ((cs.drop off).take ti.size)with|some v=>some (v::vs)|none=>none else none
   |none=>none
  |_,_,_=>none
def decs:(ts:List Tag)->List Value->Option (Tup ts)
 |[],[]=>some ()
 |t::r,v::vs=>match t.dec v,decs r vs with|some x,some y=>some (x,y)|_,_=>none
 |_,_=>none
def ade(rs:List Tag)(vs:List Value)(k:Tup rs->Prop):Prop:=match decs rs vs with|some x=>k x|none=>False
def Dz:Nat->List Value->List (Nat×Option Sv)
 |_,[]=>[]
 |i,v::r=>(i,some (.v v))::Dz (i+1) r
def Pq(ntmps:Nat)(args:List Value):fK:=⟨args.length+(ntmps-args.length),Dz 0 args⟩
def fB(C:kL)(loc:List Nat)(ntmps:Nat)(rvs:List ResultVar)(rs:List Tag)(c:Code)(h:dL)(args:List Value)(H:Heap)(Q:Tup rs->Heap->Prop):Prop:=
 comp C loc c h (Pq ntmps args) [] H fun e fr L H=>
  match e with
  | .exit _=>False
  |_=>match Sj C fr L rvs with
   |some vs=>ade rs vs fun x=>Q x H
   |none=>False
end Go.Proofs.YtijnknjopjmiiaaGreatDoor.Zq
end
section
namespace Go.Proofs.YtijnknjopjmiiaaGreatDoor.Zq
variable{P:Program}{M M' M'':Mp}{H H' H'':Heap}{w w' w'':World}
abbrev Ml:=List (Option jd)
def yx(M:Mp)(ML:Ml):Sv->Value->Prop
 | .v v,u=>VR M v u
 | .lp i off,u=>∃e,ML[i]? =some (some e)∧u= .pointer (some ⟨e.blk,e.base+off,none⟩)
 | .ls i n,u=>∃e,ML[i]? =some (some e)∧u= .slice (some ⟨e.blk,e.base,none⟩) n n
structure LR(M:Mp)(H:Heap)(L:Loc)(ML:Ml)(w:World):Prop where
 len:ML.length=L.length
 loc:∀(i:Nat) (e:jd) (n:Nat) (cs:List Value),ML[i]? =some (some e)->L[i]? =some (n,cs)->e.opn=false∧BR M e (.row cs e.sz false false true) w
 sep1:∀(i j:Nat) (e e':jd),i≠j->ML[i]? =some (some e)->ML[j]? =some (some e')->e.blk≠e'.blk
 sep2:∀(i:Nat) (e:jd),ML[i]? =some (some e)->∀(b:Nat) (e':jd),M[b]? =some (some e')->bQ H b->e'.blk≠e.blk
structure FS(M:Mp)(ML:Ml)(fr:fK)(tmps:Array Value):Prop where
 size:tmps.size=fr.n
 get:∀t s,aW fr.l t=some s->yx M ML s (tmps.getD t undef)
structure GY(M:Mp)(H:Heap)(ML:Ml)(w:World)(M':Mp)(H':Heap)(w':World):Prop where
 ext:Ext M M'
 hr:HR M' H' w'
 os:w'.os=w.os
 output:w'.output=w.output
 tape:w'.tape=w.tape
 size:w.heap.size≤w'.heap.size
 dr:w.drawn≤w'.drawn
 frame:∀c:Nat,c<w.heap.size->(∀(b:Nat) (e:jd),M[b]? =some (some e)->aZ H b->e.blk≠c)->(∀(i:Nat) (e:jd),ML[i]? =some (some e)->e.blk≠c)->w'.heap[c]? =w.heap[c]?
 wm:∀(b:Nat) (e:jd),M'[b]? =some (some e)->aZ H' b->e.blk<w.heap.size->∃(b0:Nat) (e0:jd),M[b0]? =some (some e0)∧aZ H b0∧e0.blk=e.blk
 keep:∀b:Nat,M[b]? =some none->M'[b]? =some none∧H'[b]? =H[b]?
 lm:∀(b:Nat) (e:jd),M'[b]? =some (some e)->bQ H' b->e.blk<w.heap.size->∃(b0:Nat) (e0:jd),M[b0]? =some (some e0)∧bQ H b0∧e0.blk=e.blk
def MLx(ML ML':Ml)(w:World):Prop:=∀(i:Nat) (e:jd),ML'[i]? =some (some e)->(∃j:Nat,ML[j]? =some (some e))∨w.heap.size≤e.blk
theorem MLx.refl(ML:Ml)(w:World):MLx ML ML w:=fun i _ h=>.inl ⟨i,h⟩
theorem MLx.trans{ML ML' ML'':Ml}(h:MLx ML ML' w)(hs:w.heap.size≤w'.heap.size)(k:MLx ML' ML'' w'):MLx ML ML'' w:=fun i e he=>by
 rcases k i e he with⟨j,hj⟩|hj
 ·exact h j e hj
 ·exact .inr (by omega)
theorem Stp.toL(h:Stp M H w M' H' w')(ML:Ml):GY M H ML w M' H' w':=
 ⟨h.ext,h.hr,h.os,h.output,h.tape,h.size,h.dr,fun c hc hn _=>h.frame c hc hn,h.wm,h.keep,h.lm⟩
theorem GY.refl(h:HR M H w)(ML:Ml):GY M H ML w M H w:=(Stp.refl h).toL ML
theorem GY.acT{ML:Ml}(h:GY M H ML w M' H' w')(hn:∀(i:Nat) (e:jd),ML[i]? =some (some e)->False):Stp M H w M' H' w':=
 ⟨h.ext,h.hr,h.os,h.output,h.tape,h.size,h.dr,fun c hc h1=>h.frame c hc h1 fun i e he=>(hn i e he).elim,h.wm,h.keep,h.lm⟩
theorem GY.trans{ML ML':Ml}(h:GY M H ML w M' H' w')(x:MLx ML ML' w)(k:GY M' H' ML' w' M'' H'' w''):GY M H ML w M'' H'' w'' where
 ext:=h.ext.trans k.ext
 hr:=k.hr
 os:=k.os.trans h.os
 output:=k.output.trans h.output
 tape:=k.tape.trans h.tape
 size:=Nat.le_trans h.size k.size
 dr:=Nat.le_trans h.dr k.dr
 frame c hc hn hl:=by
  rw[k.frame c (Nat.lt_of_lt_of_le hc h.size) ?_ ?_,h.frame c hc hn hl]
  ·intro b e hb hw he
   obtain⟨b0,e0,h0,w0,q⟩:=h.wm b e hb hw (by omega)
   exact hn b0 e0 h0 w0 (q.trans he)
  ·intro i e hi he
   rcases x i e hi with⟨j,hj⟩|hj
   ·exact hl j e hj he
   ·omega
 wm b e hb hw hlt:=by
  obtain⟨b1,e1,h1,w1,q1⟩:=k.wm b e hb hw (Nat.lt_of_lt_of_le hlt h.size)
  obtain⟨b0,e0,h0,w0,q0⟩:=h.wm b1 e1 h1 w1 (by omega)
  exact⟨b0,e0,h0,w0,q0.trans q1⟩
 keep b hb:=by
  obtain⟨h1,h2⟩:=h.keep b hb
  obtain⟨k1,k2⟩:=k.keep b h1
  exact⟨k1,k2.trans h2⟩
 lm b e hb hw hlt:=by
  obtain⟨b1,e1,h1,w1,q1⟩:=k.lm b e hb hw (Nat.lt_of_lt_of_le hlt h.size)
  obtain⟨b0,e0,h0,w0,q0⟩:=h.lm b1 e1 h1 w1 (by omega)
  exact⟨b0,e0,h0,w0,q0.trans q1⟩
structure Sm(M:Mp)(H:Heap)(ML:Ml)(w:World)(M':Mp)(H':Heap)(ML':Ml)(w':World):Prop where
 st:GY M H ML w M' H' w'
 mx:MLx ML ML' w
theorem Sm.refl(h:HR M H w)(ML:Ml):Sm M H ML w M H ML w:=⟨.refl h ML,.refl ML w⟩
theorem Sm.trans{ML ML' ML'':Ml}(h:Sm M H ML w M' H' ML' w')(k:Sm M' H' ML' w' M'' H'' ML'' w''):Sm M H ML w M'' H'' ML'' w'':=
 ⟨h.st.trans h.mx k.st,h.mx.trans h.st.size k.mx⟩
theorem Stp.WW(h:Stp M H w M' H' w')(ML:Ml):Sm M H ML w M' H' ML w':=⟨h.toL ML,.refl ML w⟩
theorem Za{e:jd}{cs:List Value}{sz:Nat}{o r:Bool}(h:BR M e (.row cs sz o r true) w):e.blk<w.heap.size:=by
 obtain⟨_,_,_,h4⟩:=h
 obtain⟨c,t,fz,a,_⟩:=h4 rfl
 exact(Array.getElem?_eq_some_iff.1 a).1
theorem LR.lt{L:Loc}{ML:Ml}(l:LR M H L ML w){i:Nat}{e:jd}(hi:ML[i]? =some (some e)):e.blk<w.heap.size:=by
 have h1:i<ML.length:=(List.getElem?_eq_some_iff.1 hi).1
 rw[l.len]at h1
 exact Za (l.loc i e (L[i]).1 (L[i]).2 hi (by rw[List.getElem?_eq_getElem h1])).2
theorem LR.step{L:Loc}{ML:Ml}(l:LR M H L ML w)(s:Stp M H w M' H' w'):LR M' H' L ML w':=by
 refine⟨l.len,fun i e n cs hi hL=> ?_,l.sep1,fun i e hi b e' hb hl he=> ?_⟩
 ·obtain⟨q1,q2⟩:=l.loc i e n cs hi hL
  refine⟨q1,(q2.mono s.ext).same fun _=>s.frame e.blk (Za q2) fun b e' hb hw=>l.sep2 i e hi b e' hb hw.live⟩
 ·have:=l.lt hi
  obtain⟨b0,e0,h0,w0,q⟩:=s.lm b e' hb hl (by omega)
  exact l.sep2 i e hi b0 e0 h0 w0 (q.trans he)
theorem yx.mono{ML:Ml}{s:Sv}{u:Value}(h:yx M ML s u)(x:Ext M M'):yx M' ML s u:=by
 cases s with
 |v v=>exact VR.mono x h
 |lp i off=>exact h
 |ls i n=>exact h
theorem FS.step{ML:Ml}{fr:fK}{tmps:Array Value}(f:FS M ML fr tmps)(x:Ext M M'):FS M' ML fr tmps:=⟨f.size,fun t s h=>(f.get t s h).mono x⟩
theorem yx.app{ML N:Ml}{s:Sv}{u:Value}(h:yx M ML s u):yx M (ML++N) s u:=by
 cases s with
 |v v=>exact h
 |lp i off=>
  obtain⟨e,h1,h2⟩:=h
  have:=(List.getElem?_eq_some_iff.1 h1).1
  exact⟨e,by rw[List.getElem?_append_left this]; exact h1,h2⟩
 |ls i n=>
  obtain⟨e,h1,h2⟩:=h
  have:=(List.getElem?_eq_some_iff.1 h1).1
  exact⟨e,by rw[List.getElem?_append_left this]; exact h1,h2⟩
theorem FS.app{ML N:Ml}{fr:fK}{tmps:Array Value}(f:FS M ML fr tmps):FS M (ML++N) fr tmps:=⟨f.size,fun t s h=>(f.get t s h).app⟩
theorem FS.put{ML:Ml}{fr:fK}{tmps:Array Value}(f:FS M ML fr tmps){d:Nat}(hd:d<fr.n){s:Sv}{u:Value}(hs:yx M ML s u):FS M ML (fr.put d s) (tmps.setIfInBounds d u):=by
 refine⟨by simpa[fK.put]using f.size,fun t s' h=> ?_⟩
 simp only[fK.put,aW]at h
 split at h
 ·rename_i e
  subst e
  simp at h; subst h
  have:d<tmps.size:=by rw[f.size]; exact hd
  simpa[Array.getD,this]using hs
 ·rename_i e
  have:=f.get t s' h
  simpa only[Array.getD_eq_getD_getElem?,Array.getElem?_setIfInBounds,if_neg e]using this
theorem FS.again{ML:Ml}{fr:fK}{tmps:Array Value}(f:FS M ML fr tmps){d:Nat}{s:Sv}(hs:yx M ML s (tmps.getD d undef)):FS M ML (fr.put d s) tmps:=by
 refine⟨by simpa[fK.put]using f.size,fun t s' h=> ?_⟩
 simp only[fK.put,aW]at h
 split at h
 ·rename_i e
  subst e
  simp at h; subst h
  exact hs
 ·exact f.get t s' h
theorem FS.dU{ML:Ml}{fr:fK}{a:Act}(f:FS M ML fr a.tmps){d:Option Nat}(hd:kM fr d=true){s:Sv}{u:Value}(hs:yx M ML s u):FS M ML (fr.dU d s) (a.put d u).tmps:=by
 cases d with
 |none=>exact f
 |some d=>exact f.put (by simpa[kM]using hd) hs
theorem LR.new{L:Loc}{ML:Ml}(h:HR M H w)(l:LR M H L ML w){cs:List Value}{c:Array Value}(t:TypeId)(sz:Nat)(hn:cs.length≤c.size)(hv:VL M cs (c.toList.take cs.length)):
  Sm M H ML w M H (ML++[some ⟨w.heap.size,0,false,cs.length,sz,c.size⟩]) (w.alloc (.cells c t (0,0)))∧
  LR M H (L++[(0,cs)]) (ML++[some ⟨w.heap.size,0,false,cs.length,sz,c.size⟩]) (w.alloc (.cells c t (0,0))):=by
 have hs:=Stp.hidden h (.cells c t (0,0))
 have l':=l.step hs
 have hnew:∀(i:Nat) (e:jd),(ML++[some (⟨w.heap.size,0,false,cs.length,sz,c.size⟩:jd)])[i]? =some (some e)->(ML[i]? =some (some e)∧i<ML.length)∨(i=ML.length∧e=⟨w.heap.size,0,false,cs.length,sz,c.size⟩):=by
  intro i e hi
  by_cases hl:i<ML.length
  ·rw[List.getElem?_append_left hl]at hi; exact .inl ⟨hi,hl⟩
  ·rw[List.getElem?_append_right (by omega)]at hi
   by_cases e0:i=ML.length
   ·subst e0; simp at hi; exact .inr ⟨rfl,hi.symm⟩
   ·cases hq:i-ML.length with
    |zero=>omega
    |succ q=>rw[hq]at hi; simp at hi
 have hw:(w.alloc (.cells c t (0,0))).heap[w.heap.size]? =some (.cells c t (0,0)):=by
  show(w.heap.push _)[w.heap.size]? =_
  rw[Array.getElem?_push,if_pos rfl]
 refine⟨⟨hs.toL ML,fun i e hi=> ?_⟩,by simp[l.len],fun i e n cs' hi hL=> ?_,fun i j e e' hne hi hj=> ?_,fun i e hi b e' hb hl=> ?_⟩
 ·rcases hnew i e hi with⟨h1,_⟩|⟨_,rfl⟩
  ·exact .inl ⟨i,h1⟩
  ·exact .inr (Nat.le_refl _)
 ·rcases hnew i e hi with⟨h1,h2⟩|⟨rfl,rfl⟩
  ·rw[List.getElem?_append_left (by rw[←l.len]; exact h2)]at hL
   exact l'.loc i e n cs' h1 hL
  ·rw[l.len,List.getElem?_append_right (Nat.le_refl _)]at hL
   simp at hL; obtain⟨_,rfl⟩:=hL
   exact⟨rfl,rfl,rfl,rfl,fun _=>⟨c,t,(0,0),hw,rfl,by simpa using hn,by simpa using hv,fun _=>rfl⟩⟩
 ·rcases hnew i e hi with⟨h1,h2⟩|⟨q1,q2⟩<;>rcases hnew j e' hj with⟨h3,h4⟩|⟨q3,q4⟩
  ·exact l.sep1 i j e e' hne h1 h3
  ·have:=l.lt h1; rw[q4]; simp; omega
  ·have:=l.lt h3; rw[q2]; simp; omega
  ·exact absurd (q1.trans q3.symm) hne
 ·rcases hnew i e hi with⟨h1,h2⟩|⟨_,rfl⟩
  ·exact l.sep2 i e h1 b e' hb hl
  ·have:=h.lC hb hl
   show e'.blk≠w.heap.size; omega
theorem Om{E:Env}(hE:E.Ok P){t:TypeId}{ti:TI}(ht:E.ty t=some ti):
  ∃c:Array Value,(Instr.alloc t true (.tuple #[])).run P w= .ok (.pointer (some ⟨w.heap.size,0,none⟩)) (w.alloc (.cells c t (0,0)))∧ti.zero.length≤c.size∧VL M ti.zero (c.toList.take ti.zero.length):=by
 obtain⟨i,d,z,T⟩:=hE.ty t ti ht
 have hz:ti.zero.length=z.cells.size:=by rw[←T.cells]; simp
 refine⟨z.cells,by simp[Instr.alloc,T.lD,qg],Nat.le_of_eq hz,?_⟩
 rw[hz,List.take_of_length_le (by simp)]; exact T.vl M
theorem abl{t:TypeId}{x x':Value}(hx:VR M x x'):
  (Instr.box t x').run P w= .ok (.pointer (some ⟨w.heap.size,0,none⟩)) (w.alloc (.cells x'.cells t (0,0)))∧x.cells.toList.length≤x'.cells.size∧VL M x.cells.toList (x'.cells.toList.take x.cells.toList.length):=by
 have hc:=hx.cells
 have:=hc.1
 refine⟨by simp[Instr.box,qg],by simp at this; simp; omega,?_⟩
 rw[List.take_of_length_le (by simp at this; simp; omega)]; exact hc
theorem Jp{E:Env}(hE:E.Ok P){t:TypeId}{n:Nat}{ps:List (Nat×Value)}{qs:Array (Nat×Value)}{v:Value}(hp:PL M ps qs.toList)(hl:eX E t n ps H=some (v,H')):
  ∃cs sz c ty,v= .slice (some ⟨H.length,0,none⟩) n n∧H'=mk H cs sz false∧(Instr.buildSlice t n qs).run P w= .ok (.slice (some ⟨w.heap.size,0,none⟩) n n) (w.alloc (.cells c ty (0,0)))∧
   cs.length≤c.size∧VL M cs (c.toList.take cs.length):=by
 unfold eX at hl
 obtain⟨ti,ht,hl⟩:=aj hl
 obtain⟨i,d,z,T⟩:=hE.ty _ _ ht
 have hk:=T.k
 split at hl
 ·rename_i e he
  rw[he]at hk
  obtain⟨te,hte,hl⟩:=aj hl
  obtain⟨i2,d2,z2,T2⟩:=hE.ty _ _ hte
  split at hl
  ·rename_i hb
   obtain⟨cs,hf,hl⟩:=aj hl
   simp at hl; obtain⟨rfl,rfl⟩:=hl
   cases d with
   |slice e'=>
    have hk:e=e':=hk
    subst hk
    have hv:=yh (M:=M) T2 n
    obtain⟨r',h1,h2⟩:=Ir (place':=fun i=>some (i*te.size,te.size)) (us:=madeCells z2.cells (n*te.size)) (M:=M) (fun _ _ hx=>hx) hp hv hf
    refine⟨cs,te.size,r',e,rfl,rfl,?_,Nat.le_of_eq (by have:=h2.1; simpa using this),?_⟩
    ·have hb':¬n*te.size>2 ^ 24:=by omega
     by_cases h0:n*te.size=0
     ·have hm:madeCells z2.cells (n*te.size)= #[]:=by simp[madeCells,h0,Array.range_zero']
      rw[hm]at h1
      have hq:(Array.map (fun x=>(#[]:Array Value)[x%(#[]:Array Value).size]!) (Array.range (n*te.size)))= #[]:=by simp[h0,Array.range_zero']
      simp only[h0]at hq
      simp only[Instr.buildSlice,Sem.run_bind,T.bD,Result.andThen_ok,T2.bK,h0]
      rw[if_neg (by decide)]
      simp only[Sem.run_bind,Sem.run_pure,Result.andThen_ok,if_true,hq,h1,newRow,run_newObj]
      rfl
     ·simp only[Instr.buildSlice,Sem.run_bind,T.bD,Result.andThen_ok,T2.bK,hb',if_false,Sem.run_pure,h0,T2.lD]
      unfold madeCells at h1
      simp only[h1,newRow,Sem.run_bind,run_newObj,Result.andThen_ok,Sem.run_pure]
      rfl
    ·rw[List.take_of_length_le (by have:=h2.1; simp at this ⊢; omega)]
     exact h2
   |_=>exact hk.elim
  ·simp at hl
 ·simp at hl
theorem EX{L:Loc}{ML:Ml}(l:LR M H L ML w){i n:Nat}{e:jd}{cs:List Value}(hi:ML[i]? =some (some e))(hL:L[i]? =some (n,cs)):
  ∃c t,w.heap[e.blk]? =some (.cells c t (0,0))∧c.size=e.csz∧e.base+cs.length≤c.size∧VL M cs ((c.toList.drop e.base).take cs.length):=by
 obtain⟨_,_,_,_,h4⟩:=l.loc i e n cs hi hL
 obtain⟨c,t,fz,a,b,d,f,g⟩:=h4 rfl
 have:=g rfl; subst this
 exact⟨c,t,a,b,d,f⟩
theorem Jq{E:Env}(hE:E.Ok P){L:Loc}{ML:Ml}(l:LR M H L ML w){i n off:Nat}{e:jd}{cs:List Value}{t:TypeId}{ti:TI}{v:Value}(hi:ML[i]? =some (some e))(hL:L[i]? =some (n,cs))
  (ht:E.ty t=some ti) (ho:off+ti.size≤cs.length) (hv:gJ ti.k ((cs.drop off).take ti.size)=some v):
  ∃u,(loadVar t ⟨e.blk,e.base+off,none⟩).run P w= .ok u w∧VR M v u:=by
 obtain⟨ii,d,z,T⟩:=hE.ty t ti ht
 obtain⟨c,ty,hw,_,hb,hvl⟩:=EX l hi hL
 have hus:=(hvl.drop off).take ti.size
 obtain⟨u,g1,g2,g3⟩:=vK hus hv
 have hl:(((c.toList.drop e.base).take cs.length).drop off |>.take ti.size).length=ti.size:=by simp; omega
 have hget:∀(j:Nat) (u:Value),(((c.toList.drop e.base).take cs.length).drop off |>.take ti.size)[j]? =some u->w.cell? ⟨e.blk,e.base+off+j,none⟩=some u:=by
  intro j v hv
  simp only[List.getElem?_take,List.getElem?_drop]at hv
  split at hv
  ·split at hv
   ·simp only[World.cell?,hw]
    simp only[Array.getElem?_toList]at hv
    simpa[Nat.add_assoc]using hv
   ·simp at hv
  ·simp at hv
 refine⟨u,?_,g1⟩
 simp only[loadVar,Sem.run_bind,T.EK,Result.andThen_ok]
 cases hk:mO ti.k with
 |true=>
  have:=run_loadCells_list (P:=P) w ⟨e.blk,e.base+off,none⟩ (((c.toList.drop e.base).take cs.length).drop off |>.take ti.size) (fun j v hv=>by rw[gU]; exact hget j v hv)
  rw[hl]at this
  simp[T.bK,this,g2 hk]
 |false=>
  have hu:=g3 hk
  have hc:=hget 0 u (by rw[hu]; rfl)
  simp only[Nat.add_zero]at hc
  simp[hc]
theorem Sr{E:Env}(hE:E.Ok P){L:Loc}{ML:Ml}(h:HR M H w)(l:LR M H L ML w){i n off:Nat}{e:jd}{cs:List Value}{t:TypeId}{ti:TI}{v v':Value}(hi:ML[i]? =some (some e))(hL:L[i]? =some (n,cs))
  (ht:E.ty t=some ti) (hlen:v.cells.toList.length=ti.size) (ho:off+ti.size≤cs.length) (hc1:v.cells.toList.all cell1=true) (hv:VR M v v'):
  ∃w',(Instr.storeAt t (.pointer (some ⟨e.blk,e.base+off,none⟩)) v').run P w= .ok () w'∧Sm M H ML w M H ML w'∧LR M H (L.set i (n+1,patch cs off v.cells.toList)) ML w':=by
 obtain⟨ii,d,z,T⟩:=hE.ty t ti ht
 obtain⟨c,ty,hw,hsz,hb,hvl⟩:=EX l hi hL
 have hvc:=hv.cells
 generalize hus:v'.cells.toList=us at hvc
 have hul:us.length=ti.size:=by rw[←hvc.1]; exact hlen
 have hone:∀u∈us,u.oneCell'=true:=by
  intro u hu
  obtain⟨j,hj⟩:=List.mem_iff_getElem?.1 hu
  have hjl:j<v.cells.toList.length:=by rw[hvc.1]; exact(List.getElem?_eq_some_iff.1 hj).1
  have hx:v.cells.toList[j]? =some v.cells.toList[j]:=List.getElem?_eq_getElem hjl
  rw[←(hvc.2 j _ _ hx hj).cell1]
  exact List.all_eq_true.1 hc1 _ (List.mem_of_getElem? hx)
 have hst:=run_storeCells_at P e.blk (e.base+off) ty us 0 c w hw (by omega) hone
 have hblt:e.blk<w.heap.size:=(Array.getElem?_eq_some_iff.1 hw).1
 generalize hW:w.setRow e.blk (c.toList.take (e.base+off+0)++us++c.toList.drop (e.base+off+0+us.length)).toArray=W at hst
 have hWe:W.heap[e.blk]? =some (.cells (c.toList.take (e.base+off)++us++c.toList.drop (e.base+off+us.length)).toArray ty (0,0)):=by
  rw[←hW]; simpa using setRow_heap w e.blk c _ ty (0,0) hw
 have hWo:∀k,k≠e.blk->W.heap[k]? =w.heap[k]? :=by
  intro k hne
  rw[←hW]; unfold World.setRow; simp only[Array.getElem?_modify]; rw[if_neg (Ne.symm hne)]
 have hWs:W.heap.size=w.heap.size:=by rw[←hW]; simp[World.setRow]
 have hWos:W.os=w.os:=by rw[←hW]; rfl
 have hWout:W.output=w.output:=by rw[←hW]; rfl
 have hWt:W.tape=w.tape:=by rw[←hW]; rfl
 have hWd:w.drawn≤W.drawn:=by rw[←hW]; exact Nat.le_refl _
 have hr':HR M H W:=⟨h.len,fun b e' k hb hk=>(h.blk b e' k hb hk).same fun hlv=>hWo _ (l.sep2 i e hi b e' hb (by unfold bQ; rw[hk]; cases k<;>first|exact hlv|trivial)),h.sep⟩
 refine⟨W,?_,⟨⟨.refl M,hr',hWos,hWout,hWt,by omega,hWd,fun k hk h1 h2=>hWo k fun e0=>h2 i e hi e0.symm,fun b e' hb hw' _=>⟨b,e',hb,hw',rfl⟩,fun b hb=>⟨hb,rfl⟩,fun b e' hb hl _=>⟨b,e',hb,hl,rfl⟩⟩,.refl ML w⟩,
  by simp[l.len],fun j ej m cs' hj hLj=> ?_,l.sep1,l.sep2⟩
 ·have hcs:v'.cells.size=ti.size:=by rw[←hul,←hus]; simp
  simp only[Instr.storeAt,Instr.sureAddr,storeVar,Sem.run_bind,Sem.run_pure,Result.andThen_ok,T.bK,hcs]
  simp[hus,hst]
 ·by_cases hji:j=i
  ·subst hji
   have hlt:j<L.length:=(List.getElem?_eq_some_iff.1 hL).1
   rw[List.getElem?_set_self hlt]at hLj
   simp at hLj; obtain⟨_,rfl⟩:=hLj
   rw[hi]at hj; simp at hj; subst hj
   obtain⟨q1,q2,q3,q4,_⟩:=l.loc j e n cs hi hL
   have hpl:(patch cs off v.cells.toList).length=cs.length:=by unfold patch; simp at hlen ⊢; omega
   refine⟨q1,q2,by rw[hpl]; exact q3,q4,fun _=>⟨_,ty,(0,0),hWe,by simp; omega,by rw[hpl]; simp; omega,?_,fun _=>rfl⟩⟩
   rw[hpl]
   have e2:=xA c.toList us e.base off cs.length (by omega) (by simpa using hb)
   have e3:(c.toList.take (e.base+off)++us++c.toList.drop (e.base+off+us.length)).toArray.toList=(c.toList.take (e.base+off)++us++c.toList.drop (e.base+off+us.length)):=rfl
   rw[e3,e2]
   exact hvl.patch hvc off
  ·rw[List.getElem?_set_ne (Ne.symm hji)]at hLj
   obtain⟨q1,q2⟩:=l.loc j ej m cs' hj hLj
   exact⟨q1,q2.same fun _=>hWo _ (l.sep1 j i ej e hji hj hi)⟩
end Go.Proofs.YtijnknjopjmiiaaGreatDoor.Zq
end
section
namespace Go.Proofs.YtijnknjopjmiiaaGreatDoor.Zq
variable{C:kL}{M M':Mp}{H H':Heap}{w w':World}{L:Loc}{ML:Ml}{fr:fK}{a:Act}{ro:Option Nat}{n:Nat}{Q:Exit->Act->World->Prop}{Kw:Act->World->Prop}{loc:List Nat}
def yA(L L':Loc):Prop:=L.length≤L'.length∧∀(i n:Nat) (cs:List Value) (m:Nat) (cs':List Value),L[i]? =some (n,cs)->L'[i]? =some (m,cs')->n≤m∧(m=n->cs'=cs)
theorem yA.refl(L:Loc):yA L L:=⟨Nat.le_refl _,fun i n cs m cs' h h'=>by rw[h]at h'; simp at h'; exact⟨by omega,fun _=>h'.2.symm⟩⟩
theorem yA.trans{L L' L'':Loc}(h:yA L L')(k:yA L' L''):yA L L'':=by
 refine⟨Nat.le_trans h.1 k.1,fun i n cs m cs' h1 h2=> ?_⟩
 have hi:i<L'.length:=Nat.lt_of_lt_of_le (List.getElem?_eq_some_iff.1 h1).1 h.1
 obtain⟨a1,a2⟩:=h.2 i n cs (L'[i]).1 (L'[i]).2 h1 (by rw[List.getElem?_eq_getElem hi])
 obtain⟨b1,b2⟩:=k.2 i (L'[i]).1 (L'[i]).2 m cs' (by rw[List.getElem?_eq_getElem hi]) h2
 exact⟨by omega,fun e=>by rw[b2 (by omega),a2 (by omega)]⟩
theorem yA.app(L N:Loc):yA L (L++N):=⟨by simp,fun i n cs m cs' h h'=>by
 have hi:=(List.getElem?_eq_some_iff.1 h).1
 rw[List.getElem?_append_left hi,h]at h'; simp at h'; exact⟨by omega,fun _=>h'.2.symm⟩⟩
theorem yA.set{i n:Nat}{cs cs':List Value}(h:L[i]? =some (n,cs)):yA L (L.set i (n+1,cs')):=⟨by simp,fun j p ds q ds' h1 h2=>by
 by_cases e:j=i
 ·subst e
  have hi:=(List.getElem?_eq_some_iff.1 h1).1
  rw[List.getElem?_set_self hi]at h2
  rw[h]at h1; simp at h1 h2
  exact⟨by omega,fun e=>by omega⟩
 ·rw[List.getElem?_set_ne (Ne.symm e),h1]at h2; simp at h2; exact⟨by omega,fun _=>h2.2.symm⟩⟩
def Aft(M:Mp)(H:Heap)(L:Loc)(ML:Ml)(w:World)(fr:fK)(a:Act)(M':Mp)(H':Heap)(L':Loc)(ML':Ml)(w':World):Prop:=
 Sm M H ML w M' H' ML' w'∧LR M' H' L' ML' w'∧FS M' ML' fr a.tmps∧yA L L'∧(∃N,ML'=ML++N)∧∀j:Nat,ML[j]? =some none->L'[j]? =L[j]?
theorem iZ{P:Program}{o:Oper}{s:Sem Value}{u:Value}(hd:∀c,o.op≠ .defer c)(hs:execOp a.eval o=(do pure (.value (←s))))(hr:s.run P w= .ok u w')(hK:Kw (a.put o.dst u) w'):o.wpIn (Fw ro) n P a w Kw Q:=by
 refine⟨fun _ _=>trivial,?_⟩
 rw[Oper.semAt_eq _ _ _ hd,hs]
 simp only[Sem.run_bind,hr,Result.andThen_ok,Sem.run_pure]
 exact hK
theorem eU{x:Operand}{s:Sv}(f:FS M ML fr a.tmps)(hx:LZ fr x=some s):yx M ML s (a.eval x):=by
 cases x with
 |tmp t=>exact f.get t s hx
 |const u=>
  simp only[LZ]at hx
  split at hx
  ·rename_i hf; simp at hx; subst hx; exact VR.flat hf
  ·simp at hx
 |global g=>simp[LZ]at hx
 |func g=>
  simp[LZ]at hx; subst hx
  exact .func rfl rfl (fun i x u h _=>by simp at h) (fun i x u h _=>by simp at h)
theorem Zb{x:Operand}{v:Value}(h:mQ fr x=some v):LZ fr x=some (.v v):=by
 unfold mQ at h
 split at h
 ·rename_i u hu; simp at h; subst h; exact hu
 ·simp at h
theorem dQ{x:Operand}{v:Value}(f:FS M ML fr a.tmps)(hx:mQ fr x=some v):VR M v (a.eval x):=eU f (Zb hx)
theorem vV(f:FS M ML fr a.tmps):∀{l:List Operand} {vs:List Value},vP fr l=some vs->VL M vs (l.map a.eval)
 |[],vs,hv=>by simp[vP]at hv; subst hv; exact .nil M
 |x::l,vs,hv=>by
  simp only[vP]at hv
  split at hv
  ·rename_i v us h1 h2
   simp at hv; subst hv
   exact .cons (dQ f h1) (vV f h2)
  ·simp at hv
theorem Vg(f:FS M ML fr a.tmps):∀{l:List (Nat×Operand)} {ps:List (Nat×Value)},Pn fr l=some ps->PL M ps (l.map fun(i,x)=>(i,a.eval x))
 |[],ps,hv=>by simp[Pn]at hv; subst hv; exact .nil
 |(i,x)::l,ps,hv=>by
  simp only[Pn]at hv
  split at hv
  ·rename_i v us h1 h2
   simp at hv; subst hv
   exact .cons ⟨rfl,dQ f h1⟩ (Vg f h2)
  ·simp at hv
theorem Vh(f:FS M ML fr a.tmps){x:Option Operand}{v:Option Value}(hv:xH fr x=some v):OV M v (x.map a.eval):=by
 cases x with
 |none=>simp[xH]at hv; subst hv; exact .none
 |some x=>
  simp only[xH]at hv
  split at hv
  ·rename_i u h1
   simp at hv; subst hv
   exact .some (dQ f h1)
  ·simp at hv
theorem Vj(E:Env):∀d,(∀t x y b,Vf E d t x y=some b->L8 E d t x y=some b)∧(∀fs xs ys b,XU E d fs xs ys=some b->eqFields E d fs xs ys=some b)∧
  (∀e size n i xs ys b,Y7 E d e size n i xs ys=some b->rO E d e size n i xs ys=some b)
 |0=>⟨fun t x y b h=>by simp[Vf]at h,fun fs xs ys b h=>by simp[XU]at h,fun e size n i xs ys b h=>by simp[Y7]at h⟩
 |d+1=>by
  obtain⟨ih1,ih2,ih3⟩:=Vj E d
  refine⟨fun t x y b h=> ?_,fun fs xs ys b h=> ?_,fun e size n i xs ys b h=> ?_⟩
  ·unfold Vf at h; unfold L8
   split at h
   ·simp at h
   ·rename_i ti ht
    rw[ht]
    simp only[Option.bind_some]
    split at h
    ·rename_i fs xs ys hk; simp only[hk]; exact ih2 _ _ _ _ h
    ·rename_i n e xs ys hk
     simp only[hk]
     split at h
     ·rename_i te hte; rw[hte]; exact ih3 _ _ _ _ _ _ _ h
     ·simp at h
    ·rename_i h1 h2
     split
     ·rename_i fs xs ys hk; exact absurd hk (h1 _ _ _ · rfl rfl)
     ·rename_i n e xs ys hk; exact absurd hk (h2 _ _ _ _ · rfl rfl)
     ·exact h
  ·cases fs with
   |nil=>simp[XU]at h; subst h; simp[eqFields]
   |cons f r=>
    obtain⟨o,t⟩:=f
    simp only[XU]at h
    simp only[eqFields]
    split at h
    ·rename_i x y hx hy
     rw[hx,hy]
     simp only[Option.bind_some]
     split at h
     ·rename_i b1 c1 h1 h2
      simp at h; subst h
      rw[ih1 _ _ _ _ h1]
      simp only[Option.bind_some]
      cases b1 with
      |true=>simpa using ih2 _ _ _ _ h2
      |false=>simp
     ·simp at h
    ·simp at h
  ·simp only[Y7]at h
   simp only[rO]
   split at h
   ·simp at h; subst h; rfl
   ·rename_i m
    split at h
    ·rename_i x y hx hy
     rw[hx,hy]
     simp only[Option.bind_some]
     split at h
     ·rename_i b1 c1 h1 h2
      simp at h; subst h
      rw[ih1 _ _ _ _ h1]
      simp only[Option.bind_some]
      cases b1 with
      |true=>simpa using ih3 _ _ _ _ _ _ _ h2
      |false=>simp
     ·simp at h
    ·simp at h
theorem Zc{E:Env}{t:TypeId}{x y:Value}(q1:∀(ka:IntKind) (a:Int) (kb:IntKind) (b:Int),x= .int ka a->y= .int kb b->False)(q2:∀(a b:ByteArray),x= .string a->y= .string b->False):
  sK E .eql t x y=(L8 E 100 t x y).bind fun b=>some (.bool b):=by
 unfold sK
 split
 ·exact absurd rfl (q1 _ _ _ _ rfl)
 ·exact absurd rfl (q2 _ _ rfl)
 ·rfl
theorem Zd{E:Env}{t:TypeId}{x y:Value}(q1:∀(ka:IntKind) (a:Int) (kb:IntKind) (b:Int),x= .int ka a->y= .int kb b->False)(q2:∀(a b:ByteArray),x= .string a->y= .string b->False):
  sK E .neq t x y=(L8 E 100 t x y).bind fun b=>some (.bool !b):=by
 unfold sK
 split
 ·exact absurd rfl (q1 _ _ _ _ rfl)
 ·exact absurd rfl (q2 _ _ rfl)
 ·rfl
theorem abm{E:Env}{op:BinOp}{t:TypeId}{x y:Value}{k:Value->Prop}(h:Po E op t x y k):∃v,sK E op t x y=some v∧k v:=by
 unfold Po at h
 split at h
 ·rename_i ka a' kb b'
  split at h
  ·obtain⟨h1,h2⟩:=h; exact⟨_,by simp[sK,h1],h2⟩
  ·obtain⟨h1,h2⟩:=h; exact⟨_,by simp[sK,h1],h2⟩
  ·split at h
   ·rename_i hk; obtain⟨h1,h2⟩:=h; exact⟨_,by simp[sK,hk,h1],h2⟩
   ·exact h.elim
  ·split at h
   ·rename_i hk; obtain⟨h1,h2⟩:=h; exact⟨_,by simp[sK,hk,h1],h2⟩
   ·exact h.elim
  ·split at h
   ·rename_i v hv; exact⟨v,hv,h⟩
   ·exact h.elim
 ·split at h
  ·obtain⟨h1,h2⟩:=h; exact⟨_,by simp[sK,h1],h2⟩
  ·split at h
   ·rename_i v hv; exact⟨v,hv,h⟩
   ·exact h.elim
 ·rename_i p
  split at h
  ·rename_i ht
   split at h
   ·refine⟨_,?_,h⟩; simp only[sK,L8,ht,Option.bind_some]; cases p<;>rfl
   ·refine⟨_,?_,h⟩; simp only[sK,L8,ht,Option.bind_some]; cases p<;>rfl
   ·exact h.elim
  ·exact h.elim
 ·rename_i p n1 n2
  split at h
  ·rename_i ht
   split at h
   ·refine⟨_,?_,h⟩; simp only[sK,L8,ht,Option.bind_some]; cases p<;>rfl
   ·refine⟨_,?_,h⟩; simp only[sK,L8,ht,Option.bind_some]; cases p<;>rfl
   ·exact h.elim
  ·exact h.elim
 ·rename_i q1 q2 q3 q4
  cases op with
  |eql=>
   simp only at h
   split at h
   ·rename_i b hb; exact⟨_,by rw[Zc q1 q2,(Vj E 100).1 _ _ _ _ hb]; rfl,h⟩
   ·exact h.elim
  |neq=>
   simp only at h
   split at h
   ·rename_i b hb; exact⟨_,by rw[Zd q1 q2,(Vj E 100).1 _ _ _ _ hb]; rfl,h⟩
   ·exact h.elim
  |_=>exact h.elim
end Go.Proofs.YtijnknjopjmiiaaGreatDoor.Zq
end
section
namespace Go.Proofs.YtijnknjopjmiiaaGreatDoor.Zq
variable{P:Program}{E:Env}{M:Mp}{H H':Heap}{w:World}
theorem XV{s:Sem Value}{xs us ze:List Value}{z:Value}{size need newCap:Nat}{e:TypeId}(h:HR M H w)(hv:VL M xs us)
  (hz:VL M ze (Builtin.zeroCells z.cells (newCap-need)).toList)
  (hr:s.run P w= .ok (.slice (some ⟨w.heap.size,0,none⟩) need newCap) (w.drew.alloc (.cells (us.toArray++Builtin.zeroCells z.cells (newCap-need)) e (0,0)))):
  Gives P M H w s (.slice (some ⟨H.length,0,none⟩) need newCap) (mk H (xs++ze) size false):=by
 have hl:(xs++ze).length=(us.toArray++Builtin.zeroCells z.cells (newCap-need)).size:=by
  have h1:=hz.1
  have h2:=hv.1
  simp only[Array.length_toList]at h1
  simp[h1,h2]
 have st:=Stp.newRow (M:=M) (H:=H) (w:=w.drew) h.drew (cells:=xs++ze) (c:=us.toArray++Builtin.zeroCells z.cells (newCap-need)) e size false (Nat.le_of_eq hl) (by
  rw[hl,←Array.length_toList,List.take_length]
  simp only[Array.toList_append]
  exact hv.append hz)
 exact⟨_,_,_,hr,(Stp.drew h).trans st,Dk h rfl rfl (.inl rfl)⟩
theorem Sz(hE:E.Ok P)(h:HR M H w){ts:List TypeId}{ty:TypeId}{s' x':Value}{base:Option Addr}{len cap n:Nat}{old xs us0:List Value}(hs:s'= .slice base len cap)(hlt:cap<len+n)
  (hle:∀w,(Builtin.lenOf x').run P w= .ok n w)
  (hfs:∀t ti e te,ts.head? =some t->E.ty t=some ti->ti.k= .slice e->E.ty e=some te->xs.length=n*te.size→
   ∃us:List Value,(∀w':World,w'.heap=w.heap->(Builtin.firstCells te.size n x').run P w'= .ok us.toArray w')∧VL M xs us)
  (hf0:∀size,old.length=len*size->∀w':World,w'.heap=w.heap->(Builtin.firstCells size len s').run P w'= .ok us0.toArray w') (hvo:VL M old us0)
  {K:Value->Heap->Prop} (ha:∀x,(x=0∨len+n+x≤9223372036854775807)->∃v H',growE E ts len n old xs H x=some (v,H')∧K v H'):
  ∃v H',K v H'∧Gives P M H w (Builtin.append_ ts.toArray ty #[s',x']) v H':=by
 obtain⟨v0,H0,h0,_⟩:=ha 0 (.inl rfl)
 unfold growE at h0 ha
 split at h0
 ·rename_i ts tx
  simp only at ha
  split at h0
  ·rename_i ti tj ht htj
   simp only[ht,htj]at ha
   obtain⟨i1,d1,z1,T1⟩:=hE.ty _ _ ht
   obtain⟨i2,d2,z2,T2⟩:=hE.ty _ _ htj
   split at h0
   ·simp at h0
   ·rename_i e hke hnot
    have hd2:sN d2=false:=WL T2.k (fun j hj=>hnot j hj)
    have hk:=T1.k
    rw[hke]at hk
    have hund:P.underlying ts=some (.slice e):=by
     cases hd:d1<;>rw[hd]at hk<;>first|exact hk.elim|(have hk:e=_:=hk; subst hk; rw[T1.und,hd])
    split at h0
    ·rename_i te hte
     obtain⟨i3,d3,z3,T3⟩:=hE.ty _ _ hte
     split at h0
     ·simp at h0
     rename_i hsz
     split at h0
     ·rename_i hb
      obtain⟨hb1,hb2⟩:=hb
      obtain⟨us,hfr,hvl⟩:=hfs ts ti e te rfl ht hke hte (by omega)
      obtain⟨nc,q1,q2,q3⟩:=Dq (ty:=ty) hund T2.und hd2 T3 hs hle hfr (us0:=us0) (hf0 te.size (by omega)) hlt hb1 hb2
      obtain⟨v,H1,e1,e2⟩:=ha (nc-(len+n)) (.inr (by omega))
      have e3:(if te.size=0∨xs.length≠n*te.size∨old.length≠len*te.size then(none:Option (Value×Heap))
        else if 2*(len+n)*te.bytes≤281474976710656∧te.bytes≠0 then some (.slice (some ⟨H.length,0,none⟩) (len+n) (len+n+(nc-(len+n))),mk H (old++xs++rep (nc-(len+n)) te.zero) te.size false)else none)=some (v,H1):=by
       revert e1
       cases hkj:tj.k<;>simp only[hke,hte]<;>first|exact id|(exact absurd hkj (hnot _))
      rw[if_neg hsz,if_pos ⟨hb1,hb2⟩]at e3
      simp only[Option.some.injEq,Prod.mk.injEq]at e3
      obtain⟨rfl,rfl⟩:=e3
      have hnc:len+n+(nc-(len+n))=nc:=by omega
      rw[hnc]at e2
      refine⟨_,_,e2,?_⟩
      have hz:=yh (M:=M) T3 (nc-(len+n))
      have hzs:z3.cells.size=te.size:=by rw[←T3.len,←T3.cells]; simp
      have hzc:(Builtin.zeroCells z3.cells (nc-(len+n))).toList=(madeCells z3.cells ((nc-(len+n))*te.size)).toList:=by rw[←hzs]; rfl
      rw[←hzc]at hz
      exact XV (e:=e) h (hvo.append hvl) hz (by rw[←List.append_toArray]; exact q3)
     ·simp at h0
    ·simp at h0
   ·simp at h0
  ·simp at h0
 ·simp at h0
theorem WX(hE:E.Ok P)(h:HR M H w){ts:List TypeId}{ty:TypeId}{s s' x':Value}{n:Nat}{xs:List Value}(hs:VR M s s')
  (hle:∀w,(Builtin.lenOf x').run P w= .ok n w)
  (hfs:∀t ti e te,ts.head? =some t->E.ty t=some ti->ti.k= .slice e->E.ty e=some te->xs.length=n*te.size→
   ∃us:List Value,(∀w':World,w'.heap=w.heap->(Builtin.firstCells te.size n x').run P w'= .ok us.toArray w')∧VL M xs us)
  {K:Value->Heap->Prop} (ha:∀x,(x=0∨lenV s+n+x≤9223372036854775807)->∃v H',fC E ts s n xs H x=some (v,H')∧K v H'):
  ∃v H',K v H'∧Gives P M H w (Builtin.append_ ts.toArray ty #[s',x']) v H':=by
 have old:(∀x,fC E ts s n xs H x=uQ E ts s n xs H)->∃v H',K v H'∧Gives P M H w (Builtin.append_ ts.toArray ty #[s',x']) v H':=fun he=>by
  obtain⟨v,H',h1,h2⟩:=ha 0 (.inl rfl)
  rw[he]at h1
  exact⟨v,H',h2,WM hE h hs hle hfs h1⟩
 by_cases hn:n=0
 ·refine old fun x=> ?_
  unfold fC
  split
  ·rw[if_pos hn]
  ·rw[if_neg (by omega)]
  ·rfl
 ·unfold fC at ha old
  split at ha
  ·simp only[if_neg hn]at ha
   have:=hs.zJ; subst this
   exact Sz (us0:=[]) hE h rfl (by omega) hle hfs (fun _ _ _ _=>by simp[Builtin.firstCells]) (VL.nil M) (by simpa[lenV]using ha)
  ·rename_i b off len cap
   obtain⟨en,c,he,hc,rfl⟩:=hs.of_slice
   by_cases hx:n≠0∧cap<len+n∧exact H b off cap=true
   ·simp only[if_pos hx]at ha
    obtain⟨hx1,hx2,hx3⟩:=hx
    have:=Dp h hx3 he hc; subst this
    cases ho:rd H b off (len*XT E ts)with
    |none=>obtain⟨v,H',h1,_⟩:=ha 0 (.inl rfl); rw[ho]at h1; simp at h1
    |some od=>
     rw[ho]at ha
     obtain⟨us0,g1,g2,g3,_⟩:=WE P h ho he
     refine Sz (us0:=us0) hE h rfl hx2 hle hfs (fun size hsz w' hw'=> ?_) g2 (by simpa[lenV]using ha)
     have:len*size=len*XT E ts:=by
      have:=U8 ho
      omega
     simp[Builtin.firstCells,this,g1 w' hw']
   ·simp only[if_neg hx]at old
    exact old fun _=>trivial
  ·rename_i q1 q2
   refine old fun x=> ?_
   split
   ·exact absurd rfl (q1)
   ·exact absurd rfl (q2 _ _ _ _)
   ·rfl
theorem Vk(hE:E.Ok P)(h:HR M H w){ts:List TypeId}{ty:TypeId}{s s' x x':Value}(hs:VR M s s')(hx:VR M x x')
  {K:Value->Heap->Prop} (ha:∀y,(y=0∨lenV s+(oH x).getD 0+y≤9223372036854775807)->∃v H',dM E ts s x H y=some (v,H')∧K v H'):
  ∃v H',K v H'∧Gives P M H w (Builtin.append_ ts.toArray ty #[s',x']) v H':=by
 obtain⟨v0,H0,h0,_⟩:=ha 0 (.inl rfl)
 unfold dM at h0 ha
 split at h0
 ·rename_i t1 t2
  split at h0
  ·rename_i ti ht
   split at h0
   ·rename_i e hke
    split at h0
    ·rename_i te hte
     split at h0
     ·rename_i n hn
      split at h0
      ·rename_i xs hf
       simp only[ht,hke,hte,hn,hf,Option.getD_some]at ha
       refine WX hE h hs (fun w=>O6 hx hn) (fun t ti' e' te' q1 q2 q3 q4 _=> ?_) ha
       simp at q1; subst q1
       rw[ht]at q2; simp at q2; subst q2
       rw[hke]at q3; simp at q3; subst q3
       rw[hte]at q4; simp at q4; subst q4
       exact Bv (P:=P) h hx hf
      ·simp at h0
     ·simp at h0
    ·simp at h0
   ·simp at h0
  ·simp at h0
 ·simp at h0
end Go.Proofs.YtijnknjopjmiiaaGreatDoor.Zq
end
section
namespace Go.Proofs.YtijnknjopjmiiaaGreatDoor.Zq
variable{C:kL}{M M':Mp}{H H':Heap}{w w':World}{L:Loc}{ML:Ml}{fr:fK}{a:Act}{ro:Option Nat}{n:Nat}{Q:Exit->Act->World->Prop}{Kw:Act->World->Prop}{loc:List Nat}
 {dst:Option Nat} {ty:TypeId} {pos:String} {after:Array Edge} {guard:Option (Nat×Bool)} {k:Sv->Loc->Heap->Prop}
def Cont(M:Mp)(H:Heap)(L:Loc)(ML:Ml)(w:World)(fr:fK)(a:Act)(dst:Option Nat)(k:Sv->Loc->Heap->Prop)(Kw:Act->World->Prop):Prop:=
 ∀s L' H' M' ML' w' u,k s L' H'->Aft M H L ML w fr a M' H' L' ML' w'->yx M' ML' s u->Kw (a.put dst u) w'
theorem DC(l:LR M H L ML w)(f:FS M ML fr a.tmps)(st:Stp M H w M' H' w'):Aft M H L ML w fr a M' H' L ML w':=⟨st.WW ML,l.step st,f.step st.ext,.refl L,⟨[],by simp⟩,fun _ _=>rfl⟩
theorem nZ(h:HR M H w)(l:LR M H L ML w)(f:FS M ML fr a.tmps):Aft M H L ML w fr a M H L ML w:=DC l f (.refl h)
theorem val_ok{P:Program}{o:Oper}{s:Sem Value}{v:Value}(l:LR M H L ML w)(f:FS M ML fr a.tmps)(hd:∀c,o.op≠ .defer c)(hs:execOp a.eval o=(do pure (.value (←s))))(hg:Gives P M H w s v H')(hk:k (.v v) L H')
  (hK:Cont M H L ML w fr a o.dst k Kw):o.wpIn (Fw ro) n P a w Kw Q:=
 aU hd hs hg fun v' M' w' st hv=>hK (.v v) L H' M' ML w' v' hk (DC l f st) hv
theorem WY{P:Program}{o:Oper}{s:Sem Unit}(l:LR M H L ML w)(f:FS M ML fr a.tmps)(hd:∀c,o.op≠ .defer c)(hs:execOp a.eval o=(do s; pure .skip))(hr:∃w',s.run P w= .ok () w'∧Stp M H w M H' w')(hk:k (.v undef) L H')
  (hK:Cont M H L ML w fr a o.dst k Kw):o.wpIn (Fw ro) n P a w Kw Q:=by
 obtain⟨w',g1,g2⟩:=hr
 exact qj hd hs g1 (hK (.v undef) L H' M ML w' undef hk (DC l f g2) (.undef _))
theorem Mc{E:Env}{t:TypeId}{m:Nat}{ps:List (Nat×Value)}{v:Value}{cs:List Value}{sz:Nat}(h:eX E t m ps []=some (v,[.row cs sz false false true])):
  eX E t m ps H=some (.slice (some ⟨H.length,0,none⟩) m m,mk H cs sz false):=by
 unfold eX at h ⊢
 obtain⟨ti,ht,h2⟩:=aj h
 rw[ht]; simp only[Option.bind_some]
 split at h2
 ·rename_i e he
  obtain⟨te,hte,h3⟩:=aj h2
  simp only[hte,Option.bind_some]
  split at h3
  ·rename_i hb
   rw[if_pos hb]
   obtain⟨cs',hf,h4⟩:=aj h3
   simp[mk]at h4
   rw[hf]
   obtain⟨_,rfl,rfl⟩:=h4
   rfl
  ·simp at h3
 ·simp at h2
theorem SA{T:Tag}{tk:TK}{x:T.α}(hk:mO tk=T.agg)(h1:T.agg=true∨(T.cells x).length=1):gJ tk (T.cells x)=some (T.enc x):=by
 unfold gJ Tag.enc Pm
 rw[hk]
 cases ha:T.agg with
 |true=>simp
 |false=>
  simp only[Bool.false_eq_true,if_false]
  rcases h1 with h|h
  ·rw[ha]at h; simp at h
  ·obtain⟨v,hv⟩:=List.length_eq_one_iff.1 h
   rw[hv]
theorem SB{P:Program}{E:Env}(hE:E.Ok P){t ft:TypeId}{fs:List (Nat×TypeId)}{ti te:TI}{i o b off:Nat}(ht:E.ty t=some ti)(hf:ti.k= .struct fs)(hi:fs[i]? =some (o,ft))(hte:E.ty ft=some te)(h0:te.size≠0):
  (Instr.fieldAt t (.pointer (some ⟨b,off,none⟩)) i).run P w= .ok (.pointer (some ⟨b,off+o,none⟩)) w:=by
 obtain⟨ii,d,z,T⟩:=hE.ty t ti ht
 have hk:=T.k
 rw[hf]at hk
 cases d with
 |struct gs=>
  obtain⟨hg,_⟩:=hk
  obtain⟨i2,d2,z2,T2⟩:=hE.ty ft te hte
  rw[hg]at hi
  simp only[List.getElem?_map,Option.map_eq_some_iff]at hi
  obtain⟨f,hf,hfe⟩:=hi
  simp at hfe; obtain⟨rfl,rfl⟩:=hfe
  have hf':gs[i]? =some f:=by simpa using hf
  simp only[Instr.fieldAt,Sem.run_bind,T.bD,Result.andThen_ok,hf',Instr.sureAddr,Sem.run_pure,fieldPlace,T2.bK,h0,if_false,gU]
 |_=>exact hk.elim
theorem SC{P:Program}{E:Env}(hE:E.Ok P){t e:TypeId}{ti te:TI}{len b off:Nat}{kk:IntKind}{i:Int}(ht:E.ty t=some ti)(hf:ti.k= .array len e)(hte:E.ty e=some te)(hb:0≤i∧i<len):
  (Instr.indexAt t (.pointer (some ⟨b,off,none⟩)) (.int kk i)).run P w= .ok (.pointer (some ⟨b,off+i.toNat*te.size,none⟩)) w:=by
 obtain⟨ii,d,z,T⟩:=hE.ty t ti ht
 have hk:=T.k
 rw[hf]at hk
 cases d with
 |array n' e'=>
  obtain⟨rfl,rfl,_⟩:=hk
  obtain⟨i2,d2,z2,T2⟩:=hE.ty _ te hte
  simp[Instr.indexAt,asIntOf,T.bD,Instr.sureAddr,hb,T2.bK,gU]
 |_=>exact hk.elim
theorem acU{o:Oper}{c:Call}{f:Operand}{g:FuncId}{xs ys:List Value}{args:List Value}{rs:List Tag}{kk:Tup rs->Heap->Prop}(h:HR M H w)(l:LR M H L ML w)(fs:FS M ML fr a.tmps)(hop:o.op= .call c)(hce:c.callee= .value f)
  (hf:VR M (.func (.func g) xs.toArray ys.toArray) (a.eval f)) (hvs:vP fr c.args.toList=some args) (ho:CALL C.P rs g (xs++args++ys) H kk)
  (hK:∀x H' M' w' u,kk x H'->Aft M H L ML w fr a M' H' L ML w'->VR M' (gQ (encs rs x)) u->Kw (a.put o.dst u) w'):o.wpIn (Fw ro) n C.P a w Kw Q:=by
 obtain⟨dst,op,ty,pos,after,guard⟩:=o
 obtain⟨callee,cargs,argTypes⟩:=c
 simp only at hop hce hvs
 subst hop; subst hce
 have hv:=vV fs hvs
 obtain⟨⟨fn,q1,q2,q3⟩,q4⟩:=ho
 obtain⟨us,ws,hfe,hu,hw⟩:∃us ws,a.eval f= .func (.func g) us ws∧VL M xs us.toList∧VL M ys ws.toList:=by
  generalize hq:a.eval f=q at hf
  cases hf with
  |func hx hy gx gy=>
   exact⟨_,_,rfl,⟨by simpa using hx,fun i x u hx hu=>gx i x u (by simpa using hx) (by simpa using hu)⟩,⟨by simpa using hy,fun i x u hx hu=>gy i x u (by simpa using hx) (by simpa using hu)⟩⟩
 have hl:=(hu.append hv).append hw
 have hcall:=q4 (n-1) M w _ h hl
 refine⟨fun _ _=>trivial,?_⟩
 rw[Oper.semAt_eq _ _ _ (fun c=>by simp)]
 have hb:fn.body.isNone=false:=by cases hb:fn.body<;>simp_all
 have he:(us.toList++List.map a.eval cargs.toList++ws.toList).toArray=us++cargs.map a.eval++ws:=by
  apply Array.ext'; simp
 rw[he]at hcall
 simp only[execOp,Sem.run_bind,resolve,hfe,Deferred.ofValue,Sem.run_pure,Result.andThen_ok,invoke,callFunc,run_program,q1,q3,Bool.false_eq_true,if_false,hb]
 refine⟨by simp[Fw,Fence.wide],(nV hcall).mono ?_⟩
 rintro e w' ⟨v,v',M',H',rfl,hs,hv',x,rfl,hkx⟩
 exact hK x H' M' w' v' hkx (DC l fs hs) hv'
theorem adf{o:Oper}{c:Call}{f:Operand}{b:Nat}{args:List Value}{rs:List Tag}{kk:Tup rs->Heap->Prop}(h:HR M H w)(l:LR M H L ML w)(fs:FS M ML fr a.tmps)(hop:o.op= .call c)(hce:c.callee= .value f)
  (hf:VR M (.func (.yield b) #[] #[]) (a.eval f)) (hvs:vP fr c.args.toList=some args) (ho:EVY C.P b args H fun v H'=>∃x:Tup rs,v=gQ (encs rs x)∧kk x H')
  (hK:∀x H' M' w' u,kk x H'->Aft M H L ML w fr a M' H' L ML w'->VR M' (gQ (encs rs x)) u->Kw (a.put o.dst u) w'):o.wpIn (Fw ro) n C.P a w Kw Q:=by
 obtain⟨dst,op,ty,pos,after,guard⟩:=o
 obtain⟨callee,cargs,argTypes⟩:=c
 simp only at hop hce hvs
 subst hop; subst hce
 have hv:=vV fs hvs
 obtain⟨en,hen,hfe⟩:∃en,M[b]? =some (some en)∧a.eval f= .func (.yield en.blk) #[] #[]:=by
  generalize hq:a.eval f=q at hf
  cases hf with
  |yield h=>exact⟨_,h,rfl⟩
 obtain⟨L1,k1,k2,k3⟩:=ho (n-1) M w _ en h hv hen
 refine⟨fun _ _=>trivial,?_⟩
 rw[Oper.semAt_eq _ _ _ (fun c=>by simp)]
 have he:(#[]:Array Value)++cargs.map a.eval=(List.map a.eval cargs.toList).toArray:=by apply Array.ext'; simp
 have hgl:(Instr.getLoop en.blk).run C.P w= .ok L1 w:=by simp[Instr.getLoop,getObj,Sem.run,k1]
 have hsz:¬((List.map a.eval cargs.toList).toArray.size≠L1.params.size):=by simp at k2 ⊢; exact k2
 simp only[execOp,Sem.run_bind,resolve,hfe,Deferred.ofValue,Sem.run_pure,Result.andThen_ok,invoke,Instr.yield,he,hgl,Sem.run_ite,if_neg hsz]
 refine⟨by simp[Fw,Fence.wide],RoundIn.mono k3 ?_⟩
 rintro e w' ⟨v,v',M',H',rfl,hs,hv',x,rfl,hkx⟩
 exact hK x H' M' w' v' hkx (DC l fs hs) hv'
theorem hd2{l:List Operand}{x y:Operand}(h:l=[x,y])(arr:Array Operand)(ha:arr.toList=l):arr.map a.eval= #[a.eval x,a.eval y]:=by
 apply Array.ext'; simp[ha,h]
theorem Ze(hE:C.E.Ok C.P)(h:HR M H w)(l:LR M H L ML w)(f:FS M ML fr a.tmps){c:Call}(ho:kW C fr c ty L H k)
  (hK:Cont M H L ML w fr a dst k Kw):(Oper.mk dst (.call c) ty pos after guard).wpIn (Fw ro) n C.P a w Kw Q:=by
 obtain⟨callee,args,argTypes⟩:=c
 unfold kW at ho
 simp only at ho
 split at ho
 ·rename_i g
  split at ho
  ·rename_i vs hvs
   exact acU (c:=⟨.value (.func g),args,argTypes⟩) (xs:=[]) (ys:=[]) h l f rfl rfl (eU (s:=.v (.func (.func g) #[] #[])) f rfl) hvs (by simpa using ho) fun x H' M' w' u hkx ha hu=>hK (.v _) L H' M' ML w' u hkx ha hu
  ·exact ho.elim
 ·rename_i fo hnot
  split at ho
  ·rename_i fv vs hf hvs
   rcases ho with⟨g,xs,ys,rfl,hc⟩|⟨l0,rfl,hc⟩
   rotate_left
   ·exact adf (c:=⟨.value fo,args,argTypes⟩) h l f rfl rfl (dQ f hf) hvs hc fun x H' M' w' u hkx ha hu=>hK (.v _) L H' M' ML w' u hkx ha hu
   exact acU (c:=⟨.value fo,args,argTypes⟩) (xs:=xs.toList) (ys:=ys.toList) h l f rfl rfl (by simpa using dQ f hf) hvs hc fun x H' M' w' u hkx ha hu=>hK (.v _) L H' M' ML w' u hkx ha hu
  ·exact ho.elim
 ·
  split at ho
  ·rename_i x t hx ht
   have hargs:args.map a.eval= #[a.eval x]:=by apply Array.ext'; simp[hx]
   have hex:∀{v r},mQ fr x=some v->pU C.E t v H=some r->k (.v r) L H->(Oper.mk dst (.call ⟨.builtin .len,args,argTypes⟩) ty pos after guard).wpIn (Fw ro) n C.P a w Kw Q:=fun{v r} h1 h2 h3=>by
    refine val_ok (s:=Builtin.len_ #[t] ty #[a.eval x]) l f (fun c=>by simp) ?_ (YU hE h (dQ f h1) h2) h3 hK
    simp[execOp,resolve,invoke,builtin,hargs,rP ht]
   split at ho
   ·rename_i p m cc ee b1 b2 b3 h1 h2
    exact hex h1 (by simp[pU,h2]) ho
   ·rename_i v ti h3 h1 h2
    obtain⟨y,g1,g2⟩:=ho
    exact hex h1 g1 g2
   ·exact ho.elim
  ·exact ho.elim
 ·
  split at ho
  ·rename_i x t hx ht
   have hargs:args.map a.eval= #[a.eval x]:=by apply Array.ext'; simp[hx]
   split at ho
   ·rename_i v h1
    obtain⟨y,g1,g2⟩:=ho
    refine val_ok (s:=Builtin.cap_ #[t] ty #[a.eval x]) l f (fun c=>by simp) ?_ (YV hE h (dQ f h1) g1) g2 hK
    simp[execOp,resolve,invoke,builtin,hargs,rP ht]
   ·exact ho.elim
  ·exact ho.elim
 ·
  split at ho
  ·rename_i s x hx
   have hargs:=hd2 (a:=a) hx args rfl
   split at ho
   ·rename_i sv i m h1 h2
    split at ho
    ·rename_i q cs hL
     obtain⟨e,e1,e2⟩:=eU f h2
     obtain⟨v,H',g1,g2⟩:=WX (ty:=ty) (K:=fun v H'=>k (.v v) L H') hE h (x':=a.eval x) (dQ f h1) (n:=m) (xs:=cs) (fun w=>by rw[e2]; simp[Builtin.lenOf]) (fun t ti e' te _ _ _ _ hlen=>by
      obtain⟨c,ct,d1,d2,d3,d4⟩:=EX l e1 hL
      refine⟨(c.toList.drop e.base).take cs.length,fun w' hw'=> ?_,d4⟩
      have hl:((c.toList.drop e.base).take cs.length).length=m*te.size:=by rw[←hlen]; simp; omega
      have:=run_loadCells_list (P:=C.P) w' ⟨e.blk,e.base,none⟩ ((c.toList.drop e.base).take cs.length) (fun j v hv=>by
       rw[gU]
       simp only[List.getElem?_take,List.getElem?_drop]at hv
       split at hv
       ·simp only[Array.getElem?_toList]at hv
        simp only[World.cell?,hw',d1]; exact hv
       ·simp at hv)
      rw[hl]at this
      rw[e2]; simp only[Builtin.firstCells]; exact this) (fun x hx=>by
      obtain⟨y,H',g1,g2⟩:=ho x hx
      exact⟨_,H',g1,g2⟩)
     refine val_ok (s:=Builtin.append_ argTypes ty #[a.eval s,a.eval x]) l f (fun c=>by simp) ?_ (by simpa using g2) g1 hK
     simp[execOp,resolve,invoke,builtin,hargs]
    ·exact ho.elim
   ·rename_i sv xv h1 h2
    obtain⟨v,H',g1,g2⟩:=Vk (ty:=ty) (K:=fun v H'=>k (.v v) L H') hE h (dQ f h1) (eU (s:=.v xv) f h2) (fun x hx=>by
     obtain⟨y,H',g1,g2⟩:=ho x hx
     exact⟨_,H',g1,g2⟩)
    refine val_ok (s:=Builtin.append_ argTypes ty #[a.eval s,a.eval x]) l f (fun c=>by simp) ?_ (by simpa using g2) g1 hK
    simp[execOp,resolve,invoke,builtin,hargs]
   ·exact ho.elim
  ·exact ho.elim
 ·
  split at ho
  ·rename_i d x hx
   obtain⟨y,H',g1,g2⟩:=ho
   have hvs:=vV f hx
   obtain⟨s',us,e1,hs,ht⟩:=hvs.of_cons
   obtain⟨x',us',e2,hx',ht'⟩:=ht.of_cons
   have:=ht'.of_nil; subst this; subst e2
   refine val_ok (s:=Builtin.copy_ argTypes ty #[s',x']) l f (fun c=>by simp) ?_ (WO hE h (ty:=ty) hs hx' g1) g2 hK
   have:args.map a.eval= #[s',x']:=by apply Array.ext'; simpa using e1
   simp[execOp,resolve,invoke,builtin,this]
  ·exact ho.elim
 ·
  split at ho
  ·rename_i x r hx
   split at ho
   ·rename_i v hv
    have hvs:=vV f hx
    obtain⟨x',us,e1,hx',ht⟩:=hvs.of_cons
    refine val_ok (s:=Builtin.min_ argTypes ty (x'::us).toArray) l f (fun c=>by simp) ?_ (O8 (mx:=false) (ts:=argTypes) (ty:=ty) h hx' ht hv) ho hK
    have:args.map a.eval=(x'::us).toArray:=by apply Array.ext'; simpa using e1
    simp only[execOp,resolve,invoke,builtin,this,pure_bind]
   ·exact ho.elim
  ·exact ho.elim
 ·split at ho
  ·rename_i x r hx
   split at ho
   ·rename_i v hv
    have hvs:=vV f hx
    obtain⟨x',us,e1,hx',ht⟩:=hvs.of_cons
    refine val_ok (s:=Builtin.max_ argTypes ty (x'::us).toArray) l f (fun c=>by simp) ?_ (O8 (mx:=true) (ts:=argTypes) (ty:=ty) h hx' ht hv) ho hK
    have:args.map a.eval=(x'::us).toArray:=by apply Array.ext'; simpa using e1
    simp only[execOp,resolve,invoke,builtin,this,pure_bind]
   ·exact ho.elim
  ·exact ho.elim
 ·
  split at ho
  ·rename_i x hx
   obtain⟨H',g1,g2⟩:=ho
   have hvs:=vV f hx
   obtain⟨x',us,e1,hx',ht⟩:=hvs.of_cons
   have:=ht.of_nil; subst this
   refine val_ok (s:=Builtin.clear_ argTypes ty #[x']) l f (fun c=>by simp) ?_ (RG hE h (ty:=ty) hx' g1) g2 hK
   have:args.map a.eval= #[x']:=by apply Array.ext'; simpa using e1
   simp[execOp,resolve,invoke,builtin,this]
  ·exact ho.elim
 ·exact ho.elim
end Go.Proofs.YtijnknjopjmiiaaGreatDoor.Zq
end
