/- Part 5 of the proof of ViewPlain: what its row stands on (lemmas about the model, the evaluator, contracts of functions), put together and cut to what is used. -/
import Derived.Test.YtijnknjopjmiiaaGreatDoorKViewPlain4
import Derived.Shelf.SlSortCmp.NoneTotal
import Derived.Deep.Draws
section
namespace Go.Proofs.YtijnknjopjmiiaaGreatDoor.Zq
open Zv
section
variable{H:Heap}
structure OkP(p:Pt):Prop where
 nm:p.Name.size≤9223372036854775807
 s:0≤p.Suit∧p.Suit≤255
 t:0≤p.Trait∧p.Trait≤255
 m:0≤p.Mark∧p.Mark≤255
theorem aac{u:Prop}[Decidable u]{x lo hi:Int}{Q:Bool×Unit->Heap->Prop}(hq:∀r:Bool,(r=true↔if u then lo≤x∧x≤hi else x=0)->Q (r,()) H):
  aO (!decide u) (Q (x==0,()) H) (JOIN (fun(j1:(Bool×Unit)×(Unit)->Heap->Prop)=>aO (decide (x≥lo)) (j1 ((decide (x≤hi),()),(())) H) (j1 ((false,()),(())) H)) fun(y2:(Bool×Unit)×(Unit)) H1=>Q (y2.1.1,()) H1):=
 Yj (hq _ (by simp))
theorem adJ{u:Prop}[Decidable u]{x lo hi:Int}{Q:Bool×Unit->Heap->Prop}(hq:∀r:Bool,(r=true↔if u then lo≤x∧x≤hi else x=0)->Q (r,()) H):CALL P [ah] jW [.int .i64 x,.bool (decide u),.int .i64 lo,.int .i64 hi] H Q:=by
 apply Aj
 unfold kE
 exact aac hq
theorem abZ{u:Prop}[Decidable u]{x lo hi:Int}{Q:Bool×Unit->Heap->Prop}(hq:∀r:Bool,(r=true↔if u then lo≤x∧x≤hi else x=0)->Q (r,()) H):CALL P [ah] gZ [.int .u8 x,.bool (decide u),.int .u8 lo,.int .u8 hi] H Q:=by
 apply uI
 unfold iw
 exact aac hq
theorem aad{u:Prop}[Decidable u]{x lo hi:Int}{Q:Bool×Unit->Heap->Prop}(hq:∀r:Bool,(r=true↔if u then lo≤x∧x≤hi else x=0)->Q (r,()) H):CALL P [ah] gu [.int .u8 x,.bool (decide u),.int .u8 lo,.int .u8 hi] H Q:=by
 apply qV
 unfold gG
 exact aac hq
theorem ab1{u:Prop}[Decidable u]{x lo hi:Int}{Q:Bool×Unit->Heap->Prop}(hq:∀r:Bool,(r=true↔if u then lo≤x∧x≤hi else x=0)->Q (r,()) H):CALL P [ah] iq [.int .u8 x,.bool (decide u),.int .u8 lo,.int .u8 hi] H Q:=by
 apply uM
 unfold iy
 exact aac hq
theorem FP{u:Prop}[Decidable u]{x hi:Int}{Q:Bool×Unit->Heap->Prop}(hq:∀r:Bool,(r=true↔inU u x hi)->Q (r,()) H):CALL P [ah] jF [.bool (decide u),.int .i64 x,.int .i64 hi] H Q:=by
 apply J9
 unfold qG
 exact aac (lo:=1) hq
theorem aeE{r:Bool}:r=false↔¬r=true:=by cases r<;>simp
def okF(p:Pt):Prop:=inU (sU p.Verb p.Whom) p.Suit 6∧inU (tU p.Verb p.Whom) p.Trait 8∧inU (p.Verb=9) p.Mark 4
def Yn(p:Pt):Prop:=if p.Verb=7 then ¬nU p.Name else p.Name.data.toList≠[]
def out6(p:Pt):Prop:=p.When<1∨6<p.When∨p.Verb<1∨19<p.Verb∨p.Whom<1∨10<p.Whom
def Yo(p:Pt):Prop:=lN p.Verb≠yH p.When∨p.Verb=11∧p.Whom=9
open Classical in
theorem Xq(p:Pt):GU p=if out6 p then 2 else if Yo p then 8 else if ¬lQ p then 13 else if ¬rM p.Verb p.Count then 2 else if ¬okF p then 2 else if Yn p then 4 else 0:=by
 unfold GU out6 Yo okF Yn
 congr
theorem hJ{H:Heap}{A:((Bool×Unit)×Unit->Heap->Prop)->Prop}{X Y:Heap->Prop}(c:Prop)(hA:∀j:(Bool×Unit)×Unit->Heap->Prop,(∀r:Bool,(r=true↔c)->j ((r,()),()) H)->A j)(h1:c->X H)(h2:¬c->Y H):JOIN A fun(y:(Bool×Unit)×Unit) H'=>aO y.1.1 (X H') (Y H'):=
 hA _ fun r hr=>bK (fun e=>h1 (hr.1 e)) (fun e=>h2 fun q=>by
  have e:r=false:=e
  rw[hr.2 q]at e; cases e)
theorem adK{p:Pt}(ok:OkP p){Q:Int×Unit->Heap->Prop}(hq:Q (GU p,()) H):CALL P [au .i64] qj [aP.enc p] H Q:=by
 apply JX
 unfold qC
 rw[Xq]at hq
 refine adI (ZW ?_)
 refine hJ (out6 p) (fun j hj=> ?_) (fun h=>by rwa [if_pos h]at hq) (fun h1=> ?_)
 ·unfold out6 at hj
  exact dD (fun h=>hj _ (by simp; omega)) (fun h1=>dD (fun h=>hj _ (by simp; omega)) (fun h2=>dD (fun h=>hj _ (by simp; omega)) (fun h3=>dD (fun h=>hj _ (by simp; omega)) (fun h4=>dD (fun h=>hj _ (by simp; omega)) (fun h5=>hj _ (by simp; omega))))))
 rw[if_neg h1]at hq
 have hr:1≤p.When∧p.When≤6∧1≤p.Verb∧p.Verb≤19:=by unfold out6 at h1; omega
 refine hJ (Yo p) (fun j hj=> ?_) (fun h=>by rwa [if_pos h]at hq) (fun h2=> ?_)
 ·unfold Yo at hj
  exact ZV (by omega) (QI (fun h=>hj _ (by simp; omega)) (fun h=>fM (fun h2=>hj _ (by simp; omega)) (fun h2=>hj _ (by simp; omega))))
 rw[if_neg h2]at hq
 refine abW (by omega) fun r hr2=>bK (fun e=> ?_) (fun e=> ?_)
 ·rw[if_pos (fun q=>by rw[hr2.2 q]at e; cases e)]at hq; exact hq
 have e3:lQ p:=hr2.1 (by simpa using e)
 rw[if_neg (fun q=>q e3)]at hq
 refine hJ (¬rM p.Verb p.Count) (fun j hj=> ?_) (fun h=>by rwa [if_pos h]at hq) (fun h4=> ?_)
 ·refine adJ fun r hr3=> ?_
  dsimp only at hr3
  unfold rM at hj
  by_cases hu:cU p.Verb
  ·rw[if_pos hu]at hr3
   rw[if_pos hu]at hj
   refine bK (fun e=>hj _ ?_) (fun e=>fB (decide_eq_true hu) (QI (fun h14=>hj _ ?_) (fun h14=>hj _ ?_)))
   ·have:¬(zM p.Verb≤p.Count∧p.Count≤yI p.Verb):=fun q=>by rw[hr3.2 q]at e; cases e
    simp only[true_iff]; exact fun q=>this ⟨q.1,q.2.1⟩
   ·have:=hr3.1 (by simpa using e)
    simp only[beq_iff_eq]; omega
   ·have:=hr3.1 (by simpa using e)
    simp only[Bool.false_eq_true,false_iff]; omega
  ·rw[if_neg hu]at hr3
   rw[if_neg hu]at hj
   refine bK (fun e=>hj _ ?_) (fun e=>bG (decide_eq_false hu) (hj _ ?_))
   ·simp only[true_iff]; exact fun q=>by rw[hr3.2 q]at e; cases e
   ·have:=hr3.1 (by simpa using e)
    simp only[Bool.false_eq_true,false_iff]; exact fun q=>q this
 rw[if_neg h4]at hq
 refine hJ (¬okF p) (fun j hj=> ?_) (fun h=>by rwa [if_pos h]at hq) (fun h5=> ?_)
 ·refine abZ fun r1 hr1=>bK (fun e=>hj _ ?_) (fun e=>aad fun r2 hr2=>bK (fun e2=>hj _ ?_) (fun e2=>ab1 fun r3 hr3=>hj _ ?_))
  ·simp only[true_iff]; exact fun q=>by rw[hr1.2 q.1]at e; cases e
  ·simp only[true_iff]; exact fun q=>by rw[hr2.2 q.2.1]at e2; cases e2
  ·have g1:=hr1.1 (by simpa using e)
   have g2:=hr2.1 (by simpa using e2)
   rw[Bool.not_eq_true',aeE,hr3]
   exact⟨fun q k=>q k.2.2,fun q k=>q ⟨g1,g2,k⟩⟩
 rw[if_neg h5]at hq
 refine hJ (Yn p) (fun j hj=> ?_) (fun h=>by rwa [if_pos h]at hq) (fun h6=>by rwa [if_neg h6]at hq)
 have hn:p.Name.toList=p.Name.data.toList:=ByteArray.toList_eq _
 rw[hn,zi]
 unfold Yn at hj
 by_cases h7:p.Verb=7
 ·rw[if_pos h7]at hj
  simp only[h7,decide_true]
  refine bK (fun e=>hj _ ?_) (fun e=>fB rfl (abX ok.nm (hj _ ?_)))
  ·simp only[true_iff]
   intro q
   have:p.Name.data.toList=[]:=by simpa using e
   have:=q.1
   simp_all
  ·simp
 ·rw[if_neg h7]at hj
  simp only[h7,decide_false]
  refine bK (fun e=>hj _ ?_) (fun e=>bG rfl (hj _ ?_))
  ·simp only[true_iff]; simpa using e
  ·have:p.Name.data.toList=[]:=by simpa using e
   simp[this]
theorem Xr{v:Int}{Q:Int×Unit->Heap->Prop}(hq:Q (lN v,()) H):CALL P [au .i64] pF [.int .u8 v] H Q:=by
 apply QE
 unfold wO
 unfold lN at hq
 refine hJ (1≤v∧v≤9) (fun j hj=>dD (fun h=>hj _ (by simp; omega)) (fun h=>hj _ (by simp; omega))) (fun h=>by rwa [if_pos h]at hq) (fun h=> ?_)
 rw[if_neg h]at hq
 refine hJ (10≤v∧v≤15) (fun j hj=>dD (fun h=>hj _ (by simp; omega)) (fun h=>hj _ (by simp; omega))) (fun h=>by rwa [if_pos h]at hq) (fun h=> ?_)
 rw[if_neg h]at hq
 refine hJ (16≤v∧v≤19) (fun j hj=>dD (fun h=>hj _ (by simp; omega)) (fun h=>hj _ (by simp; omega))) (fun h=>by rwa [if_pos h]at hq) (fun h=>by rwa [if_neg h]at hq)
theorem aae{v:Int}{Q:Int×Unit->Heap->Prop}(hq:Q (yH v,()) H):CALL P [au .i64] tq [.int .u8 v] H Q:=by
 apply Ob
 unfold uO
 unfold yH at hq
 refine hJ (1≤v∧v≤4) (fun j hj=>dD (fun h=>hj _ (by simp; omega)) (fun h=>hj _ (by simp; omega))) (fun h=>by rwa [if_pos h]at hq) (fun h=> ?_)
 rw[if_neg h]at hq
 exact fM (fun h=>by rwa [if_pos h]at hq) (fun h=>fM (fun h2=>by rwa [if_neg h,if_pos h2]at hq) (fun h2=>by rwa [if_neg h,if_neg h2]at hq))
theorem aaf{p:Pt}{Q:Bool×Unit->Heap->Prop}(hq:∀r:Bool,(r=true↔lQ p)->Q (r,()) H):CALL P [ah] tu [aP.enc p] H Q:=by
 apply Og
 unfold uP
 unfold lQ at hq
 refine JD (H:=H) (p.Whom=1∨p.Whom=2) (fun j hj=>fM (fun h=>hj _ (by simp; omega)) (fun h=>hj _ (by simp; omega))) (Xr (fM (fun h1=> ?_) (fun h1=>fM (fun h2=> ?_) (fun h2=> ?_))))
 ·dsimp only at h1
  rw[if_pos h1]at hq
  refine hJ ((p.Whom=1∨p.Whom=2)∧(p.Verb=6∨p.Verb=8∨p.Verb=9)) (fun j hj=>dD (fun h=>fM (fun h6=>hj _ (by simp; omega)) (fun h6=>fM (fun h8=>hj _ (by simp; omega)) (fun h8=>hj _ (by simp; omega)))) (fun h=>hj _ (by simp; omega))) (fun h=>hq _ ?_) (fun h=> ?_)
  ·rw[if_neg (by omega)]; simp only[Bool.false_eq_true,false_iff]; exact fun q=>q h
  ·refine JD (H:=H) (p.Whom≠3∨p.When=1) (fun j hj=>Ak (fun h=>hj _ (by simp; omega)) (fun h=>hj _ (by simp; omega))) (hq _ ?_)
   rw[decide_eq_true_eq]
   split<;>omega
 ·dsimp only at h1 h2
  rw[if_neg h1,if_pos h2]at hq
  refine JD (H:=H) (¬(p.Whom=1∨p.Whom=2)∧p.Whom≠3) (fun j hj=>QI (fun h=>hj _ (by simp; omega)) (fun h=>hj _ (by simp; omega))) (hq _ (by rw[decide_eq_true_eq]))
 ·dsimp only at h1 h2
  rw[if_neg h1,if_neg h2]at hq
  exact hq _ (by simp)
def wU(v:Int):Int:=if cU v then zM v else 0
def Az(v:Int):Int:=if cU v then yI v else 0
theorem OY{v:Int}{Q:Int×Int×Unit->Heap->Prop}(hq:Q (wU v,Az v,()) H):CALL P [au .i64,au .i64] lM [.int .u8 v] H Q:=by
 apply KA
 unfold qJ
 have fin:∀a b,wU v=a->Az v=b->Q (a,b,()) H:=fun a b h1 h2=>by rw[h1,h2]at hq; exact hq
 refine hJ (H:=H) (v=1∨v=2∨v=3∨v=4∨v=7∨v=16∨v=19) (fun j hj=> ?_) (fun h=>fin _ _ ?_ ?_) (fun h=> ?_)
 ·exact fM (fun h=>hj _ (by simp; omega)) (fun h1=>bf (fM (fun h=>hj _ (by simp; omega)) (fun h2=>bf (fM (fun h=>hj _ (by simp; omega)) (fun h3=>bf (fM (fun h=>hj _ (by simp; omega)) (fun h4=>bf (fM (fun h=>hj _ (by simp; omega)) (fun h5=>bf (fM (fun h=>hj _ (by simp; omega)) (fun h6=>hj _ (by simp; omega))))))))))))
 ·unfold wU zM; repeat' split
  all_goals first|rfl|(exfalso; simp only[cU]at *; omega)
 ·unfold Az yI; repeat' split
  all_goals first|rfl|(exfalso; simp only[cU]at *; omega)
 ·refine hJ (v=9∨v=15) (fun j hj=>fM (fun h=>hj _ (by simp; omega)) (fun h=>hj _ (by simp; omega))) (fun h2=>fin _ _ ?_ ?_) (fun h2=>fM (fun h3=>fin _ _ ?_ ?_) (fun h3=>fM (fun h4=>fin _ _ ?_ ?_) (fun h4=>fin _ _ ?_ ?_)))
  all_goals
   first
   |(unfold wU zM; repeat' split)<;>first|rfl|(exfalso; simp only[cU]at *; omega)
   |(unfold Az yI; repeat' split)<;>first|rfl|(exfalso; simp only[cU]at *; omega)
theorem aag{v:Int}:Az v>0↔cU v:=by
 unfold Az yI
 split
 ·rename_i h; refine⟨fun _=>h,fun _=> ?_⟩; split<;>omega
 ·rename_i h; refine⟨fun q=>by omega,fun q=>absurd q h⟩
theorem VZ{p:Pt}{Q:Bool×Unit->Heap->Prop}(hq:∀r:Bool,(r=true↔rM p.Verb p.Count)->Q (r,()) H):CALL P [ah] oH [aP.enc p] H Q:=by
 apply Ii
 unfold oQ
 have key:rM p.Verb p.Count↔wU p.Verb≤p.Count∧p.Count≤Az p.Verb∧(0≤wU p.Verb∨p.Count≠0):=by
  have hl:(zM p.Verb= -99∨zM p.Verb= -9∨(zM p.Verb=0∧p.Verb=14)∨zM p.Verb=1)∧(p.Verb=14->zM p.Verb=0):=by
   unfold zM
   repeat' split
   all_goals omega
  unfold rM wU Az
  by_cases hu:cU p.Verb
  ·simp only[if_pos hu]; omega
  ·simp only[if_neg hu]; omega
 refine OY (JD (H:=H) (wU p.Verb≤p.Count∧p.Count≤Az p.Verb∧(0≤wU p.Verb∨p.Count≠0)) (fun j hj=>dD (fun h1=>dD (fun h2=>dD (fun h3=>hj _ ?_) (fun h3=>hj _ ?_)) (fun h2=>hj _ ?_)) (fun h1=>hj _ ?_)) (hq _ (by rw[decide_eq_true_eq,key])))
 all_goals (dsimp only at *; simp; omega)
theorem ab2{v w:Int}{Q:Bool×Bool×Bool×Bool×Bool×Unit->Heap->Prop}(hq:Q (decide (cU v),decide (sU v w),decide (tU v w),decide (v=9),decide (v=7),()) H):CALL P [ah,ah,ah,ah,ah] vZ [.int .u8 v,.int .u8 w] H Q:=by
 apply QB
 unfold wM
 have fin:∀a b c d e:Bool,(a=true↔cU v)->(b=true↔sU v w)->(c=true↔tU v w)->(d=true↔v=9)->(e=true↔v=7)->Q (a,b,c,d,e,()) H:=fun a b c d e h1 h2 h3 h4 h5=>by
  have e1:a=decide (cU v):=by rw[Bool.eq_iff_iff,h1]; simp
  have e2:b=decide (sU v w):=by rw[Bool.eq_iff_iff,h2]; simp
  have e3:c=decide (tU v w):=by rw[Bool.eq_iff_iff,h3]; simp
  have e4:d=decide (v=9):=by rw[Bool.eq_iff_iff,h4]; simp
  have e5:e=decide (v=7):=by rw[Bool.eq_iff_iff,h5]; simp
  rw[e1,e2,e3,e4,e5]; exact hq
 have hc:(decide (Az v>0))=true↔cU v:=by rw[decide_eq_true_eq,aag]
 refine OY (bf (fM (fun h11=>fM (fun h12=> ?_) (fun h12=>fM (fun h13=> ?_) (fun h13=> ?_))) (fun h11=>fM (fun h12=> ?_) (fun h12=>fM (fun h13=> ?_) (fun h13=> ?_)))))
 all_goals exact fin _ _ _ _ _ hc (by simp[sU]; try omega) (by simp[tU]; try omega) (by simp) (by simp)
theorem adL{p:Pt}(ok:OkP p){Q:Int×Unit->Heap->Prop}(hq:Q (GU p,()) H):CALL P [au .i64] sS [aP.enc p] H Q:=by
 apply NI
 unfold uw
 rw[Xq]at hq
 refine hJ (out6 p) (fun j hj=> ?_) (fun h=>by rwa [if_pos h]at hq) (fun h1=> ?_)
 ·unfold out6 at hj
  exact dD (fun h=>hj _ (by simp; omega)) (fun h1=>dD (fun h=>hj _ (by simp; omega)) (fun h2=>dD (fun h=>hj _ (by simp; omega)) (fun h3=>dD (fun h=>hj _ (by simp; omega)) (fun h4=>dD (fun h=>hj _ (by simp; omega)) (fun h5=>hj _ (by simp; omega))))))
 rw[if_neg h1]at hq
 refine ab2 ?_
 refine hJ (Yo p) (fun j hj=> ?_) (fun h=>by rwa [if_pos h]at hq) (fun h2=> ?_)
 ·unfold Yo at hj
  exact Xr ⟨rfl,aae (Ak (fun h=>hj _ (by dsimp only at h; simp; omega)) (fun h=>fM (fun h2=>hj _ (by dsimp only at h; simp; omega)) (fun h2=>hj _ (by dsimp only at h; simp; omega))))⟩
 rw[if_neg h2]at hq
 refine aaf fun r hr2=>bK (fun e=> ?_) (fun e=> ?_)
 ·rw[if_pos (fun q=>by rw[hr2.2 q]at e; cases e)]at hq; exact hq
 have e3:lQ p:=hr2.1 (by simpa using e)
 rw[if_neg (fun q=>q e3)]at hq
 refine VZ fun r hr3=>bK (fun e=> ?_) (fun e=> ?_)
 ·rw[if_pos (fun q=>by rw[hr3.2 q]at e; cases e)]at hq; exact hq
 have e4:rM p.Verb p.Count:=hr3.1 (by simpa using e)
 rw[if_neg (fun q=>q e4)]at hq
 have hs:=ok.s
 have ht:=ok.t
 have hm:=ok.m
 rw[dG (x:=p.Suit) (by omega) (by omega),dG (x:=p.Trait) (by omega) (by omega),dG (x:=p.Mark) (by omega) (by omega)]
 refine hJ (¬okF p) (fun j hj=> ?_) (fun h=>by rwa [if_pos h]at hq) (fun h5=> ?_)
 ·refine FP fun r1 hr1=>bK (fun e=>hj _ ?_) (fun e=>FP fun r2 hr2=>bK (fun e2=>hj _ ?_) (fun e2=>FP fun r3 hr3=>hj _ ?_))
  ·simp only[true_iff]; exact fun q=>by rw[hr1.2 q.1]at e; cases e
  ·simp only[true_iff]; exact fun q=>by rw[hr2.2 q.2.1]at e2; cases e2
  ·have g1:=hr1.1 (by simpa using e)
   have g2:=hr2.1 (by simpa using e2)
   rw[Bool.not_eq_true',aeE,hr3]
   exact⟨fun q k=>q k.2.2,fun q k=>q ⟨g1,g2,k⟩⟩
 rw[if_neg h5]at hq
 refine hJ (Yn p) (fun j hj=> ?_) (fun h=>by rwa [if_pos h]at hq) (fun h6=>by rwa [if_neg h6]at hq)
 have hn:p.Name.toList=p.Name.data.toList:=ByteArray.toList_eq _
 rw[hn,zi]
 unfold Yn at hj
 by_cases h7:p.Verb=7
 ·rw[if_pos h7]at hj
  simp only[h7,decide_true]
  refine fB rfl (Z7 (QI (fun h=>hj _ (by simpa using h)) (fun h=>bG rfl (hj _ (by simpa using h)))))
 ·rw[if_neg h7]at hj
  simp only[h7,decide_false]
  exact bG rfl (fB rfl (hj _ (by simp)))
end
end Go.Proofs.YtijnknjopjmiiaaGreatDoor.Zq
end
section
namespace Go.Proofs.YtijnknjopjmiiaaGreatDoor.Zq
section
end
section
def bl(B:Option Addr):List Nat:=match B with|some a=>[a.block]|none=>[]
def Ux(T:Tag)(H:Heap)(s:Sl)(l:List T.α):Prop:=
 s.len=l.length∧s.len≤s.cap∧s.cap≤9223372036854775807∧(s.p=none∧l=[]∧s.cap=0∨∃c r,s.p=some ⟨c,0,none⟩∧H[c]? =some (.row (fl T r) T.n false false true)∧s.cap≤r.length∧r.take s.len=l)
theorem Ow.j{T:Tag}{H:Heap}{s:Sl}{l sp:List T.α}(h:Ow T H s l sp):Ux T H s l:=by
 obtain⟨h1,h2,h0,⟨h3,h4,h5⟩|⟨c,h4,h5⟩⟩:=h
 ·subst h4; subst h5; exact⟨h1,by omega,h0,.inl ⟨h3,rfl,by simpa using h2⟩⟩
 ·exact⟨h1,by omega,h0,.inr ⟨c,l++sp,h4,h5,by simp[h2],by rw[h1]; simp⟩⟩
theorem Ux.nil(T:Tag)(H:Heap):Ux T H ⟨none,0,0⟩ []:=(Ow.nil T H).j
theorem Ux.xC{T:Tag}{H:Heap}{s:Sl}{l:List T.α}(h:Ux T H s l):fF T H s l:=by
 obtain⟨h1,_,_,⟨h3,h4,h5⟩|⟨c,r,h3,h4,_,h6⟩⟩:=h
 ·exact⟨h1,.inl ⟨h3,h4,h5⟩⟩
 ·refine⟨h1,.inr (.inr ⟨c,[],fl T (r.drop s.len),T.n,false,false,h3,?_⟩)⟩
  rw[h4,←h6,List.nil_append,←iK,List.take_append_drop]
theorem Ux.bZ{T:Tag}{H H':Heap}{s:Sl}{l:List T.α}{B:List Nat}(h:Ux T H s l)(f:bI B H H')(o:∀d∈bl s.p,d∉B):Ux T H' s l:=by
 obtain⟨h1,h2,h0,h3|⟨c,r,h4,h5,h6⟩⟩:=h
 ·exact⟨h1,h2,h0,.inl h3⟩
 ·exact⟨h1,h2,h0,.inr ⟨c,r,h4,f.get (o c (by rw[h4]; simp[bl])) h5,h6⟩⟩
theorem Ux.lt{T:Tag}{H:Heap}{s:Sl}{l:List T.α}(h:Ux T H s l):∀d∈bl s.p,d<H.length:=by
 obtain⟨_,_,_,⟨h3,_⟩|⟨c,r,h4,h5,_⟩⟩:=h
 ·rw[h3]; simp[bl]
 ·rw[h4]; simp[bl]; exact bW h5
theorem Ux.ptr{T:Tag}{H:Heap}{s:Sl}{l:List T.α}(h:Ux T H s l):s.p=none∨∃c,s.p=some ⟨c,0,none⟩∧bl s.p=[c]:=by
 obtain⟨_,_,_,⟨h3,_⟩|⟨c,r,h4,h5,_⟩⟩:=h
 ·exact .inl h3
 ·exact .inr ⟨c,h4,by rw[h4]; rfl⟩
theorem Ux.drop{E:Env}{T:Tag}{ts:TypeId}{z:T.α}(ty:Tt E T ts z){H:Heap}{s:Sl}{l:List T.α}(h:Ux T H s l){i:Int}{n:Nat}(hi:i=n)(hn:n≤l.length)(hp:s.p≠none){k:Sl->Prop}(hk:∀s',fF T H s' (l.drop n)->k s'):dX aK (dQ E ts s.v (some (.int .i64 i)) none none H) k:=by
 obtain⟨⟨ti,e,te,e1,e2,e3,e4,e5,e6,e7⟩,hn0,hT,hone⟩:=ty
 subst hi
 obtain⟨p,m,c⟩:=s
 obtain⟨g1,g2,g0,⟨g3,g4,g5⟩|⟨d,r,g3,g4,g5,g6⟩⟩:=h
 ·exact absurd g3 hp
 ·simp only at g1 g2 g3 g5 g6 g0; subst g3
  refine⟨⟨some ⟨d,if c=n then 0 else 0+n*te.size,none⟩,m-n,c-n⟩,?_,hk _ ⟨by simp; omega,?_⟩⟩
  ·unfold dQ
   have hex:Zq.exact H d 0 c=true:=by unfold Zq.exact; rw[g4]; rfl
   simp only[e1,e2,e3,Option.bind_some,Sl.v,dw,Option.isSome_none,Bool.false_and,Bool.false_eq_true,if_false,hex,or_true,if_true]
   rw[if_pos (by omega)]
   simp only[Option.bind_some,Int.toNat_natCast]
   rw[if_pos (by omega)]
   simp[Tag.enc,PI]
  ·refine .inr (.inr ?_)
   by_cases ec:c=n
   ·have:l.drop n=[]:=by rw[List.drop_eq_nil_iff]; omega
    exact⟨d,[],fl T r,T.n,false,false,by simp[ec],by rw[g4,this]; rfl⟩
   ·refine⟨d,fl T (r.take n),fl T (r.drop m),T.n,false,false,?_,?_⟩
    ·simp only[if_neg ec,bY hT,List.length_take,e4,Nat.zero_add]
     rw[Nat.min_eq_left (by omega)]
    ·have:r=r.take n++(l.drop n++r.drop m):=by
      rw[←g6]
      conv=>lhs; rw[←List.take_append_drop n r]
      congr 1
      rw[←List.take_append_drop m r,List.take_append_drop]
      conv=>lhs; rw[←List.take_append_drop m r]
      rw[List.drop_append_of_le_length (by simp; omega)]
     rw[g4]
     conv=>lhs; rw[this]
     rw[iK,iK]
theorem Yp{E:Env}{T:Tag}{ts:TypeId}{z:T.α}(ty:Tt E T ts z){H:Heap}{s:Sl}{l sp:List T.α}(h:Ow T H s l sp){i:Int}{n:Nat}(hi:i=n)(hn:n≤l.length){k:Sl->Prop}(hk:k ⟨s.p,n,s.cap⟩):dX aK (dQ E ts s.v none (some (.int .i64 i)) none H) k:=by
 obtain⟨⟨ti,e,te,e1,e2,e3,e4,e5,e6,e7⟩,hn0,hT,hone⟩:=ty
 subst hi
 refine⟨⟨s.p,n,s.cap⟩,?_,hk⟩
 obtain⟨p,m,c⟩:=s
 obtain⟨g1,g2,g0,⟨g3,g4,g5⟩|⟨d,g3,g4⟩⟩:=h
 ·simp only at g1 g2 g3; subst g3; subst g4; subst g5; subst g1; subst g2
  have:n=0:=by simpa using hn
  subst this
  unfold dQ
  simp only[e1,e2,e3,Option.bind_some,Sl.v,List.length_nil]
  rfl
 ·simp only at g1 g2 g3; subst g3
  unfold dQ
  have hex:Zq.exact H d 0 c=true:=by unfold Zq.exact; rw[g4]; rfl
  simp only[e1,e2,e3,Option.bind_some,Sl.v,dw,Option.isSome_none,Bool.false_and,Bool.false_eq_true,if_false,hex,or_true,if_true]
  rw[if_pos (by omega)]
  simp only[Option.bind_some]
  rw[if_pos (by omega)]
  simp[Tag.enc,PI]
theorem Ow.st{T:Tag}(hT:∀x,(T.cells x).length=T.n)(hone:∀x,(T.cells x).all cell1=true){H:Heap}{s:Sl}{l sp:List T.α}(h:Ow T H s l sp){i:Int}{k:Nat}(hi:i=k)(hk:k<l.length)(x:T.α){sz:Nat}(hz:sz=T.n){K:Heap->Prop}
  (hK:∀H',Ow T H' s (l.set k x) sp->After s H H'->H'.length=H.length->K H'):dR s.p s.len i sz fun b o=>ST H b o (T.cells x) K:=by
 obtain⟨h1,h2,h0,⟨_,h3,_⟩|⟨c,h3,h4⟩⟩:=h
 ·rw[h3]at hk; simp at hk
 ·have hlt:=bW h4
  unfold dR NIL
  rw[h3]
  subst hi
  refine⟨⟨by omega,by omega⟩,?_⟩
  have hcut:=iH l k l[k] (List.getElem?_eq_getElem hk)
  refine qc (fl T (l.take k)) (T.cells l[k]) (fl T (l.drop (k+1))++fl T sp) h4 (by rw[iK,hcut]; simp[List.append_assoc]) (by rw[bY hT,List.length_take,Nat.min_eq_left (by omega),hz]; simp) (by rw[hT,hT]) (hone x) ?_
  refine hK _ ⟨by simpa using h1,by simpa using h2,h0,.inr ⟨c,h3,?_⟩⟩ ⟨by simp,fun d _ hd=>by rw[List.getElem?_set_ne (by rintro rfl; exact hd h3)]⟩ (by simp)
  rw[fH hlt,iK,List.set_eq_take_append_cons_drop,if_pos hk]
  simp[fl]
end
end Go.Proofs.YtijnknjopjmiiaaGreatDoor.Zq
end
section
namespace Go.Proofs.YtijnknjopjmiiaaGreatDoor.Zq
open Zv
abbrev TP:Tag:=aP
abbrev TC:Tag:=aA
theorem hTP(x:Pt):(TP.cells x).length=TP.n:=rfl
theorem Y5(x:ay):(TC.cells x).length=TC.n:=rfl
def zP:Pt:=⟨0,0,0,0,0,0,0,ByteArray.mk #[]⟩
theorem tyP:Tt E TP 95 zP:=⟨⟨_,_,_,rfl,rfl,rfl,rfl,by decide,by decide,rfl⟩,by decide,hTP,fun _=>rfl⟩
section
variable{H:Heap}
structure OkG(g:ay):Prop where
 nm:g.Name.size≤9223372036854775807
 s:0≤g.Suit∧g.Suit≤255
 k:0≤g.Kind∧g.Kind≤255
 t:0≤g.Traits∧g.Traits≤65535
theorem KE(l:List UInt8):((ByteArray.mk l.toArray).toList==(ByteArray.mk #[]).toList)=l.isEmpty:=by
 rw[ByteArray.toList_mk,zi]; cases l<;>rfl
theorem V3{s:Int}{Q:ByteArray×Unit->Heap->Prop}(hq:∀n:ByteArray,((n.toList==(ByteArray.mk #[]).toList)=true↔¬(1≤s∧s≤6))->Q (n,()) H):CALL P [dH] yF [.int .u8 s] H Q:=by
 apply Uk
 unfold yX
 refine fM (fun h=>hq _ ?_) (fun h1=>fM (fun h=>hq _ ?_) (fun h2=>fM (fun h=>hq _ ?_) (fun h3=>fM (fun h=>hq _ ?_) (fun h4=>fM (fun h=>hq _ ?_) (fun h5=>fM (fun h=>hq _ ?_) (fun h6=>hq _ ?_))))))
 ·rw[KE [97,105,114]]; simp; omega
 ·rw[KE [101,97,114,116,104]]; simp; omega
 ·rw[KE [102,105,114,101]]; simp; omega
 ·rw[KE [119,97,116,101,114]]; simp; omega
 ·rw[KE [118,111,105,100]]; simp; omega
 ·rw[KE [103,111,108,100]]; simp; omega
 ·rw[KE []]; simp; omega
theorem adM{s:Int}{Q:ByteArray×Unit->Heap->Prop}(hq:∀n:ByteArray,((n.toList==(ByteArray.mk #[]).toList)=true↔¬(1≤s∧s≤3))->Q (n,()) H):CALL P [dH] yG [.int .u8 s] H Q:=by
 apply Un
 unfold yY
 refine fM (fun h=>hq _ ?_) (fun h1=>fM (fun h=>hq _ ?_) (fun h2=>fM (fun h=>hq _ ?_) (fun h3=>hq _ ?_)))
 ·rw[KE [117,110,105,116]]; simp; omega
 ·rw[KE [115,112,101,108,108]]; simp; omega
 ·rw[KE [114,101,108,105,99]]; simp; omega
 ·rw[KE []]; simp; omega
theorem FQ{x m:Int}{Q:Bool×Unit->Heap->Prop}(hq:Q (decide (0≤x∧x≤m),()) H):CALL P [ah] kJ [.int .i64 x,.int .i64 m] H Q:=by
 apply NU
 unfold uD
 exact JD (H:=H) (0≤x∧x≤m) (fun j hj=>dD (fun h=>hj _ (by simp; omega)) (fun h=>hj _ (by simp; omega))) hq
theorem qK{x lo m:Int}{Q:Bool×Unit->Heap->Prop}(hq:Q (decide (lo≤x∧x≤m),()) H):CALL P [ah] fP [.int .i64 x,.int .i64 lo,.int .i64 m] H Q:=by
 apply J3
 unfold qE
 exact JD (H:=H) (lo≤x∧x≤m) (fun j hj=>dD (fun h=>hj _ (by simp; omega)) (fun h=>hj _ (by simp; omega))) hq
theorem KF{x:Int}(h0:0≤x){Q:Bool×Unit->Heap->Prop}(hq:Q (decide (x<256),()) H):CALL P [ah] kH [.int .u16 x] H Q:=by
 apply NM
 unfold uy
 refine⟨by omega,Qd (Q:=fun r=>Q r H) hq ?_⟩
 have e:(2:Int) ^ (min (8:Int).toNat (IntKind.bits .u16))=256:=by decide
 rw[e,Int.fdiv_eq_ediv_of_nonneg _ (by omega)]
 congr 1
 rw[Bool.eq_iff_iff]; simp only[decide_eq_true_eq,beq_iff_eq]; omega
theorem Yq{x:Int}{Q:Bool×Unit->Heap->Prop}(hq:Q (decide (x<256),()) H):CALL P [ah] sQ [.int .u16 x] H Q:=by
 apply ND
 unfold uq
 exact hq
def Yr(g:ay):Prop:=¬(1≤g.Suit∧g.Suit≤6)∨¬(1≤g.Kind∧g.Kind≤3)
def Uy(g:ay):Prop:=¬(0≤g.Cost∧g.Cost≤10)∨¬(0≤g.Power∧g.Power≤99)∨¬(0≤g.Health∧g.Health≤99)
def Yt(g:ay):Prop:=g.Kind=1∧g.Health=0∨g.Kind≠1∧(g.Power≠0∨g.Health≠0)
def Yu(g:ay):Prop:=¬(g.Traits<256)∨g.Kind=2∧g.Token=true
open Classical in
theorem Xt(g:ay)(ps:List Pt):zN ⟨g,ps⟩=if ¬nU g.Name then 4 else if Yr g then 8 else if Uy g then 2 else if Yt g then 8 else if Yu g then 8 else if 4<ps.length then 3 else 0:=by
 unfold zN Yr Uy Yt Yu
 congr
theorem aah{g:ay}{j:(Bool×Unit)×Unit->Heap->Prop}(hj:∀r:Bool,(r=true↔Yt g)->j ((r,()),()) H):
  aO (g.Kind==1) (aO (g.Health==0) (j ((true,()),(())) H) (aO (!(g.Kind==1)) (aO (g.Power !=0) (j ((true,()),(())) H) (j ((g.Health !=0,()),(())) H)) (j ((false,()),(())) H))) (aO (!(g.Kind==1)) (aO (g.Power !=0) (j ((true,()),(())) H) (j ((g.Health !=0,()),(())) H)) (j ((false,()),(())) H)):=by
 unfold Yt at hj
 refine fM (fun h=>fM (fun h2=>hj _ (by simp; omega)) (fun h2=>bG (by simp[h]) (hj _ (by simp; omega)))) (fun h=>fB (by simpa using h) (Ak (fun h2=>hj _ (by simp; omega)) (fun h2=>hj _ (by simp; omega))))
theorem adi{g:ay}{j:(Bool×Unit)×Unit->Heap->Prop}(hj:∀r:Bool,(r=true↔Yu g)->j ((r,()),()) H):
  aO (!decide (g.Traits<256)) (j ((true,()),(())) H) (aO (g.Kind==2) (j ((g.Token,()),(())) H) (j ((false,()),(())) H)):=by
 unfold Yu at hj
 refine QI (fun h=>hj _ (by simp; omega)) (fun h=>fM (fun h2=>hj _ ?_) (fun h2=>hj _ (by simp; omega)))
 constructor
 ·exact fun q=>.inr ⟨h2,q⟩
 ·rintro(q|q)
  ·exact absurd h q
  ·exact q.2
theorem adN{g:ay}{ps:List Pt}(ok:OkG g)(hl:g.Parts.len=ps.length){Q:Int×Unit->Heap->Prop}(hq:Q (zN ⟨g,ps⟩,()) H):CALL P [au .i64] yE [TC.enc g] H Q:=by
 apply Uh
 unfold yV
 rw[Xt]at hq
 refine ZX ok.nm (QI (fun h=>by rwa [if_pos h]at hq) (fun h0=> ?_))
 rw[if_neg (fun q=>q h0)]at hq
 refine hJ (Yr g) (fun j hj=> ?_) (fun h=>by rwa [if_pos h]at hq) (fun h1=> ?_)
 ·unfold Yr at hj
  refine V3 fun n hn=>bK (fun e=>hj _ ?_) (fun e=>adM fun m hm=>hj _ ?_)
  ·have:=hn.1 e; simp; omega
  ·have:1≤g.Suit∧g.Suit≤6:=Classical.byContradiction fun q=>by rw[hn.2 q]at e; cases e
   rw[hm]; omega
 rw[if_neg h1]at hq
 refine hJ (Uy g) (fun j hj=> ?_) (fun h=>by rwa [if_pos h]at hq) (fun h2=> ?_)
 ·unfold Uy at hj
  exact FQ (QI (fun h=>hj _ (by simp; omega)) (fun h=>FQ (QI (fun h=>hj _ (by simp; omega)) (fun h=>FQ (hj _ (by simp; omega))))))
 rw[if_neg h2]at hq
 refine hJ (Yt g) (fun j hj=>aah hj) (fun h=>by rwa [if_pos h]at hq) (fun h3=> ?_)
 rw[if_neg h3]at hq
 refine hJ (Yu g) (fun j hj=>KF ok.t.1 (adi hj)) (fun h=>by rwa [if_pos h]at hq) (fun h4=> ?_)
 rw[if_neg h4]at hq
 exact dD (fun h=>by rwa [if_pos (by omega)]at hq) (fun h=>by rwa [if_neg (by omega)]at hq)
def QK(k:Int)(p:Pt):Prop:=k=2∧p.When≠1∨k=3∧p.When=4
open Classical in
theorem V4(k:Int)(p:Pt)(r:List Pt):JC k (p::r)=if GU p≠0 then GU p else if QK k p then 8 else JC k r:=by
 unfold QK
 rw[JC]
 congr
theorem KG{k:Int}{ps:List Pt}{Qv:Int->Prop}{F:((Int×Unit)×Unit->Heap->Prop)->(Int×Unit)×Unit->Heap->Prop}
  (hF:∀(G:(Int×Unit)×Unit->Heap->Prop) (n:Nat),(∀p,ps[n]? =some p->(GU p≠0->Qv (GU p))->(GU p=0->QK k p->Qv 8)->(GU p=0->¬QK k p->G (((n:Int)+1,()),()) H)->F G (((n:Int),()),()) H)∧(n=ps.length->Qv 0->F G (((n:Int),()),()) H))
  (hq:Qv (JC k ps)):LOOP F ((0,()),()) H:=by
 refine bF (fun(t:(Int×Unit)×Unit) H'=>H'=H∧∃n:Nat,t.1.1=n∧n≤ps.length∧Qv (JC k (ps.drop n))) (fun t=>ps.length-t.1.1.toNat) ?_ ⟨rfl,0,rfl,Nat.zero_le _,by simpa using hq⟩
 rintro G ⟨⟨i,_⟩,_⟩ H' ⟨rfl,n,hi,hn,ha⟩ hG
 simp only at hi; subst hi
 dsimp only at hG
 obtain⟨k1,k2⟩:=hF G n
 by_cases e:n=ps.length
 ·refine k2 e ?_
  rw[e,List.drop_length]at ha
  exact ha
 ·have hlt:n<ps.length:=by omega
  rw[List.drop_eq_getElem_cons hlt,V4]at ha
  refine k1 _ (List.getElem?_eq_getElem hlt) (fun h=>by rwa [if_pos h]at ha) (fun h h2=>by rwa [if_neg (fun q=>q h),if_pos h2]at ha) (fun h h2=>hG _ _ ⟨rfl,n+1,by simp,hlt,by rwa [if_neg (fun q=>q h),if_neg h2]at ha⟩ (by simp; omega))
theorem ab3{k:Int}{w:Int}{p:Pt}(hw:p.When=w){j:(Bool×Unit)×Unit->Heap->Prop}(hj:∀r:Bool,(r=true↔QK k p)->j ((r,()),()) H):
  aO (k==2) (aO (w !=1) (j ((true,()),(())) H) (aO (k==3) (j ((w==4,()),(())) H) (j ((false,()),(())) H))) (aO (k==3) (j ((w==4,()),(())) H) (j ((false,()),(())) H)):=by
 subst hw
 unfold QK at hj
 exact fM (fun h=>Ak (fun h2=>hj _ (by simp; omega)) (fun h2=>fM (fun h3=>by omega) (fun h3=>hj _ (by simp; omega)))) (fun h=>fM (fun h3=>hj _ (by simp; omega)) (fun h3=>hj _ (by simp; omega)))
theorem aai{g:ay}{ps:List Pt}(ok:OkG g)(hs:fF TP H g.Parts ps)(op:∀p∈ps,OkP p){Q:Int×Unit->Heap->Prop}(hq:Q (xE ⟨g,ps⟩,()) H):CALL P [au .i64] vU [TC.enc g] H Q:=by
 apply Qh
 unfold wC
 have hl:=hs.1
 unfold xE at hq
 refine adN ok hl (Ak (fun h=>by rwa [if_neg h]at hq) (fun h=>bf ?_))
 dsimp only at h
 have h4:ps.length≤4:=qw (c:=⟨g,ps⟩) h
 rw[if_pos h]at hq
 refine KG (k:=g.Kind) (ps:=ps) (Qv:=fun r=>Q (r,()) H) (fun G n=>⟨fun p hx k1 k2 k3=> ?_,fun e k=>bG (decide_eq_false (by simp only; omega)) k⟩) hq
 have hlt:=(List.getElem?_eq_some_iff.1 hx).1
 refine fB (decide_eq_true (by simp only; omega)) ?_
 refine bD (T:=TP) hTP hs rfl hx rfl (adK (op p (List.mem_of_getElem? hx)) (Ak (fun h=>k1 h) (fun h=> ?_)))
 dsimp only at h
 refine hJ (QK g.Kind p) (fun j hj=>ab3 rfl hj) (fun h2=>k2 h h2) (fun h2=> ?_)
 dsimp only
 rw[dG (by omega) (by omega)]
 exact k3 h h2
theorem Uz{s:Sl}{ps:List Pt}(h:fF TP H s ps){n:Nat}{p:Pt}(hx:ps[n]? =some p){K:Int->Prop}(hk:K p.When):dR s.p s.len (n:Int) 8 fun b o=>LD (au .u8) H b (o+0) K:=by
 have hl:=(List.getElem?_eq_some_iff.1 hx).1
 obtain⟨h1,⟨_,h2,_⟩|⟨_,_,_,h2,_⟩|⟨b,A,B,z,o,ro,h3,h4⟩⟩:=h
 ·subst h2; simp at hl
 ·subst h2; simp at hl
 ·unfold dR NIL
  rw[h3]
  refine⟨⟨by omega,by omega⟩,?_⟩
  refine dI (T:=au .u8) p.When (A++fl TP (ps.take n)) ((TP.cells p).drop 1++(fl TP (ps.drop (n+1))++B)) h4 ?_ ?_ rfl hk
  ·rw[iH (T:=TP) ps n p hx]; simp[List.append_assoc]
  ·rw[List.length_append,bY hTP,List.length_take,Nat.min_eq_left (by omega),Int.toNat_natCast]; rfl
theorem Yv{g:ay}{ps:List Pt}(ok:OkG g)(hs:fF TP H g.Parts ps)(op:∀p∈ps,OkP p){Q:Int×Unit->Heap->Prop}(hq:Q (xE ⟨g,ps⟩,()) H):CALL P [au .i64] sN [TC.enc g] H Q:=by
 apply Nk
 unfold uh
 have hl:=hs.1
 have o1:=ok.s
 have o2:=ok.k
 unfold xE at hq
 have fin:∀r,r≠0->zN ⟨g,ps⟩=r->Q (r,()) H:=fun r h e=>by rw[e,if_neg h]at hq; exact hq
 have e:=Xt g ps
 refine Z8 (QI (fun h=>fin 4 (by decide) (by rw[e,if_pos h])) (fun h0=> ?_))
 rw[if_neg (fun q=>q h0)]at e
 rw[dG (x:=g.Suit) (by omega) (by omega),dG (x:=g.Kind) (by omega) (by omega)]
 refine hJ (Yr g) (fun j hj=> ?_) (fun h=>fin 8 (by decide) (by rw[e,if_pos h])) (fun h1=> ?_)
 ·unfold Yr at hj
  exact qK (QI (fun h=>hj _ (by simp; omega)) (fun h=>qK (hj _ (by simp; omega))))
 rw[if_neg h1]at e
 refine hJ (Uy g) (fun j hj=> ?_) (fun h=>fin 2 (by decide) (by rw[e,if_pos h])) (fun h2=> ?_)
 ·unfold Uy at hj
  exact qK (QI (fun h=>hj _ (by simp; omega)) (fun h=>qK (QI (fun h=>hj _ (by simp; omega)) (fun h=>qK (hj _ (by simp; omega))))))
 rw[if_neg h2]at e
 refine hJ (Yt g) (fun j hj=>aah hj) (fun h=>fin 8 (by decide) (by rw[e,if_pos h])) (fun h3=> ?_)
 rw[if_neg h3]at e
 refine hJ (Yu g) (fun j hj=>Yq (adi hj)) (fun h=>fin 8 (by decide) (by rw[e,if_pos h])) (fun h4=> ?_)
 rw[if_neg h4]at e
 refine dD (fun h=>fin 3 (by decide) (by rw[e,if_pos (by omega)])) (fun h=>bf ?_)
 rw[if_neg (by omega)]at e
 have h4:ps.length≤4:=by omega
 rw[if_pos e]at hq
 refine KG (k:=g.Kind) (ps:=ps) (Qv:=fun r=>Q (r,()) H) (fun G n=>⟨fun p hx k1 k2 k3=> ?_,fun e k=>bG (decide_eq_false (by simp only; omega)) k⟩) hq
 have hlt:=(List.getElem?_eq_some_iff.1 hx).1
 refine fB (decide_eq_true (by simp only; omega)) ?_
 refine bD (T:=TP) hTP hs rfl hx rfl (adL (op p (List.mem_of_getElem? hx)) (Ak (fun h=>k1 h) (fun h=> ?_)))
 dsimp only at h
 refine hJ (QK g.Kind p) (fun j hj=> ?_) (fun h2=>k2 h h2) (fun h2=> ?_)
 ·unfold QK at hj
  refine fM (fun h=>Uz hs hx (Ak (fun h2=>hj _ (by simp; omega)) (fun h2=>fM (fun h3=>by omega) (fun h3=>hj _ (by simp; omega))))) (fun h=>fM (fun h3=>Uz hs hx (hj _ (by simp; omega))) (fun h3=>hj _ (by simp; omega)))
 ·dsimp only
  rw[dG (by omega) (by omega)]
  exact k3 h h2
end
end Go.Proofs.YtijnknjopjmiiaaGreatDoor.Zq
end
section
namespace Go.Proofs.YtijnknjopjmiiaaGreatDoor.Zq
open Zv
abbrev TM:Tag:=aT
theorem hTM(x:ak):(TM.cells x).length=TM.n:=rfl
theorem adk(x:ByteArray):(dH.cells x).length=dH.n:=rfl
section
variable{H:Heap}{b:Nat}
def KH(se:Bool)(n:Int)(cs:List ay)(ns:List ByteArray)(ms:List ak):List Value:=.bool true:: .bool se:: .int .i64 n::(fl TC cs++(fl dH ns++fl TM ms))
structure BW(H:Heap)(b:Nat)(se:Bool)(n:Int)(cs:List ay)(ns:List ByteArray)(ms:List ak):Prop where
 row:∃sz,H[b]? =some (.row (KH se n cs ns ms) sz false false true)
 c:cs.length=64
 n:ns.length=9
 m:ms.length=5
variable{se:Bool}{n:Int}{cs:List ay}{ns:List ByteArray}{ms:List ak}
theorem BW.lt(h:BW H b se n cs ns ms):b<H.length:=by obtain⟨sz,r⟩:=h.row; exact bW r
theorem BW.bZ{H':Heap}{F:List Nat}(h:BW H b se n cs ns ms)(f:bI F H H')(hb:b∉F):BW H' b se n cs ns ms:=by
 obtain⟨sz,r⟩:=h.row
 exact⟨⟨sz,f.get hb r⟩,h.c,h.n,h.m⟩
theorem BW.QL(h:BW H b se n cs ns ms){o:Nat}(ho:o=0){K:Bool->Prop}(hk:K true):LD ah H b o K:=by
 obtain⟨sz,r⟩:=h.row
 exact dI (T:=ah) true [] _ r rfl ho rfl hk
theorem BW.Ed(h:BW H b se n cs ns ms){o:Nat}(ho:o=1){K:Bool->Prop}(hk:K se):LD ah H b o K:=by
 obtain⟨sz,r⟩:=h.row
 exact dI (T:=ah) se [.bool true] _ r rfl ho rfl hk
theorem BW.Yw(h:BW H b se n cs ns ms){o:Nat}(ho:o=2){K:Int->Prop}(hk:K n):LD (au .i64) H b o K:=by
 obtain⟨sz,r⟩:=h.row
 exact dI (T:=au .i64) n [.bool true,.bool se] _ r rfl ho rfl hk
theorem BW.cut(h:BW H b se n cs ns ms){i:Nat}{g:ay}(hx:cs[i]? =some g):KH se n cs ns ms=(.bool true:: .bool se:: .int .i64 n::fl TC (cs.take i))++(TC.cells g++(fl TC (cs.drop (i+1))++(fl dH ns++fl TM ms)))∧(.bool true:: .bool se:: .int .i64 n::fl TC (cs.take i):List Value).length=3+i*9:=by
 have hi:=(List.getElem?_eq_some_iff.1 hx).1
 have hc:=h.c
 refine⟨?_,?_⟩
 ·unfold KH
  rw[iH (T:=TC) cs i g hx]; simp[List.append_assoc]
 ·simp only[List.length_cons]
  rw[bY Y5,List.length_take,Nat.min_eq_left (by omega)]
  show i*9+1+1+1=_; omega
theorem BW.Iw(h:BW H b se n cs ns ms){i:Nat}{g:ay}(hx:cs[i]? =some g){o:Nat}(ho:o=3+i*9){K:ay->Prop}(hk:K g):LD TC H b o K:=by
 obtain⟨sz,r⟩:=h.row
 obtain⟨e1,e2⟩:=h.cut hx
 exact dI (T:=TC) g _ _ r e1 (by rw[e2,ho]) rfl hk
theorem BW.ld_name(h:BW H b se n cs ns ms){i:Nat}{g:ay}(hx:cs[i]? =some g){o:Nat}(ho:o=3+i*9){K:ByteArray->Prop}(hk:K g.Name):LD dH H b o K:=by
 obtain⟨sz,r⟩:=h.row
 obtain⟨e1,e2⟩:=h.cut hx
 exact dI (T:=dH) g.Name _ ((TC.cells g).drop 1++(fl TC (cs.drop (i+1))++(fl dH ns++fl TM ms))) r (by rw[e1]; rfl) (by rw[e2,ho]) rfl hk
theorem BW.ab4(h:BW H b se n cs ns ms){i:Nat}{g:ay}(hx:cs[i]? =some g){o:Nat}(ho:o=3+i*9+2){K:Int->Prop}(hk:K g.Kind):LD (au .u8) H b o K:=by
 obtain⟨sz,r⟩:=h.row
 obtain⟨e1,e2⟩:=h.cut hx
 exact dI (T:=au .u8) g.Kind ((.bool true:: .bool se:: .int .i64 n::fl TC (cs.take i))++[.string g.Name,.int .u8 g.Suit]) ((TC.cells g).drop 3++(fl TC (cs.drop (i+1))++(fl dH ns++fl TM ms))) r (by rw[e1]; simp[List.append_assoc]) (by rw[List.length_append,e2,ho]; rfl) rfl hk
theorem BW.UA(h:BW H b se n cs ns ms){i:Nat}(hi:i<64)(g:ay){o:Nat}(ho:o=3+i*9){K:Heap->Prop}(hk:∀H',BW H' b se n (cs.set i g) ns ms->bI [b] H H'->K H'):ST H b o (TC.cells g) K:=by
 obtain⟨sz,r⟩:=h.row
 have hc:=h.c
 have hx:cs[i]? =some cs[i]:=List.getElem?_eq_getElem (by omega)
 obtain⟨e1,e2⟩:=h.cut hx
 refine qc _ (TC.cells cs[i]) _ r e1 (by rw[e2,ho]) rfl rfl (hk _ ⟨⟨sz,?_⟩,by simpa using hc,h.n,h.m⟩ (bI.set _ _ (by simp)))
 rw[fH (bW r)]
 have hx2:(cs.set i g)[i]? =some g:=List.getElem?_set_self (by omega)
 have hb:BW (H.set b (.row (KH se n (cs.set i g) ns ms) sz false false true)) b se n (cs.set i g) ns ms:=⟨⟨sz,fH (bW r)⟩,by simpa using hc,h.n,h.m⟩
 rw[(hb.cut hx2).1,List.take_set_of_le (Nat.le_refl _),List.drop_set_of_lt (by omega)]
theorem BW.Xe(h:BW H b se n cs ns ms)(n':Int){o:Nat}(ho:o=2){K:Heap->Prop}(hk:∀H',BW H' b se n' cs ns ms->bI [b] H H'->K H'):ST H b o [.int .i64 n'] K:=by
 obtain⟨sz,r⟩:=h.row
 exact qc [.bool true,.bool se] [.int .i64 n] _ r rfl ho rfl rfl (hk _ ⟨⟨sz,by rw[fH (bW r)]; rfl⟩,h.c,h.n,h.m⟩ (bI.set _ _ (by simp)))
theorem BW.V5(h:BW H b se n cs ns ms)(se':Bool){o:Nat}(ho:o=1){K:Heap->Prop}(hk:∀H',BW H' b se' n cs ns ms->bI [b] H H'->K H'):ST H b o [.bool se'] K:=by
 obtain⟨sz,r⟩:=h.row
 exact qc [.bool true] [.bool se] _ r rfl ho rfl rfl (hk _ ⟨⟨sz,by rw[fH (bW r)]; rfl⟩,h.c,h.n,h.m⟩ (bI.set _ _ (by simp)))
theorem nbl{T:Tag}{H H':Heap}{s:Sl}{l sp:List T.α}(n:bQ T H s H' l sp):∀d∈bl s.p,H.length≤d:=fun d hd=>by
 obtain⟨_,_,_,⟨q,_⟩|⟨c,q,_⟩⟩:=n.1
 ·rw[q]at hd; simp[bl]at hd
 ·have:=n.2.1 c q
  rw[q]at hd; simp[bl]at hd; omega
structure CR(m:Nat)(H:Heap)(g:ay)(c:Cd):Prop where
 e:bare g=c.g
 p:fF TP H g.Parts c.ps
 lo:∀d∈bl g.Parts.p,m≤d
theorem CR.bZ{m:Nat}{H':Heap}{F:List Nat}{g:ay}{c:Cd}(h:CR m H g c)(f:bI F H H')(hF:∀d∈F,d<m):CR m H' g c:=
 ⟨h.e,h.p.bZ f fun d hd o e=>by have:=h.lo d (by rw[e]; simp[bl]); have:=hF d hd; omega,h.lo⟩
structure BP(m:Nat)(H:Heap)(b:Nat)(se:Bool)(B:List Cd)(ms:List ak):Prop where
 w:∃cs ns,BW H b se B.length cs ns ms∧∀(i:Nat) (c:Cd),B[i]? =some c->∃g,cs[i]? =some g∧CR m H g c
 few:B.length≤64
 lt:b<m
 ml:m≤H.length
variable{m:Nat}{B:List Cd}
theorem BP.bZ{H':Heap}{F:List Nat}(h:BP m H b se B ms)(f:bI F H H')(hF:∀d∈F,d<m∧d≠b):BP m H' b se B ms:=by
 obtain⟨⟨cs,ns,w,hc⟩,h2,h3,h4⟩:=h
 exact⟨⟨cs,ns,w.bZ f fun hm=>(hF b hm).2 rfl,fun i c hx=>by obtain⟨g,q1,q2⟩:=hc i c hx; exact⟨g,q1,q2.bZ f fun d hd=>(hF d hd).1⟩⟩,h2,h3,by have:=f.1; omega⟩
theorem BP.new{H':Heap}(h:BP m H b se B ms)(f:bI [] H H'):BP m H' b se B ms:=h.bZ f (by simp)
theorem Ee(h:BP m H b se B ms){Q:Bool×Unit->Heap->Prop}(hq:Q (false,()) H):CALL P [ah] eH [.pointer (some ⟨b,0,none⟩)] H Q:=by
 obtain⟨⟨cs,ns,w,hc⟩,_⟩:=h
 apply FM
 unfold nC
 exact bf (bG rfl (w.QL rfl hq))
theorem QM(h:BP m H b se B ms){Q:Int×Unit->Heap->Prop}(hq:Q (if se then 7 else 0,()) H):CALL P [au .i64] iI [.pointer (some ⟨b,0,none⟩)] H Q:=by
 apply FD
 unfold ny
 refine Ee h (bG rfl ?_)
 obtain⟨⟨cs,ns,w,hc⟩,_⟩:=h
 refine w.Ed rfl (bK (fun e=> ?_) (fun e=> ?_))
 ·rw[e]at hq; exact hq
 ·rw[e]at hq; exact hq
theorem OZ(h:BP m H b se B ms){Q:Bool×Unit->Heap->Prop}(hq:Q (se,()) H):CALL P [ah] iL [.pointer (some ⟨b,0,none⟩)] H Q:=by
 apply BH
 unfold kS
 refine Ee h (bG rfl ?_)
 obtain⟨⟨cs,ns,w,hc⟩,_⟩:=h
 exact w.Ed rfl hq
def nD(B:List Cd)(s:ByteArray):Int:=match jX B s with|some i=>i|none=> -1
theorem Gx{α:Type}{p:α->Bool}:∀{l:List α} {n:Nat},(∀(j:Nat) x,j<n->l[j]? =some x->p x=false)->(∀x,l[n]? =some x->p x=true)->n<l.length->l.findIdx? p=some n
 |[],_,_,_,h=>by simp at h
 |a::l,0,_,h2,_=>by
  have:=h2 a rfl
  simp[List.findIdx?_cons,this]
 |a::l,n+1,h1,h2,h=>by
  have ha:=h1 0 a (by omega) rfl
  have ih:=Gx (l:=l) (n:=n) (fun j x hj hx=>h1 (j+1) x (by omega) (by simpa using hx)) (fun x hx=>h2 x (by simpa using hx)) (by simpa using h)
  simp[List.findIdx?_cons,ha,ih]
theorem O1{B:List Cd}{s:ByteArray}{n:Nat}(h1:∀(j:Nat) x,j<n->B[j]? =some x->(x.g.Name.toList==s.toList)=false){c:Cd}(hx:B[n]? =some c)(h2:(c.g.Name.toList==s.toList)=true):nD B s=n:=by
 unfold nD jX
 rw[Gx (n:=n) h1 (fun x hy=>by rw[hx]at hy; cases hy; exact h2) (List.getElem?_eq_some_iff.1 hx).1]
theorem Gy{B:List Cd}{s:ByteArray}(h1:∀(j:Nat) x,j<B.length->B[j]? =some x->(x.g.Name.toList==s.toList)=false):nD B s= -1:=by
 have:jX B s=none:=by
  unfold jX
  rw[List.findIdx?_eq_none_iff]
  intro x hx
  obtain⟨j,hj⟩:=List.mem_iff_getElem?.1 hx
  exact h1 j x (List.getElem?_eq_some_iff.1 hj).1 hj
 unfold nD
 rw[this]
theorem KI(h:BP m H b se B ms){s:ByteArray}{Q:Int×Unit->Heap->Prop}(hq:Q (nD B s,()) H):CALL P [au .i64] gX [.pointer (some ⟨b,0,none⟩),.string s] H Q:=by
 apply DU
 unfold lW
 obtain⟨⟨cs,ns,w,hc⟩,few,_⟩:=h
 refine w.Yw rfl (bf ?_)
 refine bF (fun(t:(Int×Unit)×Unit) H'=>H'=H∧∃n:Nat,t.1.1=n∧n≤B.length∧∀(j:Nat) x,j<n->B[j]? =some x->(x.g.Name.toList==s.toList)=false) (fun t=>B.length-t.1.1.toNat) ?_ ⟨rfl,0,rfl,Nat.zero_le _,fun j x hj=>by omega⟩
 rintro G ⟨⟨i,_⟩,_⟩ H' ⟨rfl,n,hi,hn,hno⟩ hG
 simp only at hi; subst hi
 dsimp only at hG ⊢
 refine dD (fun hlt=> ?_) (fun hge=> ?_)
 ·have hlt:n<B.length:=by omega
  have hx:B[n]? =some B[n]:=List.getElem?_eq_getElem hlt
  generalize B[n]=c at hx
  obtain⟨g,hg,cr⟩:=hc n c hx
  have hnm:g.Name=c.g.Name:=by rw[←cr.e]; rfl
  refine⟨⟨by omega,by omega⟩,w.ld_name hg (by simp) ?_⟩
  rw[hnm]
  refine bK (fun e=> ?_) (fun e=> ?_)
  ·rw[O1 hno hx e]at hq; exact hq
  ·rw[dG (by omega) (by omega)]
   refine hG _ _ ⟨rfl,n+1,by simp,hlt,fun j x hj hy=> ?_⟩ (by simp; omega)
   by_cases ej:j=n
   ·subst ej; rw[hx]at hy; cases hy; exact e
   ·exact hno j x (by omega) hy
 ·have hge:n=B.length:=by omega
  subst hge
  rw[Gy hno]at hq; exact hq
theorem UC(g h:ay)(ps qs:List Pt):CP ⟨bare g,ps⟩ ⟨bare h,qs⟩=(decide (g.Suit<h.Suit)||(g.Suit==h.Suit&&Op.bytesLess g.Name.toList h.Name.toList)):=rfl
theorem aaj{g h:ay}{c d:Cd}(hg:bare g=c.g)(hh:bare h=d.g){Q:Bool×Unit->Heap->Prop}(hq:Q (CP c d,()) H):CALL P [ah] vV [TC.enc g,TC.enc h] H Q:=by
 apply Qk
 unfold wE
 obtain⟨c,cp⟩:=c
 obtain⟨d,dp⟩:=d
 simp only at hg hh; subst hg; subst hh
 rw[UC]at hq
 refine Ak (fun e=>Qd (Q:=fun r=>Q r H) hq ?_) (fun e=>Qd (Q:=fun r=>Q r H) hq ?_)
 ·congr 1
  rw[show(g.Suit==h.Suit)=false by simpa using e]; simp
 ·congr 1
  rw[show decide (g.Suit<h.Suit)=false by simp; omega,show(g.Suit==h.Suit)=true by simpa using e]; simp
theorem Xu{g:ay}{ps:List Pt}(hs:fF TP H g.Parts ps)(hl:ps.length≤1048600){Q:ay×Unit->Heap->Prop}(hq:∀s H',fF TP H' s ps->(∀d∈bl s.p,H.length≤d)->bI [] H H'->Q ({ g with Parts:=s },()) H'):CALL P [TC] rH [TC.enc g] H Q:=by
 apply Ub
 unfold yN
 exact VG tyP rfl (fun _=>by simp) hs hl fun s' H' sp n=>hq s' H' n.1.xC (nbl n) n.2.2
end
end Go.Proofs.YtijnknjopjmiiaaGreatDoor.Zq
end
section
namespace Go.Proofs.YtijnknjopjmiiaaGreatDoor.Zq
open Zv
section
variable{H:Heap}{b m:Nat}{B:List Cd}{ms:List ak}
theorem zH{B:List Cd}{s:ByteArray}:nD B s≥0↔(jX B s).isSome=true:=by
 unfold nD
 cases jX B s with
 |none=>simp
 |some i=>simp
set_option maxRecDepth 100000 in
theorem adO{Q:(Option Addr)×Unit->Heap->Prop}(hq:∀H',(∀m,H.length<m->m≤H'.length->BP m H' H.length false [] (List.replicate 5 ⟨0,ByteArray.mk #[],0,0⟩))->bI [] H H'->H'.length=H.length+1->Q (some ⟨H.length,0,none⟩,()) H'):CALL P [dK] Bq [] H Q:=by
 apply VT
 unfold BA
 refine hq _ (fun m h1 h2=>⟨⟨List.replicate 64 ⟨ByteArray.mk #[],0,0,0,0,0,0,false,⟨none,0,0⟩⟩,List.replicate 9 (ByteArray.mk #[]),⟨⟨608,?_⟩,rfl,rfl,rfl⟩,fun i c h=>by simp at h⟩,by simp,h1,h2⟩) (bI.app _ _ _) (by show(H++[_]).length=_; rw[List.length_append]; rfl)
 show(H++[_])[H.length]? =_
 rw[List.getElem?_append_right (Nat.le_refl _),Nat.sub_self]
 rfl
theorem ab5(h:BP m H b false B ms)(okB:Dt B){g:ay}{ps:List Pt}(ok:OkG g)(hs:fF TP H g.Parts ps)(op:∀p∈ps,OkP p)(hpb:∀d∈bl g.Parts.p,d≠b){Q:Int×Unit->Heap->Prop}
  (hq:∀H',BP m H' b false (Bv B ⟨bare g,ps⟩) ms->bI [b] H H'->Q (zO B ⟨bare g,ps⟩,()) H'):CALL P [au .i64] mQ [.pointer (some ⟨b,0,none⟩),TC.enc g] H Q:=by
 apply Fa
 unfold mX
 have hcc:xE ⟨g,ps⟩=xE ⟨bare g,ps⟩:=rfl
 generalize hc0:(⟨bare g,ps⟩:Cd)=c at hq hcc
 have cg:bare g=c.g:=by rw[←hc0]
 have cps:ps=c.ps:=by rw[←hc0]
 have cnm:c.g.Name=g.Name:=by rw[←cg]; rfl
 have same:∀e:Int,e≠0->zO B c=e->Q (e,()) H:=fun e he ha=>by
  have a:Bv B c=B:=by unfold Bv; rw[if_neg (by rw[ha]; exact he)]
  have:=hq H (by rw[a]; exact h) (.refl _ _)
  rwa [ha]at this
 refine QM h (bG rfl (aai ok hs op (Ak (fun h1=> ?_) (fun h1=> ?_))))
 ·dsimp only at h1
  rw[hcc]at h1
  dsimp only; rw[hcc]
  exact same _ h1 (by unfold zO; rw[if_pos h1])
 dsimp only at h1
 rw[hcc]at h1
 refine KI h (dD (fun h2=> ?_) (fun h2=> ?_))
 ·dsimp only at h2
  refine same 5 (by decide) ?_
  unfold zO
  rw[if_neg (fun q=>q h1),if_pos (by rw[cnm]; exact zH.1 h2)]
 dsimp only at h2
 have hnin:¬(jX B c.g.Name).isSome=true:=fun q=>h2 (zH.2 (by rw[←cnm]; exact q))
 have few:=h.few
 obtain⟨⟨cs,ns,w,hc⟩,_,lt,ml⟩:=id h
 refine w.Yw rfl (dD (fun h3=> ?_) (fun h3=> ?_))
 ·refine same 14 (by decide) ?_
  unfold zO
  rw[if_neg (fun q=>q h1),if_neg hnin,if_pos (by omega)]
 have e0:zO B c=0:=by unfold zO; rw[if_neg (fun q=>q h1),if_neg hnin,if_neg (by omega)]
 have hps4:ps.length≤4:=by
  have:zN c=0:=by
   unfold xE at h1
   by_cases hf:zN c=0
   ·exact hf
   ·rw[if_neg hf]at h1; exact h1
  rw[cps]; exact qw this
 refine w.Yw rfl ?_
 refine aS (fun y H'=>∃(i:Nat) (cs':List ay),(y:(Int×Unit)×Unit).1.1=i∧i≤B.length∧BW H' b false B.length cs' ns ms∧bI [b] H H'∧(∀j,j≤i->cs'[j]? =cs[j]?)∧(∀j,i<j->j≤B.length->cs'[j]? =cs[j-1]?)∧(∀(j:Nat) d,i≤j->B[j]? =some d->CP c d=true)∧∀d,0<i->B[i-1]? =some d->CP c d=false) (fun j hj=> ?_) ?_
 ·refine bF (fun(s:(Int×Unit)×Unit) H'=>∃(i:Nat) (cs':List ay),s.1.1=i∧i≤B.length∧BW H' b false B.length cs' ns ms∧bI [b] H H'∧(∀j,j≤i->cs'[j]? =cs[j]?)∧(∀j,i<j->j≤B.length->cs'[j]? =cs[j-1]?)∧∀(j:Nat) d,i≤j->B[j]? =some d->CP c d=true) (fun s=>s.1.1.toNat) ?_
   ⟨B.length,cs,rfl,Nat.le_refl _,w,.refl _ _,fun _ _=>rfl,fun j h1 h2=>by omega,fun j d h1 h2=>by have:=(List.getElem?_eq_some_iff.1 h2).1; omega⟩
  rintro G ⟨⟨i,_⟩,_⟩ H' ⟨i,cs',hi,hil,w',f',k1,k2,k3⟩ hG
  simp only at hi; subst hi
  dsimp only at hG ⊢
  have at1:0<i->∃g1 d,B[i-1]? =some d∧cs'[i-1]? =some g1∧CR m H' g1 d∧cs[i-1]? =some g1:=fun h0=>by
   have hx:B[i-1]? =some (B[i-1]'(by omega)):=List.getElem?_eq_getElem (by omega)
   obtain⟨g1,q1,q2⟩:=hc (i-1) _ hx
   exact⟨g1,_,hx,by rw[k1 _ (by omega)]; exact q1,q2.bZ f' fun d hd=>by simp at hd; omega,q1⟩
  refine hJ (H:=H') (∃d,0<i∧B[i-1]? =some d∧CP c d=true) (fun j hj=>dD (fun h0=> ?_) (fun h0=>hj _ ?_)) (fun hA=> ?_) (fun hN=> ?_)
  ·have h0:0<i:=by omega
   obtain⟨g1,d,hx,hg1,cr,_⟩:=at1 h0
   rw[dG (by omega) (by omega)]
   refine⟨⟨by omega,by omega⟩,w'.Iw hg1 (by omega) (aaj cg cr.e (hj _ ?_))⟩
   constructor
   ·exact fun e=>⟨d,h0,hx,e⟩
   ·rintro⟨d',_,hx',e⟩
    rw[hx]at hx'; cases hx'; exact e
  ·simp only[Bool.false_eq_true,false_iff]
   rintro⟨d,q,_⟩; omega
  ·obtain⟨d,h0,hx,ha⟩:=hA
   obtain⟨g1,d',hx',hg1,cr,hg0⟩:=at1 h0
   rw[hx]at hx'; cases hx'
   rw[dG (by omega) (by omega)]
   refine⟨⟨by omega,by omega⟩,w'.Iw hg1 (by omega) ⟨⟨by omega,by omega⟩,w'.UA (i:=i) (by omega) g1 (by simp) fun H2 w2 f2=> ?_⟩⟩
   have hcl:=w'.c
   refine hG _ _ ⟨i-1,_,by simp; omega,by omega,w2,f'.trans f2,fun j hj=> ?_,fun j hj hj2=> ?_,fun j d2 hj hd2=> ?_⟩ (by simp; omega)
   ·rw[List.getElem?_set_ne (by omega)]; exact k1 j (by omega)
   ·by_cases ej:j=i
    ·subst ej; rw[List.getElem?_set_self (by omega),hg0]
    ·rw[List.getElem?_set_ne (by omega)]; exact k2 j (by omega) hj2
   ·by_cases ej:j=i-1
    ·subst ej; rw[hx]at hd2; cases hd2; exact ha
    ·exact k3 j d2 (by omega) hd2
  ·refine hj _ _ ⟨i,cs',rfl,hil,w',f',k1,k2,k3,fun d h0 hx=> ?_⟩
   cases ha:CP c d with
   |false=>rfl
   |true=>exact absurd ⟨d,h0,hx,ha⟩ hN
 rintro⟨⟨i,_⟩,_⟩ H4 ⟨i,cs',hi,hil,w4,f4,k1,k2,k3,k4⟩
 simp only at hi; subst hi
 dsimp only
 refine Xu (hs.bZ f4 fun d hd o e=> ?_) (by omega) fun s H9 hs9 lo9 f9=>⟨⟨by omega,by omega⟩,?_⟩
 ·simp at hd; subst hd; exact hpb d (by rw[e]; simp[bl]) rfl
 have w9:=w4.bZ f9 (by simp)
 have hcl:=w9.c
 refine w9.UA (i:=i) (by omega) { g with Parts:=s } (by simp) fun H10 w10 f10=>w10.Yw rfl ?_
 rw[dG (x:=(B.length:Int)+1) (by omega) (by omega)]
 refine w10.Xe _ rfl fun H11 w11 f11=> ?_
 have fr:bI [b] H H11:=(f4.trans (f9.mono (by simp))).trans (f10.trans f11)
 have ea:Bv B c=B.take i++c::B.drop i:=by
  unfold Bv
  rw[if_pos e0]
  exact ZR (lt:=CP) (fun h k=>ZU h k) okB.srt hil (fun j hj h=>k3 j _ h (List.getElem?_eq_getElem hj)) (fun h0=>k4 _ h0 (List.getElem?_eq_getElem (by omega)))
 have hln:(Bv B c).length=B.length+1:=by rw[ea]; simp; omega
 have res:=hq H11 ⟨⟨_,ns,by rw[hln]; exact w11,fun k d hk=> ?_⟩,by omega,lt,by have:=fr.1; omega⟩ fr
 ·rwa [e0]at res
 ·have f49:=f4.1
  rw[ea]at hk
  rcases Nat.lt_trichotomy k i with q|q|q
  ·rw[List.getElem?_append_left (by simp; omega),List.getElem?_take,if_pos q]at hk
   obtain⟨g1,q1,q2⟩:=hc k d hk
   exact⟨g1,by rw[List.getElem?_set_ne (by omega),k1 k (by omega)]; exact q1,q2.bZ fr fun d hd=>by simp at hd; omega⟩
  ·subst q
   rw[List.getElem?_append_right (by simp; omega),List.length_take,Nat.min_eq_left hil,Nat.sub_self]at hk
   simp at hk; subst hk
   refine⟨_,List.getElem?_set_self (by omega),⟨by rw[←cg]; rfl,?_,fun d hd=>by have:=lo9 d hd; omega⟩⟩
   rw[←cps]
   refine(hs9.bZ f10 fun d hd o e=> ?_).bZ f11 fun d hd o e=> ?_
   ·simp at hd; subst hd; have:=lo9 d (by rw[e]; simp[bl]); have:=w4.lt; omega
   ·simp at hd; subst hd; have:=lo9 d (by rw[e]; simp[bl]); have:=w4.lt; omega
  ·have e2:k-i=(k-1-i)+1:=by omega
   rw[List.getElem?_append_right (by simp; omega),List.length_take,Nat.min_eq_left hil,e2,List.getElem?_cons_succ,List.getElem?_drop,show i+(k-1-i)=k-1 by omega]at hk
   have hkl:=(List.getElem?_eq_some_iff.1 hk).1
   obtain⟨g1,q1,q2⟩:=hc (k-1) d hk
   exact⟨g1,by rw[List.getElem?_set_ne (by omega),k2 k q (by omega)]; exact q1,q2.bZ fr fun d hd=>by simp at hd; omega⟩
end
end Go.Proofs.YtijnknjopjmiiaaGreatDoor.Zq
end
section
namespace Go.Proofs.YtijnknjopjmiiaaGreatDoor.Zq
open Zv
section
variable{H:Heap}{b m:Nat}{B:List Cd}{ms:List ak}{se:Bool}{n:Int}{cs:List ay}{ns:List ByteArray}
theorem BW.KJ(h:BW H b se n cs ns ms){i:Nat}{x:ak}(hx:ms[i]? =some x):KH se n cs ns ms=(.bool true:: .bool se:: .int .i64 n::(fl TC cs++(fl dH ns++fl TM (ms.take i))))++(TM.cells x++fl TM (ms.drop (i+1)))∧(.bool true:: .bool se:: .int .i64 n::(fl TC cs++(fl dH ns++fl TM (ms.take i))):List Value).length=588+i*4:=by
 have hi:=(List.getElem?_eq_some_iff.1 hx).1
 refine⟨?_,?_⟩
 ·unfold KH
  rw[iH (T:=TM) ms i x hx]; simp[List.append_assoc]
 ·simp only[List.length_cons,List.length_append]
  rw[bY Y5,bY adk,bY hTM,List.length_take,Nat.min_eq_left (by omega),h.c,h.n]
  show 64*9+(9*1+i*4)+1+1+1=_; omega
theorem BW.Ef(h:BW H b se n cs ns ms){i:Nat}{x:ak}(hx:ms[i]? =some x){o:Nat}(ho:o=588+i*4){K:Int->Prop}(hk:K x.Mark):LD (au .u8) H b o K:=by
 obtain⟨sz,r⟩:=h.row
 obtain⟨e1,e2⟩:=h.KJ hx
 exact dI (T:=au .u8) x.Mark _ ((TM.cells x).drop 1++fl TM (ms.drop (i+1))) r (by rw[e1]; rfl) (by rw[e2,ho]) rfl hk
theorem BW.KL(h:BW H b se n cs ns ms){i:Nat}(hi:i<5)(x:ak){o:Nat}(ho:o=588+i*4){K:Heap->Prop}(hk:∀H',BW H' b se n cs ns (ms.set i x)->bI [b] H H'->K H'):ST H b o (TM.cells x) K:=by
 obtain⟨sz,r⟩:=h.row
 have hm:=h.m
 have hx:ms[i]? =some ms[i]:=List.getElem?_eq_getElem (by omega)
 obtain⟨e1,e2⟩:=h.KJ hx
 refine qc _ (TM.cells ms[i]) _ r e1 (by rw[e2,ho]) rfl rfl (hk _ ⟨⟨sz,?_⟩,h.c,h.n,by simpa using hm⟩ (bI.set _ _ (by simp)))
 rw[fH (bW r)]
 have hx2:(ms.set i x)[i]? =some x:=List.getElem?_set_self (by omega)
 have hb:BW (H.set b (.row (KH se n cs ns (ms.set i x)) sz false false true)) b se n cs ns (ms.set i x):=⟨⟨sz,fH (bW r)⟩,h.c,h.n,by simpa using hm⟩
 rw[(hb.KJ hx2).1,List.take_set_of_le (Nat.le_refl _),List.drop_set_of_lt (by omega)]
theorem five{ms:List ak}(h:ms.length=5):∃a b c d e,ms=[a,b,c,d,e]:=by
 match ms,h with
 |[a,b,c,d,e],_=>exact⟨a,b,c,d,e,rfl⟩
theorem KN{x:Int}{Q:Bool×Unit->Heap->Prop}(hq:Q (decide (-9≤x∧x≤9),()) H):CALL P [ah] nN [.int .i64 x] H Q:=by
 apply Nu
 unfold um
 exact JD (H:=H) (-9≤x∧x≤9) (fun j hj=>dD (fun h=>hj _ (by simp; omega)) (fun h=>hj _ (by simp; omega))) hq
def badM(m:ak):Prop:=m.Mark<1∨4<m.Mark∨m.Power< -9∨9<m.Power∨m.Health< -9∨9<m.Health
def QN(ms:List ak)(m:ak):Prop:=(∃x,ms[m.Mark.toNat]? =some x∧x.Mark≠0)∨∃x∈ms,x.Name.toList=m.Name.toList
open Classical in
theorem KO(ms:List ak)(m:ak):Du ms m=if badM m then 2 else if ¬nU m.Name then 4 else if QN ms m then 5 else 0:=by
 unfold Du badM QN
 congr
theorem ab6(h:BP m H b false B ms){x:ak}{Q:Int×Unit->Heap->Prop}(hq:∀H',BP m H' b false B (GV ms x)->bI [b] H H'->Q (Du ms x,()) H'):CALL P [au .i64] mV [.pointer (some ⟨b,0,none⟩),TM.enc x] H Q:=by
 apply Fg
 unfold mY
 have e:=KO ms x
 have same:∀(r:Int) H',r≠0->Du ms x=r->bI [] H H'->Q (r,()) H':=fun r H' hr hm f=>by
  have a:GV ms x=ms:=by unfold GV; rw[if_neg (by rw[hm]; exact hr)]
  have:=hq H' (by rw[a]; exact h.new f) (f.mono (by simp))
  rwa [hm]at this
 refine QM h (bG rfl ?_)
 refine hJ (badM x) (fun j hj=> ?_) (fun h1=>same 2 H (by decide) (by rw[e,if_pos h1]) (.refl _ _)) (fun h1=> ?_)
 ·unfold badM at hj
  exact dD (fun h=>hj _ (by simp; omega)) (fun h=>dD (fun h=>hj _ (by simp; omega)) (fun h=>KN (QI (fun h=>hj _ (by simp; omega)) (fun h=>KN (hj _ (by simp; omega))))))
 rw[if_neg h1]at e
 have hr:1≤x.Mark∧x.Mark≤4:=by unfold badM at h1; omega
 refine abY fun H5 f5=>QI (fun h2=>same 4 H5 (by decide) (by rw[e,if_pos h2]) f5) (fun h2=> ?_)
 rw[if_neg (fun q=>q h2)]at e
 have h5:=h.new f5
 obtain⟨⟨cs,ns,w,hc⟩,few,lt,ml⟩:=h5
 have hm5:=w.m
 have hi5:x.Mark.toNat<5:=by omega
 have hx:ms[x.Mark.toNat]? =some (ms[x.Mark.toNat]'(by omega)):=List.getElem?_eq_getElem (by omega)
 generalize (ms[x.Mark.toNat]'(by omega))=y at hx
 refine⟨⟨by omega,by omega⟩,w.Ef hx (by simp) (Ak (fun h3=>same 5 H5 (by decide) (by rw[e,if_pos (.inl ⟨y,hx,h3⟩)]) f5) (fun h3=> ?_))⟩
 obtain⟨m0,m1,m2,m3,m4,rfl⟩:=five hm5
 have ld5:∀{K:ak×ak×ak×ak×ak->Prop},K (m0,m1,m2,m3,m4)->LD fC H5 b (0+588) K:=fun hk=>by
  obtain⟨sz,r⟩:=w.row
  obtain⟨e1,e2⟩:=w.KJ (i:=0) (x:=m0) rfl
  exact dI (T:=fC) (m0,m1,m2,m3,m4) _ [] r (by rw[e1]; rfl) (by rw[e2]) rfl hk
 refine ld5 ?_
 have hat:∀n:Nat,n<5->∃z,dF E 129 (.agg #[(.int .u8 m0.Mark),(.string m0.Name),(.int .i64 m0.Power),(.int .i64 m0.Health),(.int .u8 m1.Mark),(.string m1.Name),(.int .i64 m1.Power),(.int .i64 m1.Health),(.int .u8 m2.Mark),(.string m2.Name),(.int .i64 m2.Power),(.int .i64 m2.Health),(.int .u8 m3.Mark),(.string m3.Name),(.int .i64 m3.Power),(.int .i64 m3.Health),(.int .u8 m4.Mark),(.string m4.Name),(.int .i64 m4.Power),(.int .i64 m4.Health)]) (.int .i64 (n:Int))=some (TM.enc z)∧[m0,m1,m2,m3,m4][n]? =some z:=by
  intro n hn
  rcases(by omega:n=0∨n=1∨n=2∨n=3∨n=4)with rfl|rfl|rfl|rfl|rfl
  ·exact⟨m0,rfl,rfl⟩
  ·exact⟨m1,rfl,rfl⟩
  ·exact⟨m2,rfl,rfl⟩
  ·exact⟨m3,rfl,rfl⟩
  ·exact⟨m4,rfl,rfl⟩
 refine aS (fun _ H'=>H'=H5∧¬∃z∈[m0,m1,m2,m3,m4],z.Name.toList=x.Name.toList) (fun j hj=> ?_) ?_
 ·refine bF (fun(s:(Int×Unit)×Unit) H'=>H'=H5∧∃n:Nat,s.1.1=n∧n≤5∧∀z∈[m0,m1,m2,m3,m4].take n,z.Name.toList≠x.Name.toList) (fun s=>5-s.1.1.toNat) ?_ ⟨rfl,0,rfl,by omega,by simp⟩
  rintro G ⟨⟨i,_⟩,_⟩ H' ⟨rfl,n,hi,hn,hno⟩ hG
  simp only at hi; subst hi
  dsimp only at hG ⊢
  refine dD (fun hlt=> ?_) (fun hge=>hj _ _ ⟨rfl,?_⟩)
  ·have hlt:n<5:=by omega
   obtain⟨z,g1,g2⟩:=hat n hlt
   refine⟨z,g1,bK (fun e2=>same 5 H' (by decide) (by rw[e,if_pos (.inr ⟨z,List.mem_of_getElem? g2,by simpa using e2⟩)]) f5) (fun e2=> ?_)⟩
   rw[dG (by omega) (by omega)]
   refine hG _ _ ⟨rfl,n+1,by simp,hlt,fun y hy=> ?_⟩ (by simp; omega)
   obtain⟨g3,g4⟩:=List.getElem?_eq_some_iff.1 g2
   rw[List.take_succ_eq_append_getElem g3,List.mem_append,List.mem_singleton]at hy
   rcases hy with q|q
   ·exact hno y q
   ·rw[q,g4]; simpa using e2
  ·have:n=5:=by omega
   subst this
   rintro⟨z,hz,q⟩
   exact hno z (by simpa using hz) q
 rintro _ H6 ⟨rfl,hno⟩
 have e0:Du [m0,m1,m2,m3,m4] x=0:=by
  rw[e,if_neg]
  rintro(⟨z,hz,q⟩|q)
  ·rw[hx]at hz; cases hz; exact q h3
  ·exact hno q
 refine⟨⟨by omega,by omega⟩,w.KL hi5 x (by simp) fun H8 w8 f8=> ?_⟩
 have fr:bI [b] H H8:=(f5.mono (by simp)).trans f8
 have ea:GV [m0,m1,m2,m3,m4] x=[m0,m1,m2,m3,m4].set x.Mark.toNat x:=by unfold GV; rw[if_pos e0]
 have res:=hq H8 ⟨⟨cs,ns,by rw[ea]; exact w8,fun k d hk=> ?_⟩,few,lt,by have:=f8.1; omega⟩ fr
 ·rwa [e0]at res
 ·obtain⟨g1,q1,q2⟩:=hc k d hk
  exact⟨g1,q1,q2.bZ f8 fun d hd=>by simp at hd; omega⟩
theorem KP{p:Pt}(h:p.Verb≠7):xu B p=0:=by unfold xu; rw[if_neg h]
theorem Xv{p:Pt}(h:p.Verb=7)(hn:nD B p.Name<0):xu B p=6:=by
 unfold xu; rw[if_pos h]
 unfold nD at hn
 cases hx:jX B p.Name with
 |none=>rfl
 |some i=>rw[hx]at hn; simp only at hn; omega
theorem KQ{s:ByteArray}(hn:¬nD B s<0):∃i c,jX B s=some i∧nD B s=(i:Int)∧B[i]? =some c:=by
 unfold nD at hn ⊢
 cases hx:jX B s with
 |none=>rw[hx]at hn; simp at hn
 |some i=>
  have hi:i<B.length:=by
   unfold jX at hx
   obtain⟨h,_⟩:=List.findIdx?_eq_some_iff_getElem.1 hx
   exact h
  exact⟨i,B[i],rfl,rfl,List.getElem?_eq_getElem hi⟩
theorem KR{p:Pt}(h:p.Verb=7){i:Nat}{c:Cd}(hn:jX B p.Name=some i)(hx:B[i]? =some c):xu B p=if c.g.Kind=2 then 8 else 0:=by
 unfold xu; rw[if_pos h,hn]
 simp only[hx,Option.map_some,Option.some.injEq]
theorem Gz(p:Pt)(r:List Pt):tC B (p::r)=if xu B p≠0 then xu B p else tC B r:=rfl
theorem KT{i k:Nat}{c:Cd}(hk:c.ps.length≤k):tC B (c.ps.drop k++(B.drop (i+1)).flatMap (·.ps))=tC B ((B.drop (i+1)).flatMap (·.ps)):=by
 rw[List.drop_eq_nil_of_le hk,List.nil_append]
theorem ab7(h:BP m H b false B ms)(okB:Dt B){Q:Int×Unit->Heap->Prop}(hq:∀H',BP m H' b (decide (rO B=0)) B ms->bI [b] H H'->Q (rO B,()) H'):CALL P [au .i64] mW [.pointer (some ⟨b,0,none⟩)] H Q:=by
 apply Fp
 unfold mZ
 have same:∀r:Int,r≠0->rO B=r->Q (r,()) H:=fun r hr e=>by
  have:=hq H (by rw[e,decide_eq_false hr]; exact h) (.refl _ _)
  rwa [e]at this
 refine QM h (bG rfl ?_)
 obtain⟨⟨cs,ns,w,hc⟩,few,lt,ml⟩:=id h
 refine w.Yw rfl ?_
 have hsl:dQ E 127 (.pointer (some ⟨b,0+3,none⟩)) none (some (.int .i64 (B.length:Int))) none H=some (Value.slice (some ⟨b,3,none⟩) B.length 64):=by
  obtain⟨ti,te,e,hti,hk,hte⟩:∃ti te e,E.ty 127=some ti∧ti.k= .array 64 e∧E.ty e=some te:=⟨_,_,_,rfl,rfl,rfl⟩
  unfold dQ
  simp only[hti,hk,hte,Option.bind_some]
  simp[dw,few]
 refine⟨⟨some ⟨b,3,none⟩,B.length,64⟩,hsl,?_⟩
 refine aS (fun _ H'=>H'=H∧rO B=0) (fun j hj=> ?_) ?_
 ·refine bF (fun(s:(Int×Unit)×Unit) H'=>H'=H∧∃i:Nat,s.1.1=i∧i≤B.length∧rO B=tC B ((B.drop i).flatMap (·.ps))) (fun s=>B.length-s.1.1.toNat) ?_ ⟨rfl,0,rfl,Nat.zero_le _,by simp[rO]⟩
  rintro G ⟨⟨i,_⟩,_⟩ H' ⟨rfl,i,hi,hil,hse⟩ hG
  simp only at hi; subst hi
  dsimp only at hG ⊢
  refine dD (fun hlt=> ?_) (fun hge=>hj _ _ ⟨rfl,?_⟩)
  ·have hlt:i<B.length:=by omega
   have hx:B[i]? =some B[i]:=List.getElem?_eq_getElem hlt
   rw[List.drop_eq_getElem_cons hlt,List.flatMap_cons]at hse
   generalize B[i]=c at hx hse
   obtain⟨g,hg,cr⟩:=hc i c hx
   have hp:=cr.p
   have hpl:=hp.1
   have hp4:c.ps.length≤4:=by
    have:=okB.ok c (List.mem_of_getElem? hx)
    unfold xE at this
    by_cases hf:zN c=0
    ·exact qw hf
    ·rw[if_neg hf]at this; exact absurd this hf
   refine bf ⟨⟨by omega,by omega⟩,w.Iw hg (by simp) (bf ?_)⟩
   refine bF (fun(s:(Int×Unit)×Unit) H2=>H2=H'∧∃k:Nat,s.1.1=k∧k≤c.ps.length∧rO B=tC B (c.ps.drop k++(B.drop (i+1)).flatMap (·.ps))) (fun s=>c.ps.length-s.1.1.toNat) ?_ ⟨rfl,0,rfl,Nat.zero_le _,by simpa using hse⟩
   rintro G2 ⟨⟨k,_⟩,_⟩ H2 ⟨rfl,k,hk,hkl,hse2⟩ hG2
   simp only at hk; subst hk
   dsimp only at hG2 ⊢
   refine dD (fun hlt2=> ?_) (fun hge2=> ?_)
   ·have hlt2:k<c.ps.length:=by omega
    have hy:c.ps[k]? =some c.ps[k]:=List.getElem?_eq_getElem hlt2
    rw[List.drop_eq_getElem_cons hlt2,List.cons_append,Gz]at hse2
    generalize c.ps[k]=p at hy hse2
    refine bf (bD (T:=TP) hTP hp rfl hy rfl ?_)
    have next:xu B p=0->G2 ((IntKind.wrap .i64 ((k:Int)+1),()),()) H2:=fun hz=>by
     rw[if_neg (fun q=>q hz)]at hse2
     rw[dG (by omega) (by omega)]
     exact hG2 _ _ ⟨rfl,k+1,by simp,hlt2,hse2⟩ (by simp; omega)
    refine Ak (fun hv=>next (KP hv)) (fun hv=>KI h (dD (fun hn=> ?_) (fun hn=> ?_)))
    ·dsimp only at hn
     have:=Xv hv hn
     exact same 6 (by decide) (by rw[hse2,if_pos (by rw[this]; decide),this])
    ·dsimp only at hn
     obtain⟨i2,c2,q1,q2,q3⟩:=KQ hn
     have hi2:=(List.getElem?_eq_some_iff.1 q3).1
     obtain⟨g2,hg2,cr2⟩:=hc i2 c2 q3
     have hkd:g2.Kind=c2.g.Kind:=by rw[←cr2.e]; rfl
     have hce:=KR hv q1 q3
     dsimp only
     rw[q2]
     refine⟨⟨by omega,by omega⟩,w.ab4 hg2 (by simp) ?_⟩
     rw[hkd]
     refine fM (fun e2=> ?_) (fun e2=>next (by rw[hce,if_neg e2]))
     rw[if_pos e2]at hce
     exact same 8 (by decide) (by rw[hse2,if_pos (by rw[hce]; decide),hce])
   ·rw[KT (by omega)]at hse2
    rw[dG (by omega) (by omega)]
    exact hG _ _ ⟨rfl,i+1,by simp,hlt,hse2⟩ (by simp; omega)
  ·have hge:i=B.length:=by omega
   subst hge
   rw[hse,List.drop_length]; rfl
 rintro _ H2 ⟨rfl,e0⟩
 refine w.V5 true rfl fun H9 w9 f9=> ?_
 have res:=hq H9 (by rw[e0]; exact⟨⟨cs,ns,w9,fun k d hk=>by obtain⟨g1,q1,q2⟩:=hc k d hk; exact⟨g1,q1,q2.bZ f9 fun d hd=>by simp at hd; omega⟩⟩,few,lt,by have:=f9.1; omega⟩) f9
 rwa [e0]at res
end
end Go.Proofs.YtijnknjopjmiiaaGreatDoor.Zq
end
section
namespace Go.Proofs.YtijnknjopjmiiaaGreatDoor.Zq
open Zv
section
variable{H:Heap}{b m:Nat}{B:List Cd}{ms:List ak}{se:Bool}{s:Sl}{ns:List ByteArray}
def zC:ay:=⟨ByteArray.mk #[],0,0,0,0,0,0,false,⟨none,0,0⟩⟩
theorem tyC:Tt E TC 22 zC:=⟨⟨_,_,_,rfl,rfl,rfl,rfl,by decide,by decide,rfl⟩,by decide,Y5,fun _=>rfl⟩
def Xw(se:Bool)(s:Sl)(ns:List ByteArray)(ms:List ak):List Value:=.bool true:: .bool se::s.v::(fl dH ns++fl TM ms)
structure RW(H:Heap)(b:Nat)(se:Bool)(s:Sl)(ns:List ByteArray)(ms:List ak):Prop where
 row:∃sz,H[b]? =some (.row (Xw se s ns ms) sz false false true)
 n:ns.length=9
 m:ms.length=5
theorem RW.bZ{H':Heap}{F:List Nat}(h:RW H b se s ns ms)(f:bI F H H')(hb:b∉F):RW H' b se s ns ms:=by
 obtain⟨sz,r⟩:=h.row
 exact⟨⟨sz,f.get hb r⟩,h.n,h.m⟩
theorem RW.QL(h:RW H b se s ns ms){o:Nat}(ho:o=0){K:Bool->Prop}(hk:K true):LD ah H b o K:=by
 obtain⟨sz,r⟩:=h.row
 exact dI (T:=ah) true [] _ r rfl ho rfl hk
theorem RW.Ed(h:RW H b se s ns ms){o:Nat}(ho:o=1){K:Bool->Prop}(hk:K se):LD ah H b o K:=by
 obtain⟨sz,r⟩:=h.row
 exact dI (T:=ah) se [.bool true] _ r rfl ho rfl hk
theorem RW.Oi(h:RW H b se s ns ms){o:Nat}(ho:o=2){K:Sl->Prop}(hk:K s):LD aK H b o K:=by
 obtain⟨sz,r⟩:=h.row
 exact dI (T:=aK) s [.bool true,.bool se] _ r rfl ho rfl hk
theorem RW.aeG(h:RW H b se s ns ms)(s':Sl){o:Nat}(ho:o=2){K:Heap->Prop}(hk:∀H',RW H' b se s' ns ms->bI [b] H H'->K H'):ST H b o [.slice s'.p s'.len s'.cap] K:=by
 obtain⟨sz,r⟩:=h.row
 exact qc [.bool true,.bool se] [s.v] _ r rfl ho rfl rfl (hk _ ⟨⟨sz,by rw[fH (bW r)]; rfl⟩,h.n,h.m⟩ (bI.set _ _ (by simp)))
theorem RW.V5(h:RW H b se s ns ms)(se':Bool){o:Nat}(ho:o=1){K:Heap->Prop}(hk:∀H',RW H' b se' s ns ms->bI [b] H H'->K H'):ST H b o [.bool se'] K:=by
 obtain⟨sz,r⟩:=h.row
 exact qc [.bool true] [.bool se] _ r rfl ho rfl rfl (hk _ ⟨⟨sz,by rw[fH (bW r)]; rfl⟩,h.n,h.m⟩ (bI.set _ _ (by simp)))
theorem RW.KJ(h:RW H b se s ns ms){i:Nat}{x:ak}(hx:ms[i]? =some x):Xw se s ns ms=(.bool true:: .bool se::s.v::(fl dH ns++fl TM (ms.take i)))++(TM.cells x++fl TM (ms.drop (i+1)))∧(.bool true:: .bool se::s.v::(fl dH ns++fl TM (ms.take i)):List Value).length=12+i*4:=by
 have hi:=(List.getElem?_eq_some_iff.1 hx).1
 refine⟨?_,?_⟩
 ·unfold Xw
  rw[iH (T:=TM) ms i x hx]; simp[List.append_assoc]
 ·simp only[List.length_cons,List.length_append]
  rw[bY adk,bY hTM,List.length_take,Nat.min_eq_left (by omega),h.n]
  show(9*1+i*4)+1+1+1=_; omega
theorem RW.Ef(h:RW H b se s ns ms){i:Nat}{x:ak}(hx:ms[i]? =some x){o:Nat}(ho:o=12+i*4){K:Int->Prop}(hk:K x.Mark):LD (au .u8) H b o K:=by
 obtain⟨sz,r⟩:=h.row
 obtain⟨e1,e2⟩:=h.KJ hx
 exact dI (T:=au .u8) x.Mark _ ((TM.cells x).drop 1++fl TM (ms.drop (i+1))) r (by rw[e1]; rfl) (by rw[e2,ho]) rfl hk
theorem RW.UD(h:RW H b se s ns ms){i:Nat}{x:ak}(hx:ms[i]? =some x){o:Nat}(ho:o=12+i*4+1){K:ByteArray->Prop}(hk:K x.Name):LD dH H b o K:=by
 obtain⟨sz,r⟩:=h.row
 obtain⟨e1,e2⟩:=h.KJ hx
 exact dI (T:=dH) x.Name ((.bool true:: .bool se::s.v::(fl dH ns++fl TM (ms.take i)))++[.int .u8 x.Mark]) ((TM.cells x).drop 2++fl TM (ms.drop (i+1))) r (by rw[e1]; simp[List.append_assoc]) (by rw[List.length_append,e2,ho]; rfl) rfl hk
theorem RW.KL(h:RW H b se s ns ms){i:Nat}(hi:i<5)(x:ak){o:Nat}(ho:o=12+i*4){K:Heap->Prop}(hk:∀H',RW H' b se s ns (ms.set i x)->bI [b] H H'->K H'):ST H b o (TM.cells x) K:=by
 obtain⟨sz,r⟩:=h.row
 have hm:=h.m
 have hx:ms[i]? =some ms[i]:=List.getElem?_eq_getElem (by omega)
 obtain⟨e1,e2⟩:=h.KJ hx
 refine qc _ (TM.cells ms[i]) _ r e1 (by rw[e2,ho]) rfl rfl (hk _ ⟨⟨sz,?_⟩,h.n,by simpa using hm⟩ (bI.set _ _ (by simp)))
 rw[fH (bW r)]
 have hx2:(ms.set i x)[i]? =some x:=List.getElem?_set_self (by omega)
 have hb:RW (H.set b (.row (Xw se s ns (ms.set i x)) sz false false true)) b se s ns (ms.set i x):=⟨⟨sz,fH (bW r)⟩,h.n,by simpa using hm⟩
 rw[(hb.KJ hx2).1,List.take_set_of_le (Nat.le_refl _),List.drop_set_of_lt (by omega)]
def CL(m:Nat)(H:Heap)(L:List ay)(B:List Cd):Prop:=L.length=B.length∧∀(k:Nat) d,B[k]? =some d->∃g,L[k]? =some g∧CR m H g d
theorem CL.bZ{H':Heap}{F:List Nat}{L:List ay}(h:CL m H L B)(f:bI F H H')(hF:∀d∈F,d<m):CL m H' L B:=
 ⟨h.1,fun k d hk=>by obtain⟨g,q1,q2⟩:=h.2 k d hk; exact⟨g,q1,q2.bZ f hF⟩⟩
structure BD(m:Nat)(H:Heap)(b:Nat)(se:Bool)(B:List Cd)(ms:List ak):Prop where
 w:∃s gs ns,RW H b se s ns ms∧fF TC H s gs∧(∀d∈bl s.p,m≤d)∧CL m H gs B
 few:B.length≤64
 lt:b<m
 ml:m≤H.length
theorem QO{T:Tag}{H H':Heap}{s:Sl}{l:List T.α}{F:List Nat}(h:fF T H s l)(lo:∀d∈bl s.p,m≤d)(f:bI F H H')(hF:∀d∈F,d<m):fF T H' s l:=
 h.bZ f fun d hd o e=>by have:=lo d (by rw[e]; simp[bl]); have:=hF d hd; omega
theorem BD.bZ{H':Heap}{F:List Nat}(h:BD m H b se B ms)(f:bI F H H')(hF:∀d∈F,d<m∧d≠b):BD m H' b se B ms:=by
 obtain⟨⟨s,gs,ns,w,hs,lo,hc⟩,h2,h3,h4⟩:=h
 exact⟨⟨s,gs,ns,w.bZ f fun hm=>(hF b hm).2 rfl,QO hs lo f fun d hd=>(hF d hd).1,lo,hc.bZ f fun d hd=>(hF d hd).1⟩,h2,h3,by have:=f.1; omega⟩
theorem BD.new{H':Heap}(h:BD m H b se B ms)(f:bI [] H H'):BD m H' b se B ms:=h.bZ f (by simp)
theorem adP{Q:(Option Addr)×Unit->Heap->Prop}(hq:∀H',(∀m,H.length<m->m≤H'.length->BD m H' H.length false [] (List.replicate 5 ⟨0,ByteArray.mk #[],0,0⟩))->bI [] H H'->H'.length=H.length+1->Q (some ⟨H.length,0,none⟩,()) H'):CALL P [dK] yC [] H Q:=by
 apply TT
 unfold yL
 refine hq _ (fun m h1 h2=>⟨⟨⟨none,0,0⟩,[],List.replicate 9 (ByteArray.mk #[]),⟨⟨32,?_⟩,rfl,rfl⟩,⟨rfl,.inl ⟨rfl,rfl,rfl⟩⟩,by simp[bl],⟨rfl,fun k d h=>by simp at h⟩⟩,by simp,h1,h2⟩) (bI.app _ _ _) (by show(H++[_]).length=_; rw[List.length_append]; rfl)
 show(H++[_])[H.length]? =_
 rw[List.getElem?_append_right (Nat.le_refl _),Nat.sub_self]
 rfl
theorem Iy(h:BD m H b se B ms){Q:Bool×Unit->Heap->Prop}(hq:Q (false,()) H):CALL P [ah] fD [.pointer (some ⟨b,0,none⟩)] H Q:=by
 obtain⟨⟨s,gs,ns,w,_⟩,_⟩:=h
 apply DX
 unfold lX
 exact bf (bG rfl (w.QL rfl hq))
theorem Yx(h:BD m H b se B ms){Q:Bool×Unit->Heap->Prop}(hq:Q (se,()) H):CALL P [ah] jU [.pointer (some ⟨b,0,none⟩)] H Q:=by
 apply zT
 unfold jY
 refine bf (Iy h (fB rfl ?_))
 obtain⟨⟨s,gs,ns,w,_⟩,_⟩:=h
 exact w.Ed rfl hq
theorem aak{g h:ay}{c d:Cd}(hg:bare g=c.g)(hh:bare h=d.g){Q:Bool×Unit->Heap->Prop}(hq:∀r:Bool,(r=true↔CP c d=true)->Q (r,()) H):CALL P [ah] sO [TC.enc g,TC.enc h] H Q:=by
 apply Nq
 unfold uj
 obtain⟨c,cp⟩:=c
 obtain⟨d,dp⟩:=d
 simp only at hg hh; subst hg; subst hh
 have key:=UC g h cp dp
 refine JD (H:=H) (CP ⟨bare g,cp⟩ ⟨bare h,dp⟩=true) (fun j hj=>dD (fun e=>hj _ ?_) (fun e=>fM (fun e2=>hj _ ?_) (fun e2=>hj _ ?_))) (hq _ (by simp))
 ·rw[key]; simp[e]
 ·rw[key]; simp[e2]
 ·rw[key]; simp[e2]; omega
theorem ab8{g:ay}{ps:List Pt}(hs:fF TP H g.Parts ps)(hl:ps.length≤1048600){Q:ay×Unit->Heap->Prop}(hq:∀s H',fF TP H' s ps->(∀d∈bl s.p,H.length≤d)->bI [] H H'->Q ({ g with Parts:=s },()) H'):CALL P [TC] lJ [TC.enc g] H Q:=by
 apply Qn
 unfold wF
 exact VG tyP rfl (fun _=>by simp) hs hl fun s' H' sp n=>hq s' H' n.1.xC (nbl n) n.2.2
theorem UE{g:ay}{ps:List Pt}(hs:fF TP H g.Parts ps)(hl:ps.length≤1048600){Q:ay×Unit->Heap->Prop}(hq:∀s H',fF TP H' s ps->(∀d∈bl s.p,H.length≤d)->bI [] H H'->Q ({ g with Parts:=s },()) H'):CALL P [TC] lF [TC.enc g] H Q:=by
 apply JK
 unfold qy
 apply G7
 unfold oJ
 exact VG tyP rfl (fun _=>by simp) hs hl fun s' H' sp n=>hq s' H' n.1.xC (nbl n) n.2.2
theorem aal{s:Sl}{gs:List ay}(h:fF TC H s gs){n:Nat}{g:ay}(hx:gs[n]? =some g){K:ByteArray->Prop}(hk:K g.Name):dR s.p s.len (n:Int) 9 fun b o=>LD dH H b (o+0) K:=by
 have hl:=(List.getElem?_eq_some_iff.1 hx).1
 obtain⟨h1,⟨_,h2,_⟩|⟨_,_,_,h2,_⟩|⟨b,A,B,z,o,ro,h3,h4⟩⟩:=h
 ·subst h2; simp at hl
 ·subst h2; simp at hl
 ·unfold dR NIL
  rw[h3]
  refine⟨⟨by omega,by omega⟩,?_⟩
  refine dI (T:=dH) g.Name (A++fl TC (gs.take n)) ((TC.cells g).drop 1++(fl TC (gs.drop (n+1))++B)) h4 ?_ ?_ rfl hk
  ·rw[iH (T:=TC) gs n g hx]; simp[List.append_assoc]
  ·rw[List.length_append,bY Y5,List.length_take,Nat.min_eq_left (by omega),Int.toNat_natCast]; rfl
theorem aam{s:Sl}{gs:List ay}(h:fF TC H s gs){n:Nat}{g:ay}(hx:gs[n]? =some g){K:Int->Prop}(hk:K g.Kind):dR s.p s.len (n:Int) 9 fun b o=>LD (au .u8) H b (o+2) K:=by
 have hl:=(List.getElem?_eq_some_iff.1 hx).1
 obtain⟨h1,⟨_,h2,_⟩|⟨_,_,_,h2,_⟩|⟨b,A,B,z,o,ro,h3,h4⟩⟩:=h
 ·subst h2; simp at hl
 ·subst h2; simp at hl
 ·unfold dR NIL
  rw[h3]
  refine⟨⟨by omega,by omega⟩,?_⟩
  refine dI (T:=au .u8) g.Kind (A++(fl TC (gs.take n)++[.string g.Name,.int .u8 g.Suit])) ((TC.cells g).drop 3++(fl TC (gs.drop (n+1))++B)) h4 ?_ ?_ rfl hk
  ·rw[iH (T:=TC) gs n g hx]; simp[List.append_assoc]
  ·rw[List.length_append,List.length_append,bY Y5,List.length_take,Nat.min_eq_left (by omega),Int.toNat_natCast]
   show A.length+n*9+2=A.length+(n*9+2); omega
theorem FT{s:Sl}{gs:List ay}(h:fF TC H s gs){n:Nat}{g:ay}(hx:gs[n]? =some g){K:Sl->Prop}(hk:K g.Parts):dR s.p s.len (n:Int) 9 fun b o=>LD aK H b (o+8) K:=by
 have hl:=(List.getElem?_eq_some_iff.1 hx).1
 obtain⟨h1,⟨_,h2,_⟩|⟨_,_,_,h2,_⟩|⟨b,A,B,z,o,ro,h3,h4⟩⟩:=h
 ·subst h2; simp at hl
 ·subst h2; simp at hl
 ·unfold dR NIL
  rw[h3]
  refine⟨⟨by omega,by omega⟩,?_⟩
  refine dI (T:=aK) g.Parts (A++(fl TC (gs.take n)++(TC.cells g).take 8)) (fl TC (gs.drop (n+1))++B) h4 ?_ ?_ rfl hk
  ·rw[iH (T:=TC) gs n g hx]; simp[List.append_assoc]
  ·rw[List.length_append,List.length_append,bY Y5,List.length_take,Nat.min_eq_left (by omega),Int.toNat_natCast]
   show A.length+n*9+8=A.length+(n*9+8); omega
theorem UF(h:BD m H b se B ms){t:ByteArray}{Q:Int×Unit->Heap->Prop}(hq:Q (nD B t,()) H):CALL P [au .i64] iM [.pointer (some ⟨b,0,none⟩),.string t] H Q:=by
 apply BN
 unfold kU
 obtain⟨⟨s,gs,ns,w,hs,lo,hc⟩,few,_⟩:=h
 have hsl:=hs.1
 have hgl:=hc.1
 refine bf ?_
 refine bF (fun(u:(Int×Unit)×Unit) H'=>H'=H∧∃n:Nat,u.1.1=n∧n≤B.length∧∀(j:Nat) x,j<n->B[j]? =some x->(x.g.Name.toList==t.toList)=false) (fun u=>B.length-u.1.1.toNat) ?_ ⟨rfl,0,rfl,Nat.zero_le _,fun j x hj=>by omega⟩
 rintro G ⟨⟨i,_⟩,_⟩ H' ⟨rfl,n,hi,hn,hno⟩ hG
 simp only at hi; subst hi
 dsimp only at hG ⊢
 refine w.Oi rfl (dD (fun hlt=>w.Oi rfl ?_) (fun hge=> ?_))
 ·have hlt:n<B.length:=by omega
  have hx:B[n]? =some B[n]:=List.getElem?_eq_getElem hlt
  generalize B[n]=c at hx
  obtain⟨g,hg,cr⟩:=hc.2 n c hx
  have hnm:g.Name=c.g.Name:=by rw[←cr.e]; rfl
  refine aal hs hg ?_
  rw[hnm]
  refine bK (fun e=> ?_) (fun e=> ?_)
  ·rw[O1 hno hx e]at hq; exact hq
  ·rw[dG (by omega) (by omega)]
   refine hG _ _ ⟨rfl,n+1,by simp,hlt,fun j x hj hy=> ?_⟩ (by simp; omega)
   by_cases ej:j=n
   ·subst ej; rw[hx]at hy; cases hy; exact e
   ·exact hno j x (by omega) hy
 ·have hge:n=B.length:=by omega
  subst hge
  rw[Gy hno]at hq; exact hq
end
end Go.Proofs.YtijnknjopjmiiaaGreatDoor.Zq
end
section
namespace Go.Proofs.YtijnknjopjmiiaaGreatDoor.Zq
open Zv
section
variable{H:Heap}{b m:Nat}{B:List Cd}{ms:List ak}{se:Bool}{s:Sl}{ns:List ByteArray}
theorem QS{T:Tag}{s:Sl}{l:List T.α}(h:fF T H s l){x off:Nat}(e:s.p=some ⟨x,off,none⟩):x<H.length:=by
 obtain⟨_,⟨q,_⟩|⟨c,o,q,_⟩|⟨c,A,D,sz,o,ro,q,r⟩⟩:=h
 ·rw[q]at e; cases e
 ·rw[q]at e; cases e
 ·rw[q]at e; cases e; exact bW r
theorem RW.lt'(h:RW H b se s ns ms):b<H.length:=by obtain⟨sz,r⟩:=h.row; exact bW r
structure RG(m:Nat)(H0 H:Heap)(out:Sl)(L:List ay)(Bl:List Cd):Prop where
 n:∃sp,bQ TC H0 out H L sp
 len:L.length=Bl.length
 c:∀(k:Nat) d,Bl[k]? =some d->∃g,L[k]? =some g∧CR m H g d∧∀x off,g.Parts.p=some ⟨x,off,none⟩->out.p≠some ⟨x,0,none⟩
theorem RG.nil(m:Nat)(H:Heap):RG m H H ⟨none,0,0⟩ [] []:=⟨⟨[],Ow.nil TC H,by simp,.refl _ _⟩,rfl,fun k d h=>by simp at h⟩
theorem RG.fr{H0 H':Heap}{out:Sl}{L:List ay}{Bl:List Cd}(h:RG m H0 H' out L Bl):bI [] H0 H':=by obtain⟨sp,n⟩:=h.n; exact n.2.2
theorem RG.new{H0 H1 H2:Heap}{out:Sl}{L:List ay}{Bl:List Cd}(h:RG m H0 H1 out L Bl)(f:bI [] H1 H2):RG m H0 H2 out L Bl:=by
 obtain⟨⟨sp,n⟩,h2,h3⟩:=h
 exact⟨⟨sp,n.1.bZ f (by simp[Sl.off]),n.2.1,n.2.2.trans f⟩,h2,fun k d hk=>by obtain⟨g,q1,q2,q3⟩:=h3 k d hk; exact⟨g,q1,q2.bZ f (by simp),q3⟩⟩
theorem CR.after{H1 H2:Heap}{out:Sl}{g:ay}{d:Cd}(h:CR m H1 g d)(a:After out H1 H2)(ap:∀x off,g.Parts.p=some ⟨x,off,none⟩->out.p≠some ⟨x,0,none⟩):CR m H2 g d:=by
 refine⟨h.e,?_,h.lo⟩
 by_cases hq:∃d,out.p=some ⟨d,0,none⟩
 ·obtain⟨d0,hd0⟩:=hq
  refine h.p.bZ (a.bZ (B:=[d0]) fun d hd=>by rw[hd0]at hd; cases hd; simp) fun x hx o e=> ?_
  simp at hx; subst hx
  exact ap _ o e hd0
 ·exact h.p.bZ (a.bZ (B:=[]) fun d hd=>absurd ⟨d,hd⟩ hq) (by simp)
theorem RG.app{H0 H1:Heap}{out:Sl}{L:List ay}{Bl:List Cd}(h:RG m H0 H1 out L Bl){g:ay}{d:Cd}(cr:CR m H1 g d)(ap:∀x off,g.Parts.p=some ⟨x,off,none⟩->out.p≠some ⟨x,0,none⟩)(hl:Bl.length≤100){K:Sl->Heap->Prop}
  (hk:∀s' H2,RG m H0 H2 s' (L++[g]) (Bl++[d])->K s' H2):Gs aK (lenV out.v+1) (fA E [22,22] out.v 1 (TC.cells g) H1) K:=by
 obtain⟨⟨sp,n⟩,h2,h3⟩:=h
 refine Jw tyC rfl (fun _=>by simp) (m:=1) [g] rfl (by simp[fl]) (by show 2*(L.length+1)*4096≤_; omega) n.1 fun s2 H2 sp2 k1 k2 k3=>hk s2 H2 ⟨⟨sp2,n.app k1 k2 k3⟩,by simp[h2],fun k d' hk'=> ?_⟩
 have far:∀(g':ay) d',CR m H1 g' d'->(∀x off,g'.Parts.p=some ⟨x,off,none⟩->out.p≠some ⟨x,0,none⟩)->∀x off,g'.Parts.p=some ⟨x,off,none⟩->s2.p≠some ⟨x,0,none⟩:=fun g' d' c' a' x off e e2=>by
  rcases k2 with q|⟨q,_⟩
  ·exact a' x off e (by rw[←q]; exact e2)
  ·rw[q]at e2
   have:=QS c'.p e
   cases e2; omega
 by_cases e:k<Bl.length
 ·rw[List.getElem?_append_left e]at hk'
  obtain⟨g',q1,q2,q3⟩:=h3 k d' hk'
  exact⟨g',by rw[List.getElem?_append_left (by omega)]; exact q1,q2.after k3 q3,far g' d' q2 q3⟩
 ·have hkl:=(List.getElem?_eq_some_iff.1 hk').1
  simp at hkl
  have ek:k=Bl.length:=by omega
  subst ek
  simp at hk'; subst hk'
  exact⟨g,by rw[←h2]; simp,cr.after k3 ap,far g d cr ap⟩
def Std(c:Cd)(B:List Cd)(i:Nat)(put:Bool)(Bl:List Cd):Prop:=
 (put=false∧Bl=B.take i∧∀(j:Nat) d,j<i->B[j]? =some d->CP c d=false)∨
 (put=true∧∃p,p<i∧Bl=B.take p++c::(B.take i).drop p∧(∀(j:Nat) d,j<p->B[j]? =some d->CP c d=false)∧∀d,B[p]? =some d->CP c d=true)
theorem Std.len{c:Cd}{i:Nat}{put:Bool}{Bl:List Cd}(h:Std c B i put Bl)(hi:i≤B.length):Bl.length≤i+1:=by
 rcases h with⟨_,rfl,_⟩|⟨_,p,hp,rfl,_⟩
 ·simp; omega
 ·simp; omega
theorem take_drop_succ{α:Type}{l:List α}{i p:Nat}(hi:i<l.length)(hp:p≤i):(l.take (i+1)).drop p=(l.take i).drop p++[l[i]]:=by
 rw[List.take_succ_eq_append_getElem hi,List.drop_append_of_le_length (by simp; omega)]
theorem Std.fin{c:Cd}{put:Bool}{Bl:List Cd}(h:Std c B B.length put Bl):insL CP c B=if put=true then Bl else Bl++[c]:=by
 rcases h with⟨rfl,rfl,h3⟩|⟨rfl,p,hp,rfl,h3,h4⟩
 ·rw[if_neg (by decide),List.take_length]
  rw[OU (lt:=CP) (i:=B.length) (Nat.le_refl _) (fun j hj hji=>h3 j _ hj (List.getElem?_eq_getElem hj)) (fun h=>by omega)]
  simp
 ·rw[if_pos rfl,List.take_length]
  exact OU (lt:=CP) (by omega) (fun j hj hji=>h3 j _ hji (List.getElem?_eq_getElem hj)) (fun h=>h4 _ (List.getElem?_eq_getElem h))
theorem ab9(h:BD m H b false B ms){g:ay}{ps:List Pt}(ok:OkG g)(hs:fF TP H g.Parts ps)(op:∀p∈ps,OkP p){Q:Int×Unit->Heap->Prop}
  (hq:∀H',BD m H' b false (Bv B ⟨bare g,ps⟩) ms->bI [b] H H'->Q (zO B ⟨bare g,ps⟩,()) H'):CALL P [au .i64] lG [.pointer (some ⟨b,0,none⟩),TC.enc g] H Q:=by
 apply DC
 unfold lT
 have hcc:xE ⟨g,ps⟩=xE ⟨bare g,ps⟩:=rfl
 generalize hc0:(⟨bare g,ps⟩:Cd)=c at hq hcc
 have cg:bare g=c.g:=by rw[←hc0]
 have cps:ps=c.ps:=by rw[←hc0]
 have cnm:c.g.Name=g.Name:=by rw[←cg]; rfl
 have same:∀e:Int,e≠0->zO B c=e->Q (e,()) H:=fun e he ha=>by
  have a:Bv B c=B:=by unfold Bv; rw[if_neg (by rw[ha]; exact he)]
  have:=hq H (by rw[a]; exact h) (.refl _ _)
  rwa [ha]at this
 have few:=h.few
 refine Iy h (bG rfl ?_)
 obtain⟨⟨s,gs,ns,w,hsl,slo,hc⟩,_,lt,ml⟩:=id h
 have hsl1:=hsl.1
 have hgl:=hc.1
 refine w.Ed rfl (bG rfl (Yv ok hs op (Ak (fun h1=> ?_) (fun h1=> ?_))))
 ·dsimp only at h1
  rw[hcc]at h1
  dsimp only; rw[hcc]
  exact same _ h1 (by unfold zO; rw[if_pos h1])
 dsimp only at h1
 rw[hcc]at h1
 refine UF h (dD (fun h2=> ?_) (fun h2=> ?_))
 ·dsimp only at h2
  refine same 5 (by decide) ?_
  unfold zO
  rw[if_neg (fun q=>q h1),if_pos (by rw[cnm]; exact zH.1 h2)]
 dsimp only at h2
 have hnin:¬(jX B c.g.Name).isSome=true:=fun q=>h2 (zH.2 (by rw[←cnm]; exact q))
 refine w.Oi rfl (dD (fun h3=> ?_) (fun h3=> ?_))
 ·refine same 14 (by decide) ?_
  unfold zO
  rw[if_neg (fun q=>q h1),if_neg hnin,if_pos (by omega)]
 have e0:zO B c=0:=by unfold zO; rw[if_neg (fun q=>q h1),if_neg hnin,if_neg (by omega)]
 have hps4:ps.length≤4:=by
  have:zN c=0:=by
   unfold xE at h1
   by_cases hf:zN c=0
   ·exact hf
   ·rw[if_neg hf]at h1; exact h1
  rw[cps]; exact qw this
 have copy:∀{H1:Heap} {out:Sl} {L:List ay} {Bl:List Cd} {K:Sl->Heap->Prop},RG m H H1 out L Bl->Bl.length≤100->(∀s' H2 L',RG m H H2 s' L' (Bl++[c])->K s' H2)->CALL P [TC] lJ [TC.enc g] H1 fun(x28:ay×Unit) H9=>Gs aK (lenV out.v+1) (fA E [22,22] out.v 1 (TC.cells x28.1) H9) K:=by
  intro H1 out L Bl K bd hbl hK
  have hH1:=bd.fr.1
  refine ab8 (hs.bZ bd.fr (by simp)) (by omega) fun s' H9 hs9 lo9 f9=> ?_
  have crn:CR m H9 { g with Parts:=s' } c:=⟨by rw[←cg]; rfl,by rw[←cps]; exact hs9,fun d hd=>by have:=lo9 d hd; omega⟩
  refine(bd.new f9).app crn (fun x off e e2=> ?_) hbl fun s2 H2 bd2=>hK s2 H2 _ bd2
  obtain⟨sp,n⟩:=bd.n
  have:=n.1.lt e2
  have:=lo9 x (by rw[e]; simp[bl])
  omega
 have old:∀{H1:Heap} {out:Sl} {L:List ay} {Bl:List Cd} {i:Nat} {g1:ay} {d:Cd} {K:Sl->Heap->Prop},RG m H H1 out L Bl->Bl.length≤100->gs[i]? =some g1->CR m H g1 d->(∀s' H2 L',RG m H H2 s' L' (Bl++[d])->K s' H2)->Gs aK (lenV out.v+1) (fA E [22,22] out.v 1 (TC.cells g1) H1) K:=by
  intro H1 out L Bl i g1 d K bd hbl hg1 cr hK
  refine bd.app (cr.bZ bd.fr (by simp)) (fun x off e e2=> ?_) hbl fun s2 H2 bd2=>hK s2 H2 _ bd2
  obtain⟨sp,n⟩:=bd.n
  have:=n.2.1 x e2
  have:=QS cr.p e
  omega
 refine aS (fun y H'=>∃L Bl,RG m H H' (y:(Sl×Bool×Unit)×Unit).1.1 L Bl∧Std c B B.length y.1.2.1 Bl) (fun j hj=> ?_) ?_
 ·refine bF (fun(t:(Sl×Bool×Int×Unit)×Unit) H'=>∃(i:Nat) (L:List ay) (Bl:List Cd),t.1.2.2.1=i∧i≤B.length∧RG m H H' t.1.1 L Bl∧Std c B i t.1.2.1 Bl) (fun t=>B.length-t.1.2.2.1.toNat) ?_ ⟨0,[],[],rfl,Nat.zero_le _,.nil m H,.inl ⟨rfl,by simp,fun j d hj=>by omega⟩⟩
  rintro G ⟨⟨out,put,i,_⟩,_⟩ H' ⟨i,L,Bl,hi,hil,bd,st⟩ hG
  simp only at hi bd st; subst hi
  dsimp only at hG ⊢
  have f':=bd.fr
  have w':=w.bZ f' (by simp)
  have hs':=hsl.bZ f' (by simp)
  have hbl:=st.len hil
  refine w'.Oi rfl (dD (fun hlt=> ?_) (fun hge=> ?_))
  ·have hlt:i<B.length:=by omega
   have hx:B[i]? =some B[i]:=List.getElem?_eq_getElem hlt
   have tds:∀p,p≤i->(B.take (i+1)).drop p=(B.take i).drop p++[B[i]]:=fun p hp=>take_drop_succ hlt hp
   have tks:B.take (i+1)=B.take i++[B[i]]:=List.take_succ_eq_append_getElem hlt
   generalize B[i]=d at hx tds tks
   obtain⟨g1,hg1,cr1⟩:=hc.2 i d hx
   refine JD (H:=H') (put=false∧CP c d=true) (fun j2 hj2=> ?_) ?_
   ·cases put with
    |true=>exact bG rfl (hj2 _ (by simp))
    |false=>exact fB rfl (w'.Oi rfl (bD (T:=TC) Y5 hs' rfl hg1 rfl (aak cg cr1.e fun r hr=>hj2 _ (by simpa using hr))))
   ·refine aS (fun y H8=>∃L' Bl',RG m H H8 (y:(Sl×Bool×Unit)×Unit).1.1 L' Bl'∧Bl'.length≤90∧Std c B (i+1) y.1.2.1 (Bl'++[d])) (fun j3 hj3=> ?_) ?_
    ·refine dD (fun hy=> ?_) (fun hy=>hj3 _ _ ⟨L,Bl,bd,by omega,?_⟩)
     ·obtain⟨hp,ha⟩:=hy
      subst hp
      refine copy bd (by omega) fun s' H2 L' bd2=>hj3 _ _ ⟨L',_,bd2,by simp; omega,?_⟩
      rcases st with⟨_,rfl,k3⟩|⟨k,_⟩
      ·refine .inr ⟨rfl,i,by omega,?_,k3,fun d' hd'=>by rw[hx]at hd'; cases hd'; exact ha⟩
       rw[tds i (Nat.le_refl _),List.drop_eq_nil_of_le (by simp; omega)]; simp
      ·cases k
     ·rcases st with⟨k1,rfl,k3⟩|⟨k1,p,hp,rfl,k3,k4⟩
      ·refine .inl ⟨k1,tks.symm,fun j d' hj hd'=> ?_⟩
       by_cases ej:j=i
       ·subst ej; rw[hx]at hd'; cases hd'
        cases ha:CP c d with
        |false=>rfl
        |true=>exact absurd ⟨k1,ha⟩ hy
       ·exact k3 j d' (by omega) hd'
      ·refine .inr ⟨k1,p,by omega,?_,k3,k4⟩
       rw[tds p (by omega)]; simp
    ·rintro⟨⟨out2,put2,_⟩,_⟩ H8 ⟨L2,Bl2,bd2,hb2,st2⟩
     simp only at bd2 st2
     dsimp only
     have f8:=bd2.fr
     refine(w.bZ f8 (by simp)).Oi rfl (bD (T:=TC) Y5 (hsl.bZ f8 (by simp)) rfl hg1 rfl (old bd2 (by omega) hg1 cr1 fun s' H2 L' bd3=> ?_))
     rw[dG (by omega) (by omega)]
     exact hG _ _ ⟨i+1,_,_,by simp,hlt,bd3,st2⟩ (by simp; omega)
  ·have hge:i=B.length:=by omega
   subst hge
   exact hj _ _ ⟨L,Bl,bd,st⟩
 rintro⟨⟨out,put,_⟩,_⟩ H4 ⟨L,Bl,bd,st⟩
 simp only at bd st
 dsimp only
 have hbl:=st.len (Nat.le_refl _)
 have hfin:=st.fin
 refine aS (fun y H'=>∃L',RG m H H' (y:(Sl×Unit)×Unit).1.1 L' (insL CP c B)) (fun j hj=> ?_) ?_
 ·cases put with
  |false=>
   rw[if_neg (by decide)]at hfin
   exact fB rfl (copy bd (by omega) fun s' H2 L' bd2=>hj _ _ ⟨L',by rw[hfin]; exact bd2⟩)
  |true=>
   rw[if_pos rfl]at hfin
   exact bG rfl (hj _ _ ⟨L,by rw[hfin]; exact bd⟩)
 rintro⟨⟨out2,_⟩,_⟩ H12 ⟨L',bd2⟩
 simp only at bd2
 dsimp only
 have f12:=bd2.fr
 refine(w.bZ f12 (by simp)).aeG out2 (by simp) fun H15 w15 f15=> ?_
 have ea:Bv B c=insL CP c B:=by unfold Bv; rw[if_pos e0]
 have fr:bI [b] H H15:=(f12.mono (by simp)).trans f15
 obtain⟨sp,n⟩:=bd2.n
 have hbl:=w.lt'
 have res:=hq H15 (by
  rw[ea]
  refine⟨⟨out2,L',ns,w15,?_,fun d hd=>by have:=nbl n d hd; omega,bd2.len,fun k d hk=> ?_⟩,by rw[TB]; omega,lt,by have:=fr.1; omega⟩
  ·refine n.1.xC.bZ f15 fun d hd o e=> ?_
   simp at hd; subst hd
   have:=nbl n d (by rw[e]; simp[bl]); omega
  ·obtain⟨g',q1,q2,_⟩:=bd2.c k d hk
   exact⟨g',q1,q2.bZ f15 fun d hd=>by simp at hd; omega⟩) fr
 rwa [e0]at res
end
end Go.Proofs.YtijnknjopjmiiaaGreatDoor.Zq
end
section
namespace Go.Proofs.YtijnknjopjmiiaaGreatDoor.Zq
open Zv
section
variable{H:Heap}{b m:Nat}{B:List Cd}{ms:List ak}
theorem ab_(h:BD m H b false B ms)(h0:∀y,ms[0]? =some y->y.Name.toList=[]){x:ak}{Q:Int×Unit->Heap->Prop}(hq:∀H',BD m H' b false B (GV ms x)->bI [b] H H'->Q (Du ms x,()) H'):CALL P [au .i64] lH [.pointer (some ⟨b,0,none⟩),TM.enc x] H Q:=by
 apply DJ
 unfold lU
 have e:=KO ms x
 have same:∀r:Int,r≠0->Du ms x=r->Q (r,()) H:=fun r hr hm=>by
  have a:GV ms x=ms:=by unfold GV; rw[if_neg (by rw[hm]; exact hr)]
  have:=hq H (by rw[a]; exact h) (.refl _ _)
  rwa [hm]at this
 refine Iy h (bG rfl ?_)
 obtain⟨⟨s,gs,ns,w,hsl,slo,hc⟩,few,lt,ml⟩:=id h
 refine w.Ed rfl (bG rfl ?_)
 refine hJ (badM x) (fun j hj=> ?_) (fun h1=>same 2 (by decide) (by rw[e,if_pos h1])) (fun h1=> ?_)
 ·unfold badM at hj
  exact dD (fun h=>hj _ (by simp; omega)) (fun h=>dD (fun h=>hj _ (by simp; omega)) (fun h=>dD (fun h=>hj _ (by simp; omega)) (fun h=>dD (fun h=>hj _ (by simp; omega)) (fun h=>dD (fun h=>hj _ (by simp; omega)) (fun h=>hj _ (by simp; omega))))))
 rw[if_neg h1]at e
 have hr:1≤x.Mark∧x.Mark≤4:=by unfold badM at h1; omega
 refine Z9 (QI (fun h2=>same 4 (by decide) (by rw[e,if_pos h2])) (fun h2=> ?_))
 rw[if_neg (fun q=>q h2)]at e
 have hm5:=w.m
 have hnm:x.Name.toList≠[]:=by
  rw[ByteArray.toList_eq]
  intro q
  have:=h2.1
  rw[q]at this; simp at this
 refine aS (fun _ H'=>H'=H∧∀(j:Nat) y,1≤j->ms[j]? =some y->¬((j:Int)=x.Mark∧y.Mark≠0)∧y.Name.toList≠x.Name.toList) (fun j hj=> ?_) ?_
 ·refine bF (fun(t:(Int×Unit)×Unit) H'=>H'=H∧∃n:Nat,t.1.1=n∧1≤n∧n≤5∧∀(j:Nat) y,1≤j->j<n->ms[j]? =some y->¬((j:Int)=x.Mark∧y.Mark≠0)∧y.Name.toList≠x.Name.toList) (fun t=>5-t.1.1.toNat) ?_ ⟨rfl,1,rfl,by omega,by omega,fun j y h1 h2=>by omega⟩
  rintro G ⟨⟨i,_⟩,_⟩ H' ⟨rfl,n,hi,hn1,hn5,hno⟩ hG
  simp only at hi; subst hi
  dsimp only at hG ⊢
  refine dD (fun hlt=> ?_) (fun hge=>hj _ _ ⟨rfl,fun j y q1 q2=>hno j y q1 (by have:=(List.getElem?_eq_some_iff.1 q2).1; omega) q2⟩)
  have hlt:n<5:=by omega
  have hy:ms[n]? =some (ms[n]'(by omega)):=List.getElem?_eq_getElem (by omega)
  generalize (ms[n]'(by omega))=y at hy
  have hw8:IntKind.wrap .u8 (n:Int)=n:=by rcases(by omega:n=1∨n=2∨n=3∨n=4)with rfl|rfl|rfl|rfl<;>decide
  rw[hw8]
  have hA:(0:Int)≤n∧(n:Int)<5:=by omega
  have bad:((n:Int)=x.Mark∧y.Mark≠0)∨y.Name.toList=x.Name.toList->QN ms x:=fun q=>by
   rcases q with⟨q1,q2⟩|q
   ·exact .inl ⟨y,by rw[show x.Mark.toNat=n by omega]; exact hy,q2⟩
   ·exact .inr ⟨y,List.mem_of_getElem? hy,q⟩
  refine hJ (((n:Int)=x.Mark∧y.Mark≠0)∨y.Name.toList=x.Name.toList) (fun j2 hj2=>fM (fun e1=>⟨hA,w.Ef hy (by simp) (Ak (fun e2=>hj2 _ (by simp[e1,e2])) (fun e2=>⟨hA,w.UD hy (by simp) (hj2 _ (by simp[e2]))⟩))⟩) (fun e1=>⟨hA,w.UD hy (by simp) (hj2 _ (by simp[e1]))⟩)) (fun q=>same 5 (by decide) (by rw[e,if_pos (bad q)])) (fun q=> ?_)
  rw[dG (by omega) (by omega)]
  refine hG _ _ ⟨rfl,n+1,by simp,by omega,by omega,fun j z q1 q2 q3=> ?_⟩ (by simp; omega)
  by_cases ej:j=n
  ·subst ej; rw[hy]at q3; cases q3
   exact⟨fun k=>q (.inl k),fun k=>q (.inr k)⟩
  ·exact hno j z q1 (by omega) q3
 rintro _ H4 ⟨rfl,hno⟩
 have e0:Du ms x=0:=by
  rw[e,if_neg]
  rintro(⟨z,hz,q⟩|⟨z,hz,q⟩)
  ·exact(hno x.Mark.toNat z (by omega) hz).1 ⟨by omega,q⟩
  ·obtain⟨j,hj⟩:=List.mem_iff_getElem?.1 hz
   by_cases ej:j=0
   ·subst ej; rw[h0 z hj]at q; exact hnm q.symm
   ·exact(hno j z (by omega) hj).2 q
 refine⟨⟨by omega,by omega⟩,w.KL (i:=x.Mark.toNat) (by omega) x (by simp) fun H7 w7 f7=> ?_⟩
 have ea:GV ms x=ms.set x.Mark.toNat x:=by unfold GV; rw[if_pos e0]
 have hF:∀d∈[b],d<m:=fun d hd=>by simp at hd; omega
 have res:=hq H7 ⟨⟨s,gs,ns,by rw[ea]; exact w7,QO hsl slo f7 hF,slo,hc.bZ f7 hF⟩,few,lt,by have:=f7.1; omega⟩ f7
 rwa [e0]at res
theorem acd(h:BD m H b false B ms){Q:Int×Unit->Heap->Prop}(okB:Dt B)(hq:∀H',BD m H' b (decide (rO B=0)) B ms->bI [b] H H'->Q (rO B,()) H'):CALL P [au .i64] lI [.pointer (some ⟨b,0,none⟩)] H Q:=by
 apply DN
 unfold lV
 have same:∀r:Int,r≠0->rO B=r->Q (r,()) H:=fun r hr e=>by
  have:=hq H (by rw[e,decide_eq_false hr]; exact h) (.refl _ _)
  rwa [e]at this
 refine Iy h (bG rfl ?_)
 obtain⟨⟨s,gs,ns,w,hsl,slo,hc⟩,few,lt,ml⟩:=id h
 have hsl1:=hsl.1
 have hgl:=hc.1
 refine w.Ed rfl (bG rfl ?_)
 refine aS (fun _ H'=>H'=H∧rO B=0) (fun j hj=> ?_) ?_
 ·refine bF (fun(s:(Int×Unit)×Unit) H'=>H'=H∧∃i:Nat,s.1.1=i∧i≤B.length∧rO B=tC B ((B.drop i).flatMap (·.ps))) (fun s=>B.length-s.1.1.toNat) ?_ ⟨rfl,0,rfl,Nat.zero_le _,by simp[rO]⟩
  rintro G ⟨⟨i,_⟩,_⟩ H' ⟨rfl,i,hi,hil,hse⟩ hG
  simp only at hi; subst hi
  dsimp only at hG ⊢
  refine w.Oi rfl (dD (fun hlt=> ?_) (fun hge=>hj _ _ ⟨rfl,?_⟩))
  ·have hlt:i<B.length:=by omega
   have hx:B[i]? =some B[i]:=List.getElem?_eq_getElem hlt
   rw[List.drop_eq_getElem_cons hlt,List.flatMap_cons]at hse
   generalize B[i]=c at hx hse
   obtain⟨g,hg,cr⟩:=hc.2 i c hx
   have hp:=cr.p
   have hpl:=hp.1
   have hp4:c.ps.length≤4:=by
    have:=okB.ok c (List.mem_of_getElem? hx)
    unfold xE at this
    by_cases hf:zN c=0
    ·exact qw hf
    ·rw[if_neg hf]at this; exact absurd this hf
   refine bf (bf ?_)
   refine bF (fun(s:(Int×Unit)×Unit) H2=>H2=H'∧∃k:Nat,s.1.1=k∧k≤c.ps.length∧rO B=tC B (c.ps.drop k++(B.drop (i+1)).flatMap (·.ps))) (fun s=>c.ps.length-s.1.1.toNat) ?_ ⟨rfl,0,rfl,Nat.zero_le _,by simpa using hse⟩
   rintro G2 ⟨⟨k,_⟩,_⟩ H2 ⟨rfl,k,hk,hkl,hse2⟩ hG2
   simp only at hk; subst hk
   dsimp only at hG2 ⊢
   refine w.Oi rfl (FT hsl hg (dD (fun hlt2=> ?_) (fun hge2=> ?_)))
   ·have hlt2:k<c.ps.length:=by omega
    have hy:c.ps[k]? =some c.ps[k]:=List.getElem?_eq_getElem hlt2
    rw[List.drop_eq_getElem_cons hlt2,List.cons_append,Gz]at hse2
    generalize c.ps[k]=p at hy hse2
    refine bf (w.Oi rfl (FT hsl hg (bD (T:=TP) hTP hp rfl hy rfl ?_)))
    have next:xu B p=0->G2 ((IntKind.wrap .i64 ((k:Int)+1),()),()) H2:=fun hz=>by
     rw[if_neg (fun q=>q hz)]at hse2
     rw[dG (by omega) (by omega)]
     exact hG2 _ _ ⟨rfl,k+1,by simp,hlt2,hse2⟩ (by simp; omega)
    refine Ak (fun hv=>next (KP hv)) (fun hv=>UF h (dD (fun hn=> ?_) (fun hn=> ?_)))
    ·dsimp only at hn
     have:=Xv hv hn
     exact same 6 (by decide) (by rw[hse2,if_pos (by rw[this]; decide),this])
    ·dsimp only at hn
     obtain⟨i2,c2,q1,q2,q3⟩:=KQ hn
     obtain⟨g2,hg2,cr2⟩:=hc.2 i2 c2 q3
     have hkd:g2.Kind=c2.g.Kind:=by rw[←cr2.e]; rfl
     have hce:=KR hv q1 q3
     dsimp only
     rw[q2]
     refine w.Oi rfl (aam hsl hg2 ?_)
     rw[hkd]
     refine fM (fun e2=> ?_) (fun e2=>next (by rw[hce,if_neg e2]))
     rw[if_pos e2]at hce
     exact same 8 (by decide) (by rw[hse2,if_pos (by rw[hce]; decide),hce])
   ·rw[KT (by omega)]at hse2
    rw[dG (by omega) (by omega)]
    exact hG _ _ ⟨rfl,i+1,by simp,hlt,hse2⟩ (by simp; omega)
  ·have hge:i=B.length:=by omega
   subst hge
   rw[hse,List.drop_length]; rfl
 rintro _ H2 ⟨rfl,e0⟩
 refine w.V5 true (by simp) fun H9 w9 f9=> ?_
 have hF:∀d∈[b],d<m:=fun d hd=>by simp at hd; omega
 have res:=hq H9 (by rw[e0]; exact⟨⟨s,gs,ns,w9,QO hsl slo f9 hF,slo,hc.bZ f9 hF⟩,few,lt,by have:=f9.1; omega⟩) f9
 rwa [e0]at res
end
end Go.Proofs.YtijnknjopjmiiaaGreatDoor.Zq
end
section
namespace Go.Proofs.YtijnknjopjmiiaaGreatDoor.Zq
open Zv
section
variable{H:Heap}
theorem Xx{T:Tag}(hT:∀x,(T.cells x).length=T.n){s:Sl}{l:List T.α}(h:fF T H s l){i:Int}{n:Nat}{x:T.α}(hi:i=n)(hx:l[n]? =some x){sz:Nat}(hz:sz=T.n){K:Nat->Nat->Prop}(hk:∀b o,(∀H2,fF T H2 s l->∀k:T.α->Prop,k x->LD T H2 b o k)->K b o):dR s.p s.len i sz K:=by
 have t:=bD hT h hi hx (k:=fun _=>True) hz trivial
 have hl:=(List.getElem?_eq_some_iff.1 hx).1
 obtain⟨h1,⟨_,h2,_⟩|⟨_,_,_,h2,_⟩|⟨b,A,B,z,o,ro,h3,h4⟩⟩:=id h
 ·subst h2; simp at hl
 ·subst h2; simp at hl
 ·unfold dR NIL at t ⊢
  rw[h3]at t ⊢
  refine⟨t.1,hk _ _ fun H2 h2 k hk=> ?_⟩
  have t2:=bD hT h2 hi hx (k:=k) hz hk
  unfold dR NIL at t2
  rw[h3]at t2
  exact t2.2
structure UG(ms:List ak):Prop where
 l:ms.length=5
 z:∀y,ms[0]? =some y->y.Name.toList=[]∧y.Mark=0
 b:∀y∈ms,-9≤y.Power∧y.Power≤9∧ -9≤y.Health∧y.Health≤9
theorem UG.zero:UG (List.replicate 5 ⟨0,ByteArray.mk #[],0,0⟩):=by
 refine⟨rfl,fun y h=> ?_,fun y h=> ?_⟩
 ·cases h; exact⟨zi,rfl⟩
 ·have:=List.eq_of_mem_replicate h; subst this; simp
theorem UG.add{ms:List ak}(h:UG ms)(x:ak):UG (GV ms x):=by
 unfold GV
 split
 ·rename_i e
  rw[KO]at e
  have hb:¬badM x:=fun q=>by rw[if_pos q]at e; cases e
  unfold badM at hb
  refine⟨by simpa using h.l,fun y hy=> ?_,fun y hy=> ?_⟩
  ·rw[List.getElem?_set_ne (by omega)]at hy; exact h.z y hy
  ·rcases List.mem_or_eq_of_mem_set hy with q|rfl
   ·exact h.b y q
   ·omega
 ·exact h
structure InC(H:Heap)(g:ay):Prop where
 ok:OkG g
 p:∃ps:List Pt,fF TP H g.Parts ps∧ps.length≤1048576∧∀p∈ps,OkP p
def UH(B:List Cd):Prop:=∀c∈B,OkG c.g∧∀p∈c.ps,OkP p
theorem UH.add{B:List Cd}(h:UH B){c:Cd}(hc:OkG c.g∧∀p∈c.ps,OkP p):UH (Bv B c):=by
 unfold Bv
 split
 ·intro d hd
  rcases TA.1 hd with rfl|q
  ·exact hc
  ·exact h d q
 ·exact h
structure Yy(H0 H:Heap)(a b m:Nat)(se:Bool)(B:List Cd)(ms:List ak):Prop where
 p:BP m H a se B ms
 r:BD m H b se B ms
 ok:Dt B
 km:UG ms
 og:UH B
 ab:a≠b
 la:H0.length≤a
 lb:H0.length≤b
 f:bI [] H0 H
theorem Yy.new{H0 H H':Heap}{a b m:Nat}{se:Bool}{B:List Cd}{ms:List ak}(h:Yy H0 H a b m se B ms)(f:bI [] H H'):Yy H0 H' a b m se B ms:=⟨h.p.new f,h.r.new f,h.ok,h.km,h.og,h.ab,h.la,h.lb,h.f.trans f⟩
theorem BP.up{b m m':Nat}{se:Bool}{ms:List ak}(h:BP m H b se [] ms)(h1:m≤m')(h2:m'≤H.length):BP m' H b se [] ms:=by
 obtain⟨⟨cs,ns,w,hc⟩,q1,q2,q3⟩:=h
 exact⟨⟨cs,ns,w,fun i c hx=>by simp at hx⟩,q1,by omega,h2⟩
theorem Yy.step{H0 H1 H2 H3:Heap}{a b m:Nat}{se se':Bool}{B B':List Cd}{ms ms':List ak}(h:Yy H0 H1 a b m se B ms)(p:BP m H2 a se' B' ms')(f1:bI [a] H1 H2)(r:BD m H3 b se' B' ms')(f2:bI [b] H2 H3)(ok:Dt B')(km:UG ms')(og:UH B'):Yy H0 H3 a b m se' B' ms':=
 ⟨p.bZ f2 fun d hd=>by simp at hd; subst hd; exact⟨r.lt,fun e=>h.ab e.symm⟩,r,ok,km,og,h.ab,h.la,h.lb,(h.f.then f1 fun c hc=>by simp at hc; exact .inr (by rw[hc]; exact h.la)).then f2 fun c hc=>by simp at hc; exact .inr (by rw[hc]; exact h.lb)⟩
theorem ace{x:bM}{gs:List ay}{mks:List ak}(hC:fF TC H x.Cards gs)(hl:gs.length≤1048576)(hG':∀g∈gs,InC H g)(hM:fF TM H x.Marks mks)(hml:mks.length≤1048576){Q:(Option Addr)×(Option Addr)×Bool×Unit->Heap->Prop}
  (hq:∀H' a b m se B ms,Yy H H' a b m se B ms->Q (some ⟨a,0,none⟩,some ⟨b,0,none⟩,true,()) H'):CALL P [dK,dK,ah] yB [bn.enc x] H Q:=by
 apply TJ
 unfold yJ
 have hcl:=hC.1
 have hmk:=hM.1
 refine adO fun H1 hp1 f1 l1=>adP fun H2 hr2 f2 l2=> ?_
 have bk2:Yy H H2 H.length H1.length (H.length+2) false [] (List.replicate 5 ⟨0,ByteArray.mk #[],0,0⟩):=
  ⟨((hp1 (H.length+1) (by omega) (by omega)).new f2).up (by omega) (by omega),hr2 (H.length+2) (by omega) (by omega),⟨by simp,List.Pairwise.nil,by simp⟩,UG.zero,(fun _ h=>nomatch h),by omega,Nat.le_refl _,by omega,f1.trans f2⟩
 generalize H.length+2=m at bk2
 generalize H1.length=b at bk2
 generalize ha:H.length=a at bk2
 refine aS (fun _ H'=>∃B,Yy H H' a b m false B (List.replicate 5 ⟨0,ByteArray.mk #[],0,0⟩)) (fun j hj=> ?_) ?_
 ·refine bF (fun(t:(Int×Unit)×Unit) H'=>∃(i:Nat) (B:List Cd),t.1.1=i∧i≤gs.length∧Yy H H' a b m false B (List.replicate 5 ⟨0,ByteArray.mk #[],0,0⟩)) (fun t=>gs.length-t.1.1.toNat) ?_ ⟨0,[],rfl,Nat.zero_le _,bk2⟩
  rintro G ⟨⟨i,_⟩,_⟩ H' ⟨i,B,hi,hil,bk⟩ hG
  simp only at hi; subst hi
  dsimp only at hG ⊢
  refine dD (fun hlt=> ?_) (fun hge=>hj _ _ ⟨B,bk⟩)
  have hlt:i<gs.length:=by omega
  have hx:gs[i]? =some gs[i]:=List.getElem?_eq_getElem hlt
  have ig:=hG' gs[i] (List.getElem_mem hlt)
  generalize gs[i]=g at hx ig
  obtain⟨ok,ps,hs,hpl,op⟩:=ig
  refine bD (T:=TC) Y5 (hC.bZ bk.f (by simp)) rfl hx rfl (Xx (T:=TC) Y5 hC rfl hx rfl fun b10 o11 rd=> ?_)
  have rd':∀H2,bI [] H H2->∀K:ay->Prop,K g->LD TC H2 b10 o11 K:=fun H2 f K hk=>rd H2 (hC.bZ f (by simp)) K hk
  refine rd' H' bk.f _ (UE (hs.bZ bk.f (by simp)) (by omega) fun s1 H5 hs1 lo1 f5=>⟨rfl,rd' H5 (bk.f.trans f5) _ ⟨rfl,?_⟩⟩)
  have bk5:=bk.new f5
  have okg:∀s,OkG { g with Parts:=s }:=fun s=>⟨ok.nm,ok.s,ok.k,ok.t⟩
  have haH:a<H'.length:=by have:=bk.p.lt; have:=bk.p.ml; omega
  refine ab5 bk5.p bk5.ok (okg s1) hs1 op (fun d hd=>by have:=lo1 d hd; omega) fun H6 p6 f6=>⟨rfl,?_⟩
  have f06:bI [] H H6:=bk5.f.then f6 fun c hc=>by simp at hc; exact .inr (by rw[hc]; exact bk.la)
  refine rd' H6 f06 _ ⟨rfl,UE (hs.bZ f06 (by simp)) (by omega) fun s2 H7 hs2 lo2 f7=> ?_⟩
  have r7:BD m H7 b false B _:=(bk5.r.bZ f6 fun d hd=>by simp at hd; subst hd; exact⟨bk5.p.lt,bk5.ab⟩).new f7
  refine ab9 r7 (okg s2) hs2 op fun H8 r8 f8=>bG (by simp[bare]) ?_
  rw[dG (by omega) (by omega)]
  exact hG _ _ ⟨i+1,_,by simp,hlt,bk5.step (p6.new f7) (f6.trans (f7.mono (by simp))) r8 f8 (abS bk5.ok _) bk5.km (bk5.og.add ⟨⟨ok.nm,ok.s,ok.k,ok.t⟩,op⟩)⟩ (by simp; omega)
 rintro _ H3 ⟨B,bk3⟩
 refine aS (fun _ H'=>∃ms,Yy H H' a b m false B ms) (fun j hj=> ?_) ?_
 ·refine bF (fun(t:(Int×Unit)×Unit) H'=>∃(i:Nat) (ms:List ak),t.1.1=i∧i≤mks.length∧Yy H H' a b m false B ms) (fun t=>mks.length-t.1.1.toNat) ?_ ⟨0,_,rfl,Nat.zero_le _,bk3⟩
  rintro G ⟨⟨i,_⟩,_⟩ H' ⟨i,ms,hi,hil,bk⟩ hG
  simp only at hi; subst hi
  dsimp only at hG ⊢
  refine dD (fun hlt=> ?_) (fun hge=>hj _ _ ⟨ms,bk⟩)
  have hlt:i<mks.length:=by omega
  have hx:mks[i]? =some mks[i]:=List.getElem?_eq_getElem hlt
  generalize mks[i]=g at hx
  refine bD (T:=TM) hTM (hM.bZ bk.f (by simp)) rfl hx rfl (Xx (T:=TM) hTM hM rfl hx rfl fun b10 o11 rd=> ?_)
  have rd':∀H2,bI [] H H2->∀K:ak->Prop,K g->LD TM H2 b10 o11 K:=fun H2 f K hk=>rd H2 (hM.bZ f (by simp)) K hk
  refine rd' H' bk.f _ (ab6 bk.p fun H6 p6 f6=>⟨rfl,?_⟩)
  have f06:bI [] H H6:=bk.f.then f6 fun c hc=>by simp at hc; exact .inr (by rw[hc]; exact bk.la)
  refine rd' H6 f06 _ ⟨rfl,?_⟩
  have r6:BD m H6 b false B ms:=bk.r.bZ f6 fun d hd=>by simp at hd; subst hd; exact⟨bk.p.lt,bk.ab⟩
  refine ab_ r6 (fun y hy=>(bk.km.z y hy).1) fun H8 r8 f8=>bG (by simp) ?_
  rw[dG (by omega) (by omega)]
  exact hG _ _ ⟨i+1,_,by simp,hlt,bk.step p6 f6 r8 f8 bk.ok (bk.km.add g) bk.og⟩ (by simp; omega)
 rintro _ H9 ⟨ms,bk9⟩
 refine aS (fun y H'=>(y:(Bool×Unit)×Unit).1.1=false∧∃se,Yy H H' a b m se B ms) (fun j hj=> ?_) ?_
 ·refine bK (fun _=> ?_) (fun _=>hj _ _ ⟨rfl,false,bk9⟩)
  refine ab7 bk9.p bk9.ok fun H14 p14 f14=> ?_
  have r14:BD m H14 b false B ms:=bk9.r.bZ f14 fun d hd=>by simp at hd; subst hd; exact⟨bk9.p.lt,bk9.ab⟩
  exact acd r14 bk9.ok fun H15 r15 f15=>hj _ _ ⟨by simp,_,bk9.step p14 f14 r15 f15 bk9.ok bk9.km bk9.og⟩
 rintro⟨⟨r,_⟩,_⟩ H13 ⟨hr,se,bk13⟩
 simp only at hr; subst hr
 refine bG rfl (OZ bk13.p (Yx bk13.r ?_))
 have:=hq H13 a b m se B ms bk13
 simpa using this
end
end Go.Proofs.YtijnknjopjmiiaaGreatDoor.Zq
end
section
namespace Go.Proofs.YtijnknjopjmiiaaGreatDoor.Zq
section
open Go.Sort Go.RowKit
theorem Stp.adQ{M:Mp}{H:Heap}{w W:World}(h:HR M H w){b:Nat}{e:jg}{c c2:List Value}{sz:Nat}{opn:Bool}(hk:H[b]? =some (.row c sz opn false true))(he:M[b]? =some (some e))(hl:c2.length=c.length)
  {a a2:Array Value} {t:TypeId} (_hw:w.heap[e.blk]? =some (.cells a t (0,0))) (hsz:a2.size=a.size) (hle:e.base+c2.length≤a2.size) (hcs:a.size=e.csz) (hv:VL M c2 ((a2.toList.drop e.base).take c2.length))
  (hWe:W.heap[e.blk]? =some (.cells a2 t (0,0))) (hWo:∀k,k≠e.blk->W.heap[k]? =w.heap[k]?) (hWs:W.heap.size=w.heap.size) (hWos:W.os=w.os) (hWout:W.output=w.output) (hWt:W.tape=w.tape) (hWd:w.drawn≤W.drawn):
  Stp M H w M (H.set b (.row c2 sz opn false true)) W:=by
 have hblen:b<H.length:=(List.getElem?_eq_some_iff.1 hk).1
 have hset:∀(j:Nat),j≠b->(H.set b (.row c2 sz opn false true))[j]? =H[j]? :=fun j hj=>by rw[List.getElem?_set_ne (Ne.symm hj)]
 have hsetb:(H.set b (.row c2 sz opn false true))[b]? =some (.row c2 sz opn false true):=by rw[List.getElem?_set_self hblen]
 have hlive:∀j:Nat,bP (H.set b (.row c2 sz opn false true)) j↔bP H j:=by
  intro j; by_cases hj:j=b
  ·subst hj; unfold bP; rw[hsetb,hk]
  ·unfold bP; rw[hset j hj]
 have hwrit:∀j:Nat,aY (H.set b (.row c2 sz opn false true)) j↔aY H j:=by
  intro j; by_cases hj:j=b
  ·subst hj; unfold aY; rw[hsetb,hk]
  ·unfold aY; rw[hset j hj]
 have hwb:aY H b:=by unfold aY; rw[hk]; exact⟨rfl,rfl⟩
 obtain⟨q1,q2,q3,_⟩:=h.blk b e _ he hk
 refine⟨.refl M,⟨by simpa using h.len,?_,?_⟩,hWos,hWout,hWt,by omega,hWd,?_,?_,fun j hj=>⟨hj,hset j fun e0=>by subst e0; rw[he]at hj; simp at hj⟩,fun j ej hj hl _=>⟨j,ej,hj,(hlive j).1 hl,rfl⟩⟩
 ·intro j ej kj hj hkj
  by_cases hjb:j=b
  ·subst hjb
   rw[he]at hj; simp at hj; subst hj
   rw[hsetb]at hkj; simp at hkj; subst hkj
   exact⟨q1,by rw[q2,hl],q3,fun _=>⟨a2,t,(0,0),hWe,by rw[hsz,hcs],hle,hv,fun _=>rfl⟩⟩
  ·rw[hset j hjb]at hkj
   refine(h.blk j ej kj hj hkj).same fun hlv=>hWo _ ?_
   have hlj:bP H j:=by unfold bP; rw[hkj]; cases kj<;>first|exact hlv|trivial
   exact(h.sep b j e ej (Ne.symm hjb) he hj hwb hlj).symm
 ·intro j j' ej ej' hne hj hj' h1 h2
  exact h.sep j j' ej ej' hne hj hj' ((hwrit j).1 h1) ((hlive j').1 h2)
 ·intro k hk2 hn
  exact hWo k fun e0=>hn b e he hwb e0.symm
 ·intro j ej hj h1 _
  exact⟨j,ej,hj,(hwrit j).1 h1,rfl⟩
theorem Stp.grown{M:Mp}{H:Heap}{w:World}(h:HR M H w)(os:Array Obj):Stp M H w M H (grow w os):=by
 have hh:∀j,j<w.heap.size->(grow w os).heap[j]? =w.heap[j]? :=fun j hj=>by
  show(w.heap++os)[j]? =_
  rw[Array.getElem?_append_left hj]
 refine⟨.refl M,⟨h.len,fun b e k hb hk=>(h.blk b e k hb hk).same fun hlv=>hh _ (h.lq hb ?_),h.sep⟩,rfl,rfl,rfl,by show w.heap.size≤(w.heap++os).size; simp,Nat.le_refl _,fun c hc _=>hh c hc,fun b e hb hw _=>⟨b,e,hb,hw,rfl⟩,fun _ h=>⟨h,rfl⟩,fun b e hb hw _=>⟨b,e,hb,hw,rfl⟩⟩
 unfold bP; rw[hk]; cases k<;>first|exact hlv|trivial
def afn:gJ->gJ
 | .row c sz o _ l=>.row c sz o true l
 |k=>k
def frz(H:Heap):Heap:=H.map afn
theorem Eh{H:Heap}{b:Nat}{c:List Value}{sz:Nat}{o r l:Bool}(h:H[b]? =some (.row c sz o r l)):(frz H)[b]? =some (.row c sz o true l):=by
 unfold frz; rw[List.getElem?_map,h]; rfl
theorem fF.frz{T:Tag}{H:Heap}{s:Sl}{l:List T.α}(h:fF T H s l):fF T (Zq.frz H) s l:=by
 obtain⟨h1,h2|h2|⟨b,A,B,sz,o,ro,h3,h4⟩⟩:=h
 ·exact⟨h1,.inl h2⟩
 ·exact⟨h1,.inr (.inl h2)⟩
 ·exact⟨h1,.inr (.inr ⟨b,A,B,sz,o,true,h3,Eh h4⟩)⟩
def inS(S:List Nat):Value->Prop
 | .bool _| .int _ _| .string _| .pointer none| .slice none 0 0| .slice (some ⟨_,_,some 0⟩) 0 0=>True
 | .pointer (some a)=>a.block∈S∧a.spot=none
 | .slice (some a) _ _=>a.block∈S∧a.spot=none
 |_=>False
def Clo(S:List Nat)(H:Heap):Prop:=∀b∈S,∃c sz o r l,H[b]? =some (.row c sz o r l)∧∀v∈c,inS S v
def msk(S:List Nat)(M:Mp):Mp:=M.zipIdx.map fun p=>if p.2∈S then p.1 else none
theorem aan{S:List Nat}{M:Mp}{b:Nat}:(msk S M)[b]? =if b∈S then M[b]? else M[b]?.map fun _=>none:=by
 unfold msk
 rw[List.getElem?_map,List.getElem?_zipIdx]
 cases M[b]? with
 |none=>simp
 |some x=>simp only[Option.map_some,Nat.zero_add]; split<;>rfl
theorem QT{S:List Nat}{M:Mp}{b:Nat}{e:jg}(h:(msk S M)[b]? =some (some e)):M[b]? =some (some e)∧b∈S:=by
 rw[aan]at h
 split at h
 ·rename_i hb; exact⟨h,hb⟩
 ·cases hm:M[b]? with
  |none=>rw[hm]at h; simp at h
  |some x=>rw[hm]at h; simp at h
theorem aao{S:List Nat}{M:Mp}{b:Nat}{e:jg}(h:M[b]? =some (some e))(hb:b∈S):(msk S M)[b]? =some (some e):=by rw[aan,if_pos hb]; exact h
theorem aap{S:List Nat}{M:Mp}{v u:Value}(h:VR M v u)(hv:inS S v):VR (msk S M) v u:=by
 cases h with
 |bool b=>exact .bool b
 |int k n=>exact .int k n
 |float k n=>exact .float k n
 |string s=>exact .string s
 |ptr0=>exact .ptr0
 |ptr h=>exact .ptr (aao h hv.1)
 |slice0=>exact .slice0
 |slice h hc=>exact .slice (aao h hv.1) hc
 |sliceE=>exact .sliceE
 |map0=>exact .map0
 |nilFunc=>exact .nilFunc
 |nilIface=>exact .nilIface
 |_=>exact hv.elim
theorem adS{S:List Nat}{M:Mp}{H:Heap}{w:World}(h:HR M H w)(hc:Clo S H):HR (msk S M) (frz H) w:=by
 refine⟨by simp[msk,frz,h.len],fun b e k hb hk=> ?_,fun b b' e e' _ hb _ hw _=> ?_⟩
 ·obtain⟨h1,hS⟩:=QT hb
  obtain⟨c,sz,o,r,l,h2,h3⟩:=hc b hS
  rw[Eh h2]at hk
  simp at hk; subst hk
  obtain⟨q1,q2,q3,q4⟩:=h.blk b e _ h1 h2
  refine⟨q1,q2,q3,fun hl=> ?_⟩
  obtain⟨c',t,fz,g1,g2,g3,g4,_⟩:=q4 hl
  exact⟨c',t,fz,g1,g2,g3,⟨g4.1,fun i x u hx hu=>aap (g4.2 i x u hx hu) (h3 x (List.mem_of_getElem? hx))⟩,fun h=>by cases h⟩
 ·obtain⟨_,hS⟩:=QT hb
  obtain⟨c,sz,o,r,l,h2,_⟩:=hc b hS
  unfold aY at hw
  rw[Eh h2]at hw
  simp at hw
theorem adT{S:List Nat}{M:Mp}{H:Heap}(hc:Clo S H):∀(b:Nat) (e:jg),(msk S M)[b]? =some (some e)->¬aY (frz H) b:=fun b e hb hw=>by
 obtain⟨_,hS⟩:=QT hb
 obtain⟨c,sz,o,r,l,h2,_⟩:=hc b hS
 unfold aY at hw
 rw[Eh h2]at hw
 simp at hw
theorem UJ{w w':World}(h1:w'.os=w.os)(h2:w'.output=w.output)(h3:w'.tape=w.tape)(h4:w.heap.size≤w'.heap.size)(h5:w.drawn≤w'.drawn)(h6:∀c:Nat,c<w.heap.size->w'.heap[c]? =w.heap[c]?):∃q os,w'=grow (w.drewN q) os:=by
 refine⟨w'.drawn-w.drawn,w'.heap.extract w.heap.size w'.heap.size,?_⟩
 have hh:w'.heap=w.heap++w'.heap.extract w.heap.size w'.heap.size:=by
  apply Array.ext_getElem?
  intro i
  by_cases hi:i<w.heap.size
  ·rw[h6 i hi,Array.getElem?_append_left hi]
  ·rw[Array.getElem?_append_right (by omega),Array.getElem?_extract]
   by_cases hj:i<w'.heap.size
   ·rw[if_pos (by omega)]; congr 1; omega
   ·rw[if_neg (by omega),Array.getElem?_eq_none (by omega)]
 cases w; cases w'
 simp only at h1 h2 h3 h5 hh ⊢
 subst h1; subst h2; subst h3
 unfold grow World.drewN
 simp only[World.mk.injEq,and_true,true_and]
 exact⟨hh,by omega⟩
section
variable{P:Program}{ρ:Go.Shelf.Ren}{α:Type}[Inhabited α]
abbrev TI1:Tag:=au .i64
def Oj(l:List Int):gJ:=.row (fl TI1 l) 1 false false true
theorem Iz(l:List Int):fl TI1 l=l.map (Value.int .i64):=by
 induction l with
 |nil=>rfl
 |cons x r ih=>simp only[fl,List.flatMap_cons,List.map_cons]at ih ⊢; rw[ih]; rfl
theorem UK{M:Mp}{H:Heap}{w:World}(h:HR M H w)(enc:α->Int){b:Nat}{d:List α}{sp:List Int}(hk:H[b]? =some (Oj (d.map enc++sp))){e:jg}(he:M[b]? =some (some e))(m:Nat)(os:Array Obj)(dk:Array α)(hd:dk.size=d.length):
  Stp M H w M (H.set b (Oj (dk.toList.map enc++sp))) (Go.Proofs.sortWorld (fun x=>Value.int .i64 (enc x)) w e.blk (e.base+0) m dk os):=by
 obtain⟨q1,q2,q3,q4⟩:=h.blk b e _ he hk
 obtain⟨a,t,fz,g1,g2,g3,g4,g5⟩:=q4 rfl
 have hfz:=g5 rfl; subst hfz
 have hlt:e.blk<w.heap.size:=(Array.getElem?_eq_some_iff.1 g1).1
 have hlen:∀l:List Int,(fl TI1 l).length=l.length:=fun l=>by rw[Iz]; simp
 have hL:(fl TI1 (dk.toList.map enc++sp)).length=(fl TI1 (d.map enc++sp)).length:=by rw[hlen,hlen]; simp[hd]
 have hps:(putCells (fun x=>Value.int .i64 (enc x)) (e.base+0) dk a).size=a.size:=by simp[putCells]
 have hpl:(putCells (fun x=>Value.int .i64 (enc x)) (e.base+0) dk a).toList.length=a.size:=by rw[Array.length_toList,hps]
 have hvl:VL M (fl TI1 (dk.toList.map enc++sp)) (((putCells (fun x=>Value.int .i64 (enc x)) (e.base+0) dk a).toList.drop e.base).take (fl TI1 (dk.toList.map enc++sp)).length):=by
  refine⟨by rw[List.length_take,List.length_drop,hpl,hL]; omega,fun i x u hx hu=> ?_⟩
  have hi:i<(fl TI1 (dk.toList.map enc++sp)).length:=(List.getElem?_eq_some_iff.1 hx).1
  rw[List.getElem?_take,if_pos hi,List.getElem?_drop,Array.getElem?_toList]at hu
  unfold putCells at hu
  rw[Array.getElem?_mapIdx,Option.map_eq_some_iff]at hu
  obtain⟨y,hy,hu⟩:=hu
  rw[Iz,List.getElem?_map,Option.map_eq_some_iff]at hx
  obtain⟨z,hz,rfl⟩:=hx
  by_cases hik:i<dk.size
  ·rw[if_pos (by omega)]at hu
   rw[List.getElem?_append_left (by simpa using hik),List.getElem?_map,Option.map_eq_some_iff]at hz
   obtain⟨v,hv,rfl⟩:=hz
   have:dk[e.base+i-(e.base+0)]! =v:=by
    rw[show e.base+i-(e.base+0)=i by omega]
    rw[Array.getElem?_toList]at hv
    rw[getElem!_def,hv]
   rw[this]at hu; subst hu
   exact .int _ _
  ·rw[if_neg (by omega)]at hu
   subst hu
   refine g4.2 i _ _ ?_ ?_
   ·rw[Iz,List.getElem?_map,Option.map_eq_some_iff]
    refine⟨z,?_,rfl⟩
    rw[List.getElem?_append_right (by simp; omega)]at hz ⊢
    simp only[List.length_map,Array.length_toList]at hz ⊢
    rw[←hd]; exact hz
   ·rw[hL]at hi
    rw[List.getElem?_take,if_pos hi,List.getElem?_drop,Array.getElem?_toList]; exact hy
 have S1:Stp M H w M (H.set b (Oj (dk.toList.map enc++sp))) (putRow (fun x=>Value.int .i64 (enc x)) (Go.Sort.ahead w m) e.blk (e.base+0) dk):=by
  refine Stp.adQ h hk he hL g1 hps (by rw[hps,hL]; exact g3) g2 hvl ?_ (fun k hne=> ?_) ?_ rfl rfl rfl ?_
  ·show(w.heap.modify e.blk _)[e.blk]? =_
   rw[Array.getElem?_modify,if_pos rfl,g1]; rfl
  ·show(w.heap.modify e.blk _)[k]? =_
   rw[Array.getElem?_modify,if_neg (Ne.symm hne)]
  ·show(w.heap.modify e.blk _).size=_
   simp
  ·show w.drawn≤w.drawn+m; omega
 exact S1.trans (Stp.grown S1.hr os)
theorem UL(L:Go.Proofs.SlLaysF.n6 P ρ)(hfn:∃fn,P.funcs[ρ.f 6]? =some fn∧fn.body.isSome=true∧(fn.name=="runtime.NumGoroutine")=false)(enc:α->Int)(cf:α->α->Int)(hO:SWO (Go.Proofs.ltOf cf))
  {H:Heap} {b cap:Nat} {d:List α} {sp:List Int} (hk:H[b]? =some (Oj (d.map enc++sp))) (hsz:d.length<4611686018427387904) {g:FuncId} {cv:List Value} (eg:∀args w,(callFunc g args).run P w= .ok (.enter g args) w) {S:List Nat} (hS:∀dk:List α,dk.length=d.length->Clo S (H.set b (Oj (dk.map enc++sp))))
  (hcv:∀v∈cv,inS S v) (hcmp:∀dk:List α,dk.length=d.length->∀x y,EV P g ([.int .i64 (enc x),.int .i64 (enc y)]++cv) (frz (H.set b (Oj (dk.map enc++sp)))) fun v _=>v= .int .i64 (cf x y))
  {Q:Heap->Prop} (hq:∀d':List α,d'.Perm d->(∀i j:Nat,i<j->∀x y,d'[i]? =some x->d'[j]? =some y->Go.Proofs.ltOf cf y x=false)->Q (H.set b (Oj (d'.map enc++sp)))):
  CALL P [] (ρ.f 6) [.slice (some ⟨b,0,none⟩) d.length cap,.func (.func g) #[] cv.toArray] H fun _ H'=>Q H':=by
 refine⟨hfn,fun n M w args' hr hv=> ?_⟩
 obtain⟨v1,vs1,rfl,h1,hv1⟩:=hv.of_cons
 obtain⟨v2,vs2,rfl,h2,hv2⟩:=hv1.of_cons
 have:=hv2.of_nil; subst this
 obtain⟨e,c,he,hc,rfl⟩:=h1.of_slice
 obtain⟨cb,rfl,hcb⟩:∃cb:Array Value,v2= .func (.func g) #[] cb∧VL M cv cb.toList:=by
  cases h2 with
  |func hx hy gx gy=>
   rename_i us vs
   have:us= #[]:=Array.eq_empty_of_size_eq_zero (by simpa using hx.symm)
   subst this
   exact⟨vs,rfl,by simpa using hy,fun i x u hx hu=>gy i x u (by simpa using hx) (by simpa using hu)⟩
 obtain⟨q1,q2,q3,q4⟩:=hr.blk b e _ he hk
 obtain⟨a,t,fz,g1,g2,g3,g4,g5⟩:=q4 rfl
 have hfz:=g5 rfl; subst hfz
 have hlt:e.blk<w.heap.size:=(Array.getElem?_eq_some_iff.1 g1).1
 have hH:Holds (fun x=>Value.int .i64 (enc x)) w e.blk (e.base+0) d.toArray:=fun j hj=>by
  have hj':j<d.length:=by simpa using hj
  have hx:(fl TI1 (d.map enc++sp))[j]? =some (.int .i64 (enc d[j])):=by
   rw[Iz,List.getElem?_map,List.getElem?_append_left (by simpa using hj'),List.getElem?_map,List.getElem?_eq_getElem hj']; rfl
  have hjl:=(List.getElem?_eq_some_iff.1 hx).1
  have hu:((a.toList.drop e.base).take (fl TI1 (d.map enc++sp)).length)[j]? =a[e.base+j]? :=by
   rw[List.getElem?_take,if_pos hjl,List.getElem?_drop,Array.getElem?_toList]
  have hin:e.base+j<a.size:=by omega
  have:=g4.2 j _ a[e.base+j] hx (by rw[hu]; exact Array.getElem?_eq_getElem hin)
  have:=this.of_int
  refine⟨?_,?_⟩
  ·simp only[World.cell?,g1]
   rw[if_neg (by simp),show e.base+0+j=e.base+j by omega,Array.getElem?_eq_getElem hin,this]
   congr 3
   simp[hj']
  ·simp only[World.frozen?,g1]; simp
 have hl:Go.Proofs.CmpLays1 P g cb (fun x=>Value.int .i64 (enc x)) cf e.blk (e.base+0) d.toArray.size w:=fun m os dk hs x y=>by
  have hs':dk.size=d.length:=by simpa using hs
  have st:=UK hr enc hk he m os dk hs'
  have hclo:=hS dk.toList (by simpa using hs')
  have hev:=(hcmp dk.toList (by simpa using hs') x y).2 0 (msk S M) _ ([.int .i64 (enc x),.int .i64 (enc y)]++cb.toList) (adS st.hr hclo) (by
   refine VL.cons (.int _ _) (VL.cons (.int _ _) ⟨hcb.1,fun i p q hp hq=>aap (hcb.2 i p q hp hq) (hcv p (List.mem_of_getElem? hp))⟩))
  have hca:=callsIn_wide.1 hev
  have eargs:([Value.int .i64 (enc x),Value.int .i64 (enc y)]++cb.toList).toArray= #[Value.int .i64 (enc x),Value.int .i64 (enc y)]++cb:=by apply Array.ext'; simp
  rw[eargs]at hca
  refine hca.mono ?_
  rintro en w' ⟨v,v',M',H',rfl,s2,hvr,rfl⟩
  have:=hvr.of_int; subst this
  exact⟨rfl,UJ s2.os s2.output s2.tape s2.size s2.dr fun c hc2=>s2.frame c hc2 fun b' e' hb' hw' _=>adT hclo b' e' hb' hw'⟩
 have hsf:=Go.Proofs.Any.slices_SortFunc L (fun x=>Value.int .i64 (enc x)) (fun x=>rfl) cf hO g cb e.blk (e.base+0) c d.toArray w eg hl hH hlt (by simpa using hsz)
 have hsz2:d.toArray.size=d.length:=by simp
 rw[hsz2]at hsf
 refine callsIn_wide.2 (hsf.mono ?_)
 rintro en w' ⟨rfl,d',m,os,hp,hso,rfl⟩
 obtain⟨p1,p2,p3⟩:=hp
 have hd's:d'.size=d.length:=by simpa using p1
 have hperm:d'.toList.Perm d:=by
  have e1:d'.extract 0 d.length=d':=by rw[←hd's]; simp
  have e2:d.toArray.extract 0 d.length=d.toArray:=by simp
  rw[e1,e2]at p3
  simpa using p3
 refine⟨_,_,M,_,rfl,UK hr enc hk he m os d' hd's,VR.tuple rfl (fun i x u h _=>by simp at h),(),rfl,hq d'.toList hperm fun i j hij x y hx hy=> ?_⟩
 rw[Array.getElem?_toList]at hx hy
 have hj:j<d'.size:=(Array.getElem?_eq_some_iff.1 hy).1
 have:=hso i j (Nat.zero_le _) hij (by omega)
 rw[getElem!_def,getElem!_def,hx,hy]at this
 exact this
end
end
section
open Go.Sort Go.RowKit Zv
theorem acg{P:Program}{f:FuncId}(hfn:∃fn,P.funcs[f]? =some fn∧fn.body.isSome=true∧(fn.name=="runtime.NumGoroutine")=false){H:Heap}{p:Option Addr}{cap:Nat}{us:List Value}
  (hs:∀(p:Option Addr) (cap:Nat) (vs:List Value) (w:World),vs.length=us.length->Calls P f (.slice p 0 cap::vs).toArray w fun e w'=>e= .returned (.tuple #[])∧w'=w) {Q:Unit->Heap->Prop} (hq:Q () H):CALL P [] f (.slice p 0 cap::us) H Q:=by
 refine⟨hfn,fun n M w args' hr hv=> ?_⟩
 obtain⟨v1,vs1,rfl,h1,hv1⟩:=hv.of_cons
 obtain⟨q,c,rfl⟩:∃q c,v1= .slice q 0 c:=by cases h1<;>exact⟨_,_,rfl⟩
 refine callsIn_wide.2 ((hs q c vs1 w (by have:=hv1.1; exact this.symm)).mono ?_)
 rintro en w' ⟨rfl,rfl⟩
 exact⟨.tuple #[],_,M,H,rfl,.refl hr,VR.tuple rfl (fun i x u h _=>by simp at h),(),rfl,hq⟩
end
end Go.Proofs.YtijnknjopjmiiaaGreatDoor.Zq
end
section
namespace Go.Proofs.YtijnknjopjmiiaaGreatDoor.Zq
open Zv
section
open Go.Proofs Go.RowKit
abbrev Tg:=bT
abbrev qW:Tag:=aW
abbrev TF:Tag:=aJ
abbrev iU:Tag:=au .i64
theorem V6(x:Tg):(qW.cells x).length=qW.n:=rfl
theorem IB(x:aG):(TF.cells x).length=TF.n:=rfl
theorem FU(x:Int):(iU.cells x).length=iU.n:=rfl
variable{H:Heap}
def UM:Value->Prop
 | .bool _| .int _ _| .string _=>True
 |_=>False
theorem UM.inS{S:List Nat}{v:Value}(h:UM v):inS S v:=by
 cases v<;>first|trivial|exact h.elim
theorem nG{s:Sl}{l:List Tg}(h:fF qW H s l){i:Int}{n:Nat}{x:Tg}(hi:i=n)(hx:l[n]? =some x){K:Int->Prop}(hK:K x.Stamp):dR s.p s.len i 11 fun b o=>LD iU H b (o+3) K:=by
 have hl:=(List.getElem?_eq_some_iff.1 hx).1
 obtain⟨h1,⟨_,h2,_⟩|⟨_,_,_,h2,_⟩|⟨b,A,B,z,o,ro,h3,h4⟩⟩:=h
 ·subst h2; simp at hl
 ·subst h2; simp at hl
 ·subst hi
  unfold dR NIL
  rw[h3]
  refine⟨⟨by omega,by omega⟩,?_⟩
  refine dI (T:=iU) x.Stamp (A++(fl qW (l.take n)++(qW.cells x).take 3)) ((qW.cells x).drop 4++(fl qW (l.drop (n+1))++B)) h4 ?_ ?_ rfl hK
  ·rw[iH (T:=qW) l n x hx]; simp[List.append_assoc]
  ·rw[List.length_append,List.length_append,bY V6,List.length_take,Nat.min_eq_left (by omega),Int.toNat_natCast]
   show A.length+n*11+3=A.length+(n*11+3); omega
theorem adU{cb:Nat}{s:Sl}{ts:List Tg}(hc:∃sz o ro,H[cb]? =some (.row [s.v] sz o ro true))(hs:fF qW H s ts){i j:Nat}{x y:Tg}(hi:ts[i]? =some x)(hj:ts[j]? =some y)
  (hx:1≤x.Stamp∧x.Stamp≤9223372036854775807) (hy:1≤y.Stamp∧y.Stamp≤9223372036854775807) {Q:Int×Unit->Heap->Prop} (hq:Q (x.Stamp-y.Stamp,()) H):CALL P [iU] dW [.int .i64 (i:Int),.int .i64 (j:Int),.pointer (some ⟨cb,0,none⟩)] H Q:=by
 apply Hr (c0:=(cb,0))
 unfold oM
 obtain⟨sz,o,ro,hc⟩:=hc
 have ld:∀k:Sl->Prop,k s->LD aK H cb 0 k:=fun k hk=>dI (T:=aK) s [] [] hc rfl rfl rfl hk
 refine ld _ (nG hs rfl hi (ld _ (nG hs rfl hj ?_)))
 rw[dG (by omega) (by omega)]
 exact hq
theorem GH{α:Type}{enc:α->Int}:∀l:List Int,(∀m∈l,∃x,enc x=m)->∃d:List α,d.map enc=l
 |[],_=>⟨[],rfl⟩
 |m::r,h=>by
  obtain⟨x,hx⟩:=h m (by simp)
  obtain⟨d,hd⟩:=GH r fun m hm=>h m (by simp[hm])
  exact⟨x::d,by simp[hx,hd]⟩
def bg(ts:List Tg)(k:Nat):Int:=((ts[k]?).map (·.Stamp)).getD 0
def Flat(H:Heap)(s:Sl):Prop:=∀d off,s.p=some ⟨d,off,none⟩->∃c sz o r l,H[d]? =some (.row c sz o r l)∧∀v∈c,UM v
def V7(s:Sl):List Nat:=match s.p with|some ⟨d,_,none⟩=>[d]|_=>[]
theorem ach{H0 H3:Heap}{vb:Nat}{a1 so:Sl}{ts:List Tg}{l sp:List Int}(n1:bQ iU H0 so H3 l sp)(hv:∃sz,H3[vb]? =some (.row [a1.v] sz false false true))(hs:fF qW H3 a1 ts)(hf:Flat H3 a1)(hvb:vb<H0.length)(htb:∀d off,a1.p=some ⟨d,off,none⟩->d<H0.length)
  (hl:∀m∈l,∃(k:Nat) (t:Tg),m=k∧ts[k]? =some t∧1≤t.Stamp∧t.Stamp≤9223372036854775807) (hll:l.length≤100) {Q:Unit->Heap->Prop}
  (hq:∀H' l',l'.Perm l->(∀(i j:Nat) a b,i<j->l'[i]? =some a->l'[j]? =some b->bg ts a.toNat≤bg ts b.toNat)->bQ iU H0 so H' l' sp->After so H3 H'->Q () H'):
  CALL P [] gq [so.v,.func (.func dW) #[] #[.pointer (some ⟨vb,0,none⟩)]] H3 Q:=by
 have hfn:∃fn,P.funcs[gq]? =some fn∧fn.body.isSome=true∧(fn.name=="runtime.NumGoroutine")=false:=by
  obtain⟨nm,hnm,hf⟩:=ada.f6
  exact⟨_,hf,by kernel_rfl,hnm⟩
 by_cases hne:l=[]
 ·subst hne
  obtain⟨o1,o2,o0,o3⟩:=id n1.1
  obtain⟨p,n,cp⟩:=so
  simp only at o1; simp at o1; subst o1
  refine acg hfn (us:=[_]) (fun p cap vs w hv=> ?_) (hq H3 [] (List.Perm.refl _) (fun i j a b _ h=>by simp at h) n1 (.refl _ _))
  obtain⟨v,rfl⟩:=List.length_eq_one_iff.1 hv
  exact slices_SortFunc_none (α:=Int) p cap v w
 obtain⟨o1,o2,o0,⟨o3,o4,o5⟩|⟨c,o3,o4⟩⟩:=id n1.1
 ·exact absurd o4 hne
 have hcl:=bW o4
 have hc1:H0.length≤c:=n1.2.1 c o3
 let A:={ k:Nat // ∃t,ts[k]? =some t∧1≤t.Stamp∧t.Stamp≤9223372036854775807 }
 let enc:A->Int:=fun k=>(k.1:Int)
 let cf:A->A->Int:=fun x y=>bg ts x.1-bg ts y.1
 obtain⟨d,hd⟩:∃d:List A,d.map enc=l:=GH l fun m hm=>by
  obtain⟨k,t,rfl,h1,h2⟩:=hl m hm
  exact⟨⟨k,t,h1,h2⟩,rfl⟩
 have hdl:d.length=l.length:=by rw[←hd]; simp
 have inst:Inhabited A:=⟨d.head (fun e=>hne (by rw[←hd,e]; rfl))⟩
 obtain⟨p,n,cp⟩:=so
 simp only at o1 o2 o3; subst o3
 rw[←hdl]at o1; subst o1
 rw[←hd]at o4
 have hO:Go.Sort.SWO (ltOf cf):=by
  have e:∀x y,ltOf cf x y=decide (bg ts x.1<bg ts y.1):=fun x y=>by
   simp only[ltOf,cf]; congr 1; rw[eq_iff_iff]; omega
  refine⟨fun x=>by rw[e]; simp,fun x y w=> ?_,fun x y w=> ?_⟩
  ·simp only[e,decide_eq_true_eq]; omega
  ·simp only[e,decide_eq_false_iff_not]; omega
 have hsb:∀e∈V7 a1,∃off,a1.p=some ⟨e,off,none⟩:=fun e he=>by
  unfold V7 at he
  split at he
  ·rename_i d off hp; simp at he; subst he; exact⟨off,hp⟩
  ·cases he
 have hcS:c∉vb::V7 a1:=fun hm=>by
  rcases List.mem_cons.1 hm with e|hm
  ·omega
  ·obtain⟨off,hp⟩:=hsb c hm
   have:=htb c off hp; omega
 have hav:inS (vb::V7 a1) a1.v:=by
  obtain⟨q,n',cp'⟩:=a1
  obtain⟨g1,⟨g2,g3,g4⟩|⟨b',off',g2,g3,g4⟩|⟨b',A',B',z',o',ro',g2,_⟩⟩:=id hs
  ·simp only at g1 g2 g4; subst g2; subst g3; subst g4; simp at g1; subst g1; exact trivial
  ·simp only at g1 g2 g4; subst g2; subst g3; subst g4; simp at g1; subst g1; exact trivial
  ·simp only at g2; subst g2
   exact⟨List.mem_cons_of_mem _ (by simp[V7]),rfl⟩
 obtain⟨vsz,hv⟩:=hv
 have hS:∀r:gJ,Clo (vb::V7 a1) (H3.set c r):=fun r d hd=>by
  have hdc:d≠c:=fun e=>hcS (e▸hd)
  rw[List.getElem?_set_ne (Ne.symm hdc)]
  rcases List.mem_cons.1 hd with rfl|hm
  ·refine⟨_,_,_,_,_,hv,fun v hv=> ?_⟩
   simp at hv; subst hv
   exact hav
  ·obtain⟨off,hp⟩:=hsb d hm
   obtain⟨c',sz,o,r',l',h1,h2⟩:=hf d off hp
   exact⟨c',sz,o,r',l',h1,fun v hv=>(h2 v hv).inS⟩
 have hcmp:∀dk:List A,dk.length=d.length->∀x y,EV P dW ([.int .i64 (enc x),.int .i64 (enc y)]++[.pointer (some ⟨vb,0,none⟩)]) (frz (H3.set c (Oj (dk.map enc++sp)))) fun v _=>v= .int .i64 (cf x y):=fun dk _ x y=>by
  have hget:∀e:Nat,e≠c->(H3.set c (Oj (dk.map enc++sp)))[e]? =H3[e]? :=fun e he=>List.getElem?_set_ne (Ne.symm he)
  obtain⟨kx,tx,hx1,hx2⟩:=x
  obtain⟨ky,ty,hy1,hy2⟩:=y
  have ex:cf ⟨kx,tx,hx1,hx2⟩ ⟨ky,ty,hy1,hy2⟩=tx.Stamp-ty.Stamp:=by simp[cf,bg,hx1,hy1]
  refine EV.mono (adU (cb:=vb) (s:=a1) (ts:=ts) ⟨_,_,_,Eh (by rw[hget _ (by omega)]; exact hv)⟩ ?_ hx1 hy1 hx2 hy2 (Q:=fun r _=>r.1=tx.Stamp-ty.Stamp) rfl) ?_
  ·have hfr:bI [c] H3 (H3.set c (Oj (dk.map enc++sp))):=bI.set _ _ (by simp)
   exact(hs.bZ hfr (fun e he off hp=>by
    simp at he; subst he
    have:=htb e off hp; omega)).frz
  ·rintro v H' ⟨r,rfl,hr⟩
   obtain⟨r,_⟩:=r
   simp only at hr; subst hr
   rw[ex]; rfl
 have eg:∀args w,(callFunc dW args).run P w= .ok (.enter dW args) w:=by
  obtain⟨fn,hf,hb,hn⟩:=(hcmp d rfl default default).1
  obtain⟨c,hc⟩:=Option.isSome_iff_exists.1 hb
  exact enters_of hf hn hc
 exact UL (P:=P) (ρ:=OT) ada hfn (α:=A) enc cf hO (H:=H3) (b:=c) (cap:=cp) (d:=d) (sp:=sp) o4 (by omega) (g:=dW) (cv:=[.pointer (some ⟨vb,0,none⟩)]) eg (S:=vb::V7 a1) (fun dk _=>hS _)
  (fun v hv=>by simp at hv; subst hv; exact⟨List.mem_cons_self,rfl⟩) hcmp (Q:=fun H'=>Q () H')
  (fun d' hp hso=>by
   refine hq _ (d'.map enc) (by rw[←hd]; exact hp.map enc) (fun i j a b hij ha hb=> ?_) ⟨⟨by simp[hp.length_eq],by simp only; rw[List.length_map,hp.length_eq,hdl]; exact o2,o0,.inr ⟨c,rfl,by rw[fH hcl]; rfl⟩⟩,fun e he=>by simp at he; subst he; omega,n1.2.2.then (bI.set (B:=[c]) _ _ (by simp)) fun e he=>by simp at he; subst he; exact .inr hc1⟩ ⟨by simp,fun e _ he=>by rw[List.getElem?_set_ne (by rintro rfl; exact he rfl)]⟩
   rw[List.getElem?_map,Option.map_eq_some_iff]at ha hb
   obtain⟨x,hx,rfl⟩:=ha
   obtain⟨y,hy,rfl⟩:=hb
   have:=hso i j hij x y hx hy
   simp only[ltOf,cf,decide_eq_false_iff_not]at this
   show bg ts ((x.1:Int)).toNat≤bg ts ((y.1:Int)).toNat
   rw[Int.toNat_natCast,Int.toNat_natCast]
   omega)
end
end Go.Proofs.YtijnknjopjmiiaaGreatDoor.Zq
end
section
namespace Go.Proofs.YtijnknjopjmiiaaGreatDoor.Zq
open Zv
section
variable{H:Heap}{b m:Nat}{se:Bool}{B:List Cd}{ms:List ak}
theorem Xy(h:BP m H b se B ms){t:ByteArray}{Q:Int×Int×Unit->Heap->Prop}(hq:∀i e:Int,e≠1->Q (i,e,()) H):CALL P [iU,iU] jR [.pointer (some ⟨b,0,none⟩),.string t] H Q:=by
 apply Fz
 unfold ng
 refine Ee h (bG rfl (KI h ?_))
 obtain⟨⟨cs,ns,w,hc⟩,_⟩:=h
 refine aS (fun _ H'=>H'=H) (fun j hj=>w.Ed rfl (bK (fun _=>hj _ _ rfl) (fun _=>hj _ _ rfl))) ?_
 rintro _ _ rfl
 exact bK (fun _=>hq _ _ (by decide)) (fun _=>hq _ _ (by decide))
theorem aeH(h:BP m H b se B ms)(okB:Dt B){n:Int}{Q:ay×Int×Unit->Heap->Prop}(q6:(se=false∨n<1∨(B.length:Int)<n)->Q (zC,6,()) H)
  (q0:∀c g H',se=true->1≤n->B[(n-1).toNat]? =some c->CR H.length H' g c->bI [] H H'->Q (g,0,()) H'):CALL P [TC,iU] qh [.pointer (some ⟨b,0,none⟩),.int .i64 n] H Q:=by
 apply JU
 unfold qB
 refine Ee h (bG rfl ?_)
 have few:=h.few
 obtain⟨⟨cs,ns,w,hc⟩,_,lt,ml⟩:=id h
 refine hJ (se=false∨n<1∨(B.length:Int)<n) (fun j hj=>w.Ed rfl (bK (fun e=>hj _ ?_) (fun e=>dD (fun h1=>hj _ ?_) (fun h1=>w.Yw rfl (hj _ ?_))))) q6 (fun hN=> ?_)
 ·simp only[true_iff]; exact .inl (by simpa using e)
 ·simp only[true_iff]; exact .inr (.inl h1)
 ·have:¬se=false:=by simpa using e
  simp only[decide_eq_true_eq]; constructor
  ·exact fun q=>.inr (.inr q)
  ·rintro(q|q|q)
   ·exact absurd q this
   ·exact absurd q h1
   ·exact q
 ·have hse:se=true:=by cases hs:se with|true=>rfl|false=>exact absurd (.inl hs) hN
  have h1:¬n<1:=fun q=>hN (.inr (.inl q))
  have h2:¬(B.length:Int)<n:=fun q=>hN (.inr (.inr q))
  have hx:B[(n-1).toNat]? =some (B[(n-1).toNat]'(by omega)):=List.getElem?_eq_getElem (by omega)
  generalize (B[(n-1).toNat]'(by omega))=c at hx
  obtain⟨g,hg,cr⟩:=hc _ c hx
  have hp4:c.ps.length≤4:=by
   have:=okB.ok c (List.mem_of_getElem? hx)
   unfold xE at this
   by_cases hf:zN c=0
   ·exact qw hf
   ·rw[if_neg hf]at this; exact absurd this hf
  rw[dG (x:=n-1) (by omega) (by omega)]
  refine⟨⟨by omega,by omega⟩,w.Iw hg (by simp) (Xu cr.p (by omega) fun s H' hs lo f=>q0 c _ H' hse (by omega) hx ⟨by rw[←cr.e]; rfl,hs,lo⟩ f)⟩
theorem Xz(h:BP m H b se B ms)(okB:Dt B){t:Tg}{Q:ay×Int×Unit->Heap->Prop}(q6:(se=false∨t.Card<1∨(B.length:Int)<t.Card)->Q (zC,6,()) H)
  (q0:∀c g H',se=true->1≤t.Card->B[(t.Card-1).toNat]? =some c->CR H.length H' g c->bI [] H H'->Q (g,0,()) H'):CALL P [TC,iU] pz [.pointer (some ⟨b,0,none⟩),qW.enc t] H Q:=by
 apply Qc
 unfold wB
 exact aeH h okB q6 q0
def Yz(B:List Cd)(t:Tg)(f:aG):Prop:=
 ∃c,1≤t.Card∧B[(t.Card-1).toNat]? =some c∧(t.Owner=0∨t.Owner=1)∧1≤t.Place∧t.Place≤5∧(t.Place=4->c.g.Kind≠2∧1≤t.Stamp∧(f.Holder=0∨f.Holder=1)∧f.Traits<256)
def kZ(ts:List Tg):Nat->List Int
 |0=>[]
 |n+1=>kZ ts n++if(ts[n]?.map (·.Place))=some 4 then [(n:Int)]else []
theorem qL{ts:List Tg}{x:Int}:∀{n:Nat},x∈kZ ts n↔∃(k:Nat) (t:Tg),k<n∧x=k∧ts[k]? =some t∧t.Place=4
 |0=>by simp[kZ]
 |n+1=>by
  simp only[kZ,List.mem_append,qL (n:=n)]
  constructor
  ·rintro(⟨k,t,h1,h2⟩|h)
   ·exact⟨k,t,by omega,h2⟩
   ·split at h
    ·rename_i e
     simp at h; subst h
     obtain⟨t,ht,hp⟩:=Option.map_eq_some_iff.1 e
     exact⟨n,t,by omega,rfl,ht,hp⟩
    ·cases h
  ·rintro⟨k,t,h1,h2,h3,h4⟩
   by_cases e:k=n
   ·subst e; right
    rw[if_pos (by rw[h3]; simp[h4])]; simp[h2]
   ·exact .inl ⟨k,t,by omega,h2,h3,h4⟩
theorem BZ{ts:List Tg}:∀n:Nat,(kZ ts n).Nodup
 |0=>List.nodup_nil
 |n+1=>by
  simp only[kZ]
  rw[List.nodup_append]
  refine⟨BZ n,by split<;>simp,fun a ha b hb=> ?_⟩
  obtain⟨k,t,h1,h2,_⟩:=qL.1 ha
  split at hb
  ·simp at hb; omega
  ·cases hb
theorem YA{ts:List Tg}{n k:Nat}:(kZ ts n).length≤(kZ ts (n+k)).length:=by
 induction k with
 |zero=>exact Nat.le_refl _
 |succ k ih=>
  rw[←Nat.add_assoc]
  simp only[kZ,List.length_append]; omega
theorem XA{ts:List Tg}:∀n:Nat,(kZ ts n).length≤n
 |0=>Nat.le_refl _
 |n+1=>by
  have:=XA (ts:=ts) n
  simp only[kZ,List.length_append]
  split<;>simp<;>omega
structure V8(B:List Cd)(ts:List Tg)(fs:List aG):Prop where
 all:∀(i:Nat) t f,ts[i]? =some t->fs[i]? =some f->Yz B t f
 few:(kZ ts ts.length).length≤16
 dst:∀(i j:Nat) t u,i≠j->ts[i]? =some t->ts[j]? =some u->t.Place=4->u.Place=4->t.Stamp≠u.Stamp
open Classical in
noncomputable def dY(se:Bool)(B:List Cd)(ts:List Tg)(fs:List aG):Int:=
 if 2048<ts.length then 3 else if se=false∨fs.length≠ts.length then 2 else if V8 B ts fs then 0 else 2
def XB(ts:List Tg)(l:List Int):Prop:=l.Perm (kZ ts ts.length)∧∀(i j:Nat) a b,i<j->l[i]? =some a->l[j]? =some b->bg ts a.toNat≤bg ts b.toNat
structure Pl(H0 H:Heap)(cs so:Sl)(B:List Cd)(ts:List Tg)(cl:List ay)(ol:List Int):Prop where
 c:fF TC H cs cl
 len:cl.length=ts.length
 card:∀(i:Nat) t c,ts[i]? =some t->t.Place=4->1≤t.Card->B[(t.Card-1).toNat]? =some c->∃g,cl[i]? =some g∧CR H0.length H g c
 o:fF iU H so ol
 ord:XB ts ol
 f:bI [] H0 H
theorem Ow.put{T:Tag}(hT:∀x,(T.cells x).length=T.n)(h1:∀x,(T.cells x).all cell1=true){s:Sl}{l sp:List T.α}(h:Ow T H s l sp){i:Int}{n:Nat}(hi:i=n)(hn:n<l.length)(x:T.α){sz:Nat}(hz:sz=T.n){K:Heap->Prop}
  (hK:∀c H',s.p=some ⟨c,0,none⟩->Ow T H' s (l.set n x) sp->bI [c] H H'->H'.length=H.length->K H'):dR s.p s.len i sz fun b o=>ST H b o (T.cells x) K:=by
 obtain⟨g1,g2,g0,⟨_,g3,_⟩|⟨c,g3,g4⟩⟩:=id h
 ·subst g3; simp at hn
 ·subst hi; subst hz
  have hx:(l++sp)[n]? =some l[n]:=by rw[List.getElem?_append_left hn,List.getElem?_eq_getElem hn]
  unfold dR NIL
  rw[g3]
  refine⟨⟨by omega,by omega⟩,?_⟩
  refine qc (fl T ((l++sp).take n)) (T.cells l[n]) (fl T ((l++sp).drop (n+1))) g4 (iH _ _ _ hx) ?_ (by rw[hT,hT]) (h1 x) ?_
  ·rw[bY hT,List.length_take,Nat.min_eq_left (by rw[List.length_append]; omega),Int.toNat_natCast]; simp
  ·refine hK c _ g3 ⟨by simpa using g1,by simpa using g2,g0,.inr ⟨c,g3,?_⟩⟩ (bI.set _ _ (by simp)) (by simp)
   rw[fH (bW g4)]
   have hx2:(l.set n x++sp)[n]? =some x:=by rw[List.getElem?_append_left (by simpa using hn),List.getElem?_set_self hn]
   rw[iH _ _ _ hx2]
   have e1:(l.set n x++sp).take n=(l++sp).take n:=by
    rw[List.take_append_of_le_length (by simp; omega),List.take_append_of_le_length (by omega),List.take_set_of_le (Nat.le_refl _)]
   have e2:(l.set n x++sp).drop (n+1)=(l++sp).drop (n+1):=by
    rw[←List.set_append_left n x hn,List.drop_set_of_lt (by omega)]
   rw[e1,e2]
theorem KU{s:Sl}{l:List aG}(h:fF TF H s l){n:Nat}{x:aG}(hx:l[n]? =some x){K:Int->Prop}(hK:K x.Holder):dR s.p s.len (n:Int) 5 fun b o=>LD iU H b (o+0) K:=by
 have hl:=(List.getElem?_eq_some_iff.1 hx).1
 obtain⟨h1,⟨_,h2,_⟩|⟨_,_,_,h2,_⟩|⟨b,A,B,z,o,ro,h3,h4⟩⟩:=h
 ·subst h2; simp at hl
 ·subst h2; simp at hl
 ·unfold dR NIL
  rw[h3]
  refine⟨⟨by omega,by omega⟩,?_⟩
  refine dI (T:=iU) x.Holder (A++fl TF (l.take n)) ((TF.cells x).drop 1++(fl TF (l.drop (n+1))++B)) h4 ?_ ?_ rfl hK
  ·rw[iH (T:=TF) l n x hx]; simp[List.append_assoc]
  ·rw[List.length_append,bY IB,List.length_take,Nat.min_eq_left (by omega),Int.toNat_natCast]; rfl
theorem Cb{s:Sl}{l:List aG}(h:fF TF H s l){i:Int}{n:Nat}(hi:i=n){x:aG}(hx:l[n]? =some x){K:Int->Prop}(hK:K x.Traits):dR s.p s.len i 5 fun b o=>LD (au .u16) H b (o+2) K:=by
 subst hi
 have hl:=(List.getElem?_eq_some_iff.1 hx).1
 obtain⟨h1,⟨_,h2,_⟩|⟨_,_,_,h2,_⟩|⟨b,A,B,z,o,ro,h3,h4⟩⟩:=h
 ·subst h2; simp at hl
 ·subst h2; simp at hl
 ·unfold dR NIL
  rw[h3]
  refine⟨⟨by omega,by omega⟩,?_⟩
  refine dI (T:=au .u16) x.Traits (A++(fl TF (l.take n)++(TF.cells x).take 2)) ((TF.cells x).drop 3++(fl TF (l.drop (n+1))++B)) h4 ?_ ?_ rfl hK
  ·rw[iH (T:=TF) l n x hx]; simp[List.append_assoc]
  ·rw[List.length_append,List.length_append,bY IB,List.length_take,Nat.min_eq_left (by omega),Int.toNat_natCast]
   show A.length+n*5+2=A.length+(n*5+2); omega
end
end Go.Proofs.YtijnknjopjmiiaaGreatDoor.Zq
end
section
namespace Go.Proofs.YtijnknjopjmiiaaGreatDoor.Zq
open Zv
section
variable{H:Heap}{b m:Nat}{se:Bool}{B:List Cd}{ms:List ak}
theorem aaq{ts:List Tg}{fs:List aG}(h1:¬2048<ts.length)(h2:¬(se=false∨fs.length≠ts.length)):(V8 B ts fs->dY se B ts fs=0)∧(¬V8 B ts fs->dY se B ts fs=2):=by
 unfold dY
 rw[if_neg h1,if_neg h2]
 exact⟨fun h=>if_pos h,fun h=>if_neg h⟩
structure Sc(m:Nat)(H:Heap)(B:List Cd)(ts:List Tg)(n:Nat)(cl:List ay)(so:Sl):Prop where
 len:cl.length=ts.length
 c:∀(i:Nat) t c,i<n->ts[i]? =some t->t.Place=4->B[(t.Card-1).toNat]? =some c->∃g,cl[i]? =some g∧CR m H g c∧∀x off,g.Parts.p=some ⟨x,off,none⟩->so.p≠some ⟨x,0,none⟩
theorem Ow.after{T:Tag}{H1 H2:Heap}{out s:Sl}{l sp:List T.α}(h:Ow T H1 s l sp)(a:After out H1 H2)(ap:∀d,s.p=some ⟨d,0,none⟩->out.p≠some ⟨d,0,none⟩):Ow T H2 s l sp:=by
 by_cases hq:∃d,out.p=some ⟨d,0,none⟩
 ·obtain⟨d0,hd0⟩:=hq
  exact h.bZ (a.bZ (B:=[d0]) fun d hd=>by rw[hd0]at hd; cases hd; simp) fun x hx e=>by simp at hx; subst hx; exact ap _ e hd0
 ·exact h.bZ (a.bZ (B:=[]) fun d hd=>absurd ⟨d,hd⟩ hq) (by simp[Sl.off])
theorem Flat.bZ{H':Heap}{s:Sl}(h:Flat H s)(f:bI [] H H'):Flat H' s:=fun d off e=>by
 obtain⟨c,sz,o,r,l,h1,h2⟩:=h d off e
 exact⟨c,sz,o,r,l,f.get (by simp) h1,h2⟩
theorem tyI:Tt E iU 27 (0:Int):=⟨⟨_,_,_,rfl,rfl,rfl,rfl,by decide,by decide,rfl⟩,by decide,FU,fun _=>rfl⟩
theorem aci(h:BP m H b se B ms)(okB:Dt B){a1 a2:Sl}{ts:List Tg}{fs:List aG}(hs:fF qW H a1 ts)(hf:fF TF H a2 fs)(fla:Flat H a1)(okt:∀t∈ts,t.Stamp≤9223372036854775807)(okf:∀f∈fs,0≤f.Traits)(bts:ts.length≤1048600){Q:aH×Int×Unit->Heap->Prop}
  (q1:∀p H',dY se B ts fs≠0->bI [] H H'->Q (p,dY se B ts fs,()) H') (q0:∀cs so cl ol H',dY se B ts fs=0->V8 B ts fs->Pl H H' cs so B ts cl ol->Q (⟨some ⟨b,0,none⟩,a1,cs,so⟩,0,()) H'):
  CALL P [aC,iU] gY [.pointer (some ⟨b,0,none⟩),a1.v,a2.v] H Q:=by
 apply Ny
 unfold uo
 have hsl:=hs.1
 have hfl:=hf.1
 unfold NEW
 have r1:(mk H [(.slice a1.p a1.len a1.cap)] 1 false)[H.length]? =some (.row [a1.v] 1 false false true):=by simp[mk,Sl.v]
 have f1:bI [] H (mk H [(.slice a1.p a1.len a1.cap)] 1 false):=bI.app _ _ _
 have l1:(mk H [(.slice a1.p a1.len a1.cap)] 1 false).length=H.length+1:=by simp[mk]
 generalize mk H [(.slice a1.p a1.len a1.cap)] 1 false=H1 at r1 f1 l1
 have ldv:∀{H':Heap} {k:Sl->Prop},bI [] H1 H'->k a1->LD aK H' H.length 0 k:=fun f hk=>dI (T:=aK) a1 [] [] (f.get (by simp) r1) rfl rfl rfl hk
 refine ldv (.refl _ _) (ldv (.refl _ _) ?_)
 rw[hsl]
 refine VH tyC (n:=ts.length) (m:=ts.length) rfl rfl (Nat.le_refl _) (by omega) fun s3 e3 n3=> ?_
 have l2:(mk H1 (fl TC (List.replicate ts.length zC)) TC.n false).length=H1.length+1:=by simp[mk]
 generalize mk H1 (fl TC (List.replicate ts.length zC)) TC.n false=H2 at n3 l2
 have f2:=n3.2.2
 have f02:bI [] H H2:=f1.trans f2
 have h2:=h.new f02
 have o3:Ow TC H2 s3 (List.replicate ts.length zC) []:=by simpa using n3.1
 have p3:s3.p=some ⟨H1.length,0,none⟩:=by rw[e3]
 refine ldv f2 ⟨rfl,Xy h2 fun i e he=> ?_⟩
 refine bG (by simpa using he) (ldv f2 (dD (fun hlong=> ?_) (fun hlong=> ?_)))
 ·have e:dY se B ts fs=3:=by unfold dY; rw[if_pos (by omega)]
  have:=q1 ⟨some ⟨b,0,none⟩,a1,s3,⟨none,0,0⟩⟩ H2 (by rw[e]; decide) f02
  rwa [e]at this
 have hlong:¬2048<ts.length:=by omega
 refine hJ (se=false∨fs.length≠ts.length) (fun j hj=>OZ h2 (bK (fun e=>hj _ ?_) (fun e=>ldv f2 (hj _ ?_)))) (fun hbad=> ?_) (fun hgood=> ?_)
 ·simp only[true_iff]; exact .inl (by simpa using e)
 ·have:¬se=false:=by simpa using e
  simp only[bne_iff_ne,ne_eq]
  constructor
  ·intro q; exact .inr (by omega)
  ·rintro(q|q)
   ·exact absurd q this
   ·omega
 ·have e:dY se B ts fs=2:=by unfold dY; rw[if_neg hlong,if_pos hbad]
  have:=q1 ⟨some ⟨b,0,none⟩,a1,s3,⟨none,0,0⟩⟩ H2 (by rw[e]; decide) f02
  rwa [e]at this
 have hse:se=true:=by cases hs:se with|true=>rfl|false=>exact absurd (.inl hs) hgood
 have hfe:fs.length=ts.length:=Classical.byContradiction fun q=>hgood (.inr q)
 obtain⟨eT,eF⟩:=aaq (B:=B) hlong hgood
 have bad:∀p H',¬V8 B ts fs->bI [] H H'->Q (p,2,()) H':=fun p H' hn f=>by
  have e:=eF hn
  have:=q1 p H' (by rw[e]; decide) f
  rwa [e]at this
 refine ldv f2 ?_
 refine aS (fun(y:Unit×(aH×aH×Unit)) H'=>∃(so:Sl) (cl:List ay) (sp:List Int),y.2.2.1=⟨some ⟨b,0,none⟩,a1,s3,so⟩∧bQ iU H1 so H' (kZ ts ts.length) sp∧(∀d,so.p=some ⟨d,0,none⟩->H2.length≤d)∧Ow TC H' s3 cl []∧Sc H2.length H' B ts ts.length cl so∧(∀(i:Nat) t f,ts[i]? =some t->fs[i]? =some f->Yz B t f)∧(kZ ts ts.length).length≤16) (fun j hj=> ?_) ?_
 ·refine bF (fun(y:(Int×Unit)×(aH×aH×Unit)) H'=>∃(n:Nat) (so:Sl) (cl:List ay) (sp:List Int),y.1.1=n∧n≤ts.length∧y.2.2.1=⟨some ⟨b,0,none⟩,a1,s3,so⟩∧bQ iU H1 so H' (kZ ts n) sp∧(∀d,so.p=some ⟨d,0,none⟩->H2.length≤d)∧Ow TC H' s3 cl []∧Sc H2.length H' B ts n cl so∧(∀(i:Nat) t f,i<n->ts[i]? =some t->fs[i]? =some f->Yz B t f)∧(kZ ts n).length≤16) (fun y=>ts.length-y.1.1.toNat) ?_
   ⟨0,⟨none,0,0⟩,_,[],rfl,Nat.zero_le _,rfl,⟨Ow.nil iU H2,by simp,f2⟩,by simp,o3,⟨by simp,fun i t c hi=>by omega⟩,fun i t f hi=>by omega,by simp[kZ]⟩
  rintro G ⟨⟨i,_⟩,p1,p2,_⟩ H' ⟨n,so,cl,sp,hi,hn,hp2,no,hso,oc,sc,hok,hfew⟩ hG
  simp only at hi hp2; subst hi; subst hp2
  dsimp only at hG ⊢
  have fb:=no.2.2
  have f0':bI [] H H':=f1.trans fb
  have h':=h.new f0'
  have h2l:H2.length≤H'.length:=by have:=oc.lt p3; omega
  refine dD (fun hlt=>bf ?_) (fun hge=>hj _ _ ?_)
  ·have hlt:n<ts.length:=by omega
   have hx:ts[n]? =some ts[n]:=List.getElem?_eq_getElem hlt
   have hy:fs[n]? =some (fs[n]'(by omega)):=List.getElem?_eq_getElem (by omega)
   have tbs:kZ ts (n+1)=kZ ts n++if(ts[n]).Place=4 then [(n:Int)]else []:=by
    simp only[kZ,hx,Option.map_some,Option.some.injEq]
   have hmt:ts[n]∈ts:=List.getElem_mem hlt
   have hmf:fs[n]'(by omega)∈fs:=List.getElem_mem (by omega)
   generalize ts[n]=t at hx tbs hmt
   generalize (fs[n]'(by omega))=f at hy hmf
   have notog:¬Yz B t f->¬V8 B ts fs:=fun q k=>q (k.all n t f hx hy)
   refine bD (T:=qW) V6 (hs.bZ f0' (by simp)) rfl hx rfl (Xz h' okB (fun q=> ?_) (fun c g H9 _ hc1 hcx cr f9=> ?_))
   ·refine bf (fB rfl (fB rfl (bad _ _ (notog ?_) f0')))
    rintro⟨c,k1,k2,_⟩
    have:=(List.getElem?_eq_some_iff.1 k2).1
    rcases q with q|q|q
    ·rw[hse]at q; cases q
    ·omega
    ·omega
   have okiff:Yz B t f↔(t.Owner=0∨t.Owner=1)∧1≤t.Place∧t.Place≤5∧(t.Place=4->c.g.Kind≠2∧1≤t.Stamp∧(f.Holder=0∨f.Holder=1)∧f.Traits<256):=by
    constructor
    ·rintro⟨c',k1,k2,k3⟩
     rw[hcx]at k2; cases k2; exact k3
    ·exact fun q=>⟨c,hc1,hcx,q⟩
   have f09:bI [] H H9:=f0'.trans f9
   refine hJ (¬(t.Owner=0∨t.Owner=1)∨t.Place<1∨5<t.Place) (fun j2 hj2=>bG rfl (Ak (fun e1=>Ak (fun e2=>hj2 _ (by simp; omega)) (fun e2=>dD (fun e3=>hj2 _ (by simp; omega)) (fun e3=>hj2 _ (by simp; omega)))) (fun e1=>dD (fun e3=>hj2 _ (by simp; omega)) (fun e3=>hj2 _ (by simp; omega))))) (fun q=>bad _ _ (notog fun k=> ?_) f09) (fun hA=> ?_)
   ·have:=okiff.1 k; omega
   have no9:bQ iU H1 so H9 (kZ ts n) sp:=⟨no.1.bZ f9 (by simp[Sl.off]),no.2.1,fb.trans f9⟩
   have oc9:Ow TC H9 s3 cl []:=oc.bZ f9 (by simp[Sl.off])
   have sc9:∀(i:Nat) t c,i<n->ts[i]? =some t->t.Place=4->B[(t.Card-1).toNat]? =some c->∃g,cl[i]? =some g∧CR H2.length H9 g c∧∀x off,g.Parts.p=some ⟨x,off,none⟩->so.p≠some ⟨x,0,none⟩:=fun i t c k1 k2 k3 k4=>by
    obtain⟨g',w1,w2,w3⟩:=sc.c i t c k1 k2 k3 k4
    exact⟨g',w1,w2.bZ f9 (by simp),w3⟩
   refine Ak (fun hp4=> ?_) (fun hp4=> ?_)
   ·rw[if_neg hp4,List.append_nil]at tbs
    rw[dG (by omega) (by omega)]
    refine hG _ _ ⟨n+1,so,cl,sp,by simp,hlt,rfl,by rw[tbs]; exact no9,hso,oc9,⟨sc.len,fun i t' c' k1 k2 k3 k4=> ?_⟩,fun i t' f' k1 k2 k3=> ?_,by rw[tbs]; exact hfew⟩ (by simp; omega)
    ·by_cases e:i=n
     ·subst e; rw[hx]at k2; cases k2; exact absurd k3 hp4
     ·exact sc9 i t' c' (by omega) k2 k3 k4
    ·by_cases e:i=n
     ·subst e; rw[hx]at k2; cases k2; rw[hy]at k3; cases k3
      exact okiff.2 ⟨by omega,by omega,by omega,fun q=>absurd q hp4⟩
     ·exact hok i t' f' (by omega) k2 k3
   ·rw[if_pos hp4]at tbs
    have hkd:g.Kind=c.g.Kind:=by rw[←cr.e]; rfl
    have hf9:=hf.bZ f09 (by simp)
    have hy0:=okf f hmf
    refine hJ (c.g.Kind=2∨t.Stamp<1∨¬(f.Holder=0∨f.Holder=1)∨¬f.Traits<256) (fun j2 hj2=> ?_) (fun q=>bad _ _ (notog fun k=> ?_) f09) (fun hB=> ?_)
    ·rw[hkd]
     refine fM (fun e=>hj2 _ (by simp; omega)) (fun e=>dD (fun e1=>hj2 _ (by simp; omega)) (fun e1=>KU hf9 hy (Ak (fun e2=>KU hf9 hy (Ak (fun e3=>hj2 _ (by simp; omega)) (fun e3=>Cb hf9 rfl hy (KF hy0 (hj2 _ (by simp; omega)))))) (fun e2=>Cb hf9 rfl hy (KF hy0 (hj2 _ (by simp; omega)))))))
    ·have:=(okiff.1 k).2.2.2 hp4; omega
    have okn:Yz B t f:=okiff.2 ⟨by omega,by omega,by omega,fun _=>⟨by omega,by omega,by omega,by omega⟩⟩
    have hcl:=sc.len
    have hl9:=f9.1
    refine oc9.put (n:=n) Y5 (fun x=>tyC.one x) rfl (by omega) g rfl fun c0 H14 hc0 oc14 f14 l14=> ?_
    rw[p3]at hc0; cases hc0
    have cgn:CR H2.length H14 g c:=by
     have:CR H2.length H9 g c:=⟨cr.e,cr.p,fun d hd=>by have:=cr.lo d hd; omega⟩
     exact this.bZ f14 fun d hd=>by simp at hd; omega
    have no14:bQ iU H1 so H14 (kZ ts n) sp:=by
     refine⟨no9.1.bZ f14 fun d hd e=> ?_,no9.2.1,no9.2.2.then f14 fun d hd=> ?_⟩
     ·simp at hd; subst hd
      have:=hso _ e; omega
     ·simp at hd; subst hd; exact .inr (Nat.le_refl _)
    have htl:=XA (ts:=ts) n
    refine Jw tyI rfl (fun _=>by simp) (m:=1) [(n:Int)] rfl rfl (by show 2*((kZ ts n).length+1)*4096≤_; omega) no14.1 fun s42 H15 sp15 k1 k2 k3=> ?_
    have no15:bQ iU H1 s42 H15 (kZ ts n++[(n:Int)]) sp15:=no14.app k1 k2 k3
    have hlen42:s42.len=(kZ ts (n+1)).length:=by rw[tbs]; exact k1.1
    refine dD (fun hbig=>bad _ _ (fun k=> ?_) (f1.trans no15.2.2)) (fun hsm=> ?_)
    ·have:=k.few
     have:=YA (ts:=ts) (n:=n+1) (k:=ts.length-(n+1))
     rw[show n+1+(ts.length-(n+1))=ts.length by omega]at this
     omega
    have l14':H9.length≤H14.length:=by omega
    have hso':∀d,s42.p=some ⟨d,0,none⟩->H2.length≤d:=fun d hd=>by
     rcases k2 with q|⟨q,_⟩
     ·exact hso d (by rw[←q]; exact hd)
     ·rw[q]at hd; cases hd; omega
    have ap42:∀(g':ay) d',CR H2.length H14 g' d'->(∀x off,g'.Parts.p=some ⟨x,off,none⟩->so.p≠some ⟨x,0,none⟩)->∀x off,g'.Parts.p=some ⟨x,off,none⟩->s42.p≠some ⟨x,0,none⟩:=fun g' d' cr' a' x off e e2=>by
     rcases k2 with q|⟨q,_⟩
     ·exact a' x off e (by rw[←q]; exact e2)
     ·rw[q]at e2
      have:=QS cr'.p e
      cases e2; omega
    have gap:∀x off,g.Parts.p=some ⟨x,off,none⟩->so.p≠some ⟨x,0,none⟩:=fun x off e e2=>by
     have:=cr.lo x (by rw[e]; simp[bl])
     have:=no.1.lt e2; omega
    rw[dG (by omega) (by omega)]
    refine hG _ _ ⟨n+1,s42,cl.set n g,sp15,by simp,hlt,rfl,by rw[tbs]; exact no15,hso',oc14.after k3 (fun d hd e=>by rw[p3]at hd; cases hd; have:=hso _ e; omega),⟨by simpa using sc.len,fun i t' c' w1 w2 w3 w4=> ?_⟩,fun i t' f' w1 w2 w3=> ?_,by omega⟩ (by simp; omega)
    ·by_cases e:i=n
     ·subst e; rw[hx]at w2; cases w2
      rw[hcx]at w4; cases w4
      exact⟨g,List.getElem?_set_self (by omega),cgn.after k3 gap,ap42 g c cgn gap⟩
     ·obtain⟨g',v1,v2,v3⟩:=sc9 i t' c' (by omega) w2 w3 w4
      have v2':CR H2.length H14 g' c':=v2.bZ f14 fun d hd=>by simp at hd; omega
      exact⟨g',by rw[List.getElem?_set_ne (by omega)]; exact v1,v2'.after k3 v3,ap42 g' c' v2' v3⟩
    ·by_cases e:i=n
     ·subst e; rw[hx]at w2; cases w2; rw[hy]at w3; cases w3; exact okn
     ·exact hok i t' f' (by omega) w2 w3
  ·have hge:n=ts.length:=by omega
   subst hge
   exact⟨so,cl,sp,rfl,no,hso,oc,sc,fun i t f w1 w2=>hok i t f (List.getElem?_eq_some_iff.1 w1).1 w1 w2,hfew⟩
 ·rintro⟨_,p1,p2,_⟩ H6 ⟨so,cl,sp,hp2,no,hso,oc,sc,hok,hfew⟩
  simp only at hp2; subst hp2
  dsimp only
  have fb:=no.2.2
  have f06:bI [] H H6:=f1.trans fb
  have onT:∀x∈kZ ts ts.length,∃(k:Nat) (t:Tg),x=k∧ts[k]? =some t∧t.Place=4∧1≤t.Stamp∧t.Stamp≤9223372036854775807:=fun x hx=>by
   obtain⟨k,t,h1,rfl,h3,h4⟩:=qL.1 hx
   have hk:k<fs.length:=by rw[hfe]; exact h1
   obtain⟨c,_,_,_,_,_,w⟩:=hok k t _ h3 (List.getElem?_eq_getElem hk)
   exact⟨k,t,rfl,h3,h4,(w h4).2.1,okt t (List.mem_of_getElem? h3)⟩
  refine ach (vb:=H.length) no ⟨1,fb.get (by simp) r1⟩ (hs.bZ f06 (by simp)) (fla.bZ f06) (by omega) (fun d off e=>by have:=QS hs e; omega) (fun x hx=>by obtain⟨k,t,e,w1,w2,w3⟩:=onT x hx; exact⟨k,t,e,w1,w3⟩) (by omega) fun H16 l' hperm hsort no16 aft=> ?_
  have f016:bI [] H H16:=f1.trans no16.2.2
  have hl':l'.length=(kZ ts ts.length).length:=hperm.length_eq
  have hso16:=no16.1.xC
  have hsol:=hso16.1
  have hs16:=hs.bZ f016 (by simp)
  have nd:l'.Nodup:=hperm.symm.nodup (BZ _)
  have at':∀(k:Nat) x,l'[k]? =some x->∃(j:Nat) (t:Tg),x=j∧ts[j]? =some t∧t.Place=4∧bg ts x.toNat=t.Stamp:=fun k x hx=>by
   obtain⟨j,t,rfl,w1,w2,_⟩:=onT x (hperm.mem_iff.1 (List.mem_of_getElem? hx))
   exact⟨j,t,rfl,w1,w2,by simp[bg,w1]⟩
  refine aS (fun _ H'=>H'=H16∧∀(j:Nat) x y,1≤j->l'[j-1]? =some x->l'[j]? =some y->bg ts x.toNat<bg ts y.toNat) (fun j hj=> ?_) ?_
  ·refine bF (fun(t:(Int×Unit)×(aH×Unit)) H'=>H'=H16∧∃k:Nat,t.1.1=k∧1≤k∧∀(j:Nat) x y,1≤j->j<k->l'[j-1]? =some x->l'[j]? =some y->bg ts x.toNat<bg ts y.toNat) (fun t=>l'.length+1-t.1.1.toNat) ?_ ⟨rfl,1,rfl,Nat.le_refl _,fun j x y w1 w2=>by omega⟩
   rintro G ⟨⟨i,_⟩,p3',_⟩ H' ⟨rfl,k,hk,hk1,hno⟩ hG
   simp only at hk; subst hk
   dsimp only at hG ⊢
   refine dD (fun hlt=> ?_) (fun hge=>hj _ _ ⟨rfl,fun j x y w1 w2 w3=>hno j x y w1 (by have:=(List.getElem?_eq_some_iff.1 w3).1; omega) w2 w3⟩)
   have hkl:k<l'.length:=by omega
   have hxk:l'[k-1]? =some (l'[k-1]'(by omega)):=List.getElem?_eq_getElem (by omega)
   have hyk:l'[k]? =some l'[k]:=List.getElem?_eq_getElem hkl
   have hne:=List.pairwise_iff_getElem.1 nd (k-1) k (by omega) hkl (by omega)
   generalize (l'[k-1]'(by omega))=x at hxk hne
   generalize l'[k]=y at hyk hne
   obtain⟨jx,tx,ex,hjx,px,sx⟩:=at' _ x hxk
   obtain⟨jy,ty,ey,hjy,py,sy⟩:=at' _ y hyk
   rw[dG (x:=(k:Int)-1) (by omega) (by omega)]
   refine ldv no16.2.2 (bD (T:=iU) FU hso16 (n:=k-1) (by omega) hxk rfl (nG hs16 ex hjx (ldv no16.2.2 (bD (T:=iU) FU hso16 (n:=k) rfl hyk rfl (nG hs16 ey hjy (fM (fun e=>bad _ _ (fun w=> ?_) f016) (fun e=> ?_)))))))
   ·exact w.dst jx jy tx ty (fun q=>hne (by rw[ex,ey,q])) hjx hjy px py e
   ·rw[dG (by omega) (by omega)]
    refine hG _ _ ⟨rfl,k+1,by simp,by omega,fun j a b w1 w2 w3 w4=> ?_⟩ (by simp; omega)
    by_cases ej:j=k
    ·subst ej; rw[hxk]at w3; cases w3; rw[hyk]at w4; cases w4
     have:=hsort (j-1) j x y (by omega) hxk hyk
     rw[sx,sy]at this ⊢
     omega
    ·exact hno j a b w1 (by omega) w3 w4
  ·rintro⟨_,p4,_⟩ H17 ⟨rfl,hstr⟩
   have lt2:∀(p q:Nat) x y,p<q->l'[p]? =some x->l'[q]? =some y->bg ts x.toNat<bg ts y.toNat:=fun p q x y hpq hx hy=>by
    have hql:=(List.getElem?_eq_some_iff.1 hy).1
    have hz:l'[p+1]? =some (l'[p+1]'(by omega)):=List.getElem?_eq_getElem (by omega)
    have h1:=hstr (p+1) x _ (by omega) (by simpa using hx) hz
    by_cases e:p+1=q
    ·subst e; rw[hy]at hz; cases hz; exact h1
    ·have h2:=hsort (p+1) q _ y (by omega) hz hy
     omega
   have Oo:V8 B ts fs:=⟨hok,hfew,fun i j t u hij hi hj pt pu=>by
    have mi:(i:Int)∈l':=hperm.mem_iff.2 (qL.2 ⟨i,t,(List.getElem?_eq_some_iff.1 hi).1,rfl,hi,pt⟩)
    have mj:(j:Int)∈l':=hperm.mem_iff.2 (qL.2 ⟨j,u,(List.getElem?_eq_some_iff.1 hj).1,rfl,hj,pu⟩)
    obtain⟨p,hp⟩:=List.mem_iff_getElem?.1 mi
    obtain⟨q,hq⟩:=List.mem_iff_getElem?.1 mj
    have si:bg ts (i:Int).toNat=t.Stamp:=by simp[bg,hi]
    have sj:bg ts (j:Int).toNat=u.Stamp:=by simp[bg,hj]
    rcases Nat.lt_trichotomy p q with w|w|w
    ·have:=lt2 p q _ _ w hp hq; omega
    ·subst w; rw[hp]at hq; simp at hq; exact absurd (by omega) hij
    ·have:=lt2 q p _ _ w hq hp; omega⟩
   refine q0 s3 so cl l' H17 (eT Oo) Oo ⟨(oc.after aft (fun d hd e=>by rw[p3]at hd; cases hd; have:=hso _ e; omega)).xC,sc.len,fun i t c w1 w2 w3 w4=> ?_,hso16,⟨hperm,hsort⟩,f016⟩
   obtain⟨g',v1,v2,v3⟩:=sc.c i t c (List.getElem?_eq_some_iff.1 w1).1 w1 w2 w4
   have:=v2.after aft v3
   exact⟨g',v1,this.e,this.p,fun d hd=>by have:=this.lo d hd; omega⟩
end
end Go.Proofs.YtijnknjopjmiiaaGreatDoor.Zq
end
section
namespace Go.Proofs.YtijnknjopjmiiaaGreatDoor.Zq
open Zv
section
variable{H:Heap}
def FV(t:Int):Int:=if 1≤t∧t≤8 then IntKind.wrap .u16 (1*2 ^ (min (IntKind.wrap .u8 (t-1)).toNat (IntKind.bits .u16)))else 0
def aar(s t:Int):Bool:=(IntKind.wrap .u16 (((BitVec.ofInt (IntKind.bits .u16) s &&& BitVec.ofInt (IntKind.bits .u16) (FV t)).toNat:Int))) !=0
def KW(s t:Int):Int:=IntKind.wrap .u16 (((BitVec.ofInt (IntKind.bits .u16) s ||| BitVec.ofInt (IntKind.bits .u16) (FV t)).toNat:Int))
def KX(s t:Int):Int:=IntKind.wrap .u16 (((BitVec.ofInt (IntKind.bits .u16) s &&& ~~~BitVec.ofInt (IntKind.bits .u16) (FV t)).toNat:Int))
def Ei(v:Int):Int:=if v=10 then 1 else if v=11 then 2 else if v=12∨v=13 then 3 else if v=14 then 4 else if v=15 then 5 else 0
theorem afo(x:Int):0≤IntKind.wrap .u8 x:=by
 show 0≤x%256
 omega
theorem XC(x:Int):0≤IntKind.wrap .u16 x:=by
 show 0≤x%65536
 omega
theorem V9{t:Int}{Q:Int×Unit->Heap->Prop}(hq:Q (FV t,()) H):CALL P [au .u16] nT [.int .u8 t] H Q:=by
 apply Uw
 unfold zf
 apply VX
 unfold BX
 refine JD (1≤t∧t≤8) (fun j hj=>dD (fun h=>hj _ (by simp; omega)) (fun h=>hj _ (by simp; omega))) ?_
 refine QI (fun h=> ?_) (fun h=> ?_)
 ·unfold FV at hq; rw[if_neg h]at hq; exact hq
 ·unfold FV at hq; rw[if_pos h]at hq; exact⟨afo _,hq⟩
theorem aas{s t:Int}{Q:Bool×Unit->Heap->Prop}(hq:Q (aar s t,()) H):CALL P [ah] rJ [.int .u16 s,.int .u8 t] H Q:=by
 apply Us
 unfold yZ
 exact V9 hq
theorem acj{s t:Int}{Q:Int×Unit->Heap->Prop}(hq:Q (KW s t,()) H):CALL P [au .u16] vX [.int .u16 s,.int .u8 t] H Q:=by
 apply Qu
 unfold wK
 exact V9 hq
theorem acn{s t:Int}{Q:Int×Unit->Heap->Prop}(hq:Q (KX s t,()) H):CALL P [au .u16] oC [.int .u16 s,.int .u8 t] H Q:=by
 apply Hw
 unfold oN
 exact V9 hq
theorem adV{v:Int}{Q:Int×Unit->Heap->Prop}(hq:Q (Ei v,()) H):CALL P [au .i64] qm [.int .u8 v] H Q:=by
 apply Kr
 unfold qH
 unfold Ei at hq
 refine fM (fun h=>by rwa [if_pos h]at hq) (fun h1=>fM (fun h=>by rwa [if_neg h1,if_pos h]at hq) (fun h2=>hJ (v=12∨v=13) (fun j hj=>fM (fun h=>hj _ (by simp; omega)) (fun h=>hj _ (by simp; omega))) (fun h3=>by rwa [if_neg h1,if_neg h2,if_pos h3]at hq) (fun h3=> ?_)))
 rw[if_neg h1,if_neg h2,if_neg h3]at hq
 exact fM (fun h=>by rwa [if_pos h]at hq) (fun h4=>fM (fun h=>by rwa [if_neg h4,if_pos h]at hq) (fun h5=>by rwa [if_neg h4,if_neg h5]at hq))
theorem bQ.older{T:Tag}{H H1 H':Heap}{s:Sl}{l sp:List T.α}(h:bQ T H1 s H' l sp)(f:bI [] H H1):bQ T H s H' l sp:=
 ⟨h.1,fun d hd=>Nat.le_trans f.1 (h.2.1 d hd),f.trans h.2.2⟩
theorem bQ.new{T:Tag}{H H1 H':Heap}{s:Sl}{l sp:List T.α}(h:bQ T H s H1 l sp)(f:bI [] H1 H'):bQ T H s H' l sp:=
 ⟨h.1.bZ f (by simp[Sl.off]),h.2.1,h.2.2.trans f⟩
theorem bQ.nil'(T:Tag)(H:Heap):bQ T H ⟨none,0,0⟩ H [] []:=⟨Ow.nil T H,by simp,.refl _ _⟩
end
end Go.Proofs.YtijnknjopjmiiaaGreatDoor.Zq
end
section
namespace Go.Proofs.YtijnknjopjmiiaaGreatDoor.Zq
open Zv
section
abbrev jd:Tag:=aF
abbrev Sg:=aN
abbrev Ft:=aG
theorem Ij(x:Sg):(jd.cells x).length=jd.n:=rfl
theorem Ol:Tt E jd 37 (⟨0,0,⟨0,0,0,0,0,0,0,ByteArray.mk #[]⟩⟩:Sg):=⟨⟨_,_,_,rfl,rfl,rfl,rfl,by decide,by decide,rfl⟩,by decide,Ij,fun _=>rfl⟩
theorem tyF:Tt E TF 30 (⟨0,0,0,0,0⟩:Ft):=⟨⟨_,_,_,rfl,rfl,rfl,rfl,by decide,by decide,rfl⟩,by decide,IB,fun _=>rfl⟩
def O4(fs:List Ft)(i:Int):Ft:=fs[i.toNat]?.getD ⟨0,0,0,0,0⟩
def cdI(B:List Cd)(ts:List Tg)(i:Int):Option Cd:=ts[i.toNat]?.bind fun t=>B[(t.Card-1).toNat]?
def cpI(B:List Cd)(ts:List Tg)(i:Int):List Pt:=((cdI B ts i).map (·.ps)).getD []
def ckI(B:List Cd)(ts:List Tg)(i:Int):Int:=((cdI B ts i).map (·.g.Kind)).getD 0
def rP(n k:Int)(p:Pt×Nat):List Sg:=if p.1.When=5∧Ei p.1.Verb=k then [⟨n,p.2,p.1⟩]else []
def aau(n k:Int)(ps:List Pt):List Sg:=ps.zipIdx.flatMap (rP n k)
def nV(B:List Cd)(ts:List Tg)(fs:List Ft)(k i:Int):List Sg:=if aar (O4 fs i).Traits 6=true then []else aau (i+1) k (cpI B ts i)
def Am(B:List Cd)(ts:List Tg)(fs:List Ft)(ol:List Int)(k:Int):List Sg:=ol.flatMap (nV B ts fs k)
def FW(B:List Cd)(ts:List Tg)(fs:List Ft)(s:Sg)(i:Int):Bool:=
 if s.What.Whom=4 then i==s.Thing-1
 else if ckI B ts i≠1 then false
 else if s.What.Whom=5 then(O4 fs i).Holder==(O4 fs (s.Thing-1)).Holder
 else if s.What.Whom=6 then(O4 fs i).Holder !=(O4 fs (s.Thing-1)).Holder
 else if s.What.Whom=7 then true
 else if s.What.Whom=8 then(O4 fs i).Holder==(O4 fs (s.Thing-1)).Holder&&i !=s.Thing-1
 else if s.What.Whom=9 then(O4 fs i).Suit==s.What.Suit
 else if s.What.Whom=10 then aar (O4 fs i).Traits s.What.Trait
 else false
def jS(B:List Cd)(ts:List Tg)(fs:List Ft)(s:Sg)(i:Int):List Int:=if FW B ts fs s i=true then [i+1]else []
def iC(B:List Cd)(ts:List Tg)(fs:List Ft)(ol:List Int)(s:Sg):List Int:=ol.flatMap (jS B ts fs s)
def nX(f:Ft)(p:Pt)(h:Int):Ft:=
 if p.Verb=10 then{ f with Holder:=h }
 else if p.Verb=11 then{ f with Suit:=p.Suit }
 else if p.Verb=12 then{ f with Traits:=KW f.Traits p.Trait }
 else if p.Verb=13 then{ f with Traits:=KX f.Traits p.Trait }
 else if p.Verb=14 then{ f with Power:=p.Count,Health:=p.Count }
 else if p.Verb=15 then{ f with Power:=IntKind.wrap .i64 (f.Power+p.Count),Health:=IntKind.wrap .i64 (f.Health+p.Count) }
 else f
def uY(s:Sg)(h:Int)(out:List Ft)(n:Int):List Ft:=out.set (n-1).toNat (nX (O4 out (n-1)) s.What h)
def mD(B:List Cd)(ts:List Tg)(fs:List Ft)(ol:List Int)(s:Sg):List Ft:=
 (iC B ts fs ol s).foldl (uY s (O4 fs (s.Thing-1)).Holder) fs
def uZ(B:List Cd)(ts:List Tg)(fs:List Ft)(ol:List Int)(s o:Sg):Bool:=decide (iC B ts fs ol s≠iC B ts (mD B ts fs ol o) ol s)
theorem QU{α β:Type}(f:α->List β){l:List α}{n:Nat}{x:α}(hx:l[n]? =some x):(l.take (n+1)).flatMap f=(l.take n).flatMap f++f x:=by
 rw[List.take_add_one,hx,List.flatMap_append]; simp
theorem YB{α β:Type}(f:β->α->β)(b:β){l:List α}{n:Nat}{x:α}(hx:l[n]? =some x):(l.take (n+1)).foldl f b=f ((l.take n).foldl f b) x:=by
 rw[List.take_add_one,hx,List.foldl_append]; simp
theorem Cc{α β:Type}{f:α->List β}{c:Nat}:∀{l:List α},(∀x∈l,(f x).length≤c)->(l.flatMap f).length≤c*l.length
 |[],_=>by simp
 |x::r,h=>by
  rw[List.flatMap_cons,List.length_append,List.length_cons,Nat.mul_succ]
  have:=Cc (l:=r) (fun y hy=>h y (by simp[hy]))
  have:=h x (by simp)
  omega
theorem O5(n k:Int)(p:Pt×Nat):(rP n k p).length≤1:=by unfold rP; split<;>simp
theorem UN(n k:Int)(ps:List Pt):(aau n k ps).length≤ps.length:=by
 have:=Cc (f:=rP n k) (c:=1) (l:=ps.zipIdx) (fun x _=>O5 n k x)
 rw[List.length_zipIdx]at this
 unfold aau; omega
theorem GI(B:List Cd)(ts:List Tg)(fs:List Ft)(s:Sg)(i:Int):(jS B ts fs s i).length≤1:=by unfold jS; split<;>simp
theorem Ce(B:List Cd)(ts:List Tg)(fs:List Ft)(ol:List Int)(s:Sg):(iC B ts fs ol s).length≤ol.length:=by
 have:=Cc (f:=jS B ts fs s) (c:=1) (l:=ol) (fun x _=>GI B ts fs s x)
 unfold iC; omega
theorem Ci{B:List Cd}{ts:List Tg}{fs:List Ft}{ol:List Int}{s:Sg}{x:Int}:x∈iC B ts fs ol s↔x-1∈ol∧FW B ts fs s (x-1)=true:=by
 unfold iC jS
 simp only[List.mem_flatMap]
 constructor
 ·rintro⟨i,h1,h2⟩
  split at h2
  ·simp at h2; subst h2
   rename_i h3
   rw[show i+1-1=i by omega]; exact⟨h1,h3⟩
  ·cases h2
 ·rintro⟨h1,h2⟩
  exact⟨_,h1,by rw[if_pos h2]; simp⟩
theorem aav(s:Sg)(h:Int)(out:List Ft)(n:Int):(uY s h out n).length=out.length:=by unfold uY; simp
theorem wV(s:Sg)(h:Int):∀(l:List Int) (out:List Ft),(l.foldl (uY s h) out).length=out.length
 |[],_=>rfl
 |x::r,out=>by rw[List.foldl_cons,wV s h r,aav]
theorem KY(B:List Cd)(ts:List Tg)(fs:List Ft)(ol:List Int)(s:Sg):(mD B ts fs ol s).length=fs.length:=wV _ _ _ _
theorem FX{fs:List Ft}{i:Int}{n:Nat}{f:Ft}(hi:i=n)(hf:fs[n]? =some f):O4 fs i=f:=by
 subst hi; simp[O4,hf]
def zk(ts:List Tg)(s o:Sg):Bool:=
 decide (bg ts (s.Thing-1).toNat<bg ts (o.Thing-1).toNat)||(decide (bg ts (s.Thing-1).toNat=bg ts (o.Thing-1).toNat)&&decide (s.Place<o.Place))
def Ej(l:List Sg)(i:Int):Sg:=l[i.toNat]?.getD ⟨0,0,⟨0,0,0,0,0,0,0,ByteArray.mk #[]⟩⟩
theorem KZ{l:List Sg}{i:Int}{n:Nat}{s:Sg}(hi:i=n)(h:l[n]? =some s):Ej l i=s:=by subst hi; simp[Ej,h]
def La(B:List Cd)(ts:List Tg)(fs:List Ft)(ol:List Int)(l:List Sg)(i k:Nat):Bool:=(List.range k).any fun j=>j !=i&&uZ B ts fs ol (Ej l (i:Int)) (Ej l (j:Int))
def nx(B:List Cd)(ts:List Tg)(fs:List Ft)(ol:List Int)(l:List Sg):Nat->Int×Int
 |0=>(-1,0)
 |n+1=>(if(!La B ts fs ol l n l.length&&(decide ((nx B ts fs ol l n).1<0)||zk ts (Ej l n) (Ej l (nx B ts fs ol l n).1)))=true then(n:Int)else(nx B ts fs ol l n).1,
   if zk ts (Ej l n) (Ej l (nx B ts fs ol l n).2)=true then(n:Int)else(nx B ts fs ol l n).2)
def Lc(B:List Cd)(ts:List Tg)(fs:List Ft)(ol:List Int)(l:List Sg):Int:=if(nx B ts fs ol l l.length).1<0 then(nx B ts fs ol l l.length).2 else(nx B ts fs ol l l.length).1
theorem Wh(B:List Cd)(ts:List Tg)(fs:List Ft)(ol:List Int)(l:List Sg):∀n,-1≤(nx B ts fs ol l n).1∧(nx B ts fs ol l n).1<n∧0≤(nx B ts fs ol l n).2∧((nx B ts fs ol l n).2<n∨(nx B ts fs ol l n).2=0)
 |0=>by simp[nx]
 |n+1=>by
  obtain⟨h1,h2,h3,h4⟩:=Wh B ts fs ol l n
  unfold nx
  refine⟨?_,?_,?_,?_⟩<;>dsimp only<;>split<;>omega
theorem FY(B:List Cd)(ts:List Tg)(fs:List Ft)(ol:List Int){l:List Sg}(h:0<l.length):0≤Lc B ts fs ol l∧Lc B ts fs ol l<l.length:=by
 obtain⟨h1,h2,h3,h4⟩:=Wh B ts fs ol l l.length
 unfold Lc
 split<;>omega
def iD(B:List Cd)(ts:List Tg)(ol:List Int)(fs:List Ft)(l:List Sg):Nat->List Ft×List Sg×List Sg
 |0=>(fs,l,[])
 |n+1=>
  let q:=iD B ts ol fs l n
  let i:=Lc B ts q.1 ol q.2.1
  (mD B ts q.1 ol (Ej q.2.1 i),q.2.1.eraseIdx i.toNat,q.2.2++[Ej q.2.1 i])
theorem mF(B:List Cd)(ts:List Tg)(ol:List Int)(fs:List Ft)(l:List Sg):∀n,n≤l.length->(iD B ts ol fs l n).1.length=fs.length∧(iD B ts ol fs l n).2.1.length=l.length-n∧(∀s∈(iD B ts ol fs l n).2.1,s∈l)∧(iD B ts ol fs l n).2.2.length=n
 |0,_=>by simp[iD]
 |n+1,hn=>by
  obtain⟨h1,h2,h3,h4⟩:=mF B ts ol fs l n (by omega)
  have hr:=FY B ts (iD B ts ol fs l n).1 ol (l:=(iD B ts ol fs l n).2.1) (by omega)
  unfold iD
  refine⟨?_,?_,fun s hs=>h3 s ?_,?_⟩
  ·dsimp only; rw[KY,h1]
  ·dsimp only; rw[List.length_eraseIdx,if_pos (by omega),h2]; omega
  ·exact List.mem_of_mem_eraseIdx hs
  ·dsimp only; rw[List.length_append,h4]; rfl
theorem Em{B:List Cd}{ts:List Tg}{fs:List Ft}{ol:List Int}{k:Int}{s:Sg}(h:s∈Am B ts fs ol k):s.Thing-1∈ol∧∃i:Nat,s.Place=i∧(cpI B ts (s.Thing-1))[i]? =some s.What∧s.What.When=5∧Ei s.What.Verb=k∧aar (O4 fs (s.Thing-1)).Traits 6=false:=by
 unfold Am at h
 obtain⟨x,hx,h⟩:=List.mem_flatMap.1 h
 unfold nV at h
 split at h
 ·cases h
 ·rename_i hh
  unfold aau at h
  obtain⟨p,hp,h⟩:=List.mem_flatMap.1 h
  unfold rP at h
  split at h
  ·rename_i hc
   simp at h; subst h
   have:=List.mk_mem_zipIdx_iff_getElem?.1 (show(p.1,p.2)∈(cpI B ts x).zipIdx from hp)
   have e:x+1-1=x:=by omega
   simp only[e]
   exact⟨hx,p.2,rfl,this,hc.1,hc.2,by simpa using hh⟩
  ·cases h
end
end Go.Proofs.YtijnknjopjmiiaaGreatDoor.Zq
end
section
namespace Go.Proofs.YtijnknjopjmiiaaGreatDoor.Zq
open Zv
section
variable{H:Heap}{b m:Nat}{se:Bool}{B:List Cd}{ms:List ak}
structure jr(B:List Cd)(ts:List Tg)(ol:List Int):Prop where
 few:ol.length≤16
 nd:ol.Nodup
 srt:∀(i j:Nat) a b,i<j->ol[i]? =some a->ol[j]? =some b->bg ts a.toNat<bg ts b.toNat
 at':∀i∈ol,∃(k:Nat) (t:Tg) (c:Cd),i=k∧ts[k]? =some t∧t.Place=4∧1≤t.Card∧B[(t.Card-1).toNat]? =some c∧1≤t.Stamp∧c.g.Kind≠2∧c.ps.length≤4
 all:∀(k:Nat) t,ts[k]? =some t->t.Place=4->(k:Int)∈ol
 len:ts.length≤2048
theorem Dt.p4(h:Dt B){c:Cd}(hc:c∈B):c.ps.length≤4:=by
 have:=h.ok c hc
 unfold xE at this
 by_cases hf:zN c=0
 ·exact qw hf
 ·rw[if_neg hf]at this; exact absurd this hf
theorem XB.aeJ{ts:List Tg}{fs:List Ft}{ol:List Int}(h:XB ts ol)(Oo:V8 B ts fs)(hfe:fs.length=ts.length)(okB:Dt B)(hlen:ts.length≤2048):jr B ts ol:=by
 obtain⟨hp,hs⟩:=h
 have nd:ol.Nodup:=hp.symm.nodup (BZ _)
 have at':∀i∈ol,∃(k:Nat) (t:Tg) (c:Cd),i=k∧ts[k]? =some t∧t.Place=4∧1≤t.Card∧B[(t.Card-1).toNat]? =some c∧1≤t.Stamp∧c.g.Kind≠2∧c.ps.length≤4:=fun i hi=>by
  obtain⟨k,t,h1,rfl,h3,h4⟩:=qL.1 (hp.mem_iff.1 hi)
  have hk:k<fs.length:=by omega
  obtain⟨c,w1,w2,_,_,_,w⟩:=Oo.all k t _ h3 (List.getElem?_eq_getElem hk)
  exact⟨k,t,c,rfl,h3,h4,w1,w2,(w h4).2.1,(w h4).1,okB.p4 (List.mem_of_getElem? w2)⟩
 refine⟨by rw[hp.length_eq]; exact Oo.few,nd,fun i j a b' hij ha hb=> ?_,at',fun k t h1 h2=>hp.mem_iff.2 (qL.2 ⟨k,t,(List.getElem?_eq_some_iff.1 h1).1,rfl,h1,h2⟩),hlen⟩
 have h1:=hs i j a b' hij ha hb
 obtain⟨k,t,_,e1,e2,e3,_⟩:=at' a (List.mem_of_getElem? ha)
 obtain⟨k',t',_,e1',e2',e3',_⟩:=at' b' (List.mem_of_getElem? hb)
 have ea:bg ts a.toNat=t.Stamp:=by subst e1; simp[bg,e2]
 have eb:bg ts b'.toNat=t'.Stamp:=by subst e1'; simp[bg,e2']
 rw[ea,eb]at h1 ⊢
 have hab:k≠k':=fun q=>by
  have hi:=(List.getElem?_eq_some_iff.1 ha)
  have hj:=(List.getElem?_eq_some_iff.1 hb)
  have:=List.pairwise_iff_getElem.1 nd i j hi.1 hj.1 hij
  exact this (by rw[hi.2,hj.2,e1,e1',q])
 have:=Oo.dst k k' t t' hab e2 e2' e3 e3'
 omega
structure Vj(m:Nat)(H:Heap)(a1 cs so:Sl)(B:List Cd)(ts:List Tg)(ol:List Int):Prop where
 hs:fF qW H a1 ts
 c:∃cl,fF TC H cs cl∧∀(i:Nat) t c,ts[i]? =some t->t.Place=4->1≤t.Card->B[(t.Card-1).toNat]? =some c->∃g,cl[i]? =some g∧CR m H g c
 o:fF iU H so ol
 ot:jr B ts ol
theorem Vj.new{H':Heap}{a1 cs so:Sl}{ts:List Tg}{ol:List Int}(h:Vj m H a1 cs so B ts ol)(f:bI [] H H'):Vj m H' a1 cs so B ts ol:=by
 obtain⟨h1,⟨cl,h2,h3⟩,h4,h5⟩:=h
 exact⟨h1.bZ f (by simp),⟨cl,h2.bZ f (by simp),fun i t c w1 w2 w3 w4=>by obtain⟨g,q1,q2⟩:=h3 i t c w1 w2 w3 w4; exact⟨g,q1,q2.bZ f (by simp)⟩⟩,h4.bZ f (by simp),h5⟩
theorem Vj.card{a1 cs so:Sl}{ts:List Tg}{ol:List Int}(h:Vj m H a1 cs so B ts ol):∃cl,fF TC H cs cl∧∀i∈ol,∃(k:Nat) (t:Tg) (c:Cd) (g:ay),i=k∧ts[k]? =some t∧cl[k]? =some g∧CR m H g c∧cpI B ts i=c.ps∧ckI B ts i=c.g.Kind∧g.Kind=c.g.Kind∧c.ps.length≤4:=by
 obtain⟨h1,⟨cl,h2,h3⟩,h4,h5⟩:=h
 refine⟨cl,h2,fun i hi=> ?_⟩
 obtain⟨k,t,c,e1,e2,e3,e4,e5,e6,e7,e8⟩:=h5.at' i hi
 obtain⟨g,q1,q2⟩:=h3 k t c e2 e3 e4 e5
 subst e1
 have hk:g.Kind=c.g.Kind:=by rw[←q2.e]; rfl
 have hcd:cdI B ts (k:Int)=some c:=by unfold cdI; rw[Int.toNat_natCast,e2]; exact e5
 exact⟨k,t,c,g,rfl,e2,q1,q2,by unfold cpI; rw[hcd]; rfl,by unfold ckI; rw[hcd]; rfl,hk,e8⟩
theorem En(h:BP m H b se B ms)(okB:Dt B){a1 a2:Sl}{ts:List Tg}{fs:List aG}(hs:fF qW H a1 ts)(hf:fF TF H a2 fs)(fla:Flat H a1)(okt:∀t∈ts,t.Stamp≤9223372036854775807)(okf:∀f∈fs,0≤f.Traits)(bts:ts.length≤1048600){Q:aH×Int×Unit->Heap->Prop}
  (q1:∀p H',dY se B ts fs≠0->bI [] H H'->Q (p,dY se B ts fs,()) H') (q0:∀cs so ol H',dY se B ts fs=0->V8 B ts fs->Vj H.length H' a1 cs so B ts ol->bI [] H H'->Q (⟨some ⟨b,0,none⟩,a1,cs,so⟩,0,()) H'):
  CALL P [aC,iU] gY [.pointer (some ⟨b,0,none⟩),a1.v,a2.v] H Q:=by
 refine aci h okB hs hf fla okt okf bts q1 fun cs so cl ol H' e Oo pl=> ?_
 have hfe:fs.length=ts.length:=by
  refine Classical.byContradiction fun q=> ?_
  unfold dY at e
  split at e
  ·cases e
  ·rw[if_pos (.inr q)]at e; cases e
 have hlen:ts.length≤2048:=by
  refine Classical.byContradiction fun q=> ?_
  unfold dY at e
  rw[if_pos (by omega)]at e; cases e
 exact q0 cs so ol H' e Oo ⟨hs.bZ pl.f (by simp),⟨cl,pl.c,pl.card⟩,pl.o,pl.ord.aeJ Oo hfe okB hlen⟩ pl.f
theorem UO{s:Sl}{l:List Pt}(h:fF TP H s l){i:Int}{n:Nat}{x:Pt}(hi:i=n)(hx:l[n]? =some x){K:Pt->Prop}(hK:K x):dR s.p s.len i 8 fun b o=>LD TP H b o K:=bD (T:=TP) hTP h hi hx rfl hK
theorem Ld{s:Sl}{gs:List ay}(h:fF TC H s gs){i:Int}{n:Nat}{g:ay}(hi:i=n)(hx:gs[n]? =some g){K:Sl->Prop}(hk:K g.Parts):dR s.p s.len i 9 fun b o=>LD aK H b (o+8) K:=by
 subst hi; exact FT h hx hk
theorem adW{a1 a2 cs so:Sl}{bp:Option Addr}{ts:List Tg}{fs:List Ft}{ol:List Int}(pl:Vj m H a1 cs so B ts ol)(hf:fF TF H a2 fs)(hfe:fs.length=ts.length){k:Int}{Q:Sl×Unit->Heap->Prop}
  (hq:∀s H' sp,bQ jd H s H' (Am B ts fs ol k) sp->Q (s,()) H'):CALL P [aK] jh [aC.enc ⟨bp,a1,cs,so⟩,a2.v,.int .i64 k] H Q:=by
 apply xI
 unfold jo
 have hol:=pl.o.1
 obtain⟨cl,hcl,cd⟩:=pl.card
 refine aS (fun y H'=>∃sp,bQ jd H y.1.1 H' (Am B ts fs ol k) sp) (fun j hj=> ?_) (fun y H' h=>by obtain⟨sp,h⟩:=h; exact hq _ _ _ h)
 refine bF (fun(y:(Sl×Int×Unit)×Unit) H'=>∃(n:Nat) (sp:List Sg),y.1.2.1=n∧n≤ol.length∧bQ jd H y.1.1 H' ((ol.take n).flatMap (nV B ts fs k)) sp) (fun y=>ol.length-y.1.2.1.toNat) ?_ ⟨0,[],rfl,Nat.zero_le _,by simpa using bQ.nil' jd H⟩
 rintro G ⟨⟨out,i,_⟩,_⟩ H1 ⟨n,sp,hi,hn,no⟩ hG
 simp only at hi no; subst hi
 dsimp only at hG ⊢
 have f1:=no.2.2
 refine dD (fun hlt=> ?_) (fun hge=>hj _ _ ⟨sp,?_⟩)
 ·have hlt:n<ol.length:=by omega
  have hx:ol[n]? =some ol[n]:=List.getElem?_eq_getElem hlt
  have hm:ol[n]∈ol:=List.getElem_mem hlt
  generalize ol[n]=x at hx hm
  obtain⟨kx,t,c,g,ek,et,eg,cr,ecp,eck,egk,e4⟩:=cd x hm
  have hkl:kx<fs.length:=by rw[hfe]; exact(List.getElem?_eq_some_iff.1 et).1
  have hfx:fs[kx]? =some fs[kx]:=List.getElem?_eq_getElem hkl
  generalize fs[kx]=f at hfx
  have eft:O4 fs x=f:=FX ek hfx
  have tk:=QU (nV B ts fs k) hx
  have hpre:((ol.take n).flatMap (nV B ts fs k)).length≤64:=by
   have:=Cc (f:=nV B ts fs k) (c:=4) (l:=ol.take n) fun y hy=>by
    obtain⟨_,_,c',_,_,_,_,_,ecp',_,_,e4'⟩:=cd y (List.mem_of_mem_take hy)
    unfold nV
    split
    ·simp
    ·have:=UN (y+1) k (cpI B ts y)
     rw[ecp']at this ⊢; omega
   have h16:=pl.ot.few
   rw[List.length_take]at this
   omega
  refine aS (fun y H'=>∃sp,bQ jd H y.1.1 H' ((ol.take (n+1)).flatMap (nV B ts fs k)) sp) (fun j2 hj2=> ?_) ?_
  ·refine bD (T:=iU) FU (pl.o.bZ f1 (by simp)) rfl hx rfl (Cb (hf.bZ f1 (by simp)) ek hfx (aas (bK (fun hM=> ?_) (fun hM=> ?_))))
   ·refine hj2 _ _ ⟨sp,?_⟩
    have:nV B ts fs k x=[]:=by unfold nV; rw[eft,if_pos hM]
    rw[tk,this,List.append_nil]; exact no
   ·have e1:nV B ts fs k x=aau (x+1) k c.ps:=by
     unfold nV; rw[eft,if_neg (by have hM:aar f.Traits 6=false:=hM; rw[hM]; decide),ecp]
    rw[e1]at tk
    refine Ld (hcl.bZ f1 (by simp)) ek eg ?_
    have hps:=cr.p
    have hpl:=hps.1
    refine aS (fun y H'=>∃sp,bQ jd H y.1.1 H' ((ol.take (n+1)).flatMap (nV B ts fs k)) sp) (fun j3 hj3=> ?_) (fun y H' h=>hj2 _ _ h)
    refine bF (fun(y:(Sl×Int×Unit)×Unit) H'=>∃(i:Nat) (sp:List Sg),y.1.2.1=i∧i≤c.ps.length∧bQ jd H y.1.1 H' ((ol.take n).flatMap (nV B ts fs k)++(c.ps.zipIdx.take i).flatMap (rP (x+1) k)) sp) (fun y=>c.ps.length-y.1.2.1.toNat) ?_ ⟨0,sp,rfl,Nat.zero_le _,by simpa using no⟩
    rintro G2 ⟨⟨out2,i2,_⟩,_⟩ H2 ⟨i,sp2,hi,hin,no2⟩ hG2
    simp only at hi no2; subst hi
    dsimp only at hG2 ⊢
    have f2:=no2.2.2
    refine dD (fun hlt2=> ?_) (fun hge2=>hj3 _ _ ⟨sp2,?_⟩)
    ·have hlt2:i<c.ps.length:=by omega
     have hy:c.ps[i]? =some c.ps[i]:=List.getElem?_eq_getElem hlt2
     have hz:c.ps.zipIdx[i]? =some (c.ps[i],i):=by rw[List.getElem?_zipIdx,hy]; simp
     generalize c.ps[i]=p at hy hz
     have tk2:=QU (rP (x+1) k) hz
     have hpre2:((c.ps.zipIdx.take i).flatMap (rP (x+1) k)).length≤4:=by
      have:=Cc (f:=rP (x+1) k) (c:=1) (l:=c.ps.zipIdx.take i) fun y _=>O5 _ _ y
      rw[List.length_take,List.length_zipIdx]at this
      omega
     refine UO (hps.bZ f2 (by simp)) rfl hy (JD (p.When=5∧Ei p.Verb=k) (fun j4 hj4=>fM (fun e5=>adV (hj4 _ (by simp[e5]))) (fun e5=>hj4 _ (by simp[e5]))) ?_)
     refine aS (fun y H'=>∃sp,bQ jd H y.1.1 H' ((ol.take n).flatMap (nV B ts fs k)++(c.ps.zipIdx.take (i+1)).flatMap (rP (x+1) k)) sp) (fun j5 hj5=>dD (fun hc=> ?_) (fun hc=>hj5 _ _ ⟨sp2,?_⟩)) ?_
     ·have e2:rP (x+1) k (p,i)=[⟨x+1,i,p⟩]:=by unfold rP; rw[if_pos hc]
      have hkx:x+1≤9223372036854775807∧0≤x:=by
       have h1:=pl.ot.len
       omega
      rw[dG (by omega) (by omega)]
      refine Jw Ol rfl (fun _=>by simp) (m:=1) [(⟨x+1,i,p⟩:Sg)] rfl rfl (by rw[List.length_append]; show 2*(_+1)*4096≤_; omega) no2.1 fun s4 H5 sp5 k1 k2 k3=> ?_
      refine hj5 _ _ ⟨sp5,?_⟩
      rw[tk2,e2,←List.append_assoc]
      exact no2.app k1 k2 k3
     ·have e2:rP (x+1) k (p,i)=[]:=by unfold rP; rw[if_neg hc]
      rw[tk2,e2,List.append_nil]; exact no2
     ·rintro⟨⟨out3,_⟩,_⟩ H3 ⟨sp3,no3⟩
      rw[dG (by omega) (by omega)]
      exact hG2 _ _ ⟨i+1,sp3,by simp,hlt2,no3⟩ (by simp; omega)
    ·have:i=c.ps.length:=by omega
     subst this
     have e3:c.ps.zipIdx.take c.ps.length=c.ps.zipIdx:=by rw[←List.length_zipIdx (l:=c.ps) (i:=0),List.take_length]
     rw[e3]at no2
     rw[tk]; exact no2
  ·rintro⟨⟨out3,_⟩,_⟩ H3 ⟨sp3,no3⟩
   have:=pl.ot.few
   rw[dG (by omega) (by omega)]
   exact hG _ _ ⟨n+1,sp3,by simp,hlt,no3⟩ (by simp; omega)
 ·have:n=ol.length:=by omega
  subst this
  rw[List.take_length]at no; exact no
theorem YC(h:BP m H b se B ms)(okB:Dt B){a1 a2:Sl}{ts:List Tg}{fs:List aG}(hs:fF qW H a1 ts)(hf:fF TF H a2 fs)(fla:Flat H a1)(okt:∀t∈ts,t.Stamp≤9223372036854775807)(okf:∀f∈fs,0≤f.Traits)(bts:ts.length≤1048600){k:Int}{Q:Sl×Int×Unit->Heap->Prop}
  (q1:∀H',dY se B ts fs≠0->bI [] H H'->Q (⟨none,0,0⟩,dY se B ts fs,()) H') (q2:∀H',dY se B ts fs=0->(k<1∨5<k)->bI [] H H'->Q (⟨none,0,0⟩,2,()) H')
  (q0:∀s ol H' sp,dY se B ts fs=0->V8 B ts fs->1≤k->k≤5->jr B ts ol->bQ jd H s H' (Am B ts fs ol k) sp->Q (s,0,()) H'):
  CALL P [aK,iU] ou [.pointer (some ⟨b,0,none⟩),a1.v,a2.v,.int .i64 k] H Q:=by
 apply He
 unfold oK
 refine En h okB hs hf fla okt okf bts (fun p H' e f=>fB (by simpa using e) (q1 H' e f)) fun cs so ol H' e Oo pl f=>bG rfl ?_
 have hfe:fs.length=ts.length:=by
  refine Classical.byContradiction fun q=> ?_
  unfold dY at e
  split at e
  ·cases e
  ·rw[if_pos (.inr q)]at e; cases e
 refine hJ (k<1∨5<k) (fun j hj=>dD (fun h=>hj _ (by simp; omega)) (fun h=>hj _ (by simp; omega))) (fun hk=>q2 _ e hk f) (fun hk=> ?_)
 exact adW pl (hf.bZ f (by simp)) hfe fun s H2 sp no=>q0 s ol H2 sp e Oo (by omega) (by omega) pl.ot (no.older f)
end
end Go.Proofs.YtijnknjopjmiiaaGreatDoor.Zq
end
