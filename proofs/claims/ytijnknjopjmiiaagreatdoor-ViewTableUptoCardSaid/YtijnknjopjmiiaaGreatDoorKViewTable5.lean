/- Part 5 of the proof of ViewTable: what its row stands on (lemmas about the model, the evaluator, contracts of functions), put together and cut to what is used. -/
import Derived.Test.YtijnknjopjmiiaaGreatDoorKViewTable4
import Derived.Shelf.SlSortCmp.NoneTotal
import Derived.Deep.Draws
section
namespace Go.Proofs.YtijnknjopjmiiaaGreatDoor.Zq
open Zv
section
variable{H:Heap}
structure OkP(p:Pt):Prop where
 nm:p.Name.size≤9223372036854775807
 s:0≤p.Suit∧p.Suit≤255
 t:0≤p.Trait∧p.Trait≤255
 m:0≤p.Mark∧p.Mark≤255
theorem ZM{u:Prop}[Decidable u]{x lo hi:Int}{Q:Bool×Unit->Heap->Prop}(hq:∀r:Bool,(r=true↔if u then lo≤x∧x≤hi else x=0)->Q (r,()) H):
  aK (!decide u) (Q (x==0,()) H) (JOIN (fun(j1:(Bool×Unit)×(Unit)->Heap->Prop)=>aK (decide (x≥lo)) (j1 ((decide (x≤hi),()),(())) H) (j1 ((false,()),(())) H)) fun(y2:(Bool×Unit)×(Unit)) H1=>Q (y2.1.1,()) H1):=
 X9 (hq _ (by simp))
theorem ads{u:Prop}[Decidable u]{x lo hi:Int}{Q:Bool×Unit->Heap->Prop}(hq:∀r:Bool,(r=true↔if u then lo≤x∧x≤hi else x=0)->Q (r,()) H):CALL P [ah] jQ [.int .i64 x,.bool (decide u),.int .i64 lo,.int .i64 hi] H Q:=by
 apply AL
 unfold jY
 exact ZM hq
theorem abJ{u:Prop}[Decidable u]{x lo hi:Int}{Q:Bool×Unit->Heap->Prop}(hq:∀r:Bool,(r=true↔if u then lo≤x∧x≤hi else x=0)->Q (r,()) H):CALL P [ah] gX [.int .u8 x,.bool (decide u),.int .u8 lo,.int .u8 hi] H Q:=by
 apply uI
 unfold gZ
 exact ZM hq
theorem ZN{u:Prop}[Decidable u]{x lo hi:Int}{Q:Bool×Unit->Heap->Prop}(hq:∀r:Bool,(r=true↔if u then lo≤x∧x≤hi else x=0)->Q (r,()) H):CALL P [ah] gu [.int .u8 x,.bool (decide u),.int .u8 lo,.int .u8 hi] H Q:=by
 apply rG
 unfold gB
 exact ZM hq
theorem abK{u:Prop}[Decidable u]{x lo hi:Int}{Q:Bool×Unit->Heap->Prop}(hq:∀r:Bool,(r=true↔if u then lo≤x∧x≤hi else x=0)->Q (r,()) H):CALL P [ah] gY [.int .u8 x,.bool (decide u),.int .u8 lo,.int .u8 hi] H Q:=by
 apply uM
 unfold iq
 exact ZM hq
theorem F5{u:Prop}[Decidable u]{x hi:Int}{Q:Bool×Unit->Heap->Prop}(hq:∀r:Bool,(r=true↔inU u x hi)->Q (r,()) H):CALL P [ah] jA [.bool (decide u),.int .i64 x,.int .i64 hi] H Q:=by
 apply Kz
 unfold qQ
 exact ZM (lo:=1) hq
theorem aes{r:Bool}:r=false↔¬r=true:=by cases r<;>simp
def okF(p:Pt):Prop:=inU (sU p.Verb p.Whom) p.Suit 6∧inU (tU p.Verb p.Whom) p.Trait 8∧inU (p.Verb=9) p.Mark 4
def Yd(p:Pt):Prop:=if p.Verb=7 then ¬oz p.Name else p.Name.data.toList≠[]
def out6(p:Pt):Prop:=p.When<1∨6<p.When∨p.Verb<1∨19<p.Verb∨p.Whom<1∨10<p.Whom
def Ye(p:Pt):Prop:=lT p.Verb≠yL p.When∨p.Verb=11∧p.Whom=9
open Classical in
theorem Xg(p:Pt):GZ p=if out6 p then 2 else if Ye p then 8 else if ¬lU p then 13 else if ¬su p.Verb p.Count then 2 else if ¬okF p then 2 else if Yd p then 4 else 0:=by
 unfold GZ out6 Ye okF Yd
 congr
theorem hJ{H:Heap}{A:((Bool×Unit)×Unit->Heap->Prop)->Prop}{X Y:Heap->Prop}(c:Prop)(hA:∀j:(Bool×Unit)×Unit->Heap->Prop,(∀r:Bool,(r=true↔c)->j ((r,()),()) H)->A j)(h1:c->X H)(h2:¬c->Y H):JOIN A fun(y:(Bool×Unit)×Unit) H'=>aK y.1.1 (X H') (Y H'):=
 hA _ fun r hr=>bT (fun e=>h1 (hr.1 e)) (fun e=>h2 fun q=>by
  have e:r=false:=e
  rw[hr.2 q]at e; cases e)
theorem adt{p:Pt}(ok:OkP p){Q:Int×Unit->Heap->Prop}(hq:Q (GZ p,()) H):CALL P [au .i64] qB [aT.enc p] H Q:=by
 apply J8
 unfold qN
 rw[Xg]at hq
 refine adr (ZE ?_)
 refine hJ (out6 p) (fun j hj=> ?_) (fun h=>by rwa [if_pos h]at hq) (fun h1=> ?_)
 ·unfold out6 at hj
  exact dH (fun h=>hj _ (by simp; omega)) (fun h1=>dH (fun h=>hj _ (by simp; omega)) (fun h2=>dH (fun h=>hj _ (by simp; omega)) (fun h3=>dH (fun h=>hj _ (by simp; omega)) (fun h4=>dH (fun h=>hj _ (by simp; omega)) (fun h5=>hj _ (by simp; omega))))))
 rw[if_neg h1]at hq
 have hr:1≤p.When∧p.When≤6∧1≤p.Verb∧p.Verb≤19:=by unfold out6 at h1; omega
 refine hJ (Ye p) (fun j hj=> ?_) (fun h=>by rwa [if_pos h]at hq) (fun h2=> ?_)
 ·unfold Ye at hj
  exact ZC (by omega) (Qy (fun h=>hj _ (by simp; omega)) (fun h=>fV (fun h2=>hj _ (by simp; omega)) (fun h2=>hj _ (by simp; omega))))
 rw[if_neg h2]at hq
 refine abG (by omega) fun r hr2=>bT (fun e=> ?_) (fun e=> ?_)
 ·rw[if_pos (fun q=>by rw[hr2.2 q]at e; cases e)]at hq; exact hq
 have e3:lU p:=hr2.1 (by simpa using e)
 rw[if_neg (fun q=>q e3)]at hq
 refine hJ (¬su p.Verb p.Count) (fun j hj=> ?_) (fun h=>by rwa [if_pos h]at hq) (fun h4=> ?_)
 ·refine ads fun r hr3=> ?_
  dsimp only at hr3
  unfold su at hj
  by_cases hu:cU p.Verb
  ·rw[if_pos hu]at hr3
   rw[if_pos hu]at hj
   refine bT (fun e=>hj _ ?_) (fun e=>iJ (decide_eq_true hu) (Qy (fun h14=>hj _ ?_) (fun h14=>hj _ ?_)))
   ·have:¬(zW p.Verb≤p.Count∧p.Count≤yM p.Verb):=fun q=>by rw[hr3.2 q]at e; cases e
    simp only[true_iff]; exact fun q=>this ⟨q.1,q.2.1⟩
   ·have:=hr3.1 (by simpa using e)
    simp only[beq_iff_eq]; omega
   ·have:=hr3.1 (by simpa using e)
    simp only[Bool.false_eq_true,false_iff]; omega
  ·rw[if_neg hu]at hr3
   rw[if_neg hu]at hj
   refine bT (fun e=>hj _ ?_) (fun e=>bI (decide_eq_false hu) (hj _ ?_))
   ·simp only[true_iff]; exact fun q=>by rw[hr3.2 q]at e; cases e
   ·have:=hr3.1 (by simpa using e)
    simp only[Bool.false_eq_true,false_iff]; exact fun q=>q this
 rw[if_neg h4]at hq
 refine hJ (¬okF p) (fun j hj=> ?_) (fun h=>by rwa [if_pos h]at hq) (fun h5=> ?_)
 ·refine abJ fun r1 hr1=>bT (fun e=>hj _ ?_) (fun e=>ZN fun r2 hr2=>bT (fun e2=>hj _ ?_) (fun e2=>abK fun r3 hr3=>hj _ ?_))
  ·simp only[true_iff]; exact fun q=>by rw[hr1.2 q.1]at e; cases e
  ·simp only[true_iff]; exact fun q=>by rw[hr2.2 q.2.1]at e2; cases e2
  ·have g1:=hr1.1 (by simpa using e)
   have g2:=hr2.1 (by simpa using e2)
   rw[Bool.not_eq_true',aes,hr3]
   exact⟨fun q k=>q k.2.2,fun q k=>q ⟨g1,g2,k⟩⟩
 rw[if_neg h5]at hq
 refine hJ (Yd p) (fun j hj=> ?_) (fun h=>by rwa [if_pos h]at hq) (fun h6=>by rwa [if_neg h6]at hq)
 have hn:p.Name.toList=p.Name.data.toList:=ByteArray.toList_eq _
 rw[hn,zq]
 unfold Yd at hj
 by_cases h7:p.Verb=7
 ·rw[if_pos h7]at hj
  simp only[h7,decide_true]
  refine bT (fun e=>hj _ ?_) (fun e=>iJ rfl (abH ok.nm (hj _ ?_)))
  ·simp only[true_iff]
   intro q
   have:p.Name.data.toList=[]:=by simpa using e
   have:=q.1
   simp_all
  ·simp
 ·rw[if_neg h7]at hj
  simp only[h7,decide_false]
  refine bT (fun e=>hj _ ?_) (fun e=>bI rfl (hj _ ?_))
  ·simp only[true_iff]; simpa using e
  ·have:p.Name.data.toList=[]:=by simpa using e
   simp[this]
theorem Xh{v:Int}{Q:Int×Unit->Heap->Prop}(hq:Q (lT v,()) H):CALL P [au .i64] pX [.int .u8 v] H Q:=by
 apply Qs
 unfold wQ
 unfold lT at hq
 refine hJ (1≤v∧v≤9) (fun j hj=>dH (fun h=>hj _ (by simp; omega)) (fun h=>hj _ (by simp; omega))) (fun h=>by rwa [if_pos h]at hq) (fun h=> ?_)
 rw[if_neg h]at hq
 refine hJ (10≤v∧v≤15) (fun j hj=>dH (fun h=>hj _ (by simp; omega)) (fun h=>hj _ (by simp; omega))) (fun h=>by rwa [if_pos h]at hq) (fun h=> ?_)
 rw[if_neg h]at hq
 refine hJ (16≤v∧v≤19) (fun j hj=>dH (fun h=>hj _ (by simp; omega)) (fun h=>hj _ (by simp; omega))) (fun h=>by rwa [if_pos h]at hq) (fun h=>by rwa [if_neg h]at hq)
theorem ZO{v:Int}{Q:Int×Unit->Heap->Prop}(hq:Q (yL v,()) H):CALL P [au .i64] tN [.int .u8 v] H Q:=by
 apply NT
 unfold uO
 unfold yL at hq
 refine hJ (1≤v∧v≤4) (fun j hj=>dH (fun h=>hj _ (by simp; omega)) (fun h=>hj _ (by simp; omega))) (fun h=>by rwa [if_pos h]at hq) (fun h=> ?_)
 rw[if_neg h]at hq
 exact fV (fun h=>by rwa [if_pos h]at hq) (fun h=>fV (fun h2=>by rwa [if_neg h,if_pos h2]at hq) (fun h2=>by rwa [if_neg h,if_neg h2]at hq))
theorem ZP{p:Pt}{Q:Bool×Unit->Heap->Prop}(hq:∀r:Bool,(r=true↔lU p)->Q (r,()) H):CALL P [ah] tV [aT.enc p] H Q:=by
 apply NW
 unfold uP
 unfold lU at hq
 refine JD (H:=H) (p.Whom=1∨p.Whom=2) (fun j hj=>fV (fun h=>hj _ (by simp; omega)) (fun h=>hj _ (by simp; omega))) (Xh (fV (fun h1=> ?_) (fun h1=>fV (fun h2=> ?_) (fun h2=> ?_))))
 ·dsimp only at h1
  rw[if_pos h1]at hq
  refine hJ ((p.Whom=1∨p.Whom=2)∧(p.Verb=6∨p.Verb=8∨p.Verb=9)) (fun j hj=>dH (fun h=>fV (fun h6=>hj _ (by simp; omega)) (fun h6=>fV (fun h8=>hj _ (by simp; omega)) (fun h8=>hj _ (by simp; omega)))) (fun h=>hj _ (by simp; omega))) (fun h=>hq _ ?_) (fun h=> ?_)
  ·rw[if_neg (by omega)]; simp only[Bool.false_eq_true,false_iff]; exact fun q=>q h
  ·refine JD (H:=H) (p.Whom≠3∨p.When=1) (fun j hj=>AO (fun h=>hj _ (by simp; omega)) (fun h=>hj _ (by simp; omega))) (hq _ ?_)
   rw[decide_eq_true_eq]
   split<;>omega
 ·dsimp only at h1 h2
  rw[if_neg h1,if_pos h2]at hq
  refine JD (H:=H) (¬(p.Whom=1∨p.Whom=2)∧p.Whom≠3) (fun j hj=>Qy (fun h=>hj _ (by simp; omega)) (fun h=>hj _ (by simp; omega))) (hq _ (by rw[decide_eq_true_eq]))
 ·dsimp only at h1 h2
  rw[if_neg h1,if_neg h2]at hq
  exact hq _ (by simp)
def wW(v:Int):Int:=if cU v then zW v else 0
def AY(v:Int):Int:=if cU v then yM v else 0
theorem OE{v:Int}{Q:Int×Int×Unit->Heap->Prop}(hq:Q (wW v,AY v,()) H):CALL P [au .i64,au .i64] lS [.int .u8 v] H Q:=by
 apply KJ
 unfold qV
 have fin:∀a b,wW v=a->AY v=b->Q (a,b,()) H:=fun a b h1 h2=>by rw[h1,h2]at hq; exact hq
 refine hJ (H:=H) (v=1∨v=2∨v=3∨v=4∨v=7∨v=16∨v=19) (fun j hj=> ?_) (fun h=>fin _ _ ?_ ?_) (fun h=> ?_)
 ·exact fV (fun h=>hj _ (by simp; omega)) (fun h1=>bF (fV (fun h=>hj _ (by simp; omega)) (fun h2=>bF (fV (fun h=>hj _ (by simp; omega)) (fun h3=>bF (fV (fun h=>hj _ (by simp; omega)) (fun h4=>bF (fV (fun h=>hj _ (by simp; omega)) (fun h5=>bF (fV (fun h=>hj _ (by simp; omega)) (fun h6=>hj _ (by simp; omega))))))))))))
 ·unfold wW zW; repeat' split
  all_goals first|rfl|(exfalso; simp only[cU]at *; omega)
 ·unfold AY yM; repeat' split
  all_goals first|rfl|(exfalso; simp only[cU]at *; omega)
 ·refine hJ (v=9∨v=15) (fun j hj=>fV (fun h=>hj _ (by simp; omega)) (fun h=>hj _ (by simp; omega))) (fun h2=>fin _ _ ?_ ?_) (fun h2=>fV (fun h3=>fin _ _ ?_ ?_) (fun h3=>fV (fun h4=>fin _ _ ?_ ?_) (fun h4=>fin _ _ ?_ ?_)))
  all_goals
   first
   |(unfold wW zW; repeat' split)<;>first|rfl|(exfalso; simp only[cU]at *; omega)
   |(unfold AY yM; repeat' split)<;>first|rfl|(exfalso; simp only[cU]at *; omega)
theorem ZQ{v:Int}:AY v>0↔cU v:=by
 unfold AY yM
 split
 ·rename_i h; refine⟨fun _=>h,fun _=> ?_⟩; split<;>omega
 ·rename_i h; refine⟨fun q=>by omega,fun q=>absurd q h⟩
theorem VF{p:Pt}{Q:Bool×Unit->Heap->Prop}(hq:∀r:Bool,(r=true↔su p.Verb p.Count)->Q (r,()) H):CALL P [ah] oU [aT.enc p] H Q:=by
 apply Ip
 unfold pJ
 have key:su p.Verb p.Count↔wW p.Verb≤p.Count∧p.Count≤AY p.Verb∧(0≤wW p.Verb∨p.Count≠0):=by
  have hl:(zW p.Verb= -99∨zW p.Verb= -9∨(zW p.Verb=0∧p.Verb=14)∨zW p.Verb=1)∧(p.Verb=14->zW p.Verb=0):=by
   unfold zW
   repeat' split
   all_goals omega
  unfold su wW AY
  by_cases hu:cU p.Verb
  ·simp only[if_pos hu]; omega
  ·simp only[if_neg hu]; omega
 refine OE (JD (H:=H) (wW p.Verb≤p.Count∧p.Count≤AY p.Verb∧(0≤wW p.Verb∨p.Count≠0)) (fun j hj=>dH (fun h1=>dH (fun h2=>dH (fun h3=>hj _ ?_) (fun h3=>hj _ ?_)) (fun h2=>hj _ ?_)) (fun h1=>hj _ ?_)) (hq _ (by rw[decide_eq_true_eq,key])))
 all_goals (dsimp only at *; simp; omega)
theorem abL{v w:Int}{Q:Bool×Bool×Bool×Bool×Bool×Unit->Heap->Prop}(hq:Q (decide (cU v),decide (sU v w),decide (tU v w),decide (v=9),decide (v=7),()) H):CALL P [ah,ah,ah,ah,ah] wC [.int .u8 v,.int .u8 w] H Q:=by
 apply Qp
 unfold wP
 have fin:∀a b c d e:Bool,(a=true↔cU v)->(b=true↔sU v w)->(c=true↔tU v w)->(d=true↔v=9)->(e=true↔v=7)->Q (a,b,c,d,e,()) H:=fun a b c d e h1 h2 h3 h4 h5=>by
  have e1:a=decide (cU v):=by rw[Bool.eq_iff_iff,h1]; simp
  have e2:b=decide (sU v w):=by rw[Bool.eq_iff_iff,h2]; simp
  have e3:c=decide (tU v w):=by rw[Bool.eq_iff_iff,h3]; simp
  have e4:d=decide (v=9):=by rw[Bool.eq_iff_iff,h4]; simp
  have e5:e=decide (v=7):=by rw[Bool.eq_iff_iff,h5]; simp
  rw[e1,e2,e3,e4,e5]; exact hq
 have hc:(decide (AY v>0))=true↔cU v:=by rw[decide_eq_true_eq,ZQ]
 refine OE (bF (fV (fun h11=>fV (fun h12=> ?_) (fun h12=>fV (fun h13=> ?_) (fun h13=> ?_))) (fun h11=>fV (fun h12=> ?_) (fun h12=>fV (fun h13=> ?_) (fun h13=> ?_)))))
 all_goals exact fin _ _ _ _ _ hc (by simp[sU]; try omega) (by simp[tU]; try omega) (by simp) (by simp)
theorem adu{p:Pt}(ok:OkP p){Q:Int×Unit->Heap->Prop}(hq:Q (GZ p,()) H):CALL P [au .i64] tH [aT.enc p] H Q:=by
 apply Nw
 unfold uy
 rw[Xg]at hq
 refine hJ (out6 p) (fun j hj=> ?_) (fun h=>by rwa [if_pos h]at hq) (fun h1=> ?_)
 ·unfold out6 at hj
  exact dH (fun h=>hj _ (by simp; omega)) (fun h1=>dH (fun h=>hj _ (by simp; omega)) (fun h2=>dH (fun h=>hj _ (by simp; omega)) (fun h3=>dH (fun h=>hj _ (by simp; omega)) (fun h4=>dH (fun h=>hj _ (by simp; omega)) (fun h5=>hj _ (by simp; omega))))))
 rw[if_neg h1]at hq
 refine abL ?_
 refine hJ (Ye p) (fun j hj=> ?_) (fun h=>by rwa [if_pos h]at hq) (fun h2=> ?_)
 ·unfold Ye at hj
  exact Xh ⟨rfl,ZO (AO (fun h=>hj _ (by dsimp only at h; simp; omega)) (fun h=>fV (fun h2=>hj _ (by dsimp only at h; simp; omega)) (fun h2=>hj _ (by dsimp only at h; simp; omega))))⟩
 rw[if_neg h2]at hq
 refine ZP fun r hr2=>bT (fun e=> ?_) (fun e=> ?_)
 ·rw[if_pos (fun q=>by rw[hr2.2 q]at e; cases e)]at hq; exact hq
 have e3:lU p:=hr2.1 (by simpa using e)
 rw[if_neg (fun q=>q e3)]at hq
 refine VF fun r hr3=>bT (fun e=> ?_) (fun e=> ?_)
 ·rw[if_pos (fun q=>by rw[hr3.2 q]at e; cases e)]at hq; exact hq
 have e4:su p.Verb p.Count:=hr3.1 (by simpa using e)
 rw[if_neg (fun q=>q e4)]at hq
 have hs:=ok.s
 have ht:=ok.t
 have hm:=ok.m
 rw[dA (x:=p.Suit) (by omega) (by omega),dA (x:=p.Trait) (by omega) (by omega),dA (x:=p.Mark) (by omega) (by omega)]
 refine hJ (¬okF p) (fun j hj=> ?_) (fun h=>by rwa [if_pos h]at hq) (fun h5=> ?_)
 ·refine F5 fun r1 hr1=>bT (fun e=>hj _ ?_) (fun e=>F5 fun r2 hr2=>bT (fun e2=>hj _ ?_) (fun e2=>F5 fun r3 hr3=>hj _ ?_))
  ·simp only[true_iff]; exact fun q=>by rw[hr1.2 q.1]at e; cases e
  ·simp only[true_iff]; exact fun q=>by rw[hr2.2 q.2.1]at e2; cases e2
  ·have g1:=hr1.1 (by simpa using e)
   have g2:=hr2.1 (by simpa using e2)
   rw[Bool.not_eq_true',aes,hr3]
   exact⟨fun q k=>q k.2.2,fun q k=>q ⟨g1,g2,k⟩⟩
 rw[if_neg h5]at hq
 refine hJ (Yd p) (fun j hj=> ?_) (fun h=>by rwa [if_pos h]at hq) (fun h6=>by rwa [if_neg h6]at hq)
 have hn:p.Name.toList=p.Name.data.toList:=ByteArray.toList_eq _
 rw[hn,zq]
 unfold Yd at hj
 by_cases h7:p.Verb=7
 ·rw[if_pos h7]at hj
  simp only[h7,decide_true]
  refine iJ rfl (ZJ (Qy (fun h=>hj _ (by simpa using h)) (fun h=>bI rfl (hj _ (by simpa using h)))))
 ·rw[if_neg h7]at hj
  simp only[h7,decide_false]
  exact bI rfl (iJ rfl (hj _ (by simp)))
end
end Go.Proofs.YtijnknjopjmiiaaGreatDoor.Zq
end
section
namespace Go.Proofs.YtijnknjopjmiiaaGreatDoor.Zq
section
end
section
def bl(B:Option Addr):List Nat:=match B with|some a=>[a.block]|none=>[]
def Uh(T:Tag)(H:Heap)(s:Sl)(l:List T.α):Prop:=
 s.len=l.length∧s.len≤s.cap∧s.cap≤9223372036854775807∧(s.p=none∧l=[]∧s.cap=0∨∃c r,s.p=some ⟨c,0,none⟩∧H[c]? =some (.row (fl T r) T.n false false true)∧s.cap≤r.length∧r.take s.len=l)
theorem Ow.j{T:Tag}{H:Heap}{s:Sl}{l sp:List T.α}(h:Ow T H s l sp):Uh T H s l:=by
 obtain⟨h1,h2,h0,⟨h3,h4,h5⟩|⟨c,h4,h5⟩⟩:=h
 ·subst h4; subst h5; exact⟨h1,by omega,h0,.inl ⟨h3,rfl,by simpa using h2⟩⟩
 ·exact⟨h1,by omega,h0,.inr ⟨c,l++sp,h4,h5,by simp[h2],by rw[h1]; simp⟩⟩
theorem Uh.nil(T:Tag)(H:Heap):Uh T H ⟨none,0,0⟩ []:=(Ow.nil T H).j
theorem Uh.rC{T:Tag}{H:Heap}{s:Sl}{l:List T.α}(h:Uh T H s l):eY T H s l:=by
 obtain⟨h1,_,_,⟨h3,h4,h5⟩|⟨c,r,h3,h4,_,h6⟩⟩:=h
 ·exact⟨h1,.inl ⟨h3,h4,h5⟩⟩
 ·refine⟨h1,.inr (.inr ⟨c,[],fl T (r.drop s.len),T.n,false,false,h3,?_⟩)⟩
  rw[h4,←h6,List.nil_append,←iK,List.take_append_drop]
theorem Uh.cO{T:Tag}{H H':Heap}{s:Sl}{l:List T.α}{B:List Nat}(h:Uh T H s l)(f:bP B H H')(o:∀d∈bl s.p,d∉B):Uh T H' s l:=by
 obtain⟨h1,h2,h0,h3|⟨c,r,h4,h5,h6⟩⟩:=h
 ·exact⟨h1,h2,h0,.inl h3⟩
 ·exact⟨h1,h2,h0,.inr ⟨c,r,h4,f.get (o c (by rw[h4]; simp[bl])) h5,h6⟩⟩
theorem Uh.lt{T:Tag}{H:Heap}{s:Sl}{l:List T.α}(h:Uh T H s l):∀d∈bl s.p,d<H.length:=by
 obtain⟨_,_,_,⟨h3,_⟩|⟨c,r,h4,h5,_⟩⟩:=h
 ·rw[h3]; simp[bl]
 ·rw[h4]; simp[bl]; exact dI h5
theorem Uh.ptr{T:Tag}{H:Heap}{s:Sl}{l:List T.α}(h:Uh T H s l):s.p=none∨∃c,s.p=some ⟨c,0,none⟩∧bl s.p=[c]:=by
 obtain⟨_,_,_,⟨h3,_⟩|⟨c,r,h4,h5,_⟩⟩:=h
 ·exact .inl h3
 ·exact .inr ⟨c,h4,by rw[h4]; rfl⟩
theorem Uh.drop{E:Env}{T:Tag}{ts:TypeId}{z:T.α}(ty:Oz E T ts z){H:Heap}{s:Sl}{l:List T.α}(h:Uh T H s l){i:Int}{n:Nat}(hi:i=n)(hn:n≤l.length)(hp:s.p≠none){k:Sl->Prop}(hk:∀s',eY T H s' (l.drop n)->k s'):dW aJ (dS E ts s.v (some (.int .i64 i)) none none H) k:=by
 obtain⟨⟨ti,e,te,e1,e2,e3,e4,e5,e6,e7⟩,hn0,hT,hone⟩:=ty
 subst hi
 obtain⟨p,m,c⟩:=s
 obtain⟨g1,g2,g0,⟨g3,g4,g5⟩|⟨d,r,g3,g4,g5,g6⟩⟩:=h
 ·exact absurd g3 hp
 ·simp only at g1 g2 g3 g5 g6 g0; subst g3
  refine⟨⟨some ⟨d,if c=n then 0 else 0+n*te.size,none⟩,m-n,c-n⟩,?_,hk _ ⟨by simp; omega,?_⟩⟩
  ·unfold dS
   have hex:Zq.exact H d 0 c=true:=by unfold Zq.exact; rw[g4]; rfl
   simp only[e1,e2,e3,Option.bind_some,Sl.v,dn,Option.isSome_none,Bool.false_and,Bool.false_eq_true,if_false,hex,or_true,if_true]
   rw[if_pos (by omega)]
   simp only[Option.bind_some,Int.toNat_natCast]
   rw[if_pos (by omega)]
   simp[Tag.enc,Pm]
  ·refine .inr (.inr ?_)
   by_cases ec:c=n
   ·have:l.drop n=[]:=by rw[List.drop_eq_nil_iff]; omega
    exact⟨d,[],fl T r,T.n,false,false,by simp[ec],by rw[g4,this]; rfl⟩
   ·refine⟨d,fl T (r.take n),fl T (r.drop m),T.n,false,false,?_,?_⟩
    ·simp only[if_neg ec,bW hT,List.length_take,e4,Nat.zero_add]
     rw[Nat.min_eq_left (by omega)]
    ·have:r=r.take n++(l.drop n++r.drop m):=by
      rw[←g6]
      conv=>lhs; rw[←List.take_append_drop n r]
      congr 1
      rw[←List.take_append_drop m r,List.take_append_drop]
      conv=>lhs; rw[←List.take_append_drop m r]
      rw[List.drop_append_of_le_length (by simp; omega)]
     rw[g4]
     conv=>lhs; rw[this]
     rw[iK,iK]
theorem Yf{E:Env}{T:Tag}{ts:TypeId}{z:T.α}(ty:Oz E T ts z){H:Heap}{s:Sl}{l sp:List T.α}(h:Ow T H s l sp){i:Int}{n:Nat}(hi:i=n)(hn:n≤l.length){k:Sl->Prop}(hk:k ⟨s.p,n,s.cap⟩):dW aJ (dS E ts s.v none (some (.int .i64 i)) none H) k:=by
 obtain⟨⟨ti,e,te,e1,e2,e3,e4,e5,e6,e7⟩,hn0,hT,hone⟩:=ty
 subst hi
 refine⟨⟨s.p,n,s.cap⟩,?_,hk⟩
 obtain⟨p,m,c⟩:=s
 obtain⟨g1,g2,g0,⟨g3,g4,g5⟩|⟨d,g3,g4⟩⟩:=h
 ·simp only at g1 g2 g3; subst g3; subst g4; subst g5; subst g1; subst g2
  have:n=0:=by simpa using hn
  subst this
  unfold dS
  simp only[e1,e2,e3,Option.bind_some,Sl.v,List.length_nil]
  rfl
 ·simp only at g1 g2 g3; subst g3
  unfold dS
  have hex:Zq.exact H d 0 c=true:=by unfold Zq.exact; rw[g4]; rfl
  simp only[e1,e2,e3,Option.bind_some,Sl.v,dn,Option.isSome_none,Bool.false_and,Bool.false_eq_true,if_false,hex,or_true,if_true]
  rw[if_pos (by omega)]
  simp only[Option.bind_some]
  rw[if_pos (by omega)]
  simp[Tag.enc,Pm]
theorem Ow.st{T:Tag}(hT:∀x,(T.cells x).length=T.n)(hone:∀x,(T.cells x).all cell1=true){H:Heap}{s:Sl}{l sp:List T.α}(h:Ow T H s l sp){i:Int}{k:Nat}(hi:i=k)(hk:k<l.length)(x:T.α){sz:Nat}(hz:sz=T.n){K:Heap->Prop}
  (hK:∀H',Ow T H' s (l.set k x) sp->After s H H'->H'.length=H.length->K H'):dw s.p s.len i sz fun b o=>ST H b o (T.cells x) K:=by
 obtain⟨h1,h2,h0,⟨_,h3,_⟩|⟨c,h3,h4⟩⟩:=h
 ·rw[h3]at hk; simp at hk
 ·have hlt:=dI h4
  unfold dw NIL
  rw[h3]
  subst hi
  refine⟨⟨by omega,by omega⟩,?_⟩
  have hcut:=iF l k l[k] (List.getElem?_eq_getElem hk)
  refine pO (fl T (l.take k)) (T.cells l[k]) (fl T (l.drop (k+1))++fl T sp) h4 (by rw[iK,hcut]; simp[List.append_assoc]) (by rw[bW hT,List.length_take,Nat.min_eq_left (by omega),hz]; simp) (by rw[hT,hT]) (hone x) ?_
  refine hK _ ⟨by simpa using h1,by simpa using h2,h0,.inr ⟨c,h3,?_⟩⟩ ⟨by simp,fun d _ hd=>by rw[List.getElem?_set_ne (by rintro rfl; exact hd h3)]⟩ (by simp)
  rw[fD hlt,iK,List.set_eq_take_append_cons_drop,if_pos hk]
  simp[fl]
end
end Go.Proofs.YtijnknjopjmiiaaGreatDoor.Zq
end
section
namespace Go.Proofs.YtijnknjopjmiiaaGreatDoor.Zq
open Zv
abbrev TP:Tag:=aT
abbrev TC:Tag:=aA
theorem hTP(x:Pt):(TP.cells x).length=TP.n:=rfl
theorem YN(x:ay):(TC.cells x).length=TC.n:=rfl
def zP:Pt:=⟨0,0,0,0,0,0,0,ByteArray.mk #[]⟩
theorem tyP:Oz E TP 95 zP:=⟨⟨_,_,_,rfl,rfl,rfl,rfl,by decide,by decide,rfl⟩,by decide,hTP,fun _=>rfl⟩
section
variable{H:Heap}
structure OkG(g:ay):Prop where
 nm:g.Name.size≤9223372036854775807
 s:0≤g.Suit∧g.Suit≤255
 k:0≤g.Kind∧g.Kind≤255
 t:0≤g.Traits∧g.Traits≤65535
theorem KO(l:List UInt8):((ByteArray.mk l.toArray).toList==(ByteArray.mk #[]).toList)=l.isEmpty:=by
 rw[ByteArray.toList_mk,zq]; cases l<;>rfl
theorem VG{s:Int}{Q:ByteArray×Unit->Heap->Prop}(hq:∀n:ByteArray,((n.toList==(ByteArray.mk #[]).toList)=true↔¬(1≤s∧s≤6))->Q (n,()) H):CALL P [dG] yJ [.int .u8 s] H Q:=by
 apply TV
 unfold zh
 refine fV (fun h=>hq _ ?_) (fun h1=>fV (fun h=>hq _ ?_) (fun h2=>fV (fun h=>hq _ ?_) (fun h3=>fV (fun h=>hq _ ?_) (fun h4=>fV (fun h=>hq _ ?_) (fun h5=>fV (fun h=>hq _ ?_) (fun h6=>hq _ ?_))))))
 ·rw[KO [97,105,114]]; simp; omega
 ·rw[KO [101,97,114,116,104]]; simp; omega
 ·rw[KO [102,105,114,101]]; simp; omega
 ·rw[KO [119,97,116,101,114]]; simp; omega
 ·rw[KO [118,111,105,100]]; simp; omega
 ·rw[KO [103,111,108,100]]; simp; omega
 ·rw[KO []]; simp; omega
theorem adx{s:Int}{Q:ByteArray×Unit->Heap->Prop}(hq:∀n:ByteArray,((n.toList==(ByteArray.mk #[]).toList)=true↔¬(1≤s∧s≤3))->Q (n,()) H):CALL P [dG] yK [.int .u8 s] H Q:=by
 apply Ua
 unfold zi
 refine fV (fun h=>hq _ ?_) (fun h1=>fV (fun h=>hq _ ?_) (fun h2=>fV (fun h=>hq _ ?_) (fun h3=>hq _ ?_)))
 ·rw[KO [117,110,105,116]]; simp; omega
 ·rw[KO [115,112,101,108,108]]; simp; omega
 ·rw[KO [114,101,108,105,99]]; simp; omega
 ·rw[KO []]; simp; omega
theorem F6{x m:Int}{Q:Bool×Unit->Heap->Prop}(hq:Q (decide (0≤x∧x≤m),()) H):CALL P [ah] kE [.int .i64 x,.int .i64 m] H Q:=by
 apply NH
 unfold uD
 exact JD (H:=H) (0≤x∧x≤m) (fun j hj=>dH (fun h=>hj _ (by simp; omega)) (fun h=>hj _ (by simp; omega))) hq
theorem qW{x lo m:Int}{Q:Bool×Unit->Heap->Prop}(hq:Q (decide (lo≤x∧x≤m),()) H):CALL P [ah] fO [.int .i64 x,.int .i64 lo,.int .i64 m] H Q:=by
 apply Kq
 unfold qO
 exact JD (H:=H) (lo≤x∧x≤m) (fun j hj=>dH (fun h=>hj _ (by simp; omega)) (fun h=>hj _ (by simp; omega))) hq
theorem KP{x:Int}(h0:0≤x){Q:Bool×Unit->Heap->Prop}(hq:Q (decide (x<256),()) H):CALL P [ah] kD [.int .u16 x] H Q:=by
 apply NC
 unfold uz
 refine⟨by omega,Qd (Q:=fun r=>Q r H) hq ?_⟩
 have e:(2:Int) ^ (min (8:Int).toNat (IntKind.bits .u16))=256:=by decide
 rw[e,Int.fdiv_eq_ediv_of_nonneg _ (by omega)]
 congr 1
 rw[Bool.eq_iff_iff]; simp only[decide_eq_true_eq,beq_iff_eq]; omega
theorem Yg{x:Int}{Q:Bool×Unit->Heap->Prop}(hq:Q (decide (x<256),()) H):CALL P [ah] tC [.int .u16 x] H Q:=by
 apply Ns
 unfold uw
 exact hq
def Yh(g:ay):Prop:=¬(1≤g.Suit∧g.Suit≤6)∨¬(1≤g.Kind∧g.Kind≤3)
def Ui(g:ay):Prop:=¬(0≤g.Cost∧g.Cost≤10)∨¬(0≤g.Power∧g.Power≤99)∨¬(0≤g.Health∧g.Health≤99)
def Yi(g:ay):Prop:=g.Kind=1∧g.Health=0∨g.Kind≠1∧(g.Power≠0∨g.Health≠0)
def Yj(g:ay):Prop:=¬(g.Traits<256)∨g.Kind=2∧g.Token=true
open Classical in
theorem Xi(g:ay)(ps:List Pt):zX ⟨g,ps⟩=if ¬oz g.Name then 4 else if Yh g then 8 else if Ui g then 2 else if Yi g then 8 else if Yj g then 8 else if 4<ps.length then 3 else 0:=by
 unfold zX Yh Ui Yi Yj
 congr
theorem ZR{g:ay}{j:(Bool×Unit)×Unit->Heap->Prop}(hj:∀r:Bool,(r=true↔Yi g)->j ((r,()),()) H):
  aK (g.Kind==1) (aK (g.Health==0) (j ((true,()),(())) H) (aK (!(g.Kind==1)) (aK (g.Power !=0) (j ((true,()),(())) H) (j ((g.Health !=0,()),(())) H)) (j ((false,()),(())) H))) (aK (!(g.Kind==1)) (aK (g.Power !=0) (j ((true,()),(())) H) (j ((g.Health !=0,()),(())) H)) (j ((false,()),(())) H)):=by
 unfold Yi at hj
 refine fV (fun h=>fV (fun h2=>hj _ (by simp; omega)) (fun h2=>bI (by simp[h]) (hj _ (by simp; omega)))) (fun h=>iJ (by simpa using h) (AO (fun h2=>hj _ (by simp; omega)) (fun h2=>hj _ (by simp; omega))))
theorem ac1{g:ay}{j:(Bool×Unit)×Unit->Heap->Prop}(hj:∀r:Bool,(r=true↔Yj g)->j ((r,()),()) H):
  aK (!decide (g.Traits<256)) (j ((true,()),(())) H) (aK (g.Kind==2) (j ((g.Token,()),(())) H) (j ((false,()),(())) H)):=by
 unfold Yj at hj
 refine Qy (fun h=>hj _ (by simp; omega)) (fun h=>fV (fun h2=>hj _ ?_) (fun h2=>hj _ (by simp; omega)))
 constructor
 ·exact fun q=>.inr ⟨h2,q⟩
 ·rintro(q|q)
  ·exact absurd h q
  ·exact q.2
theorem ady{g:ay}{ps:List Pt}(ok:OkG g)(hl:g.Parts.len=ps.length){Q:Int×Unit->Heap->Prop}(hq:Q (zX ⟨g,ps⟩,()) H):CALL P [au .i64] yI [TC.enc g] H Q:=by
 apply TS
 unfold zf
 rw[Xi]at hq
 refine ZF ok.nm (Qy (fun h=>by rwa [if_pos h]at hq) (fun h0=> ?_))
 rw[if_neg (fun q=>q h0)]at hq
 refine hJ (Yh g) (fun j hj=> ?_) (fun h=>by rwa [if_pos h]at hq) (fun h1=> ?_)
 ·unfold Yh at hj
  refine VG fun n hn=>bT (fun e=>hj _ ?_) (fun e=>adx fun m hm=>hj _ ?_)
  ·have:=hn.1 e; simp; omega
  ·have:1≤g.Suit∧g.Suit≤6:=Classical.byContradiction fun q=>by rw[hn.2 q]at e; cases e
   rw[hm]; omega
 rw[if_neg h1]at hq
 refine hJ (Ui g) (fun j hj=> ?_) (fun h=>by rwa [if_pos h]at hq) (fun h2=> ?_)
 ·unfold Ui at hj
  exact F6 (Qy (fun h=>hj _ (by simp; omega)) (fun h=>F6 (Qy (fun h=>hj _ (by simp; omega)) (fun h=>F6 (hj _ (by simp; omega))))))
 rw[if_neg h2]at hq
 refine hJ (Yi g) (fun j hj=>ZR hj) (fun h=>by rwa [if_pos h]at hq) (fun h3=> ?_)
 rw[if_neg h3]at hq
 refine hJ (Yj g) (fun j hj=>KP ok.t.1 (ac1 hj)) (fun h=>by rwa [if_pos h]at hq) (fun h4=> ?_)
 rw[if_neg h4]at hq
 exact dH (fun h=>by rwa [if_pos (by omega)]at hq) (fun h=>by rwa [if_neg (by omega)]at hq)
def QA(k:Int)(p:Pt):Prop:=k=2∧p.When≠1∨k=3∧p.When=4
open Classical in
theorem VH(k:Int)(p:Pt)(r:List Pt):JI k (p::r)=if GZ p≠0 then GZ p else if QA k p then 8 else JI k r:=by
 unfold QA
 rw[JI]
 congr
theorem KQ{k:Int}{ps:List Pt}{Qv:Int->Prop}{F:((Int×Unit)×Unit->Heap->Prop)->(Int×Unit)×Unit->Heap->Prop}
  (hF:∀(G:(Int×Unit)×Unit->Heap->Prop) (n:Nat),(∀p,ps[n]? =some p->(GZ p≠0->Qv (GZ p))->(GZ p=0->QA k p->Qv 8)->(GZ p=0->¬QA k p->G (((n:Int)+1,()),()) H)->F G (((n:Int),()),()) H)∧(n=ps.length->Qv 0->F G (((n:Int),()),()) H))
  (hq:Qv (JI k ps)):LOOP F ((0,()),()) H:=by
 refine bG (fun(t:(Int×Unit)×Unit) H'=>H'=H∧∃n:Nat,t.1.1=n∧n≤ps.length∧Qv (JI k (ps.drop n))) (fun t=>ps.length-t.1.1.toNat) ?_ ⟨rfl,0,rfl,Nat.zero_le _,by simpa using hq⟩
 rintro G ⟨⟨i,_⟩,_⟩ H' ⟨rfl,n,hi,hn,ha⟩ hG
 simp only at hi; subst hi
 dsimp only at hG
 obtain⟨k1,k2⟩:=hF G n
 by_cases e:n=ps.length
 ·refine k2 e ?_
  rw[e,List.drop_length]at ha
  exact ha
 ·have hlt:n<ps.length:=by omega
  rw[List.drop_eq_getElem_cons hlt,VH]at ha
  refine k1 _ (List.getElem?_eq_getElem hlt) (fun h=>by rwa [if_pos h]at ha) (fun h h2=>by rwa [if_neg (fun q=>q h),if_pos h2]at ha) (fun h h2=>hG _ _ ⟨rfl,n+1,by simp,hlt,by rwa [if_neg (fun q=>q h),if_neg h2]at ha⟩ (by simp; omega))
theorem abM{k:Int}{w:Int}{p:Pt}(hw:p.When=w){j:(Bool×Unit)×Unit->Heap->Prop}(hj:∀r:Bool,(r=true↔QA k p)->j ((r,()),()) H):
  aK (k==2) (aK (w !=1) (j ((true,()),(())) H) (aK (k==3) (j ((w==4,()),(())) H) (j ((false,()),(())) H))) (aK (k==3) (j ((w==4,()),(())) H) (j ((false,()),(())) H)):=by
 subst hw
 unfold QA at hj
 exact fV (fun h=>AO (fun h2=>hj _ (by simp; omega)) (fun h2=>fV (fun h3=>by omega) (fun h3=>hj _ (by simp; omega)))) (fun h=>fV (fun h3=>hj _ (by simp; omega)) (fun h3=>hj _ (by simp; omega)))
theorem ZT{g:ay}{ps:List Pt}(ok:OkG g)(hs:eY TP H g.Parts ps)(op:∀p∈ps,OkP p){Q:Int×Unit->Heap->Prop}(hq:Q (xI ⟨g,ps⟩,()) H):CALL P [au .i64] vZ [TC.enc g] H Q:=by
 apply P5
 unfold wI
 have hl:=hs.1
 unfold xI at hq
 refine ady ok hl (AO (fun h=>by rwa [if_neg h]at hq) (fun h=>bF ?_))
 dsimp only at h
 have h4:ps.length≤4:=qH (c:=⟨g,ps⟩) h
 rw[if_pos h]at hq
 refine KQ (k:=g.Kind) (ps:=ps) (Qv:=fun r=>Q (r,()) H) (fun G n=>⟨fun p hx k1 k2 k3=> ?_,fun e k=>bI (decide_eq_false (by simp only; omega)) k⟩) hq
 have hlt:=(List.getElem?_eq_some_iff.1 hx).1
 refine iJ (decide_eq_true (by simp only; omega)) ?_
 refine bf (T:=TP) hTP hs rfl hx rfl (adt (op p (List.mem_of_getElem? hx)) (AO (fun h=>k1 h) (fun h=> ?_)))
 dsimp only at h
 refine hJ (QA g.Kind p) (fun j hj=>abM rfl hj) (fun h2=>k2 h h2) (fun h2=> ?_)
 dsimp only
 rw[dA (by omega) (by omega)]
 exact k3 h h2
theorem Uj{s:Sl}{ps:List Pt}(h:eY TP H s ps){n:Nat}{p:Pt}(hx:ps[n]? =some p){K:Int->Prop}(hk:K p.When):dw s.p s.len (n:Int) 8 fun b o=>LD (au .u8) H b (o+0) K:=by
 have hl:=(List.getElem?_eq_some_iff.1 hx).1
 obtain⟨h1,⟨_,h2,_⟩|⟨_,_,_,h2,_⟩|⟨b,A,B,z,o,ro,h3,h4⟩⟩:=h
 ·subst h2; simp at hl
 ·subst h2; simp at hl
 ·unfold dw NIL
  rw[h3]
  refine⟨⟨by omega,by omega⟩,?_⟩
  refine dO (T:=au .u8) p.When (A++fl TP (ps.take n)) ((TP.cells p).drop 1++(fl TP (ps.drop (n+1))++B)) h4 ?_ ?_ rfl hk
  ·rw[iF (T:=TP) ps n p hx]; simp[List.append_assoc]
  ·rw[List.length_append,bW hTP,List.length_take,Nat.min_eq_left (by omega),Int.toNat_natCast]; rfl
theorem Yk{g:ay}{ps:List Pt}(ok:OkG g)(hs:eY TP H g.Parts ps)(op:∀p∈ps,OkP p){Q:Int×Unit->Heap->Prop}(hq:Q (xI ⟨g,ps⟩,()) H):CALL P [au .i64] tq [TC.enc g] H Q:=by
 apply MX
 unfold uj
 have hl:=hs.1
 have o1:=ok.s
 have o2:=ok.k
 unfold xI at hq
 have fin:∀r,r≠0->zX ⟨g,ps⟩=r->Q (r,()) H:=fun r h e=>by rw[e,if_neg h]at hq; exact hq
 have e:=Xi g ps
 refine ZK (Qy (fun h=>fin 4 (by decide) (by rw[e,if_pos h])) (fun h0=> ?_))
 rw[if_neg (fun q=>q h0)]at e
 rw[dA (x:=g.Suit) (by omega) (by omega),dA (x:=g.Kind) (by omega) (by omega)]
 refine hJ (Yh g) (fun j hj=> ?_) (fun h=>fin 8 (by decide) (by rw[e,if_pos h])) (fun h1=> ?_)
 ·unfold Yh at hj
  exact qW (Qy (fun h=>hj _ (by simp; omega)) (fun h=>qW (hj _ (by simp; omega))))
 rw[if_neg h1]at e
 refine hJ (Ui g) (fun j hj=> ?_) (fun h=>fin 2 (by decide) (by rw[e,if_pos h])) (fun h2=> ?_)
 ·unfold Ui at hj
  exact qW (Qy (fun h=>hj _ (by simp; omega)) (fun h=>qW (Qy (fun h=>hj _ (by simp; omega)) (fun h=>qW (hj _ (by simp; omega))))))
 rw[if_neg h2]at e
 refine hJ (Yi g) (fun j hj=>ZR hj) (fun h=>fin 8 (by decide) (by rw[e,if_pos h])) (fun h3=> ?_)
 rw[if_neg h3]at e
 refine hJ (Yj g) (fun j hj=>Yg (ac1 hj)) (fun h=>fin 8 (by decide) (by rw[e,if_pos h])) (fun h4=> ?_)
 rw[if_neg h4]at e
 refine dH (fun h=>fin 3 (by decide) (by rw[e,if_pos (by omega)])) (fun h=>bF ?_)
 rw[if_neg (by omega)]at e
 have h4:ps.length≤4:=by omega
 rw[if_pos e]at hq
 refine KQ (k:=g.Kind) (ps:=ps) (Qv:=fun r=>Q (r,()) H) (fun G n=>⟨fun p hx k1 k2 k3=> ?_,fun e k=>bI (decide_eq_false (by simp only; omega)) k⟩) hq
 have hlt:=(List.getElem?_eq_some_iff.1 hx).1
 refine iJ (decide_eq_true (by simp only; omega)) ?_
 refine bf (T:=TP) hTP hs rfl hx rfl (adu (op p (List.mem_of_getElem? hx)) (AO (fun h=>k1 h) (fun h=> ?_)))
 dsimp only at h
 refine hJ (QA g.Kind p) (fun j hj=> ?_) (fun h2=>k2 h h2) (fun h2=> ?_)
 ·unfold QA at hj
  refine fV (fun h=>Uj hs hx (AO (fun h2=>hj _ (by simp; omega)) (fun h2=>fV (fun h3=>by omega) (fun h3=>hj _ (by simp; omega))))) (fun h=>fV (fun h3=>Uj hs hx (hj _ (by simp; omega))) (fun h3=>hj _ (by simp; omega)))
 ·dsimp only
  rw[dA (by omega) (by omega)]
  exact k3 h h2
end
end Go.Proofs.YtijnknjopjmiiaaGreatDoor.Zq
end
section
namespace Go.Proofs.YtijnknjopjmiiaaGreatDoor.Zq
open Zv
abbrev TM:Tag:=aQ
theorem hTM(x:ak):(TM.cells x).length=TM.n:=rfl
theorem ac2(x:ByteArray):(dG.cells x).length=dG.n:=rfl
section
variable{H:Heap}{b:Nat}
def KR(se:Bool)(n:Int)(cs:List ay)(ns:List ByteArray)(ms:List ak):List Value:=.bool true:: .bool se:: .int .i64 n::(fl TC cs++(fl dG ns++fl TM ms))
structure BW(H:Heap)(b:Nat)(se:Bool)(n:Int)(cs:List ay)(ns:List ByteArray)(ms:List ak):Prop where
 row:∃sz,H[b]? =some (.row (KR se n cs ns ms) sz false false true)
 c:cs.length=64
 n:ns.length=9
 m:ms.length=5
variable{se:Bool}{n:Int}{cs:List ay}{ns:List ByteArray}{ms:List ak}
theorem BW.lt(h:BW H b se n cs ns ms):b<H.length:=by obtain⟨sz,r⟩:=h.row; exact dI r
theorem BW.cO{H':Heap}{F:List Nat}(h:BW H b se n cs ns ms)(f:bP F H H')(hb:b∉F):BW H' b se n cs ns ms:=by
 obtain⟨sz,r⟩:=h.row
 exact⟨⟨sz,f.get hb r⟩,h.c,h.n,h.m⟩
theorem BW.QB(h:BW H b se n cs ns ms){o:Nat}(ho:o=0){K:Bool->Prop}(hk:K true):LD ah H b o K:=by
 obtain⟨sz,r⟩:=h.row
 exact dO (T:=ah) true [] _ r rfl ho rfl hk
theorem BW.En(h:BW H b se n cs ns ms){o:Nat}(ho:o=1){K:Bool->Prop}(hk:K se):LD ah H b o K:=by
 obtain⟨sz,r⟩:=h.row
 exact dO (T:=ah) se [.bool true] _ r rfl ho rfl hk
theorem BW.Yl(h:BW H b se n cs ns ms){o:Nat}(ho:o=2){K:Int->Prop}(hk:K n):LD (au .i64) H b o K:=by
 obtain⟨sz,r⟩:=h.row
 exact dO (T:=au .i64) n [.bool true,.bool se] _ r rfl ho rfl hk
theorem BW.cut(h:BW H b se n cs ns ms){i:Nat}{g:ay}(hx:cs[i]? =some g):KR se n cs ns ms=(.bool true:: .bool se:: .int .i64 n::fl TC (cs.take i))++(TC.cells g++(fl TC (cs.drop (i+1))++(fl dG ns++fl TM ms)))∧(.bool true:: .bool se:: .int .i64 n::fl TC (cs.take i):List Value).length=3+i*9:=by
 have hi:=(List.getElem?_eq_some_iff.1 hx).1
 have hc:=h.c
 refine⟨?_,?_⟩
 ·unfold KR
  rw[iF (T:=TC) cs i g hx]; simp[List.append_assoc]
 ·simp only[List.length_cons]
  rw[bW YN,List.length_take,Nat.min_eq_left (by omega)]
  show i*9+1+1+1=_; omega
theorem BW.IC(h:BW H b se n cs ns ms){i:Nat}{g:ay}(hx:cs[i]? =some g){o:Nat}(ho:o=3+i*9){K:ay->Prop}(hk:K g):LD TC H b o K:=by
 obtain⟨sz,r⟩:=h.row
 obtain⟨e1,e2⟩:=h.cut hx
 exact dO (T:=TC) g _ _ r e1 (by rw[e2,ho]) rfl hk
theorem BW.ld_name(h:BW H b se n cs ns ms){i:Nat}{g:ay}(hx:cs[i]? =some g){o:Nat}(ho:o=3+i*9){K:ByteArray->Prop}(hk:K g.Name):LD dG H b o K:=by
 obtain⟨sz,r⟩:=h.row
 obtain⟨e1,e2⟩:=h.cut hx
 exact dO (T:=dG) g.Name _ ((TC.cells g).drop 1++(fl TC (cs.drop (i+1))++(fl dG ns++fl TM ms))) r (by rw[e1]; rfl) (by rw[e2,ho]) rfl hk
theorem BW.abN(h:BW H b se n cs ns ms){i:Nat}{g:ay}(hx:cs[i]? =some g){o:Nat}(ho:o=3+i*9+2){K:Int->Prop}(hk:K g.Kind):LD (au .u8) H b o K:=by
 obtain⟨sz,r⟩:=h.row
 obtain⟨e1,e2⟩:=h.cut hx
 exact dO (T:=au .u8) g.Kind ((.bool true:: .bool se:: .int .i64 n::fl TC (cs.take i))++[.string g.Name,.int .u8 g.Suit]) ((TC.cells g).drop 3++(fl TC (cs.drop (i+1))++(fl dG ns++fl TM ms))) r (by rw[e1]; simp[List.append_assoc]) (by rw[List.length_append,e2,ho]; rfl) rfl hk
theorem BW.Uk(h:BW H b se n cs ns ms){i:Nat}(hi:i<64)(g:ay){o:Nat}(ho:o=3+i*9){K:Heap->Prop}(hk:∀H',BW H' b se n (cs.set i g) ns ms->bP [b] H H'->K H'):ST H b o (TC.cells g) K:=by
 obtain⟨sz,r⟩:=h.row
 have hc:=h.c
 have hx:cs[i]? =some cs[i]:=List.getElem?_eq_getElem (by omega)
 obtain⟨e1,e2⟩:=h.cut hx
 refine pO _ (TC.cells cs[i]) _ r e1 (by rw[e2,ho]) rfl rfl (hk _ ⟨⟨sz,?_⟩,by simpa using hc,h.n,h.m⟩ (bP.set _ _ (by simp)))
 rw[fD (dI r)]
 have hx2:(cs.set i g)[i]? =some g:=List.getElem?_set_self (by omega)
 have hb:BW (H.set b (.row (KR se n (cs.set i g) ns ms) sz false false true)) b se n (cs.set i g) ns ms:=⟨⟨sz,fD (dI r)⟩,by simpa using hc,h.n,h.m⟩
 rw[(hb.cut hx2).1,List.take_set_of_le (Nat.le_refl _),List.drop_set_of_lt (by omega)]
theorem BW.WS(h:BW H b se n cs ns ms)(n':Int){o:Nat}(ho:o=2){K:Heap->Prop}(hk:∀H',BW H' b se n' cs ns ms->bP [b] H H'->K H'):ST H b o [.int .i64 n'] K:=by
 obtain⟨sz,r⟩:=h.row
 exact pO [.bool true,.bool se] [.int .i64 n] _ r rfl ho rfl rfl (hk _ ⟨⟨sz,by rw[fD (dI r)]; rfl⟩,h.c,h.n,h.m⟩ (bP.set _ _ (by simp)))
theorem BW.VI(h:BW H b se n cs ns ms)(se':Bool){o:Nat}(ho:o=1){K:Heap->Prop}(hk:∀H',BW H' b se' n cs ns ms->bP [b] H H'->K H'):ST H b o [.bool se'] K:=by
 obtain⟨sz,r⟩:=h.row
 exact pO [.bool true] [.bool se] _ r rfl ho rfl rfl (hk _ ⟨⟨sz,by rw[fD (dI r)]; rfl⟩,h.c,h.n,h.m⟩ (bP.set _ _ (by simp)))
theorem nbl{T:Tag}{H H':Heap}{s:Sl}{l sp:List T.α}(n:bJ T H s H' l sp):∀d∈bl s.p,H.length≤d:=fun d hd=>by
 obtain⟨_,_,_,⟨q,_⟩|⟨c,q,_⟩⟩:=n.1
 ·rw[q]at hd; simp[bl]at hd
 ·have:=n.2.1 c q
  rw[q]at hd; simp[bl]at hd; omega
structure CR(m:Nat)(H:Heap)(g:ay)(c:Cd):Prop where
 e:bare g=c.g
 p:eY TP H g.Parts c.ps
 lo:∀d∈bl g.Parts.p,m≤d
theorem CR.cO{m:Nat}{H':Heap}{F:List Nat}{g:ay}{c:Cd}(h:CR m H g c)(f:bP F H H')(hF:∀d∈F,d<m):CR m H' g c:=
 ⟨h.e,h.p.cO f fun d hd o e=>by have:=h.lo d (by rw[e]; simp[bl]); have:=hF d hd; omega,h.lo⟩
structure BP(m:Nat)(H:Heap)(b:Nat)(se:Bool)(B:List Cd)(ms:List ak):Prop where
 w:∃cs ns,BW H b se B.length cs ns ms∧∀(i:Nat) (c:Cd),B[i]? =some c->∃g,cs[i]? =some g∧CR m H g c
 few:B.length≤64
 lt:b<m
 ml:m≤H.length
variable{m:Nat}{B:List Cd}
theorem BP.cO{H':Heap}{F:List Nat}(h:BP m H b se B ms)(f:bP F H H')(hF:∀d∈F,d<m∧d≠b):BP m H' b se B ms:=by
 obtain⟨⟨cs,ns,w,hc⟩,h2,h3,h4⟩:=h
 exact⟨⟨cs,ns,w.cO f fun hm=>(hF b hm).2 rfl,fun i c hx=>by obtain⟨g,q1,q2⟩:=hc i c hx; exact⟨g,q1,q2.cO f fun d hd=>(hF d hd).1⟩⟩,h2,h3,by have:=f.1; omega⟩
theorem BP.new{H':Heap}(h:BP m H b se B ms)(f:bP [] H H'):BP m H' b se B ms:=h.cO f (by simp)
theorem Eo(h:BP m H b se B ms){Q:Bool×Unit->Heap->Prop}(hq:Q (false,()) H):CALL P [ah] eG [.pointer (some ⟨b,0,none⟩)] H Q:=by
 obtain⟨⟨cs,ns,w,hc⟩,_⟩:=h
 apply FY
 unfold nI
 exact bF (bI rfl (w.QB rfl hq))
theorem QC(h:BP m H b se B ms){Q:Int×Unit->Heap->Prop}(hq:Q (if se then 7 else 0,()) H):CALL P [au .i64] iH [.pointer (some ⟨b,0,none⟩)] H Q:=by
 apply FV
 unfold nH
 refine Eo h (bI rfl ?_)
 obtain⟨⟨cs,ns,w,hc⟩,_⟩:=h
 refine w.En rfl (bT (fun e=> ?_) (fun e=> ?_))
 ·rw[e]at hq; exact hq
 ·rw[e]at hq; exact hq
theorem OG(h:BP m H b se B ms){Q:Bool×Unit->Heap->Prop}(hq:Q (se,()) H):CALL P [ah] iL [.pointer (some ⟨b,0,none⟩)] H Q:=by
 apply Cc
 unfold kS
 refine Eo h (bI rfl ?_)
 obtain⟨⟨cs,ns,w,hc⟩,_⟩:=h
 exact w.En rfl hq
def nJ(B:List Cd)(s:ByteArray):Int:=match jR B s with|some i=>i|none=> -1
theorem GI{α:Type}{p:α->Bool}:∀{l:List α} {n:Nat},(∀(j:Nat) x,j<n->l[j]? =some x->p x=false)->(∀x,l[n]? =some x->p x=true)->n<l.length->l.findIdx? p=some n
 |[],_,_,_,h=>by simp at h
 |a::l,0,_,h2,_=>by
  have:=h2 a rfl
  simp[List.findIdx?_cons,this]
 |a::l,n+1,h1,h2,h=>by
  have ha:=h1 0 a (by omega) rfl
  have ih:=GI (l:=l) (n:=n) (fun j x hj hx=>h1 (j+1) x (by omega) (by simpa using hx)) (fun x hx=>h2 x (by simpa using hx)) (by simpa using h)
  simp[List.findIdx?_cons,ha,ih]
theorem OH{B:List Cd}{s:ByteArray}{n:Nat}(h1:∀(j:Nat) x,j<n->B[j]? =some x->(x.g.Name.toList==s.toList)=false){c:Cd}(hx:B[n]? =some c)(h2:(c.g.Name.toList==s.toList)=true):nJ B s=n:=by
 unfold nJ jR
 rw[GI (n:=n) h1 (fun x hy=>by rw[hx]at hy; cases hy; exact h2) (List.getElem?_eq_some_iff.1 hx).1]
theorem GK{B:List Cd}{s:ByteArray}(h1:∀(j:Nat) x,j<B.length->B[j]? =some x->(x.g.Name.toList==s.toList)=false):nJ B s= -1:=by
 have:jR B s=none:=by
  unfold jR
  rw[List.findIdx?_eq_none_iff]
  intro x hx
  obtain⟨j,hj⟩:=List.mem_iff_getElem?.1 hx
  exact h1 j x (List.getElem?_eq_some_iff.1 hj).1 hj
 unfold nJ
 rw[this]
theorem KT(h:BP m H b se B ms){s:ByteArray}{Q:Int×Unit->Heap->Prop}(hq:Q (nJ B s,()) H):CALL P [au .i64] gW [.pointer (some ⟨b,0,none⟩),.string s] H Q:=by
 apply D9
 unfold lZ
 obtain⟨⟨cs,ns,w,hc⟩,few,_⟩:=h
 refine w.Yl rfl (bF ?_)
 refine bG (fun(t:(Int×Unit)×Unit) H'=>H'=H∧∃n:Nat,t.1.1=n∧n≤B.length∧∀(j:Nat) x,j<n->B[j]? =some x->(x.g.Name.toList==s.toList)=false) (fun t=>B.length-t.1.1.toNat) ?_ ⟨rfl,0,rfl,Nat.zero_le _,fun j x hj=>by omega⟩
 rintro G ⟨⟨i,_⟩,_⟩ H' ⟨rfl,n,hi,hn,hno⟩ hG
 simp only at hi; subst hi
 dsimp only at hG ⊢
 refine dH (fun hlt=> ?_) (fun hge=> ?_)
 ·have hlt:n<B.length:=by omega
  have hx:B[n]? =some B[n]:=List.getElem?_eq_getElem hlt
  generalize B[n]=c at hx
  obtain⟨g,hg,cr⟩:=hc n c hx
  have hnm:g.Name=c.g.Name:=by rw[←cr.e]; rfl
  refine⟨⟨by omega,by omega⟩,w.ld_name hg (by simp) ?_⟩
  rw[hnm]
  refine bT (fun e=> ?_) (fun e=> ?_)
  ·rw[OH hno hx e]at hq; exact hq
  ·rw[dA (by omega) (by omega)]
   refine hG _ _ ⟨rfl,n+1,by simp,hlt,fun j x hj hy=> ?_⟩ (by simp; omega)
   by_cases ej:j=n
   ·subst ej; rw[hx]at hy; cases hy; exact e
   ·exact hno j x (by omega) hy
 ·have hge:n=B.length:=by omega
  subst hge
  rw[GK hno]at hq; exact hq
theorem Ul(g h:ay)(ps qs:List Pt):C9 ⟨bare g,ps⟩ ⟨bare h,qs⟩=(decide (g.Suit<h.Suit)||(g.Suit==h.Suit&&Op.bytesLess g.Name.toList h.Name.toList)):=rfl
theorem ZU{g h:ay}{c d:Cd}(hg:bare g=c.g)(hh:bare h=d.g){Q:Bool×Unit->Heap->Prop}(hq:Q (C9 c d,()) H):CALL P [ah] wo [TC.enc g,TC.enc h] H Q:=by
 apply P8
 unfold wJ
 obtain⟨c,cp⟩:=c
 obtain⟨d,dp⟩:=d
 simp only at hg hh; subst hg; subst hh
 rw[Ul]at hq
 refine AO (fun e=>Qd (Q:=fun r=>Q r H) hq ?_) (fun e=>Qd (Q:=fun r=>Q r H) hq ?_)
 ·congr 1
  rw[show(g.Suit==h.Suit)=false by simpa using e]; simp
 ·congr 1
  rw[show decide (g.Suit<h.Suit)=false by simp; omega,show(g.Suit==h.Suit)=true by simpa using e]; simp
theorem Xj{g:ay}{ps:List Pt}(hs:eY TP H g.Parts ps)(hl:ps.length≤1048600){Q:ay×Unit->Heap->Prop}(hq:∀s H',eY TP H' s ps->(∀d∈bl s.p,H.length≤d)->bP [] H H'->Q ({ g with Parts:=s },()) H'):CALL P [TC] rY [TC.enc g] H Q:=by
 apply TG
 unfold yR
 exact PG tyP rfl (fun _=>by simp) hs hl fun s' H' sp n=>hq s' H' n.1.rC (nbl n) n.2.2
end
end Go.Proofs.YtijnknjopjmiiaaGreatDoor.Zq
end
section
namespace Go.Proofs.YtijnknjopjmiiaaGreatDoor.Zq
open Zv
section
variable{H:Heap}{b m:Nat}{B:List Cd}{ms:List ak}
theorem zO{B:List Cd}{s:ByteArray}:nJ B s≥0↔(jR B s).isSome=true:=by
 unfold nJ
 cases jR B s with
 |none=>simp
 |some i=>simp
set_option maxRecDepth 100000 in
theorem adz{Q:(Option Addr)×Unit->Heap->Prop}(hq:∀H',(∀m,H.length<m->m≤H'.length->BP m H' H.length false [] (List.replicate 5 ⟨0,ByteArray.mk #[],0,0⟩))->bP [] H H'->H'.length=H.length+1->Q (some ⟨H.length,0,none⟩,()) H'):CALL P [dJ] BL [] H Q:=by
 apply Vz
 unfold BX
 refine hq _ (fun m h1 h2=>⟨⟨List.replicate 64 ⟨ByteArray.mk #[],0,0,0,0,0,0,false,⟨none,0,0⟩⟩,List.replicate 9 (ByteArray.mk #[]),⟨⟨608,?_⟩,rfl,rfl,rfl⟩,fun i c h=>by simp at h⟩,by simp,h1,h2⟩) (bP.app _ _ _) (by show(H++[_]).length=_; rw[List.length_append]; rfl)
 show(H++[_])[H.length]? =_
 rw[List.getElem?_append_right (Nat.le_refl _),Nat.sub_self]
 rfl
theorem abO(h:BP m H b false B ms)(okB:G5 B){g:ay}{ps:List Pt}(ok:OkG g)(hs:eY TP H g.Parts ps)(op:∀p∈ps,OkP p)(hpb:∀d∈bl g.Parts.p,d≠b){Q:Int×Unit->Heap->Prop}
  (hq:∀H',BP m H' b false (BM B ⟨bare g,ps⟩) ms->bP [b] H H'->Q (zY B ⟨bare g,ps⟩,()) H'):CALL P [au .i64] mW [.pointer (some ⟨b,0,none⟩),TC.enc g] H Q:=by
 apply Fp
 unfold ng
 have hcc:xI ⟨g,ps⟩=xI ⟨bare g,ps⟩:=rfl
 generalize hc0:(⟨bare g,ps⟩:Cd)=c at hq hcc
 have cg:bare g=c.g:=by rw[←hc0]
 have cps:ps=c.ps:=by rw[←hc0]
 have cnm:c.g.Name=g.Name:=by rw[←cg]; rfl
 have same:∀e:Int,e≠0->zY B c=e->Q (e,()) H:=fun e he ha=>by
  have a:BM B c=B:=by unfold BM; rw[if_neg (by rw[ha]; exact he)]
  have:=hq H (by rw[a]; exact h) (.refl _ _)
  rwa [ha]at this
 refine QC h (bI rfl (ZT ok hs op (AO (fun h1=> ?_) (fun h1=> ?_))))
 ·dsimp only at h1
  rw[hcc]at h1
  dsimp only; rw[hcc]
  exact same _ h1 (by unfold zY; rw[if_pos h1])
 dsimp only at h1
 rw[hcc]at h1
 refine KT h (dH (fun h2=> ?_) (fun h2=> ?_))
 ·dsimp only at h2
  refine same 5 (by decide) ?_
  unfold zY
  rw[if_neg (fun q=>q h1),if_pos (by rw[cnm]; exact zO.1 h2)]
 dsimp only at h2
 have hnin:¬(jR B c.g.Name).isSome=true:=fun q=>h2 (zO.2 (by rw[←cnm]; exact q))
 have few:=h.few
 obtain⟨⟨cs,ns,w,hc⟩,_,lt,ml⟩:=id h
 refine w.Yl rfl (dH (fun h3=> ?_) (fun h3=> ?_))
 ·refine same 14 (by decide) ?_
  unfold zY
  rw[if_neg (fun q=>q h1),if_neg hnin,if_pos (by omega)]
 have e0:zY B c=0:=by unfold zY; rw[if_neg (fun q=>q h1),if_neg hnin,if_neg (by omega)]
 have hps4:ps.length≤4:=by
  have:zX c=0:=by
   unfold xI at h1
   by_cases hf:zX c=0
   ·exact hf
   ·rw[if_neg hf]at h1; exact h1
  rw[cps]; exact qH this
 refine w.Yl rfl ?_
 refine aS (fun y H'=>∃(i:Nat) (cs':List ay),(y:(Int×Unit)×Unit).1.1=i∧i≤B.length∧BW H' b false B.length cs' ns ms∧bP [b] H H'∧(∀j,j≤i->cs'[j]? =cs[j]?)∧(∀j,i<j->j≤B.length->cs'[j]? =cs[j-1]?)∧(∀(j:Nat) d,i≤j->B[j]? =some d->C9 c d=true)∧∀d,0<i->B[i-1]? =some d->C9 c d=false) (fun j hj=> ?_) ?_
 ·refine bG (fun(s:(Int×Unit)×Unit) H'=>∃(i:Nat) (cs':List ay),s.1.1=i∧i≤B.length∧BW H' b false B.length cs' ns ms∧bP [b] H H'∧(∀j,j≤i->cs'[j]? =cs[j]?)∧(∀j,i<j->j≤B.length->cs'[j]? =cs[j-1]?)∧∀(j:Nat) d,i≤j->B[j]? =some d->C9 c d=true) (fun s=>s.1.1.toNat) ?_
   ⟨B.length,cs,rfl,Nat.le_refl _,w,.refl _ _,fun _ _=>rfl,fun j h1 h2=>by omega,fun j d h1 h2=>by have:=(List.getElem?_eq_some_iff.1 h2).1; omega⟩
  rintro G ⟨⟨i,_⟩,_⟩ H' ⟨i,cs',hi,hil,w',f',k1,k2,k3⟩ hG
  simp only at hi; subst hi
  dsimp only at hG ⊢
  have at1:0<i->∃g1 d,B[i-1]? =some d∧cs'[i-1]? =some g1∧CR m H' g1 d∧cs[i-1]? =some g1:=fun h0=>by
   have hx:B[i-1]? =some (B[i-1]'(by omega)):=List.getElem?_eq_getElem (by omega)
   obtain⟨g1,q1,q2⟩:=hc (i-1) _ hx
   exact⟨g1,_,hx,by rw[k1 _ (by omega)]; exact q1,q2.cO f' fun d hd=>by simp at hd; omega,q1⟩
  refine hJ (H:=H') (∃d,0<i∧B[i-1]? =some d∧C9 c d=true) (fun j hj=>dH (fun h0=> ?_) (fun h0=>hj _ ?_)) (fun hA=> ?_) (fun hN=> ?_)
  ·have h0:0<i:=by omega
   obtain⟨g1,d,hx,hg1,cr,_⟩:=at1 h0
   rw[dA (by omega) (by omega)]
   refine⟨⟨by omega,by omega⟩,w'.IC hg1 (by omega) (ZU cg cr.e (hj _ ?_))⟩
   constructor
   ·exact fun e=>⟨d,h0,hx,e⟩
   ·rintro⟨d',_,hx',e⟩
    rw[hx]at hx'; cases hx'; exact e
  ·simp only[Bool.false_eq_true,false_iff]
   rintro⟨d,q,_⟩; omega
  ·obtain⟨d,h0,hx,ha⟩:=hA
   obtain⟨g1,d',hx',hg1,cr,hg0⟩:=at1 h0
   rw[hx]at hx'; cases hx'
   rw[dA (by omega) (by omega)]
   refine⟨⟨by omega,by omega⟩,w'.IC hg1 (by omega) ⟨⟨by omega,by omega⟩,w'.Uk (i:=i) (by omega) g1 (by simp) fun H2 w2 f2=> ?_⟩⟩
   have hcl:=w'.c
   refine hG _ _ ⟨i-1,_,by simp; omega,by omega,w2,f'.trans f2,fun j hj=> ?_,fun j hj hj2=> ?_,fun j d2 hj hd2=> ?_⟩ (by simp; omega)
   ·rw[List.getElem?_set_ne (by omega)]; exact k1 j (by omega)
   ·by_cases ej:j=i
    ·subst ej; rw[List.getElem?_set_self (by omega),hg0]
    ·rw[List.getElem?_set_ne (by omega)]; exact k2 j (by omega) hj2
   ·by_cases ej:j=i-1
    ·subst ej; rw[hx]at hd2; cases hd2; exact ha
    ·exact k3 j d2 (by omega) hd2
  ·refine hj _ _ ⟨i,cs',rfl,hil,w',f',k1,k2,k3,fun d h0 hx=> ?_⟩
   cases ha:C9 c d with
   |false=>rfl
   |true=>exact absurd ⟨d,h0,hx,ha⟩ hN
 rintro⟨⟨i,_⟩,_⟩ H4 ⟨i,cs',hi,hil,w4,f4,k1,k2,k3,k4⟩
 simp only at hi; subst hi
 dsimp only
 refine Xj (hs.cO f4 fun d hd o e=> ?_) (by omega) fun s H9 hs9 lo9 f9=>⟨⟨by omega,by omega⟩,?_⟩
 ·simp at hd; subst hd; exact hpb d (by rw[e]; simp[bl]) rfl
 have w9:=w4.cO f9 (by simp)
 have hcl:=w9.c
 refine w9.Uk (i:=i) (by omega) { g with Parts:=s } (by simp) fun H10 w10 f10=>w10.Yl rfl ?_
 rw[dA (x:=(B.length:Int)+1) (by omega) (by omega)]
 refine w10.WS _ rfl fun H11 w11 f11=> ?_
 have fr:bP [b] H H11:=(f4.trans (f9.mono (by simp))).trans (f10.trans f11)
 have ea:BM B c=B.take i++c::B.drop i:=by
  unfold BM
  rw[if_pos e0]
  exact Zz (lt:=C9) (fun h k=>ZB h k) okB.srt hil (fun j hj h=>k3 j _ h (List.getElem?_eq_getElem hj)) (fun h0=>k4 _ h0 (List.getElem?_eq_getElem (by omega)))
 have hln:(BM B c).length=B.length+1:=by rw[ea]; simp; omega
 have res:=hq H11 ⟨⟨_,ns,by rw[hln]; exact w11,fun k d hk=> ?_⟩,by omega,lt,by have:=fr.1; omega⟩ fr
 ·rwa [e0]at res
 ·have f49:=f4.1
  rw[ea]at hk
  rcases Nat.lt_trichotomy k i with q|q|q
  ·rw[List.getElem?_append_left (by simp; omega),List.getElem?_take,if_pos q]at hk
   obtain⟨g1,q1,q2⟩:=hc k d hk
   exact⟨g1,by rw[List.getElem?_set_ne (by omega),k1 k (by omega)]; exact q1,q2.cO fr fun d hd=>by simp at hd; omega⟩
  ·subst q
   rw[List.getElem?_append_right (by simp; omega),List.length_take,Nat.min_eq_left hil,Nat.sub_self]at hk
   simp at hk; subst hk
   refine⟨_,List.getElem?_set_self (by omega),⟨by rw[←cg]; rfl,?_,fun d hd=>by have:=lo9 d hd; omega⟩⟩
   rw[←cps]
   refine(hs9.cO f10 fun d hd o e=> ?_).cO f11 fun d hd o e=> ?_
   ·simp at hd; subst hd; have:=lo9 d (by rw[e]; simp[bl]); have:=w4.lt; omega
   ·simp at hd; subst hd; have:=lo9 d (by rw[e]; simp[bl]); have:=w4.lt; omega
  ·have e2:k-i=(k-1-i)+1:=by omega
   rw[List.getElem?_append_right (by simp; omega),List.length_take,Nat.min_eq_left hil,e2,List.getElem?_cons_succ,List.getElem?_drop,show i+(k-1-i)=k-1 by omega]at hk
   have hkl:=(List.getElem?_eq_some_iff.1 hk).1
   obtain⟨g1,q1,q2⟩:=hc (k-1) d hk
   exact⟨g1,by rw[List.getElem?_set_ne (by omega),k2 k q (by omega)]; exact q1,q2.cO fr fun d hd=>by simp at hd; omega⟩
end
end Go.Proofs.YtijnknjopjmiiaaGreatDoor.Zq
end
section
namespace Go.Proofs.YtijnknjopjmiiaaGreatDoor.Zq
open Zv
section
variable{H:Heap}{b m:Nat}{B:List Cd}{ms:List ak}{se:Bool}{n:Int}{cs:List ay}{ns:List ByteArray}
theorem BW.KU(h:BW H b se n cs ns ms){i:Nat}{x:ak}(hx:ms[i]? =some x):KR se n cs ns ms=(.bool true:: .bool se:: .int .i64 n::(fl TC cs++(fl dG ns++fl TM (ms.take i))))++(TM.cells x++fl TM (ms.drop (i+1)))∧(.bool true:: .bool se:: .int .i64 n::(fl TC cs++(fl dG ns++fl TM (ms.take i))):List Value).length=588+i*4:=by
 have hi:=(List.getElem?_eq_some_iff.1 hx).1
 refine⟨?_,?_⟩
 ·unfold KR
  rw[iF (T:=TM) ms i x hx]; simp[List.append_assoc]
 ·simp only[List.length_cons,List.length_append]
  rw[bW YN,bW ac2,bW hTM,List.length_take,Nat.min_eq_left (by omega),h.c,h.n]
  show 64*9+(9*1+i*4)+1+1+1=_; omega
theorem BW.Ep(h:BW H b se n cs ns ms){i:Nat}{x:ak}(hx:ms[i]? =some x){o:Nat}(ho:o=588+i*4){K:Int->Prop}(hk:K x.Mark):LD (au .u8) H b o K:=by
 obtain⟨sz,r⟩:=h.row
 obtain⟨e1,e2⟩:=h.KU hx
 exact dO (T:=au .u8) x.Mark _ ((TM.cells x).drop 1++fl TM (ms.drop (i+1))) r (by rw[e1]; rfl) (by rw[e2,ho]) rfl hk
theorem BW.KW(h:BW H b se n cs ns ms){i:Nat}(hi:i<5)(x:ak){o:Nat}(ho:o=588+i*4){K:Heap->Prop}(hk:∀H',BW H' b se n cs ns (ms.set i x)->bP [b] H H'->K H'):ST H b o (TM.cells x) K:=by
 obtain⟨sz,r⟩:=h.row
 have hm:=h.m
 have hx:ms[i]? =some ms[i]:=List.getElem?_eq_getElem (by omega)
 obtain⟨e1,e2⟩:=h.KU hx
 refine pO _ (TM.cells ms[i]) _ r e1 (by rw[e2,ho]) rfl rfl (hk _ ⟨⟨sz,?_⟩,h.c,h.n,by simpa using hm⟩ (bP.set _ _ (by simp)))
 rw[fD (dI r)]
 have hx2:(ms.set i x)[i]? =some x:=List.getElem?_set_self (by omega)
 have hb:BW (H.set b (.row (KR se n cs ns (ms.set i x)) sz false false true)) b se n cs ns (ms.set i x):=⟨⟨sz,fD (dI r)⟩,h.c,h.n,by simpa using hm⟩
 rw[(hb.KU hx2).1,List.take_set_of_le (Nat.le_refl _),List.drop_set_of_lt (by omega)]
theorem five{ms:List ak}(h:ms.length=5):∃a b c d e,ms=[a,b,c,d,e]:=by
 match ms,h with
 |[a,b,c,d,e],_=>exact⟨a,b,c,d,e,rfl⟩
theorem KX{x:Int}{Q:Bool×Unit->Heap->Prop}(hq:Q (decide (-9≤x∧x≤9),()) H):CALL P [ah] nX [.int .i64 x] H Q:=by
 apply Nj
 unfold uo
 exact JD (H:=H) (-9≤x∧x≤9) (fun j hj=>dH (fun h=>hj _ (by simp; omega)) (fun h=>hj _ (by simp; omega))) hq
def badM(m:ak):Prop:=m.Mark<1∨4<m.Mark∨m.Power< -9∨9<m.Power∨m.Health< -9∨9<m.Health
def QD(ms:List ak)(m:ak):Prop:=(∃x,ms[m.Mark.toNat]? =some x∧x.Mark≠0)∨∃x∈ms,x.Name.toList=m.Name.toList
open Classical in
theorem KY(ms:List ak)(m:ak):DK ms m=if badM m then 2 else if ¬oz m.Name then 4 else if QD ms m then 5 else 0:=by
 unfold DK badM QD
 congr
theorem abP(h:BP m H b false B ms){x:ak}{Q:Int×Unit->Heap->Prop}(hq:∀H',BP m H' b false B (G6 ms x)->bP [b] H H'->Q (DK ms x,()) H'):CALL P [au .i64] mX [.pointer (some ⟨b,0,none⟩),TM.enc x] H Q:=by
 apply Fz
 unfold ny
 have e:=KY ms x
 have same:∀(r:Int) H',r≠0->DK ms x=r->bP [] H H'->Q (r,()) H':=fun r H' hr hm f=>by
  have a:G6 ms x=ms:=by unfold G6; rw[if_neg (by rw[hm]; exact hr)]
  have:=hq H' (by rw[a]; exact h.new f) (f.mono (by simp))
  rwa [hm]at this
 refine QC h (bI rfl ?_)
 refine hJ (badM x) (fun j hj=> ?_) (fun h1=>same 2 H (by decide) (by rw[e,if_pos h1]) (.refl _ _)) (fun h1=> ?_)
 ·unfold badM at hj
  exact dH (fun h=>hj _ (by simp; omega)) (fun h=>dH (fun h=>hj _ (by simp; omega)) (fun h=>KX (Qy (fun h=>hj _ (by simp; omega)) (fun h=>KX (hj _ (by simp; omega))))))
 rw[if_neg h1]at e
 have hr:1≤x.Mark∧x.Mark≤4:=by unfold badM at h1; omega
 refine abI fun H5 f5=>Qy (fun h2=>same 4 H5 (by decide) (by rw[e,if_pos h2]) f5) (fun h2=> ?_)
 rw[if_neg (fun q=>q h2)]at e
 have h5:=h.new f5
 obtain⟨⟨cs,ns,w,hc⟩,few,lt,ml⟩:=h5
 have hm5:=w.m
 have hi5:x.Mark.toNat<5:=by omega
 have hx:ms[x.Mark.toNat]? =some (ms[x.Mark.toNat]'(by omega)):=List.getElem?_eq_getElem (by omega)
 generalize (ms[x.Mark.toNat]'(by omega))=y at hx
 refine⟨⟨by omega,by omega⟩,w.Ep hx (by simp) (AO (fun h3=>same 5 H5 (by decide) (by rw[e,if_pos (.inl ⟨y,hx,h3⟩)]) f5) (fun h3=> ?_))⟩
 obtain⟨m0,m1,m2,m3,m4,rfl⟩:=five hm5
 have ld5:∀{K:ak×ak×ak×ak×ak->Prop},K (m0,m1,m2,m3,m4)->LD fE H5 b (0+588) K:=fun hk=>by
  obtain⟨sz,r⟩:=w.row
  obtain⟨e1,e2⟩:=w.KU (i:=0) (x:=m0) rfl
  exact dO (T:=fE) (m0,m1,m2,m3,m4) _ [] r (by rw[e1]; rfl) (by rw[e2]) rfl hk
 refine ld5 ?_
 have hat:∀n:Nat,n<5->∃z,dF E 129 (.agg #[(.int .u8 m0.Mark),(.string m0.Name),(.int .i64 m0.Power),(.int .i64 m0.Health),(.int .u8 m1.Mark),(.string m1.Name),(.int .i64 m1.Power),(.int .i64 m1.Health),(.int .u8 m2.Mark),(.string m2.Name),(.int .i64 m2.Power),(.int .i64 m2.Health),(.int .u8 m3.Mark),(.string m3.Name),(.int .i64 m3.Power),(.int .i64 m3.Health),(.int .u8 m4.Mark),(.string m4.Name),(.int .i64 m4.Power),(.int .i64 m4.Health)]) (.int .i64 (n:Int))=some (TM.enc z)∧[m0,m1,m2,m3,m4][n]? =some z:=by
  intro n hn
  rcases(by omega:n=0∨n=1∨n=2∨n=3∨n=4)with rfl|rfl|rfl|rfl|rfl
  ·exact⟨m0,rfl,rfl⟩
  ·exact⟨m1,rfl,rfl⟩
  ·exact⟨m2,rfl,rfl⟩
  ·exact⟨m3,rfl,rfl⟩
  ·exact⟨m4,rfl,rfl⟩
 refine aS (fun _ H'=>H'=H5∧¬∃z∈[m0,m1,m2,m3,m4],z.Name.toList=x.Name.toList) (fun j hj=> ?_) ?_
 ·refine bG (fun(s:(Int×Unit)×Unit) H'=>H'=H5∧∃n:Nat,s.1.1=n∧n≤5∧∀z∈[m0,m1,m2,m3,m4].take n,z.Name.toList≠x.Name.toList) (fun s=>5-s.1.1.toNat) ?_ ⟨rfl,0,rfl,by omega,by simp⟩
  rintro G ⟨⟨i,_⟩,_⟩ H' ⟨rfl,n,hi,hn,hno⟩ hG
  simp only at hi; subst hi
  dsimp only at hG ⊢
  refine dH (fun hlt=> ?_) (fun hge=>hj _ _ ⟨rfl,?_⟩)
  ·have hlt:n<5:=by omega
   obtain⟨z,g1,g2⟩:=hat n hlt
   refine⟨z,g1,bT (fun e2=>same 5 H' (by decide) (by rw[e,if_pos (.inr ⟨z,List.mem_of_getElem? g2,by simpa using e2⟩)]) f5) (fun e2=> ?_)⟩
   rw[dA (by omega) (by omega)]
   refine hG _ _ ⟨rfl,n+1,by simp,hlt,fun y hy=> ?_⟩ (by simp; omega)
   obtain⟨g3,g4⟩:=List.getElem?_eq_some_iff.1 g2
   rw[List.take_succ_eq_append_getElem g3,List.mem_append,List.mem_singleton]at hy
   rcases hy with q|q
   ·exact hno y q
   ·rw[q,g4]; simpa using e2
  ·have:n=5:=by omega
   subst this
   rintro⟨z,hz,q⟩
   exact hno z (by simpa using hz) q
 rintro _ H6 ⟨rfl,hno⟩
 have e0:DK [m0,m1,m2,m3,m4] x=0:=by
  rw[e,if_neg]
  rintro(⟨z,hz,q⟩|q)
  ·rw[hx]at hz; cases hz; exact q h3
  ·exact hno q
 refine⟨⟨by omega,by omega⟩,w.KW hi5 x (by simp) fun H8 w8 f8=> ?_⟩
 have fr:bP [b] H H8:=(f5.mono (by simp)).trans f8
 have ea:G6 [m0,m1,m2,m3,m4] x=[m0,m1,m2,m3,m4].set x.Mark.toNat x:=by unfold G6; rw[if_pos e0]
 have res:=hq H8 ⟨⟨cs,ns,by rw[ea]; exact w8,fun k d hk=> ?_⟩,few,lt,by have:=f8.1; omega⟩ fr
 ·rwa [e0]at res
 ·obtain⟨g1,q1,q2⟩:=hc k d hk
  exact⟨g1,q1,q2.cO f8 fun d hd=>by simp at hd; omega⟩
theorem KZ{p:Pt}(h:p.Verb≠7):xE B p=0:=by unfold xE; rw[if_neg h]
theorem Xk{p:Pt}(h:p.Verb=7)(hn:nJ B p.Name<0):xE B p=6:=by
 unfold xE; rw[if_pos h]
 unfold nJ at hn
 cases hx:jR B p.Name with
 |none=>rfl
 |some i=>rw[hx]at hn; simp only at hn; omega
theorem La{s:ByteArray}(hn:¬nJ B s<0):∃i c,jR B s=some i∧nJ B s=(i:Int)∧B[i]? =some c:=by
 unfold nJ at hn ⊢
 cases hx:jR B s with
 |none=>rw[hx]at hn; simp at hn
 |some i=>
  have hi:i<B.length:=by
   unfold jR at hx
   obtain⟨h,_⟩:=List.findIdx?_eq_some_iff_getElem.1 hx
   exact h
  exact⟨i,B[i],rfl,rfl,List.getElem?_eq_getElem hi⟩
theorem Lc{p:Pt}(h:p.Verb=7){i:Nat}{c:Cd}(hn:jR B p.Name=some i)(hx:B[i]? =some c):xE B p=if c.g.Kind=2 then 8 else 0:=by
 unfold xE; rw[if_pos h,hn]
 simp only[hx,Option.map_some,Option.some.injEq]
theorem GL(p:Pt)(r:List Pt):tX B (p::r)=if xE B p≠0 then xE B p else tX B r:=rfl
theorem Ld{i k:Nat}{c:Cd}(hk:c.ps.length≤k):tX B (c.ps.drop k++(B.drop (i+1)).flatMap (·.ps))=tX B ((B.drop (i+1)).flatMap (·.ps)):=by
 rw[List.drop_eq_nil_of_le hk,List.nil_append]
theorem abQ(h:BP m H b false B ms)(okB:G5 B){Q:Int×Unit->Heap->Prop}(hq:∀H',BP m H' b (decide (sD B=0)) B ms->bP [b] H H'->Q (sD B,()) H'):CALL P [au .i64] mY [.pointer (some ⟨b,0,none⟩)] H Q:=by
 apply FD
 unfold nC
 have same:∀r:Int,r≠0->sD B=r->Q (r,()) H:=fun r hr e=>by
  have:=hq H (by rw[e,decide_eq_false hr]; exact h) (.refl _ _)
  rwa [e]at this
 refine QC h (bI rfl ?_)
 obtain⟨⟨cs,ns,w,hc⟩,few,lt,ml⟩:=id h
 refine w.Yl rfl ?_
 have hsl:dS E 127 (.pointer (some ⟨b,0+3,none⟩)) none (some (.int .i64 (B.length:Int))) none H=some (Value.slice (some ⟨b,3,none⟩) B.length 64):=by
  obtain⟨ti,te,e,hti,hk,hte⟩:∃ti te e,E.ty 127=some ti∧ti.k= .array 64 e∧E.ty e=some te:=⟨_,_,_,rfl,rfl,rfl⟩
  unfold dS
  simp only[hti,hk,hte,Option.bind_some]
  simp[dn,few]
 refine⟨⟨some ⟨b,3,none⟩,B.length,64⟩,hsl,?_⟩
 refine aS (fun _ H'=>H'=H∧sD B=0) (fun j hj=> ?_) ?_
 ·refine bG (fun(s:(Int×Unit)×Unit) H'=>H'=H∧∃i:Nat,s.1.1=i∧i≤B.length∧sD B=tX B ((B.drop i).flatMap (·.ps))) (fun s=>B.length-s.1.1.toNat) ?_ ⟨rfl,0,rfl,Nat.zero_le _,by simp[sD]⟩
  rintro G ⟨⟨i,_⟩,_⟩ H' ⟨rfl,i,hi,hil,hse⟩ hG
  simp only at hi; subst hi
  dsimp only at hG ⊢
  refine dH (fun hlt=> ?_) (fun hge=>hj _ _ ⟨rfl,?_⟩)
  ·have hlt:i<B.length:=by omega
   have hx:B[i]? =some B[i]:=List.getElem?_eq_getElem hlt
   rw[List.drop_eq_getElem_cons hlt,List.flatMap_cons]at hse
   generalize B[i]=c at hx hse
   obtain⟨g,hg,cr⟩:=hc i c hx
   have hp:=cr.p
   have hpl:=hp.1
   have hp4:c.ps.length≤4:=by
    have:=okB.ok c (List.mem_of_getElem? hx)
    unfold xI at this
    by_cases hf:zX c=0
    ·exact qH hf
    ·rw[if_neg hf]at this; exact absurd this hf
   refine bF ⟨⟨by omega,by omega⟩,w.IC hg (by simp) (bF ?_)⟩
   refine bG (fun(s:(Int×Unit)×Unit) H2=>H2=H'∧∃k:Nat,s.1.1=k∧k≤c.ps.length∧sD B=tX B (c.ps.drop k++(B.drop (i+1)).flatMap (·.ps))) (fun s=>c.ps.length-s.1.1.toNat) ?_ ⟨rfl,0,rfl,Nat.zero_le _,by simpa using hse⟩
   rintro G2 ⟨⟨k,_⟩,_⟩ H2 ⟨rfl,k,hk,hkl,hse2⟩ hG2
   simp only at hk; subst hk
   dsimp only at hG2 ⊢
   refine dH (fun hlt2=> ?_) (fun hge2=> ?_)
   ·have hlt2:k<c.ps.length:=by omega
    have hy:c.ps[k]? =some c.ps[k]:=List.getElem?_eq_getElem hlt2
    rw[List.drop_eq_getElem_cons hlt2,List.cons_append,GL]at hse2
    generalize c.ps[k]=p at hy hse2
    refine bF (bf (T:=TP) hTP hp rfl hy rfl ?_)
    have next:xE B p=0->G2 ((IntKind.wrap .i64 ((k:Int)+1),()),()) H2:=fun hz=>by
     rw[if_neg (fun q=>q hz)]at hse2
     rw[dA (by omega) (by omega)]
     exact hG2 _ _ ⟨rfl,k+1,by simp,hlt2,hse2⟩ (by simp; omega)
    refine AO (fun hv=>next (KZ hv)) (fun hv=>KT h (dH (fun hn=> ?_) (fun hn=> ?_)))
    ·dsimp only at hn
     have:=Xk hv hn
     exact same 6 (by decide) (by rw[hse2,if_pos (by rw[this]; decide),this])
    ·dsimp only at hn
     obtain⟨i2,c2,q1,q2,q3⟩:=La hn
     have hi2:=(List.getElem?_eq_some_iff.1 q3).1
     obtain⟨g2,hg2,cr2⟩:=hc i2 c2 q3
     have hkd:g2.Kind=c2.g.Kind:=by rw[←cr2.e]; rfl
     have hce:=Lc hv q1 q3
     dsimp only
     rw[q2]
     refine⟨⟨by omega,by omega⟩,w.abN hg2 (by simp) ?_⟩
     rw[hkd]
     refine fV (fun e2=> ?_) (fun e2=>next (by rw[hce,if_neg e2]))
     rw[if_pos e2]at hce
     exact same 8 (by decide) (by rw[hse2,if_pos (by rw[hce]; decide),hce])
   ·rw[Ld (by omega)]at hse2
    rw[dA (by omega) (by omega)]
    exact hG _ _ ⟨rfl,i+1,by simp,hlt,hse2⟩ (by simp; omega)
  ·have hge:i=B.length:=by omega
   subst hge
   rw[hse,List.drop_length]; rfl
 rintro _ H2 ⟨rfl,e0⟩
 refine w.VI true rfl fun H9 w9 f9=> ?_
 have res:=hq H9 (by rw[e0]; exact⟨⟨cs,ns,w9,fun k d hk=>by obtain⟨g1,q1,q2⟩:=hc k d hk; exact⟨g1,q1,q2.cO f9 fun d hd=>by simp at hd; omega⟩⟩,few,lt,by have:=f9.1; omega⟩) f9
 rwa [e0]at res
end
end Go.Proofs.YtijnknjopjmiiaaGreatDoor.Zq
end
section
namespace Go.Proofs.YtijnknjopjmiiaaGreatDoor.Zq
open Zv
section
variable{H:Heap}{b m:Nat}{B:List Cd}{ms:List ak}{se:Bool}{s:Sl}{ns:List ByteArray}
def zC:ay:=⟨ByteArray.mk #[],0,0,0,0,0,0,false,⟨none,0,0⟩⟩
theorem tyC:Oz E TC 22 zC:=⟨⟨_,_,_,rfl,rfl,rfl,rfl,by decide,by decide,rfl⟩,by decide,YN,fun _=>rfl⟩
def Xl(se:Bool)(s:Sl)(ns:List ByteArray)(ms:List ak):List Value:=.bool true:: .bool se::s.v::(fl dG ns++fl TM ms)
structure RW(H:Heap)(b:Nat)(se:Bool)(s:Sl)(ns:List ByteArray)(ms:List ak):Prop where
 row:∃sz,H[b]? =some (.row (Xl se s ns ms) sz false false true)
 n:ns.length=9
 m:ms.length=5
theorem RW.cO{H':Heap}{F:List Nat}(h:RW H b se s ns ms)(f:bP F H H')(hb:b∉F):RW H' b se s ns ms:=by
 obtain⟨sz,r⟩:=h.row
 exact⟨⟨sz,f.get hb r⟩,h.n,h.m⟩
theorem RW.QB(h:RW H b se s ns ms){o:Nat}(ho:o=0){K:Bool->Prop}(hk:K true):LD ah H b o K:=by
 obtain⟨sz,r⟩:=h.row
 exact dO (T:=ah) true [] _ r rfl ho rfl hk
theorem RW.En(h:RW H b se s ns ms){o:Nat}(ho:o=1){K:Bool->Prop}(hk:K se):LD ah H b o K:=by
 obtain⟨sz,r⟩:=h.row
 exact dO (T:=ah) se [.bool true] _ r rfl ho rfl hk
theorem RW.NZ(h:RW H b se s ns ms){o:Nat}(ho:o=2){K:Sl->Prop}(hk:K s):LD aJ H b o K:=by
 obtain⟨sz,r⟩:=h.row
 exact dO (T:=aJ) s [.bool true,.bool se] _ r rfl ho rfl hk
theorem RW.aev(h:RW H b se s ns ms)(s':Sl){o:Nat}(ho:o=2){K:Heap->Prop}(hk:∀H',RW H' b se s' ns ms->bP [b] H H'->K H'):ST H b o [.slice s'.p s'.len s'.cap] K:=by
 obtain⟨sz,r⟩:=h.row
 exact pO [.bool true,.bool se] [s.v] _ r rfl ho rfl rfl (hk _ ⟨⟨sz,by rw[fD (dI r)]; rfl⟩,h.n,h.m⟩ (bP.set _ _ (by simp)))
theorem RW.VI(h:RW H b se s ns ms)(se':Bool){o:Nat}(ho:o=1){K:Heap->Prop}(hk:∀H',RW H' b se' s ns ms->bP [b] H H'->K H'):ST H b o [.bool se'] K:=by
 obtain⟨sz,r⟩:=h.row
 exact pO [.bool true] [.bool se] _ r rfl ho rfl rfl (hk _ ⟨⟨sz,by rw[fD (dI r)]; rfl⟩,h.n,h.m⟩ (bP.set _ _ (by simp)))
theorem RW.KU(h:RW H b se s ns ms){i:Nat}{x:ak}(hx:ms[i]? =some x):Xl se s ns ms=(.bool true:: .bool se::s.v::(fl dG ns++fl TM (ms.take i)))++(TM.cells x++fl TM (ms.drop (i+1)))∧(.bool true:: .bool se::s.v::(fl dG ns++fl TM (ms.take i)):List Value).length=12+i*4:=by
 have hi:=(List.getElem?_eq_some_iff.1 hx).1
 refine⟨?_,?_⟩
 ·unfold Xl
  rw[iF (T:=TM) ms i x hx]; simp[List.append_assoc]
 ·simp only[List.length_cons,List.length_append]
  rw[bW ac2,bW hTM,List.length_take,Nat.min_eq_left (by omega),h.n]
  show(9*1+i*4)+1+1+1=_; omega
theorem RW.Ep(h:RW H b se s ns ms){i:Nat}{x:ak}(hx:ms[i]? =some x){o:Nat}(ho:o=12+i*4){K:Int->Prop}(hk:K x.Mark):LD (au .u8) H b o K:=by
 obtain⟨sz,r⟩:=h.row
 obtain⟨e1,e2⟩:=h.KU hx
 exact dO (T:=au .u8) x.Mark _ ((TM.cells x).drop 1++fl TM (ms.drop (i+1))) r (by rw[e1]; rfl) (by rw[e2,ho]) rfl hk
theorem RW.Um(h:RW H b se s ns ms){i:Nat}{x:ak}(hx:ms[i]? =some x){o:Nat}(ho:o=12+i*4+1){K:ByteArray->Prop}(hk:K x.Name):LD dG H b o K:=by
 obtain⟨sz,r⟩:=h.row
 obtain⟨e1,e2⟩:=h.KU hx
 exact dO (T:=dG) x.Name ((.bool true:: .bool se::s.v::(fl dG ns++fl TM (ms.take i)))++[.int .u8 x.Mark]) ((TM.cells x).drop 2++fl TM (ms.drop (i+1))) r (by rw[e1]; simp[List.append_assoc]) (by rw[List.length_append,e2,ho]; rfl) rfl hk
theorem RW.KW(h:RW H b se s ns ms){i:Nat}(hi:i<5)(x:ak){o:Nat}(ho:o=12+i*4){K:Heap->Prop}(hk:∀H',RW H' b se s ns (ms.set i x)->bP [b] H H'->K H'):ST H b o (TM.cells x) K:=by
 obtain⟨sz,r⟩:=h.row
 have hm:=h.m
 have hx:ms[i]? =some ms[i]:=List.getElem?_eq_getElem (by omega)
 obtain⟨e1,e2⟩:=h.KU hx
 refine pO _ (TM.cells ms[i]) _ r e1 (by rw[e2,ho]) rfl rfl (hk _ ⟨⟨sz,?_⟩,h.n,by simpa using hm⟩ (bP.set _ _ (by simp)))
 rw[fD (dI r)]
 have hx2:(ms.set i x)[i]? =some x:=List.getElem?_set_self (by omega)
 have hb:RW (H.set b (.row (Xl se s ns (ms.set i x)) sz false false true)) b se s ns (ms.set i x):=⟨⟨sz,fD (dI r)⟩,h.n,by simpa using hm⟩
 rw[(hb.KU hx2).1,List.take_set_of_le (Nat.le_refl _),List.drop_set_of_lt (by omega)]
def CL(m:Nat)(H:Heap)(L:List ay)(B:List Cd):Prop:=L.length=B.length∧∀(k:Nat) d,B[k]? =some d->∃g,L[k]? =some g∧CR m H g d
theorem CL.cO{H':Heap}{F:List Nat}{L:List ay}(h:CL m H L B)(f:bP F H H')(hF:∀d∈F,d<m):CL m H' L B:=
 ⟨h.1,fun k d hk=>by obtain⟨g,q1,q2⟩:=h.2 k d hk; exact⟨g,q1,q2.cO f hF⟩⟩
structure BD(m:Nat)(H:Heap)(b:Nat)(se:Bool)(B:List Cd)(ms:List ak):Prop where
 w:∃s gs ns,RW H b se s ns ms∧eY TC H s gs∧(∀d∈bl s.p,m≤d)∧CL m H gs B
 few:B.length≤64
 lt:b<m
 ml:m≤H.length
theorem QE{T:Tag}{H H':Heap}{s:Sl}{l:List T.α}{F:List Nat}(h:eY T H s l)(lo:∀d∈bl s.p,m≤d)(f:bP F H H')(hF:∀d∈F,d<m):eY T H' s l:=
 h.cO f fun d hd o e=>by have:=lo d (by rw[e]; simp[bl]); have:=hF d hd; omega
theorem BD.cO{H':Heap}{F:List Nat}(h:BD m H b se B ms)(f:bP F H H')(hF:∀d∈F,d<m∧d≠b):BD m H' b se B ms:=by
 obtain⟨⟨s,gs,ns,w,hs,lo,hc⟩,h2,h3,h4⟩:=h
 exact⟨⟨s,gs,ns,w.cO f fun hm=>(hF b hm).2 rfl,QE hs lo f fun d hd=>(hF d hd).1,lo,hc.cO f fun d hd=>(hF d hd).1⟩,h2,h3,by have:=f.1; omega⟩
theorem BD.new{H':Heap}(h:BD m H b se B ms)(f:bP [] H H'):BD m H' b se B ms:=h.cO f (by simp)
theorem adA{Q:(Option Addr)×Unit->Heap->Prop}(hq:∀H',(∀m,H.length<m->m≤H'.length->BD m H' H.length false [] (List.replicate 5 ⟨0,ByteArray.mk #[],0,0⟩))->bP [] H H'->H'.length=H.length+1->Q (some ⟨H.length,0,none⟩,()) H'):CALL P [dJ] yG [] H Q:=by
 apply Tt
 unfold yP
 refine hq _ (fun m h1 h2=>⟨⟨⟨none,0,0⟩,[],List.replicate 9 (ByteArray.mk #[]),⟨⟨32,?_⟩,rfl,rfl⟩,⟨rfl,.inl ⟨rfl,rfl,rfl⟩⟩,by simp[bl],⟨rfl,fun k d h=>by simp at h⟩⟩,by simp,h1,h2⟩) (bP.app _ _ _) (by show(H++[_]).length=_; rw[List.length_append]; rfl)
 show(H++[_])[H.length]? =_
 rw[List.getElem?_append_right (Nat.le_refl _),Nat.sub_self]
 rfl
theorem IE(h:BD m H b se B ms){Q:Bool×Unit->Heap->Prop}(hq:Q (false,()) H):CALL P [ah] fF [.pointer (some ⟨b,0,none⟩)] H Q:=by
 obtain⟨⟨s,gs,ns,w,_⟩,_⟩:=h
 apply Ec
 unfold l9
 exact bF (bI rfl (w.QB rfl hq))
theorem Ym(h:BD m H b se B ms){Q:Bool×Unit->Heap->Prop}(hq:Q (se,()) H):CALL P [ah] jO [.pointer (some ⟨b,0,none⟩)] H Q:=by
 apply Af
 unfold jT
 refine bF (IE h (iJ rfl ?_))
 obtain⟨⟨s,gs,ns,w,_⟩,_⟩:=h
 exact w.En rfl hq
theorem ZV{g h:ay}{c d:Cd}(hg:bare g=c.g)(hh:bare h=d.g){Q:Bool×Unit->Heap->Prop}(hq:∀r:Bool,(r=true↔C9 c d=true)->Q (r,()) H):CALL P [ah] tu [TC.enc g,TC.enc h] H Q:=by
 apply Nb
 unfold um
 obtain⟨c,cp⟩:=c
 obtain⟨d,dp⟩:=d
 simp only at hg hh; subst hg; subst hh
 have key:=Ul g h cp dp
 refine JD (H:=H) (C9 ⟨bare g,cp⟩ ⟨bare h,dp⟩=true) (fun j hj=>dH (fun e=>hj _ ?_) (fun e=>fV (fun e2=>hj _ ?_) (fun e2=>hj _ ?_))) (hq _ (by simp))
 ·rw[key]; simp[e]
 ·rw[key]; simp[e2]
 ·rw[key]; simp[e2]; omega
theorem abR{g:ay}{ps:List Pt}(hs:eY TP H g.Parts ps)(hl:ps.length≤1048600){Q:ay×Unit->Heap->Prop}(hq:∀s H',eY TP H' s ps->(∀d∈bl s.p,H.length≤d)->bP [] H H'->Q ({ g with Parts:=s },()) H'):CALL P [TC] lQ [TC.enc g] H Q:=by
 apply Qb
 unfold wK
 exact PG tyP rfl (fun _=>by simp) hs hl fun s' H' sp n=>hq s' H' n.1.rC (nbl n) n.2.2
theorem Un{g:ay}{ps:List Pt}(hs:eY TP H g.Parts ps)(hl:ps.length≤1048600){Q:ay×Unit->Heap->Prop}(hq:∀s H',eY TP H' s ps->(∀d∈bl s.p,H.length≤d)->bP [] H H'->Q ({ g with Parts:=s },()) H'):CALL P [TC] lJ [TC.enc g] H Q:=by
 apply JW
 unfold qK
 apply Hg
 unfold oW
 exact PG tyP rfl (fun _=>by simp) hs hl fun s' H' sp n=>hq s' H' n.1.rC (nbl n) n.2.2
theorem ZW{s:Sl}{gs:List ay}(h:eY TC H s gs){n:Nat}{g:ay}(hx:gs[n]? =some g){K:ByteArray->Prop}(hk:K g.Name):dw s.p s.len (n:Int) 9 fun b o=>LD dG H b (o+0) K:=by
 have hl:=(List.getElem?_eq_some_iff.1 hx).1
 obtain⟨h1,⟨_,h2,_⟩|⟨_,_,_,h2,_⟩|⟨b,A,B,z,o,ro,h3,h4⟩⟩:=h
 ·subst h2; simp at hl
 ·subst h2; simp at hl
 ·unfold dw NIL
  rw[h3]
  refine⟨⟨by omega,by omega⟩,?_⟩
  refine dO (T:=dG) g.Name (A++fl TC (gs.take n)) ((TC.cells g).drop 1++(fl TC (gs.drop (n+1))++B)) h4 ?_ ?_ rfl hk
  ·rw[iF (T:=TC) gs n g hx]; simp[List.append_assoc]
  ·rw[List.length_append,bW YN,List.length_take,Nat.min_eq_left (by omega),Int.toNat_natCast]; rfl
theorem ZX{s:Sl}{gs:List ay}(h:eY TC H s gs){n:Nat}{g:ay}(hx:gs[n]? =some g){K:Int->Prop}(hk:K g.Kind):dw s.p s.len (n:Int) 9 fun b o=>LD (au .u8) H b (o+2) K:=by
 have hl:=(List.getElem?_eq_some_iff.1 hx).1
 obtain⟨h1,⟨_,h2,_⟩|⟨_,_,_,h2,_⟩|⟨b,A,B,z,o,ro,h3,h4⟩⟩:=h
 ·subst h2; simp at hl
 ·subst h2; simp at hl
 ·unfold dw NIL
  rw[h3]
  refine⟨⟨by omega,by omega⟩,?_⟩
  refine dO (T:=au .u8) g.Kind (A++(fl TC (gs.take n)++[.string g.Name,.int .u8 g.Suit])) ((TC.cells g).drop 3++(fl TC (gs.drop (n+1))++B)) h4 ?_ ?_ rfl hk
  ·rw[iF (T:=TC) gs n g hx]; simp[List.append_assoc]
  ·rw[List.length_append,List.length_append,bW YN,List.length_take,Nat.min_eq_left (by omega),Int.toNat_natCast]
   show A.length+n*9+2=A.length+(n*9+2); omega
theorem F7{s:Sl}{gs:List ay}(h:eY TC H s gs){n:Nat}{g:ay}(hx:gs[n]? =some g){K:Sl->Prop}(hk:K g.Parts):dw s.p s.len (n:Int) 9 fun b o=>LD aJ H b (o+8) K:=by
 have hl:=(List.getElem?_eq_some_iff.1 hx).1
 obtain⟨h1,⟨_,h2,_⟩|⟨_,_,_,h2,_⟩|⟨b,A,B,z,o,ro,h3,h4⟩⟩:=h
 ·subst h2; simp at hl
 ·subst h2; simp at hl
 ·unfold dw NIL
  rw[h3]
  refine⟨⟨by omega,by omega⟩,?_⟩
  refine dO (T:=aJ) g.Parts (A++(fl TC (gs.take n)++(TC.cells g).take 8)) (fl TC (gs.drop (n+1))++B) h4 ?_ ?_ rfl hk
  ·rw[iF (T:=TC) gs n g hx]; simp[List.append_assoc]
  ·rw[List.length_append,List.length_append,bW YN,List.length_take,Nat.min_eq_left (by omega),Int.toNat_natCast]
   show A.length+n*9+8=A.length+(n*9+8); omega
theorem Uo(h:BD m H b se B ms){t:ByteArray}{Q:Int×Unit->Heap->Prop}(hq:Q (nJ B t,()) H):CALL P [au .i64] iM [.pointer (some ⟨b,0,none⟩),.string t] H Q:=by
 apply CG
 unfold kU
 obtain⟨⟨s,gs,ns,w,hs,lo,hc⟩,few,_⟩:=h
 have hsl:=hs.1
 have hgl:=hc.1
 refine bF ?_
 refine bG (fun(u:(Int×Unit)×Unit) H'=>H'=H∧∃n:Nat,u.1.1=n∧n≤B.length∧∀(j:Nat) x,j<n->B[j]? =some x->(x.g.Name.toList==t.toList)=false) (fun u=>B.length-u.1.1.toNat) ?_ ⟨rfl,0,rfl,Nat.zero_le _,fun j x hj=>by omega⟩
 rintro G ⟨⟨i,_⟩,_⟩ H' ⟨rfl,n,hi,hn,hno⟩ hG
 simp only at hi; subst hi
 dsimp only at hG ⊢
 refine w.NZ rfl (dH (fun hlt=>w.NZ rfl ?_) (fun hge=> ?_))
 ·have hlt:n<B.length:=by omega
  have hx:B[n]? =some B[n]:=List.getElem?_eq_getElem hlt
  generalize B[n]=c at hx
  obtain⟨g,hg,cr⟩:=hc.2 n c hx
  have hnm:g.Name=c.g.Name:=by rw[←cr.e]; rfl
  refine ZW hs hg ?_
  rw[hnm]
  refine bT (fun e=> ?_) (fun e=> ?_)
  ·rw[OH hno hx e]at hq; exact hq
  ·rw[dA (by omega) (by omega)]
   refine hG _ _ ⟨rfl,n+1,by simp,hlt,fun j x hj hy=> ?_⟩ (by simp; omega)
   by_cases ej:j=n
   ·subst ej; rw[hx]at hy; cases hy; exact e
   ·exact hno j x (by omega) hy
 ·have hge:n=B.length:=by omega
  subst hge
  rw[GK hno]at hq; exact hq
end
end Go.Proofs.YtijnknjopjmiiaaGreatDoor.Zq
end
section
namespace Go.Proofs.YtijnknjopjmiiaaGreatDoor.Zq
open Zv
section
variable{H:Heap}{b m:Nat}{B:List Cd}{ms:List ak}{se:Bool}{s:Sl}{ns:List ByteArray}
theorem QF{T:Tag}{s:Sl}{l:List T.α}(h:eY T H s l){x off:Nat}(e:s.p=some ⟨x,off,none⟩):x<H.length:=by
 obtain⟨_,⟨q,_⟩|⟨c,o,q,_⟩|⟨c,A,D,sz,o,ro,q,r⟩⟩:=h
 ·rw[q]at e; cases e
 ·rw[q]at e; cases e
 ·rw[q]at e; cases e; exact dI r
theorem RW.lt'(h:RW H b se s ns ms):b<H.length:=by obtain⟨sz,r⟩:=h.row; exact dI r
structure Ro(m:Nat)(H0 H:Heap)(out:Sl)(L:List ay)(Bl:List Cd):Prop where
 n:∃sp,bJ TC H0 out H L sp
 len:L.length=Bl.length
 c:∀(k:Nat) d,Bl[k]? =some d->∃g,L[k]? =some g∧CR m H g d∧∀x off,g.Parts.p=some ⟨x,off,none⟩->out.p≠some ⟨x,0,none⟩
theorem Ro.nil(m:Nat)(H:Heap):Ro m H H ⟨none,0,0⟩ [] []:=⟨⟨[],Ow.nil TC H,by simp,.refl _ _⟩,rfl,fun k d h=>by simp at h⟩
theorem Ro.fr{H0 H':Heap}{out:Sl}{L:List ay}{Bl:List Cd}(h:Ro m H0 H' out L Bl):bP [] H0 H':=by obtain⟨sp,n⟩:=h.n; exact n.2.2
theorem Ro.new{H0 H1 H2:Heap}{out:Sl}{L:List ay}{Bl:List Cd}(h:Ro m H0 H1 out L Bl)(f:bP [] H1 H2):Ro m H0 H2 out L Bl:=by
 obtain⟨⟨sp,n⟩,h2,h3⟩:=h
 exact⟨⟨sp,n.1.cO f (by simp[Sl.off]),n.2.1,n.2.2.trans f⟩,h2,fun k d hk=>by obtain⟨g,q1,q2,q3⟩:=h3 k d hk; exact⟨g,q1,q2.cO f (by simp),q3⟩⟩
theorem CR.after{H1 H2:Heap}{out:Sl}{g:ay}{d:Cd}(h:CR m H1 g d)(a:After out H1 H2)(ap:∀x off,g.Parts.p=some ⟨x,off,none⟩->out.p≠some ⟨x,0,none⟩):CR m H2 g d:=by
 refine⟨h.e,?_,h.lo⟩
 by_cases hq:∃d,out.p=some ⟨d,0,none⟩
 ·obtain⟨d0,hd0⟩:=hq
  refine h.p.cO (a.cO (B:=[d0]) fun d hd=>by rw[hd0]at hd; cases hd; simp) fun x hx o e=> ?_
  simp at hx; subst hx
  exact ap _ o e hd0
 ·exact h.p.cO (a.cO (B:=[]) fun d hd=>absurd ⟨d,hd⟩ hq) (by simp)
theorem Ro.app{H0 H1:Heap}{out:Sl}{L:List ay}{Bl:List Cd}(h:Ro m H0 H1 out L Bl){g:ay}{d:Cd}(cr:CR m H1 g d)(ap:∀x off,g.Parts.p=some ⟨x,off,none⟩->out.p≠some ⟨x,0,none⟩)(hl:Bl.length≤100){K:Sl->Heap->Prop}
  (hk:∀s' H2,Ro m H0 H2 s' (L++[g]) (Bl++[d])->K s' H2):EW aJ (lenV out.v+1) (fC E [22,22] out.v 1 (TC.cells g) H1) K:=by
 obtain⟨⟨sp,n⟩,h2,h3⟩:=h
 refine JA tyC rfl (fun _=>by simp) (m:=1) [g] rfl (by simp[fl]) (by show 2*(L.length+1)*4096≤_; omega) n.1 fun s2 H2 sp2 k1 k2 k3=>hk s2 H2 ⟨⟨sp2,n.app k1 k2 k3⟩,by simp[h2],fun k d' hk'=> ?_⟩
 have far:∀(g':ay) d',CR m H1 g' d'->(∀x off,g'.Parts.p=some ⟨x,off,none⟩->out.p≠some ⟨x,0,none⟩)->∀x off,g'.Parts.p=some ⟨x,off,none⟩->s2.p≠some ⟨x,0,none⟩:=fun g' d' c' a' x off e e2=>by
  rcases k2 with q|⟨q,_⟩
  ·exact a' x off e (by rw[←q]; exact e2)
  ·rw[q]at e2
   have:=QF c'.p e
   cases e2; omega
 by_cases e:k<Bl.length
 ·rw[List.getElem?_append_left e]at hk'
  obtain⟨g',q1,q2,q3⟩:=h3 k d' hk'
  exact⟨g',by rw[List.getElem?_append_left (by omega)]; exact q1,q2.after k3 q3,far g' d' q2 q3⟩
 ·have hkl:=(List.getElem?_eq_some_iff.1 hk').1
  simp at hkl
  have ek:k=Bl.length:=by omega
  subst ek
  simp at hk'; subst hk'
  exact⟨g,by rw[←h2]; simp,cr.after k3 ap,far g d cr ap⟩
def Std(c:Cd)(B:List Cd)(i:Nat)(put:Bool)(Bl:List Cd):Prop:=
 (put=false∧Bl=B.take i∧∀(j:Nat) d,j<i->B[j]? =some d->C9 c d=false)∨
 (put=true∧∃p,p<i∧Bl=B.take p++c::(B.take i).drop p∧(∀(j:Nat) d,j<p->B[j]? =some d->C9 c d=false)∧∀d,B[p]? =some d->C9 c d=true)
theorem Std.len{c:Cd}{i:Nat}{put:Bool}{Bl:List Cd}(h:Std c B i put Bl)(hi:i≤B.length):Bl.length≤i+1:=by
 rcases h with⟨_,rfl,_⟩|⟨_,p,hp,rfl,_⟩
 ·simp; omega
 ·simp; omega
theorem take_drop_succ{α:Type}{l:List α}{i p:Nat}(hi:i<l.length)(hp:p≤i):(l.take (i+1)).drop p=(l.take i).drop p++[l[i]]:=by
 rw[List.take_succ_eq_append_getElem hi,List.drop_append_of_le_length (by simp; omega)]
theorem Std.fin{c:Cd}{put:Bool}{Bl:List Cd}(h:Std c B B.length put Bl):insL C9 c B=if put=true then Bl else Bl++[c]:=by
 rcases h with⟨rfl,rfl,h3⟩|⟨rfl,p,hp,rfl,h3,h4⟩
 ·rw[if_neg (by decide),List.take_length]
  rw[OB (lt:=C9) (i:=B.length) (Nat.le_refl _) (fun j hj hji=>h3 j _ hj (List.getElem?_eq_getElem hj)) (fun h=>by omega)]
  simp
 ·rw[if_pos rfl,List.take_length]
  exact OB (lt:=C9) (by omega) (fun j hj hji=>h3 j _ hji (List.getElem?_eq_getElem hj)) (fun h=>h4 _ (List.getElem?_eq_getElem h))
theorem abS(h:BD m H b false B ms){g:ay}{ps:List Pt}(ok:OkG g)(hs:eY TP H g.Parts ps)(op:∀p∈ps,OkP p){Q:Int×Unit->Heap->Prop}
  (hq:∀H',BD m H' b false (BM B ⟨bare g,ps⟩) ms->bP [b] H H'->Q (zY B ⟨bare g,ps⟩,()) H'):CALL P [au .i64] lK [.pointer (some ⟨b,0,none⟩),TC.enc g] H Q:=by
 apply DV
 unfold lW
 have hcc:xI ⟨g,ps⟩=xI ⟨bare g,ps⟩:=rfl
 generalize hc0:(⟨bare g,ps⟩:Cd)=c at hq hcc
 have cg:bare g=c.g:=by rw[←hc0]
 have cps:ps=c.ps:=by rw[←hc0]
 have cnm:c.g.Name=g.Name:=by rw[←cg]; rfl
 have same:∀e:Int,e≠0->zY B c=e->Q (e,()) H:=fun e he ha=>by
  have a:BM B c=B:=by unfold BM; rw[if_neg (by rw[ha]; exact he)]
  have:=hq H (by rw[a]; exact h) (.refl _ _)
  rwa [ha]at this
 have few:=h.few
 refine IE h (bI rfl ?_)
 obtain⟨⟨s,gs,ns,w,hsl,slo,hc⟩,_,lt,ml⟩:=id h
 have hsl1:=hsl.1
 have hgl:=hc.1
 refine w.En rfl (bI rfl (Yk ok hs op (AO (fun h1=> ?_) (fun h1=> ?_))))
 ·dsimp only at h1
  rw[hcc]at h1
  dsimp only; rw[hcc]
  exact same _ h1 (by unfold zY; rw[if_pos h1])
 dsimp only at h1
 rw[hcc]at h1
 refine Uo h (dH (fun h2=> ?_) (fun h2=> ?_))
 ·dsimp only at h2
  refine same 5 (by decide) ?_
  unfold zY
  rw[if_neg (fun q=>q h1),if_pos (by rw[cnm]; exact zO.1 h2)]
 dsimp only at h2
 have hnin:¬(jR B c.g.Name).isSome=true:=fun q=>h2 (zO.2 (by rw[←cnm]; exact q))
 refine w.NZ rfl (dH (fun h3=> ?_) (fun h3=> ?_))
 ·refine same 14 (by decide) ?_
  unfold zY
  rw[if_neg (fun q=>q h1),if_neg hnin,if_pos (by omega)]
 have e0:zY B c=0:=by unfold zY; rw[if_neg (fun q=>q h1),if_neg hnin,if_neg (by omega)]
 have hps4:ps.length≤4:=by
  have:zX c=0:=by
   unfold xI at h1
   by_cases hf:zX c=0
   ·exact hf
   ·rw[if_neg hf]at h1; exact h1
  rw[cps]; exact qH this
 have copy:∀{H1:Heap} {out:Sl} {L:List ay} {Bl:List Cd} {K:Sl->Heap->Prop},Ro m H H1 out L Bl->Bl.length≤100->(∀s' H2 L',Ro m H H2 s' L' (Bl++[c])->K s' H2)->CALL P [TC] lQ [TC.enc g] H1 fun(x28:ay×Unit) H9=>EW aJ (lenV out.v+1) (fC E [22,22] out.v 1 (TC.cells x28.1) H9) K:=by
  intro H1 out L Bl K bd hbl hK
  have hH1:=bd.fr.1
  refine abR (hs.cO bd.fr (by simp)) (by omega) fun s' H9 hs9 lo9 f9=> ?_
  have crn:CR m H9 { g with Parts:=s' } c:=⟨by rw[←cg]; rfl,by rw[←cps]; exact hs9,fun d hd=>by have:=lo9 d hd; omega⟩
  refine(bd.new f9).app crn (fun x off e e2=> ?_) hbl fun s2 H2 bd2=>hK s2 H2 _ bd2
  obtain⟨sp,n⟩:=bd.n
  have:=n.1.lt e2
  have:=lo9 x (by rw[e]; simp[bl])
  omega
 have old:∀{H1:Heap} {out:Sl} {L:List ay} {Bl:List Cd} {i:Nat} {g1:ay} {d:Cd} {K:Sl->Heap->Prop},Ro m H H1 out L Bl->Bl.length≤100->gs[i]? =some g1->CR m H g1 d->(∀s' H2 L',Ro m H H2 s' L' (Bl++[d])->K s' H2)->EW aJ (lenV out.v+1) (fC E [22,22] out.v 1 (TC.cells g1) H1) K:=by
  intro H1 out L Bl i g1 d K bd hbl hg1 cr hK
  refine bd.app (cr.cO bd.fr (by simp)) (fun x off e e2=> ?_) hbl fun s2 H2 bd2=>hK s2 H2 _ bd2
  obtain⟨sp,n⟩:=bd.n
  have:=n.2.1 x e2
  have:=QF cr.p e
  omega
 refine aS (fun y H'=>∃L Bl,Ro m H H' (y:(Sl×Bool×Unit)×Unit).1.1 L Bl∧Std c B B.length y.1.2.1 Bl) (fun j hj=> ?_) ?_
 ·refine bG (fun(t:(Sl×Bool×Int×Unit)×Unit) H'=>∃(i:Nat) (L:List ay) (Bl:List Cd),t.1.2.2.1=i∧i≤B.length∧Ro m H H' t.1.1 L Bl∧Std c B i t.1.2.1 Bl) (fun t=>B.length-t.1.2.2.1.toNat) ?_ ⟨0,[],[],rfl,Nat.zero_le _,.nil m H,.inl ⟨rfl,by simp,fun j d hj=>by omega⟩⟩
  rintro G ⟨⟨out,put,i,_⟩,_⟩ H' ⟨i,L,Bl,hi,hil,bd,st⟩ hG
  simp only at hi bd st; subst hi
  dsimp only at hG ⊢
  have f':=bd.fr
  have w':=w.cO f' (by simp)
  have hs':=hsl.cO f' (by simp)
  have hbl:=st.len hil
  refine w'.NZ rfl (dH (fun hlt=> ?_) (fun hge=> ?_))
  ·have hlt:i<B.length:=by omega
   have hx:B[i]? =some B[i]:=List.getElem?_eq_getElem hlt
   have tds:∀p,p≤i->(B.take (i+1)).drop p=(B.take i).drop p++[B[i]]:=fun p hp=>take_drop_succ hlt hp
   have tks:B.take (i+1)=B.take i++[B[i]]:=List.take_succ_eq_append_getElem hlt
   generalize B[i]=d at hx tds tks
   obtain⟨g1,hg1,cr1⟩:=hc.2 i d hx
   refine JD (H:=H') (put=false∧C9 c d=true) (fun j2 hj2=> ?_) ?_
   ·cases put with
    |true=>exact bI rfl (hj2 _ (by simp))
    |false=>exact iJ rfl (w'.NZ rfl (bf (T:=TC) YN hs' rfl hg1 rfl (ZV cg cr1.e fun r hr=>hj2 _ (by simpa using hr))))
   ·refine aS (fun y H8=>∃L' Bl',Ro m H H8 (y:(Sl×Bool×Unit)×Unit).1.1 L' Bl'∧Bl'.length≤90∧Std c B (i+1) y.1.2.1 (Bl'++[d])) (fun j3 hj3=> ?_) ?_
    ·refine dH (fun hy=> ?_) (fun hy=>hj3 _ _ ⟨L,Bl,bd,by omega,?_⟩)
     ·obtain⟨hp,ha⟩:=hy
      subst hp
      refine copy bd (by omega) fun s' H2 L' bd2=>hj3 _ _ ⟨L',_,bd2,by simp; omega,?_⟩
      rcases st with⟨_,rfl,k3⟩|⟨k,_⟩
      ·refine .inr ⟨rfl,i,by omega,?_,k3,fun d' hd'=>by rw[hx]at hd'; cases hd'; exact ha⟩
       rw[tds i (Nat.le_refl _),List.drop_eq_nil_of_le (by simp; omega)]; simp
      ·cases k
     ·rcases st with⟨k1,rfl,k3⟩|⟨k1,p,hp,rfl,k3,k4⟩
      ·refine .inl ⟨k1,tks.symm,fun j d' hj hd'=> ?_⟩
       by_cases ej:j=i
       ·subst ej; rw[hx]at hd'; cases hd'
        cases ha:C9 c d with
        |false=>rfl
        |true=>exact absurd ⟨k1,ha⟩ hy
       ·exact k3 j d' (by omega) hd'
      ·refine .inr ⟨k1,p,by omega,?_,k3,k4⟩
       rw[tds p (by omega)]; simp
    ·rintro⟨⟨out2,put2,_⟩,_⟩ H8 ⟨L2,Bl2,bd2,hb2,st2⟩
     simp only at bd2 st2
     dsimp only
     have f8:=bd2.fr
     refine(w.cO f8 (by simp)).NZ rfl (bf (T:=TC) YN (hsl.cO f8 (by simp)) rfl hg1 rfl (old bd2 (by omega) hg1 cr1 fun s' H2 L' bd3=> ?_))
     rw[dA (by omega) (by omega)]
     exact hG _ _ ⟨i+1,_,_,by simp,hlt,bd3,st2⟩ (by simp; omega)
  ·have hge:i=B.length:=by omega
   subst hge
   exact hj _ _ ⟨L,Bl,bd,st⟩
 rintro⟨⟨out,put,_⟩,_⟩ H4 ⟨L,Bl,bd,st⟩
 simp only at bd st
 dsimp only
 have hbl:=st.len (Nat.le_refl _)
 have hfin:=st.fin
 refine aS (fun y H'=>∃L',Ro m H H' (y:(Sl×Unit)×Unit).1.1 L' (insL C9 c B)) (fun j hj=> ?_) ?_
 ·cases put with
  |false=>
   rw[if_neg (by decide)]at hfin
   exact iJ rfl (copy bd (by omega) fun s' H2 L' bd2=>hj _ _ ⟨L',by rw[hfin]; exact bd2⟩)
  |true=>
   rw[if_pos rfl]at hfin
   exact bI rfl (hj _ _ ⟨L,by rw[hfin]; exact bd⟩)
 rintro⟨⟨out2,_⟩,_⟩ H12 ⟨L',bd2⟩
 simp only at bd2
 dsimp only
 have f12:=bd2.fr
 refine(w.cO f12 (by simp)).aev out2 (by simp) fun H15 w15 f15=> ?_
 have ea:BM B c=insL C9 c B:=by unfold BM; rw[if_pos e0]
 have fr:bP [b] H H15:=(f12.mono (by simp)).trans f15
 obtain⟨sp,n⟩:=bd2.n
 have hbl:=w.lt'
 have res:=hq H15 (by
  rw[ea]
  refine⟨⟨out2,L',ns,w15,?_,fun d hd=>by have:=nbl n d hd; omega,bd2.len,fun k d hk=> ?_⟩,by rw[S9]; omega,lt,by have:=fr.1; omega⟩
  ·refine n.1.rC.cO f15 fun d hd o e=> ?_
   simp at hd; subst hd
   have:=nbl n d (by rw[e]; simp[bl]); omega
  ·obtain⟨g',q1,q2,_⟩:=bd2.c k d hk
   exact⟨g',q1,q2.cO f15 fun d hd=>by simp at hd; omega⟩) fr
 rwa [e0]at res
end
end Go.Proofs.YtijnknjopjmiiaaGreatDoor.Zq
end
section
namespace Go.Proofs.YtijnknjopjmiiaaGreatDoor.Zq
open Zv
section
variable{H:Heap}{b m:Nat}{B:List Cd}{ms:List ak}
theorem abT(h:BD m H b false B ms)(h0:∀y,ms[0]? =some y->y.Name.toList=[]){x:ak}{Q:Int×Unit->Heap->Prop}(hq:∀H',BD m H' b false B (G6 ms x)->bP [b] H H'->Q (DK ms x,()) H'):CALL P [au .i64] lM [.pointer (some ⟨b,0,none⟩),TM.enc x] H Q:=by
 apply DY
 unfold lX
 have e:=KY ms x
 have same:∀r:Int,r≠0->DK ms x=r->Q (r,()) H:=fun r hr hm=>by
  have a:G6 ms x=ms:=by unfold G6; rw[if_neg (by rw[hm]; exact hr)]
  have:=hq H (by rw[a]; exact h) (.refl _ _)
  rwa [hm]at this
 refine IE h (bI rfl ?_)
 obtain⟨⟨s,gs,ns,w,hsl,slo,hc⟩,few,lt,ml⟩:=id h
 refine w.En rfl (bI rfl ?_)
 refine hJ (badM x) (fun j hj=> ?_) (fun h1=>same 2 (by decide) (by rw[e,if_pos h1])) (fun h1=> ?_)
 ·unfold badM at hj
  exact dH (fun h=>hj _ (by simp; omega)) (fun h=>dH (fun h=>hj _ (by simp; omega)) (fun h=>dH (fun h=>hj _ (by simp; omega)) (fun h=>dH (fun h=>hj _ (by simp; omega)) (fun h=>dH (fun h=>hj _ (by simp; omega)) (fun h=>hj _ (by simp; omega))))))
 rw[if_neg h1]at e
 have hr:1≤x.Mark∧x.Mark≤4:=by unfold badM at h1; omega
 refine ZL (Qy (fun h2=>same 4 (by decide) (by rw[e,if_pos h2])) (fun h2=> ?_))
 rw[if_neg (fun q=>q h2)]at e
 have hm5:=w.m
 have hnm:x.Name.toList≠[]:=by
  rw[ByteArray.toList_eq]
  intro q
  have:=h2.1
  rw[q]at this; simp at this
 refine aS (fun _ H'=>H'=H∧∀(j:Nat) y,1≤j->ms[j]? =some y->¬((j:Int)=x.Mark∧y.Mark≠0)∧y.Name.toList≠x.Name.toList) (fun j hj=> ?_) ?_
 ·refine bG (fun(t:(Int×Unit)×Unit) H'=>H'=H∧∃n:Nat,t.1.1=n∧1≤n∧n≤5∧∀(j:Nat) y,1≤j->j<n->ms[j]? =some y->¬((j:Int)=x.Mark∧y.Mark≠0)∧y.Name.toList≠x.Name.toList) (fun t=>5-t.1.1.toNat) ?_ ⟨rfl,1,rfl,by omega,by omega,fun j y h1 h2=>by omega⟩
  rintro G ⟨⟨i,_⟩,_⟩ H' ⟨rfl,n,hi,hn1,hn5,hno⟩ hG
  simp only at hi; subst hi
  dsimp only at hG ⊢
  refine dH (fun hlt=> ?_) (fun hge=>hj _ _ ⟨rfl,fun j y q1 q2=>hno j y q1 (by have:=(List.getElem?_eq_some_iff.1 q2).1; omega) q2⟩)
  have hlt:n<5:=by omega
  have hy:ms[n]? =some (ms[n]'(by omega)):=List.getElem?_eq_getElem (by omega)
  generalize (ms[n]'(by omega))=y at hy
  have hw8:IntKind.wrap .u8 (n:Int)=n:=by rcases(by omega:n=1∨n=2∨n=3∨n=4)with rfl|rfl|rfl|rfl<;>decide
  rw[hw8]
  have hA:(0:Int)≤n∧(n:Int)<5:=by omega
  have bad:((n:Int)=x.Mark∧y.Mark≠0)∨y.Name.toList=x.Name.toList->QD ms x:=fun q=>by
   rcases q with⟨q1,q2⟩|q
   ·exact .inl ⟨y,by rw[show x.Mark.toNat=n by omega]; exact hy,q2⟩
   ·exact .inr ⟨y,List.mem_of_getElem? hy,q⟩
  refine hJ (((n:Int)=x.Mark∧y.Mark≠0)∨y.Name.toList=x.Name.toList) (fun j2 hj2=>fV (fun e1=>⟨hA,w.Ep hy (by simp) (AO (fun e2=>hj2 _ (by simp[e1,e2])) (fun e2=>⟨hA,w.Um hy (by simp) (hj2 _ (by simp[e2]))⟩))⟩) (fun e1=>⟨hA,w.Um hy (by simp) (hj2 _ (by simp[e1]))⟩)) (fun q=>same 5 (by decide) (by rw[e,if_pos (bad q)])) (fun q=> ?_)
  rw[dA (by omega) (by omega)]
  refine hG _ _ ⟨rfl,n+1,by simp,by omega,by omega,fun j z q1 q2 q3=> ?_⟩ (by simp; omega)
  by_cases ej:j=n
  ·subst ej; rw[hy]at q3; cases q3
   exact⟨fun k=>q (.inl k),fun k=>q (.inr k)⟩
  ·exact hno j z q1 (by omega) q3
 rintro _ H4 ⟨rfl,hno⟩
 have e0:DK ms x=0:=by
  rw[e,if_neg]
  rintro(⟨z,hz,q⟩|⟨z,hz,q⟩)
  ·exact(hno x.Mark.toNat z (by omega) hz).1 ⟨by omega,q⟩
  ·obtain⟨j,hj⟩:=List.mem_iff_getElem?.1 hz
   by_cases ej:j=0
   ·subst ej; rw[h0 z hj]at q; exact hnm q.symm
   ·exact(hno j z (by omega) hj).2 q
 refine⟨⟨by omega,by omega⟩,w.KW (i:=x.Mark.toNat) (by omega) x (by simp) fun H7 w7 f7=> ?_⟩
 have ea:G6 ms x=ms.set x.Mark.toNat x:=by unfold G6; rw[if_pos e0]
 have hF:∀d∈[b],d<m:=fun d hd=>by simp at hd; omega
 have res:=hq H7 ⟨⟨s,gs,ns,by rw[ea]; exact w7,QE hsl slo f7 hF,slo,hc.cO f7 hF⟩,few,lt,by have:=f7.1; omega⟩ f7
 rwa [e0]at res
theorem abU(h:BD m H b false B ms){Q:Int×Unit->Heap->Prop}(okB:G5 B)(hq:∀H',BD m H' b (decide (sD B=0)) B ms->bP [b] H H'->Q (sD B,()) H'):CALL P [au .i64] lN [.pointer (some ⟨b,0,none⟩)] H Q:=by
 apply D6
 unfold lY
 have same:∀r:Int,r≠0->sD B=r->Q (r,()) H:=fun r hr e=>by
  have:=hq H (by rw[e,decide_eq_false hr]; exact h) (.refl _ _)
  rwa [e]at this
 refine IE h (bI rfl ?_)
 obtain⟨⟨s,gs,ns,w,hsl,slo,hc⟩,few,lt,ml⟩:=id h
 have hsl1:=hsl.1
 have hgl:=hc.1
 refine w.En rfl (bI rfl ?_)
 refine aS (fun _ H'=>H'=H∧sD B=0) (fun j hj=> ?_) ?_
 ·refine bG (fun(s:(Int×Unit)×Unit) H'=>H'=H∧∃i:Nat,s.1.1=i∧i≤B.length∧sD B=tX B ((B.drop i).flatMap (·.ps))) (fun s=>B.length-s.1.1.toNat) ?_ ⟨rfl,0,rfl,Nat.zero_le _,by simp[sD]⟩
  rintro G ⟨⟨i,_⟩,_⟩ H' ⟨rfl,i,hi,hil,hse⟩ hG
  simp only at hi; subst hi
  dsimp only at hG ⊢
  refine w.NZ rfl (dH (fun hlt=> ?_) (fun hge=>hj _ _ ⟨rfl,?_⟩))
  ·have hlt:i<B.length:=by omega
   have hx:B[i]? =some B[i]:=List.getElem?_eq_getElem hlt
   rw[List.drop_eq_getElem_cons hlt,List.flatMap_cons]at hse
   generalize B[i]=c at hx hse
   obtain⟨g,hg,cr⟩:=hc.2 i c hx
   have hp:=cr.p
   have hpl:=hp.1
   have hp4:c.ps.length≤4:=by
    have:=okB.ok c (List.mem_of_getElem? hx)
    unfold xI at this
    by_cases hf:zX c=0
    ·exact qH hf
    ·rw[if_neg hf]at this; exact absurd this hf
   refine bF (bF ?_)
   refine bG (fun(s:(Int×Unit)×Unit) H2=>H2=H'∧∃k:Nat,s.1.1=k∧k≤c.ps.length∧sD B=tX B (c.ps.drop k++(B.drop (i+1)).flatMap (·.ps))) (fun s=>c.ps.length-s.1.1.toNat) ?_ ⟨rfl,0,rfl,Nat.zero_le _,by simpa using hse⟩
   rintro G2 ⟨⟨k,_⟩,_⟩ H2 ⟨rfl,k,hk,hkl,hse2⟩ hG2
   simp only at hk; subst hk
   dsimp only at hG2 ⊢
   refine w.NZ rfl (F7 hsl hg (dH (fun hlt2=> ?_) (fun hge2=> ?_)))
   ·have hlt2:k<c.ps.length:=by omega
    have hy:c.ps[k]? =some c.ps[k]:=List.getElem?_eq_getElem hlt2
    rw[List.drop_eq_getElem_cons hlt2,List.cons_append,GL]at hse2
    generalize c.ps[k]=p at hy hse2
    refine bF (w.NZ rfl (F7 hsl hg (bf (T:=TP) hTP hp rfl hy rfl ?_)))
    have next:xE B p=0->G2 ((IntKind.wrap .i64 ((k:Int)+1),()),()) H2:=fun hz=>by
     rw[if_neg (fun q=>q hz)]at hse2
     rw[dA (by omega) (by omega)]
     exact hG2 _ _ ⟨rfl,k+1,by simp,hlt2,hse2⟩ (by simp; omega)
    refine AO (fun hv=>next (KZ hv)) (fun hv=>Uo h (dH (fun hn=> ?_) (fun hn=> ?_)))
    ·dsimp only at hn
     have:=Xk hv hn
     exact same 6 (by decide) (by rw[hse2,if_pos (by rw[this]; decide),this])
    ·dsimp only at hn
     obtain⟨i2,c2,q1,q2,q3⟩:=La hn
     obtain⟨g2,hg2,cr2⟩:=hc.2 i2 c2 q3
     have hkd:g2.Kind=c2.g.Kind:=by rw[←cr2.e]; rfl
     have hce:=Lc hv q1 q3
     dsimp only
     rw[q2]
     refine w.NZ rfl (ZX hsl hg2 ?_)
     rw[hkd]
     refine fV (fun e2=> ?_) (fun e2=>next (by rw[hce,if_neg e2]))
     rw[if_pos e2]at hce
     exact same 8 (by decide) (by rw[hse2,if_pos (by rw[hce]; decide),hce])
   ·rw[Ld (by omega)]at hse2
    rw[dA (by omega) (by omega)]
    exact hG _ _ ⟨rfl,i+1,by simp,hlt,hse2⟩ (by simp; omega)
  ·have hge:i=B.length:=by omega
   subst hge
   rw[hse,List.drop_length]; rfl
 rintro _ H2 ⟨rfl,e0⟩
 refine w.VI true (by simp) fun H9 w9 f9=> ?_
 have hF:∀d∈[b],d<m:=fun d hd=>by simp at hd; omega
 have res:=hq H9 (by rw[e0]; exact⟨⟨s,gs,ns,w9,QE hsl slo f9 hF,slo,hc.cO f9 hF⟩,few,lt,by have:=f9.1; omega⟩) f9
 rwa [e0]at res
end
end Go.Proofs.YtijnknjopjmiiaaGreatDoor.Zq
end
section
namespace Go.Proofs.YtijnknjopjmiiaaGreatDoor.Zq
open Zv
section
variable{H:Heap}
theorem Xm{T:Tag}(hT:∀x,(T.cells x).length=T.n){s:Sl}{l:List T.α}(h:eY T H s l){i:Int}{n:Nat}{x:T.α}(hi:i=n)(hx:l[n]? =some x){sz:Nat}(hz:sz=T.n){K:Nat->Nat->Prop}(hk:∀b o,(∀H2,eY T H2 s l->∀k:T.α->Prop,k x->LD T H2 b o k)->K b o):dw s.p s.len i sz K:=by
 have t:=bf hT h hi hx (k:=fun _=>True) hz trivial
 have hl:=(List.getElem?_eq_some_iff.1 hx).1
 obtain⟨h1,⟨_,h2,_⟩|⟨_,_,_,h2,_⟩|⟨b,A,B,z,o,ro,h3,h4⟩⟩:=id h
 ·subst h2; simp at hl
 ·subst h2; simp at hl
 ·unfold dw NIL at t ⊢
  rw[h3]at t ⊢
  refine⟨t.1,hk _ _ fun H2 h2 k hk=> ?_⟩
  have t2:=bf hT h2 hi hx (k:=k) hz hk
  unfold dw NIL at t2
  rw[h3]at t2
  exact t2.2
structure Ur(ms:List ak):Prop where
 l:ms.length=5
 z:∀y,ms[0]? =some y->y.Name.toList=[]∧y.Mark=0
 b:∀y∈ms,-9≤y.Power∧y.Power≤9∧ -9≤y.Health∧y.Health≤9
theorem Ur.zero:Ur (List.replicate 5 ⟨0,ByteArray.mk #[],0,0⟩):=by
 refine⟨rfl,fun y h=> ?_,fun y h=> ?_⟩
 ·cases h; exact⟨zq,rfl⟩
 ·have:=List.eq_of_mem_replicate h; subst this; simp
theorem Ur.add{ms:List ak}(h:Ur ms)(x:ak):Ur (G6 ms x):=by
 unfold G6
 split
 ·rename_i e
  rw[KY]at e
  have hb:¬badM x:=fun q=>by rw[if_pos q]at e; cases e
  unfold badM at hb
  refine⟨by simpa using h.l,fun y hy=> ?_,fun y hy=> ?_⟩
  ·rw[List.getElem?_set_ne (by omega)]at hy; exact h.z y hy
  ·rcases List.mem_or_eq_of_mem_set hy with q|rfl
   ·exact h.b y q
   ·omega
 ·exact h
structure InC(H:Heap)(g:ay):Prop where
 ok:OkG g
 p:∃ps:List Pt,eY TP H g.Parts ps∧ps.length≤1048576∧∀p∈ps,OkP p
def VJ(B:List Cd):Prop:=∀c∈B,OkG c.g∧∀p∈c.ps,OkP p
theorem VJ.add{B:List Cd}(h:VJ B){c:Cd}(hc:OkG c.g∧∀p∈c.ps,OkP p):VJ (BM B c):=by
 unfold BM
 split
 ·intro d hd
  rcases SY.1 hd with rfl|q
  ·exact hc
  ·exact h d q
 ·exact h
structure Yn(H0 H:Heap)(a b m:Nat)(se:Bool)(B:List Cd)(ms:List ak):Prop where
 p:BP m H a se B ms
 r:BD m H b se B ms
 ok:G5 B
 km:Ur ms
 og:VJ B
 ab:a≠b
 la:H0.length≤a
 lb:H0.length≤b
 f:bP [] H0 H
theorem Yn.new{H0 H H':Heap}{a b m:Nat}{se:Bool}{B:List Cd}{ms:List ak}(h:Yn H0 H a b m se B ms)(f:bP [] H H'):Yn H0 H' a b m se B ms:=⟨h.p.new f,h.r.new f,h.ok,h.km,h.og,h.ab,h.la,h.lb,h.f.trans f⟩
theorem BP.up{b m m':Nat}{se:Bool}{ms:List ak}(h:BP m H b se [] ms)(h1:m≤m')(h2:m'≤H.length):BP m' H b se [] ms:=by
 obtain⟨⟨cs,ns,w,hc⟩,q1,q2,q3⟩:=h
 exact⟨⟨cs,ns,w,fun i c hx=>by simp at hx⟩,q1,by omega,h2⟩
theorem Yn.step{H0 H1 H2 H3:Heap}{a b m:Nat}{se se':Bool}{B B':List Cd}{ms ms':List ak}(h:Yn H0 H1 a b m se B ms)(p:BP m H2 a se' B' ms')(f1:bP [a] H1 H2)(r:BD m H3 b se' B' ms')(f2:bP [b] H2 H3)(ok:G5 B')(km:Ur ms')(og:VJ B'):Yn H0 H3 a b m se' B' ms':=
 ⟨p.cO f2 fun d hd=>by simp at hd; subst hd; exact⟨r.lt,fun e=>h.ab e.symm⟩,r,ok,km,og,h.ab,h.la,h.lb,(h.f.then f1 fun c hc=>by simp at hc; exact .inr (by rw[hc]; exact h.la)).then f2 fun c hc=>by simp at hc; exact .inr (by rw[hc]; exact h.lb)⟩
theorem abV{x:bM}{gs:List ay}{mks:List ak}(hC:eY TC H x.Cards gs)(hl:gs.length≤1048576)(hG':∀g∈gs,InC H g)(hM:eY TM H x.Marks mks)(hml:mks.length≤1048576){Q:(Option Addr)×(Option Addr)×Bool×Unit->Heap->Prop}
  (hq:∀H' a b m se B ms,Yn H H' a b m se B ms->Q (some ⟨a,0,none⟩,some ⟨b,0,none⟩,true,()) H'):CALL P [dJ,dJ,ah] yF [bC.enc x] H Q:=by
 apply Tf
 unfold yN
 have hcl:=hC.1
 have hmk:=hM.1
 refine adz fun H1 hp1 f1 l1=>adA fun H2 hr2 f2 l2=> ?_
 have bk2:Yn H H2 H.length H1.length (H.length+2) false [] (List.replicate 5 ⟨0,ByteArray.mk #[],0,0⟩):=
  ⟨((hp1 (H.length+1) (by omega) (by omega)).new f2).up (by omega) (by omega),hr2 (H.length+2) (by omega) (by omega),⟨by simp,List.Pairwise.nil,by simp⟩,Ur.zero,(fun _ h=>nomatch h),by omega,Nat.le_refl _,by omega,f1.trans f2⟩
 generalize H.length+2=m at bk2
 generalize H1.length=b at bk2
 generalize ha:H.length=a at bk2
 refine aS (fun _ H'=>∃B,Yn H H' a b m false B (List.replicate 5 ⟨0,ByteArray.mk #[],0,0⟩)) (fun j hj=> ?_) ?_
 ·refine bG (fun(t:(Int×Unit)×Unit) H'=>∃(i:Nat) (B:List Cd),t.1.1=i∧i≤gs.length∧Yn H H' a b m false B (List.replicate 5 ⟨0,ByteArray.mk #[],0,0⟩)) (fun t=>gs.length-t.1.1.toNat) ?_ ⟨0,[],rfl,Nat.zero_le _,bk2⟩
  rintro G ⟨⟨i,_⟩,_⟩ H' ⟨i,B,hi,hil,bk⟩ hG
  simp only at hi; subst hi
  dsimp only at hG ⊢
  refine dH (fun hlt=> ?_) (fun hge=>hj _ _ ⟨B,bk⟩)
  have hlt:i<gs.length:=by omega
  have hx:gs[i]? =some gs[i]:=List.getElem?_eq_getElem hlt
  have ig:=hG' gs[i] (List.getElem_mem hlt)
  generalize gs[i]=g at hx ig
  obtain⟨ok,ps,hs,hpl,op⟩:=ig
  refine bf (T:=TC) YN (hC.cO bk.f (by simp)) rfl hx rfl (Xm (T:=TC) YN hC rfl hx rfl fun b10 o11 rd=> ?_)
  have rd':∀H2,bP [] H H2->∀K:ay->Prop,K g->LD TC H2 b10 o11 K:=fun H2 f K hk=>rd H2 (hC.cO f (by simp)) K hk
  refine rd' H' bk.f _ (Un (hs.cO bk.f (by simp)) (by omega) fun s1 H5 hs1 lo1 f5=>⟨rfl,rd' H5 (bk.f.trans f5) _ ⟨rfl,?_⟩⟩)
  have bk5:=bk.new f5
  have okg:∀s,OkG { g with Parts:=s }:=fun s=>⟨ok.nm,ok.s,ok.k,ok.t⟩
  have haH:a<H'.length:=by have:=bk.p.lt; have:=bk.p.ml; omega
  refine abO bk5.p bk5.ok (okg s1) hs1 op (fun d hd=>by have:=lo1 d hd; omega) fun H6 p6 f6=>⟨rfl,?_⟩
  have f06:bP [] H H6:=bk5.f.then f6 fun c hc=>by simp at hc; exact .inr (by rw[hc]; exact bk.la)
  refine rd' H6 f06 _ ⟨rfl,Un (hs.cO f06 (by simp)) (by omega) fun s2 H7 hs2 lo2 f7=> ?_⟩
  have r7:BD m H7 b false B _:=(bk5.r.cO f6 fun d hd=>by simp at hd; subst hd; exact⟨bk5.p.lt,bk5.ab⟩).new f7
  refine abS r7 (okg s2) hs2 op fun H8 r8 f8=>bI (by simp[bare]) ?_
  rw[dA (by omega) (by omega)]
  exact hG _ _ ⟨i+1,_,by simp,hlt,bk5.step (p6.new f7) (f6.trans (f7.mono (by simp))) r8 f8 (abB bk5.ok _) bk5.km (bk5.og.add ⟨⟨ok.nm,ok.s,ok.k,ok.t⟩,op⟩)⟩ (by simp; omega)
 rintro _ H3 ⟨B,bk3⟩
 refine aS (fun _ H'=>∃ms,Yn H H' a b m false B ms) (fun j hj=> ?_) ?_
 ·refine bG (fun(t:(Int×Unit)×Unit) H'=>∃(i:Nat) (ms:List ak),t.1.1=i∧i≤mks.length∧Yn H H' a b m false B ms) (fun t=>mks.length-t.1.1.toNat) ?_ ⟨0,_,rfl,Nat.zero_le _,bk3⟩
  rintro G ⟨⟨i,_⟩,_⟩ H' ⟨i,ms,hi,hil,bk⟩ hG
  simp only at hi; subst hi
  dsimp only at hG ⊢
  refine dH (fun hlt=> ?_) (fun hge=>hj _ _ ⟨ms,bk⟩)
  have hlt:i<mks.length:=by omega
  have hx:mks[i]? =some mks[i]:=List.getElem?_eq_getElem hlt
  generalize mks[i]=g at hx
  refine bf (T:=TM) hTM (hM.cO bk.f (by simp)) rfl hx rfl (Xm (T:=TM) hTM hM rfl hx rfl fun b10 o11 rd=> ?_)
  have rd':∀H2,bP [] H H2->∀K:ak->Prop,K g->LD TM H2 b10 o11 K:=fun H2 f K hk=>rd H2 (hM.cO f (by simp)) K hk
  refine rd' H' bk.f _ (abP bk.p fun H6 p6 f6=>⟨rfl,?_⟩)
  have f06:bP [] H H6:=bk.f.then f6 fun c hc=>by simp at hc; exact .inr (by rw[hc]; exact bk.la)
  refine rd' H6 f06 _ ⟨rfl,?_⟩
  have r6:BD m H6 b false B ms:=bk.r.cO f6 fun d hd=>by simp at hd; subst hd; exact⟨bk.p.lt,bk.ab⟩
  refine abT r6 (fun y hy=>(bk.km.z y hy).1) fun H8 r8 f8=>bI (by simp) ?_
  rw[dA (by omega) (by omega)]
  exact hG _ _ ⟨i+1,_,by simp,hlt,bk.step p6 f6 r8 f8 bk.ok (bk.km.add g) bk.og⟩ (by simp; omega)
 rintro _ H9 ⟨ms,bk9⟩
 refine aS (fun y H'=>(y:(Bool×Unit)×Unit).1.1=false∧∃se,Yn H H' a b m se B ms) (fun j hj=> ?_) ?_
 ·refine bT (fun _=> ?_) (fun _=>hj _ _ ⟨rfl,false,bk9⟩)
  refine abQ bk9.p bk9.ok fun H14 p14 f14=> ?_
  have r14:BD m H14 b false B ms:=bk9.r.cO f14 fun d hd=>by simp at hd; subst hd; exact⟨bk9.p.lt,bk9.ab⟩
  exact abU r14 bk9.ok fun H15 r15 f15=>hj _ _ ⟨by simp,_,bk9.step p14 f14 r15 f15 bk9.ok bk9.km bk9.og⟩
 rintro⟨⟨r,_⟩,_⟩ H13 ⟨hr,se,bk13⟩
 simp only at hr; subst hr
 refine bI rfl (OG bk13.p (Ym bk13.r ?_))
 have:=hq H13 a b m se B ms bk13
 simpa using this
end
end Go.Proofs.YtijnknjopjmiiaaGreatDoor.Zq
end
section
namespace Go.Proofs.YtijnknjopjmiiaaGreatDoor.Zq
section
open Go.Sort Go.RowKit
theorem Stp.adB{M:Mp}{H:Heap}{w W:World}(h:HR M H w){b:Nat}{e:jd}{c c2:List Value}{sz:Nat}{opn:Bool}(hk:H[b]? =some (.row c sz opn false true))(he:M[b]? =some (some e))(hl:c2.length=c.length)
  {a a2:Array Value} {t:TypeId} (_hw:w.heap[e.blk]? =some (.cells a t (0,0))) (hsz:a2.size=a.size) (hle:e.base+c2.length≤a2.size) (hcs:a.size=e.csz) (hv:VL M c2 ((a2.toList.drop e.base).take c2.length))
  (hWe:W.heap[e.blk]? =some (.cells a2 t (0,0))) (hWo:∀k,k≠e.blk->W.heap[k]? =w.heap[k]?) (hWs:W.heap.size=w.heap.size) (hWos:W.os=w.os) (hWout:W.output=w.output) (hWt:W.tape=w.tape) (hWd:w.drawn≤W.drawn):
  Stp M H w M (H.set b (.row c2 sz opn false true)) W:=by
 have hblen:b<H.length:=(List.getElem?_eq_some_iff.1 hk).1
 have hset:∀(j:Nat),j≠b->(H.set b (.row c2 sz opn false true))[j]? =H[j]? :=fun j hj=>by rw[List.getElem?_set_ne (Ne.symm hj)]
 have hsetb:(H.set b (.row c2 sz opn false true))[b]? =some (.row c2 sz opn false true):=by rw[List.getElem?_set_self hblen]
 have hlive:∀j:Nat,bQ (H.set b (.row c2 sz opn false true)) j↔bQ H j:=by
  intro j; by_cases hj:j=b
  ·subst hj; unfold bQ; rw[hsetb,hk]
  ·unfold bQ; rw[hset j hj]
 have hwrit:∀j:Nat,aZ (H.set b (.row c2 sz opn false true)) j↔aZ H j:=by
  intro j; by_cases hj:j=b
  ·subst hj; unfold aZ; rw[hsetb,hk]
  ·unfold aZ; rw[hset j hj]
 have hwb:aZ H b:=by unfold aZ; rw[hk]; exact⟨rfl,rfl⟩
 obtain⟨q1,q2,q3,_⟩:=h.blk b e _ he hk
 refine⟨.refl M,⟨by simpa using h.len,?_,?_⟩,hWos,hWout,hWt,by omega,hWd,?_,?_,fun j hj=>⟨hj,hset j fun e0=>by subst e0; rw[he]at hj; simp at hj⟩,fun j ej hj hl _=>⟨j,ej,hj,(hlive j).1 hl,rfl⟩⟩
 ·intro j ej kj hj hkj
  by_cases hjb:j=b
  ·subst hjb
   rw[he]at hj; simp at hj; subst hj
   rw[hsetb]at hkj; simp at hkj; subst hkj
   exact⟨q1,by rw[q2,hl],q3,fun _=>⟨a2,t,(0,0),hWe,by rw[hsz,hcs],hle,hv,fun _=>rfl⟩⟩
  ·rw[hset j hjb]at hkj
   refine(h.blk j ej kj hj hkj).same fun hlv=>hWo _ ?_
   have hlj:bQ H j:=by unfold bQ; rw[hkj]; cases kj<;>first|exact hlv|trivial
   exact(h.sep b j e ej (Ne.symm hjb) he hj hwb hlj).symm
 ·intro j j' ej ej' hne hj hj' h1 h2
  exact h.sep j j' ej ej' hne hj hj' ((hwrit j).1 h1) ((hlive j').1 h2)
 ·intro k hk2 hn
  exact hWo k fun e0=>hn b e he hwb e0.symm
 ·intro j ej hj h1 _
  exact⟨j,ej,hj,(hwrit j).1 h1,rfl⟩
theorem Stp.grown{M:Mp}{H:Heap}{w:World}(h:HR M H w)(os:Array Obj):Stp M H w M H (grow w os):=by
 have hh:∀j,j<w.heap.size->(grow w os).heap[j]? =w.heap[j]? :=fun j hj=>by
  show(w.heap++os)[j]? =_
  rw[Array.getElem?_append_left hj]
 refine⟨.refl M,⟨h.len,fun b e k hb hk=>(h.blk b e k hb hk).same fun hlv=>hh _ (h.lC hb ?_),h.sep⟩,rfl,rfl,rfl,by show w.heap.size≤(w.heap++os).size; simp,Nat.le_refl _,fun c hc _=>hh c hc,fun b e hb hw _=>⟨b,e,hb,hw,rfl⟩,fun _ h=>⟨h,rfl⟩,fun b e hb hw _=>⟨b,e,hb,hw,rfl⟩⟩
 unfold bQ; rw[hk]; cases k<;>first|exact hlv|trivial
def afg:gI->gI
 | .row c sz o _ l=>.row c sz o true l
 |k=>k
def frz(H:Heap):Heap:=H.map afg
theorem Es{H:Heap}{b:Nat}{c:List Value}{sz:Nat}{o r l:Bool}(h:H[b]? =some (.row c sz o r l)):(frz H)[b]? =some (.row c sz o true l):=by
 unfold frz; rw[List.getElem?_map,h]; rfl
theorem eY.frz{T:Tag}{H:Heap}{s:Sl}{l:List T.α}(h:eY T H s l):eY T (Zq.frz H) s l:=by
 obtain⟨h1,h2|h2|⟨b,A,B,sz,o,ro,h3,h4⟩⟩:=h
 ·exact⟨h1,.inl h2⟩
 ·exact⟨h1,.inr (.inl h2)⟩
 ·exact⟨h1,.inr (.inr ⟨b,A,B,sz,o,true,h3,Es h4⟩)⟩
def inS(S:List Nat):Value->Prop
 | .bool _| .int _ _| .string _| .pointer none| .slice none 0 0| .slice (some ⟨_,_,some 0⟩) 0 0=>True
 | .pointer (some a)=>a.block∈S∧a.spot=none
 | .slice (some a) _ _=>a.block∈S∧a.spot=none
 |_=>False
def Clo(S:List Nat)(H:Heap):Prop:=∀b∈S,∃c sz o r l,H[b]? =some (.row c sz o r l)∧∀v∈c,inS S v
def msk(S:List Nat)(M:Mp):Mp:=M.zipIdx.map fun p=>if p.2∈S then p.1 else none
theorem ZY{S:List Nat}{M:Mp}{b:Nat}:(msk S M)[b]? =if b∈S then M[b]? else M[b]?.map fun _=>none:=by
 unfold msk
 rw[List.getElem?_map,List.getElem?_zipIdx]
 cases M[b]? with
 |none=>simp
 |some x=>simp only[Option.map_some,Nat.zero_add]; split<;>rfl
theorem QG{S:List Nat}{M:Mp}{b:Nat}{e:jd}(h:(msk S M)[b]? =some (some e)):M[b]? =some (some e)∧b∈S:=by
 rw[ZY]at h
 split at h
 ·rename_i hb; exact⟨h,hb⟩
 ·cases hm:M[b]? with
  |none=>rw[hm]at h; simp at h
  |some x=>rw[hm]at h; simp at h
theorem Z4{S:List Nat}{M:Mp}{b:Nat}{e:jd}(h:M[b]? =some (some e))(hb:b∈S):(msk S M)[b]? =some (some e):=by rw[ZY,if_pos hb]; exact h
theorem Z5{S:List Nat}{M:Mp}{v u:Value}(h:VR M v u)(hv:inS S v):VR (msk S M) v u:=by
 cases h with
 |bool b=>exact .bool b
 |int k n=>exact .int k n
 |float k n=>exact .float k n
 |string s=>exact .string s
 |ptr0=>exact .ptr0
 |ptr h=>exact .ptr (Z4 h hv.1)
 |slice0=>exact .slice0
 |slice h hc=>exact .slice (Z4 h hv.1) hc
 |sliceE=>exact .sliceE
 |map0=>exact .map0
 |nilFunc=>exact .nilFunc
 |nilIface=>exact .nilIface
 |_=>exact hv.elim
theorem adD{S:List Nat}{M:Mp}{H:Heap}{w:World}(h:HR M H w)(hc:Clo S H):HR (msk S M) (frz H) w:=by
 refine⟨by simp[msk,frz,h.len],fun b e k hb hk=> ?_,fun b b' e e' _ hb _ hw _=> ?_⟩
 ·obtain⟨h1,hS⟩:=QG hb
  obtain⟨c,sz,o,r,l,h2,h3⟩:=hc b hS
  rw[Es h2]at hk
  simp at hk; subst hk
  obtain⟨q1,q2,q3,q4⟩:=h.blk b e _ h1 h2
  refine⟨q1,q2,q3,fun hl=> ?_⟩
  obtain⟨c',t,fz,g1,g2,g3,g4,_⟩:=q4 hl
  exact⟨c',t,fz,g1,g2,g3,⟨g4.1,fun i x u hx hu=>Z5 (g4.2 i x u hx hu) (h3 x (List.mem_of_getElem? hx))⟩,fun h=>by cases h⟩
 ·obtain⟨_,hS⟩:=QG hb
  obtain⟨c,sz,o,r,l,h2,_⟩:=hc b hS
  unfold aZ at hw
  rw[Es h2]at hw
  simp at hw
theorem adE{S:List Nat}{M:Mp}{H:Heap}(hc:Clo S H):∀(b:Nat) (e:jd),(msk S M)[b]? =some (some e)->¬aZ (frz H) b:=fun b e hb hw=>by
 obtain⟨_,hS⟩:=QG hb
 obtain⟨c,sz,o,r,l,h2,_⟩:=hc b hS
 unfold aZ at hw
 rw[Es h2]at hw
 simp at hw
theorem Us{w w':World}(h1:w'.os=w.os)(h2:w'.output=w.output)(h3:w'.tape=w.tape)(h4:w.heap.size≤w'.heap.size)(h5:w.drawn≤w'.drawn)(h6:∀c:Nat,c<w.heap.size->w'.heap[c]? =w.heap[c]?):∃q os,w'=grow (w.drewN q) os:=by
 refine⟨w'.drawn-w.drawn,w'.heap.extract w.heap.size w'.heap.size,?_⟩
 have hh:w'.heap=w.heap++w'.heap.extract w.heap.size w'.heap.size:=by
  apply Array.ext_getElem?
  intro i
  by_cases hi:i<w.heap.size
  ·rw[h6 i hi,Array.getElem?_append_left hi]
  ·rw[Array.getElem?_append_right (by omega),Array.getElem?_extract]
   by_cases hj:i<w'.heap.size
   ·rw[if_pos (by omega)]; congr 1; omega
   ·rw[if_neg (by omega),Array.getElem?_eq_none (by omega)]
 cases w; cases w'
 simp only at h1 h2 h3 h5 hh ⊢
 subst h1; subst h2; subst h3
 unfold grow World.drewN
 simp only[World.mk.injEq,and_true,true_and]
 exact⟨hh,by omega⟩
section
variable{P:Program}{ρ:Go.Shelf.Ren}{α:Type}[Inhabited α]
abbrev TI1:Tag:=au .i64
def N7(l:List Int):gI:=.row (fl TI1 l) 1 false false true
theorem IG(l:List Int):fl TI1 l=l.map (Value.int .i64):=by
 induction l with
 |nil=>rfl
 |cons x r ih=>simp only[fl,List.flatMap_cons,List.map_cons]at ih ⊢; rw[ih]; rfl
theorem Ut{M:Mp}{H:Heap}{w:World}(h:HR M H w)(enc:α->Int){b:Nat}{d:List α}{sp:List Int}(hk:H[b]? =some (N7 (d.map enc++sp))){e:jd}(he:M[b]? =some (some e))(m:Nat)(os:Array Obj)(dk:Array α)(hd:dk.size=d.length):
  Stp M H w M (H.set b (N7 (dk.toList.map enc++sp))) (Go.Proofs.sortWorld (fun x=>Value.int .i64 (enc x)) w e.blk (e.base+0) m dk os):=by
 obtain⟨q1,q2,q3,q4⟩:=h.blk b e _ he hk
 obtain⟨a,t,fz,g1,g2,g3,g4,g5⟩:=q4 rfl
 have hfz:=g5 rfl; subst hfz
 have hlt:e.blk<w.heap.size:=(Array.getElem?_eq_some_iff.1 g1).1
 have hlen:∀l:List Int,(fl TI1 l).length=l.length:=fun l=>by rw[IG]; simp
 have hL:(fl TI1 (dk.toList.map enc++sp)).length=(fl TI1 (d.map enc++sp)).length:=by rw[hlen,hlen]; simp[hd]
 have hps:(putCells (fun x=>Value.int .i64 (enc x)) (e.base+0) dk a).size=a.size:=by simp[putCells]
 have hpl:(putCells (fun x=>Value.int .i64 (enc x)) (e.base+0) dk a).toList.length=a.size:=by rw[Array.length_toList,hps]
 have hvl:VL M (fl TI1 (dk.toList.map enc++sp)) (((putCells (fun x=>Value.int .i64 (enc x)) (e.base+0) dk a).toList.drop e.base).take (fl TI1 (dk.toList.map enc++sp)).length):=by
  refine⟨by rw[List.length_take,List.length_drop,hpl,hL]; omega,fun i x u hx hu=> ?_⟩
  have hi:i<(fl TI1 (dk.toList.map enc++sp)).length:=(List.getElem?_eq_some_iff.1 hx).1
  rw[List.getElem?_take,if_pos hi,List.getElem?_drop,Array.getElem?_toList]at hu
  unfold putCells at hu
  rw[Array.getElem?_mapIdx,Option.map_eq_some_iff]at hu
  obtain⟨y,hy,hu⟩:=hu
  rw[IG,List.getElem?_map,Option.map_eq_some_iff]at hx
  obtain⟨z,hz,rfl⟩:=hx
  by_cases hik:i<dk.size
  ·rw[if_pos (by omega)]at hu
   rw[List.getElem?_append_left (by simpa using hik),List.getElem?_map,Option.map_eq_some_iff]at hz
   obtain⟨v,hv,rfl⟩:=hz
   have:dk[e.base+i-(e.base+0)]! =v:=by
    rw[show e.base+i-(e.base+0)=i by omega]
    rw[Array.getElem?_toList]at hv
    rw[getElem!_def,hv]
   rw[this]at hu; subst hu
   exact .int _ _
  ·rw[if_neg (by omega)]at hu
   subst hu
   refine g4.2 i _ _ ?_ ?_
   ·rw[IG,List.getElem?_map,Option.map_eq_some_iff]
    refine⟨z,?_,rfl⟩
    rw[List.getElem?_append_right (by simp; omega)]at hz ⊢
    simp only[List.length_map,Array.length_toList]at hz ⊢
    rw[←hd]; exact hz
   ·rw[hL]at hi
    rw[List.getElem?_take,if_pos hi,List.getElem?_drop,Array.getElem?_toList]; exact hy
 have S1:Stp M H w M (H.set b (N7 (dk.toList.map enc++sp))) (putRow (fun x=>Value.int .i64 (enc x)) (Go.Sort.ahead w m) e.blk (e.base+0) dk):=by
  refine Stp.adB h hk he hL g1 hps (by rw[hps,hL]; exact g3) g2 hvl ?_ (fun k hne=> ?_) ?_ rfl rfl rfl ?_
  ·show(w.heap.modify e.blk _)[e.blk]? =_
   rw[Array.getElem?_modify,if_pos rfl,g1]; rfl
  ·show(w.heap.modify e.blk _)[k]? =_
   rw[Array.getElem?_modify,if_neg (Ne.symm hne)]
  ·show(w.heap.modify e.blk _).size=_
   simp
  ·show w.drawn≤w.drawn+m; omega
 exact S1.trans (Stp.grown S1.hr os)
theorem Uu(L:Go.Proofs.SlLaysF.n6 P ρ)(hfn:∃fn,P.funcs[ρ.f 6]? =some fn∧fn.body.isSome=true∧(fn.name=="runtime.NumGoroutine")=false)(enc:α->Int)(cf:α->α->Int)(hO:SWO (Go.Proofs.ltOf cf))
  {H:Heap} {b cap:Nat} {d:List α} {sp:List Int} (hk:H[b]? =some (N7 (d.map enc++sp))) (hsz:d.length<4611686018427387904) {g:FuncId} {cv:List Value} (eg:∀args w,(callFunc g args).run P w= .ok (.enter g args) w) {S:List Nat} (hS:∀dk:List α,dk.length=d.length->Clo S (H.set b (N7 (dk.map enc++sp))))
  (hcv:∀v∈cv,inS S v) (hcmp:∀dk:List α,dk.length=d.length->∀x y,EV P g ([.int .i64 (enc x),.int .i64 (enc y)]++cv) (frz (H.set b (N7 (dk.map enc++sp)))) fun v _=>v= .int .i64 (cf x y))
  {Q:Heap->Prop} (hq:∀d':List α,d'.Perm d->(∀i j:Nat,i<j->∀x y,d'[i]? =some x->d'[j]? =some y->Go.Proofs.ltOf cf y x=false)->Q (H.set b (N7 (d'.map enc++sp)))):
  CALL P [] (ρ.f 6) [.slice (some ⟨b,0,none⟩) d.length cap,.func (.func g) #[] cv.toArray] H fun _ H'=>Q H':=by
 refine⟨hfn,fun n M w args' hr hv=> ?_⟩
 obtain⟨v1,vs1,rfl,h1,hv1⟩:=hv.of_cons
 obtain⟨v2,vs2,rfl,h2,hv2⟩:=hv1.of_cons
 have:=hv2.of_nil; subst this
 obtain⟨e,c,he,hc,rfl⟩:=h1.of_slice
 obtain⟨cb,rfl,hcb⟩:∃cb:Array Value,v2= .func (.func g) #[] cb∧VL M cv cb.toList:=by
  cases h2 with
  |func hx hy gx gy=>
   rename_i us vs
   have:us= #[]:=Array.eq_empty_of_size_eq_zero (by simpa using hx.symm)
   subst this
   exact⟨vs,rfl,by simpa using hy,fun i x u hx hu=>gy i x u (by simpa using hx) (by simpa using hu)⟩
 obtain⟨q1,q2,q3,q4⟩:=hr.blk b e _ he hk
 obtain⟨a,t,fz,g1,g2,g3,g4,g5⟩:=q4 rfl
 have hfz:=g5 rfl; subst hfz
 have hlt:e.blk<w.heap.size:=(Array.getElem?_eq_some_iff.1 g1).1
 have hH:Holds (fun x=>Value.int .i64 (enc x)) w e.blk (e.base+0) d.toArray:=fun j hj=>by
  have hj':j<d.length:=by simpa using hj
  have hx:(fl TI1 (d.map enc++sp))[j]? =some (.int .i64 (enc d[j])):=by
   rw[IG,List.getElem?_map,List.getElem?_append_left (by simpa using hj'),List.getElem?_map,List.getElem?_eq_getElem hj']; rfl
  have hjl:=(List.getElem?_eq_some_iff.1 hx).1
  have hu:((a.toList.drop e.base).take (fl TI1 (d.map enc++sp)).length)[j]? =a[e.base+j]? :=by
   rw[List.getElem?_take,if_pos hjl,List.getElem?_drop,Array.getElem?_toList]
  have hin:e.base+j<a.size:=by omega
  have:=g4.2 j _ a[e.base+j] hx (by rw[hu]; exact Array.getElem?_eq_getElem hin)
  have:=this.of_int
  refine⟨?_,?_⟩
  ·simp only[World.cell?,g1]
   rw[if_neg (by simp),show e.base+0+j=e.base+j by omega,Array.getElem?_eq_getElem hin,this]
   congr 3
   simp[hj']
  ·simp only[World.frozen?,g1]; simp
 have hl:Go.Proofs.CmpLays1 P g cb (fun x=>Value.int .i64 (enc x)) cf e.blk (e.base+0) d.toArray.size w:=fun m os dk hs x y=>by
  have hs':dk.size=d.length:=by simpa using hs
  have st:=Ut hr enc hk he m os dk hs'
  have hclo:=hS dk.toList (by simpa using hs')
  have hev:=(hcmp dk.toList (by simpa using hs') x y).2 0 (msk S M) _ ([.int .i64 (enc x),.int .i64 (enc y)]++cb.toList) (adD st.hr hclo) (by
   refine VL.cons (.int _ _) (VL.cons (.int _ _) ⟨hcb.1,fun i p q hp hq=>Z5 (hcb.2 i p q hp hq) (hcv p (List.mem_of_getElem? hp))⟩))
  have hca:=callsIn_wide.1 hev
  have eargs:([Value.int .i64 (enc x),Value.int .i64 (enc y)]++cb.toList).toArray= #[Value.int .i64 (enc x),Value.int .i64 (enc y)]++cb:=by apply Array.ext'; simp
  rw[eargs]at hca
  refine hca.mono ?_
  rintro en w' ⟨v,v',M',H',rfl,s2,hvr,rfl⟩
  have:=hvr.of_int; subst this
  exact⟨rfl,Us s2.os s2.output s2.tape s2.size s2.dr fun c hc2=>s2.frame c hc2 fun b' e' hb' hw' _=>adE hclo b' e' hb' hw'⟩
 have hsf:=Go.Proofs.Any.slices_SortFunc L (fun x=>Value.int .i64 (enc x)) (fun x=>rfl) cf hO g cb e.blk (e.base+0) c d.toArray w eg hl hH hlt (by simpa using hsz)
 have hsz2:d.toArray.size=d.length:=by simp
 rw[hsz2]at hsf
 refine callsIn_wide.2 (hsf.mono ?_)
 rintro en w' ⟨rfl,d',m,os,hp,hso,rfl⟩
 obtain⟨p1,p2,p3⟩:=hp
 have hd's:d'.size=d.length:=by simpa using p1
 have hperm:d'.toList.Perm d:=by
  have e1:d'.extract 0 d.length=d':=by rw[←hd's]; simp
  have e2:d.toArray.extract 0 d.length=d.toArray:=by simp
  rw[e1,e2]at p3
  simpa using p3
 refine⟨_,_,M,_,rfl,Ut hr enc hk he m os d' hd's,VR.tuple rfl (fun i x u h _=>by simp at h),(),rfl,hq d'.toList hperm fun i j hij x y hx hy=> ?_⟩
 rw[Array.getElem?_toList]at hx hy
 have hj:j<d'.size:=(Array.getElem?_eq_some_iff.1 hy).1
 have:=hso i j (Nat.zero_le _) hij (by omega)
 rw[getElem!_def,getElem!_def,hx,hy]at this
 exact this
end
end
section
open Go.Sort Go.RowKit Zv
theorem abX{P:Program}{f:FuncId}(hfn:∃fn,P.funcs[f]? =some fn∧fn.body.isSome=true∧(fn.name=="runtime.NumGoroutine")=false){H:Heap}{p:Option Addr}{cap:Nat}{us:List Value}
  (hs:∀(p:Option Addr) (cap:Nat) (vs:List Value) (w:World),vs.length=us.length->Calls P f (.slice p 0 cap::vs).toArray w fun e w'=>e= .returned (.tuple #[])∧w'=w) {Q:Unit->Heap->Prop} (hq:Q () H):CALL P [] f (.slice p 0 cap::us) H Q:=by
 refine⟨hfn,fun n M w args' hr hv=> ?_⟩
 obtain⟨v1,vs1,rfl,h1,hv1⟩:=hv.of_cons
 obtain⟨q,c,rfl⟩:∃q c,v1= .slice q 0 c:=by cases h1<;>exact⟨_,_,rfl⟩
 refine callsIn_wide.2 ((hs q c vs1 w (by have:=hv1.1; exact this.symm)).mono ?_)
 rintro en w' ⟨rfl,rfl⟩
 exact⟨.tuple #[],_,M,H,rfl,.refl hr,VR.tuple rfl (fun i x u h _=>by simp at h),(),rfl,hq⟩
end
end Go.Proofs.YtijnknjopjmiiaaGreatDoor.Zq
end
section
namespace Go.Proofs.YtijnknjopjmiiaaGreatDoor.Zq
open Zv
section
open Go.Proofs Go.RowKit
abbrev Tg:=bn
abbrev jZ:Tag:=aV
abbrev TF:Tag:=aO
abbrev fA:Tag:=au .i64
theorem zu(x:Tg):(jZ.cells x).length=jZ.n:=rfl
theorem Le(x:aG):(TF.cells x).length=TF.n:=rfl
theorem qX(x:Int):(fA.cells x).length=fA.n:=rfl
variable{H:Heap}
def Uw:Value->Prop
 | .bool _| .int _ _| .string _=>True
 |_=>False
theorem Uw.inS{S:List Nat}{v:Value}(h:Uw v):inS S v:=by
 cases v<;>first|trivial|exact h.elim
theorem nK{s:Sl}{l:List Tg}(h:eY jZ H s l){i:Int}{n:Nat}{x:Tg}(hi:i=n)(hx:l[n]? =some x){K:Int->Prop}(hK:K x.Stamp):dw s.p s.len i 11 fun b o=>LD fA H b (o+3) K:=by
 have hl:=(List.getElem?_eq_some_iff.1 hx).1
 obtain⟨h1,⟨_,h2,_⟩|⟨_,_,_,h2,_⟩|⟨b,A,B,z,o,ro,h3,h4⟩⟩:=h
 ·subst h2; simp at hl
 ·subst h2; simp at hl
 ·subst hi
  unfold dw NIL
  rw[h3]
  refine⟨⟨by omega,by omega⟩,?_⟩
  refine dO (T:=fA) x.Stamp (A++(fl jZ (l.take n)++(jZ.cells x).take 3)) ((jZ.cells x).drop 4++(fl jZ (l.drop (n+1))++B)) h4 ?_ ?_ rfl hK
  ·rw[iF (T:=jZ) l n x hx]; simp[List.append_assoc]
  ·rw[List.length_append,List.length_append,bW zu,List.length_take,Nat.min_eq_left (by omega),Int.toNat_natCast]
   show A.length+n*11+3=A.length+(n*11+3); omega
theorem adF{cb:Nat}{s:Sl}{ts:List Tg}(hc:∃sz o ro,H[cb]? =some (.row [s.v] sz o ro true))(hs:eY jZ H s ts){i j:Nat}{x y:Tg}(hi:ts[i]? =some x)(hj:ts[j]? =some y)
  (hx:1≤x.Stamp∧x.Stamp≤9223372036854775807) (hy:1≤y.Stamp∧y.Stamp≤9223372036854775807) {Q:Int×Unit->Heap->Prop} (hq:Q (x.Stamp-y.Stamp,()) H):CALL P [fA] dV [.int .i64 (i:Int),.int .i64 (j:Int),.pointer (some ⟨cb,0,none⟩)] H Q:=by
 apply HY (c0:=(cb,0))
 unfold pz
 obtain⟨sz,o,ro,hc⟩:=hc
 have ld:∀k:Sl->Prop,k s->LD aJ H cb 0 k:=fun k hk=>dO (T:=aJ) s [] [] hc rfl rfl rfl hk
 refine ld _ (nK hs rfl hi (ld _ (nK hs rfl hj ?_)))
 rw[dA (by omega) (by omega)]
 exact hq
theorem GN{α:Type}{enc:α->Int}:∀l:List Int,(∀m∈l,∃x,enc x=m)->∃d:List α,d.map enc=l
 |[],_=>⟨[],rfl⟩
 |m::r,h=>by
  obtain⟨x,hx⟩:=h m (by simp)
  obtain⟨d,hd⟩:=GN r fun m hm=>h m (by simp[hm])
  exact⟨x::d,by simp[hx,hd]⟩
def aY(ts:List Tg)(k:Nat):Int:=((ts[k]?).map (·.Stamp)).getD 0
def Flat(H:Heap)(s:Sl):Prop:=∀d off,s.p=some ⟨d,off,none⟩->∃c sz o r l,H[d]? =some (.row c sz o r l)∧∀v∈c,Uw v
def VK(s:Sl):List Nat:=match s.p with|some ⟨d,_,none⟩=>[d]|_=>[]
theorem abY{H0 H3:Heap}{vb:Nat}{a1 so:Sl}{ts:List Tg}{l sp:List Int}(n1:bJ fA H0 so H3 l sp)(hv:∃sz,H3[vb]? =some (.row [a1.v] sz false false true))(hs:eY jZ H3 a1 ts)(hf:Flat H3 a1)(hvb:vb<H0.length)(htb:∀d off,a1.p=some ⟨d,off,none⟩->d<H0.length)
  (hl:∀m∈l,∃(k:Nat) (t:Tg),m=k∧ts[k]? =some t∧1≤t.Stamp∧t.Stamp≤9223372036854775807) (hll:l.length≤100) {Q:Unit->Heap->Prop}
  (hq:∀H' l',l'.Perm l->(∀(i j:Nat) a b,i<j->l'[i]? =some a->l'[j]? =some b->aY ts a.toNat≤aY ts b.toNat)->bJ fA H0 so H' l' sp->After so H3 H'->Q () H'):
  CALL P [] gq [so.v,.func (.func dV) #[] #[.pointer (some ⟨vb,0,none⟩)]] H3 Q:=by
 have hfn:∃fn,P.funcs[gq]? =some fn∧fn.body.isSome=true∧(fn.name=="runtime.NumGoroutine")=false:=by
  obtain⟨nm,hnm,hf⟩:=acW.f6
  exact⟨_,hf,by kernel_rfl,hnm⟩
 by_cases hne:l=[]
 ·subst hne
  obtain⟨o1,o2,o0,o3⟩:=id n1.1
  obtain⟨p,n,cp⟩:=so
  simp only at o1; simp at o1; subst o1
  refine abX hfn (us:=[_]) (fun p cap vs w hv=> ?_) (hq H3 [] (List.Perm.refl _) (fun i j a b _ h=>by simp at h) n1 (.refl _ _))
  obtain⟨v,rfl⟩:=List.length_eq_one_iff.1 hv
  exact slices_SortFunc_none (α:=Int) p cap v w
 obtain⟨o1,o2,o0,⟨o3,o4,o5⟩|⟨c,o3,o4⟩⟩:=id n1.1
 ·exact absurd o4 hne
 have hcl:=dI o4
 have hc1:H0.length≤c:=n1.2.1 c o3
 let A:={ k:Nat // ∃t,ts[k]? =some t∧1≤t.Stamp∧t.Stamp≤9223372036854775807 }
 let enc:A->Int:=fun k=>(k.1:Int)
 let cf:A->A->Int:=fun x y=>aY ts x.1-aY ts y.1
 obtain⟨d,hd⟩:∃d:List A,d.map enc=l:=GN l fun m hm=>by
  obtain⟨k,t,rfl,h1,h2⟩:=hl m hm
  exact⟨⟨k,t,h1,h2⟩,rfl⟩
 have hdl:d.length=l.length:=by rw[←hd]; simp
 have inst:Inhabited A:=⟨d.head (fun e=>hne (by rw[←hd,e]; rfl))⟩
 obtain⟨p,n,cp⟩:=so
 simp only at o1 o2 o3; subst o3
 rw[←hdl]at o1; subst o1
 rw[←hd]at o4
 have hO:Go.Sort.SWO (ltOf cf):=by
  have e:∀x y,ltOf cf x y=decide (aY ts x.1<aY ts y.1):=fun x y=>by
   simp only[ltOf,cf]; congr 1; rw[eq_iff_iff]; omega
  refine⟨fun x=>by rw[e]; simp,fun x y w=> ?_,fun x y w=> ?_⟩
  ·simp only[e,decide_eq_true_eq]; omega
  ·simp only[e,decide_eq_false_iff_not]; omega
 have hsb:∀e∈VK a1,∃off,a1.p=some ⟨e,off,none⟩:=fun e he=>by
  unfold VK at he
  split at he
  ·rename_i d off hp; simp at he; subst he; exact⟨off,hp⟩
  ·cases he
 have hcS:c∉vb::VK a1:=fun hm=>by
  rcases List.mem_cons.1 hm with e|hm
  ·omega
  ·obtain⟨off,hp⟩:=hsb c hm
   have:=htb c off hp; omega
 have hav:inS (vb::VK a1) a1.v:=by
  obtain⟨q,n',cp'⟩:=a1
  obtain⟨g1,⟨g2,g3,g4⟩|⟨b',off',g2,g3,g4⟩|⟨b',A',B',z',o',ro',g2,_⟩⟩:=id hs
  ·simp only at g1 g2 g4; subst g2; subst g3; subst g4; simp at g1; subst g1; exact trivial
  ·simp only at g1 g2 g4; subst g2; subst g3; subst g4; simp at g1; subst g1; exact trivial
  ·simp only at g2; subst g2
   exact⟨List.mem_cons_of_mem _ (by simp[VK]),rfl⟩
 obtain⟨vsz,hv⟩:=hv
 have hS:∀r:gI,Clo (vb::VK a1) (H3.set c r):=fun r d hd=>by
  have hdc:d≠c:=fun e=>hcS (e▸hd)
  rw[List.getElem?_set_ne (Ne.symm hdc)]
  rcases List.mem_cons.1 hd with rfl|hm
  ·refine⟨_,_,_,_,_,hv,fun v hv=> ?_⟩
   simp at hv; subst hv
   exact hav
  ·obtain⟨off,hp⟩:=hsb d hm
   obtain⟨c',sz,o,r',l',h1,h2⟩:=hf d off hp
   exact⟨c',sz,o,r',l',h1,fun v hv=>(h2 v hv).inS⟩
 have hcmp:∀dk:List A,dk.length=d.length->∀x y,EV P dV ([.int .i64 (enc x),.int .i64 (enc y)]++[.pointer (some ⟨vb,0,none⟩)]) (frz (H3.set c (N7 (dk.map enc++sp)))) fun v _=>v= .int .i64 (cf x y):=fun dk _ x y=>by
  have hget:∀e:Nat,e≠c->(H3.set c (N7 (dk.map enc++sp)))[e]? =H3[e]? :=fun e he=>List.getElem?_set_ne (Ne.symm he)
  obtain⟨kx,tx,hx1,hx2⟩:=x
  obtain⟨ky,ty,hy1,hy2⟩:=y
  have ex:cf ⟨kx,tx,hx1,hx2⟩ ⟨ky,ty,hy1,hy2⟩=tx.Stamp-ty.Stamp:=by simp[cf,aY,hx1,hy1]
  refine EV.mono (adF (cb:=vb) (s:=a1) (ts:=ts) ⟨_,_,_,Es (by rw[hget _ (by omega)]; exact hv)⟩ ?_ hx1 hy1 hx2 hy2 (Q:=fun r _=>r.1=tx.Stamp-ty.Stamp) rfl) ?_
  ·have hfr:bP [c] H3 (H3.set c (N7 (dk.map enc++sp))):=bP.set _ _ (by simp)
   exact(hs.cO hfr (fun e he off hp=>by
    simp at he; subst he
    have:=htb e off hp; omega)).frz
  ·rintro v H' ⟨r,rfl,hr⟩
   obtain⟨r,_⟩:=r
   simp only at hr; subst hr
   rw[ex]; rfl
 have eg:∀args w,(callFunc dV args).run P w= .ok (.enter dV args) w:=by
  obtain⟨fn,hf,hb,hn⟩:=(hcmp d rfl default default).1
  obtain⟨c,hc⟩:=Option.isSome_iff_exists.1 hb
  exact enters_of hf hn hc
 exact Uu (P:=P) (ρ:=OA) acW hfn (α:=A) enc cf hO (H:=H3) (b:=c) (cap:=cp) (d:=d) (sp:=sp) o4 (by omega) (g:=dV) (cv:=[.pointer (some ⟨vb,0,none⟩)]) eg (S:=vb::VK a1) (fun dk _=>hS _)
  (fun v hv=>by simp at hv; subst hv; exact⟨List.mem_cons_self,rfl⟩) hcmp (Q:=fun H'=>Q () H')
  (fun d' hp hso=>by
   refine hq _ (d'.map enc) (by rw[←hd]; exact hp.map enc) (fun i j a b hij ha hb=> ?_) ⟨⟨by simp[hp.length_eq],by simp only; rw[List.length_map,hp.length_eq,hdl]; exact o2,o0,.inr ⟨c,rfl,by rw[fD hcl]; rfl⟩⟩,fun e he=>by simp at he; subst he; omega,n1.2.2.then (bP.set (B:=[c]) _ _ (by simp)) fun e he=>by simp at he; subst he; exact .inr hc1⟩ ⟨by simp,fun e _ he=>by rw[List.getElem?_set_ne (by rintro rfl; exact he rfl)]⟩
   rw[List.getElem?_map,Option.map_eq_some_iff]at ha hb
   obtain⟨x,hx,rfl⟩:=ha
   obtain⟨y,hy,rfl⟩:=hb
   have:=hso i j hij x y hx hy
   simp only[ltOf,cf,decide_eq_false_iff_not]at this
   show aY ts ((x.1:Int)).toNat≤aY ts ((y.1:Int)).toNat
   rw[Int.toNat_natCast,Int.toNat_natCast]
   omega)
end
end Go.Proofs.YtijnknjopjmiiaaGreatDoor.Zq
end
section
namespace Go.Proofs.YtijnknjopjmiiaaGreatDoor.Zq
open Zv
section
variable{H:Heap}{b m:Nat}{se:Bool}{B:List Cd}{ms:List ak}
theorem Xn(h:BP m H b se B ms){t:ByteArray}{Q:Int×Int×Unit->Heap->Prop}(hq:∀i e:Int,e≠1->Q (i,e,()) H):CALL P [fA,fA] jJ [.pointer (some ⟨b,0,none⟩),.string t] H Q:=by
 apply FQ
 unfold nG
 refine Eo h (bI rfl (KT h ?_))
 obtain⟨⟨cs,ns,w,hc⟩,_⟩:=h
 refine aS (fun _ H'=>H'=H) (fun j hj=>w.En rfl (bT (fun _=>hj _ _ rfl) (fun _=>hj _ _ rfl))) ?_
 rintro _ _ rfl
 exact bT (fun _=>hq _ _ (by decide)) (fun _=>hq _ _ (by decide))
theorem aew(h:BP m H b se B ms)(okB:G5 B){n:Int}{Q:ay×Int×Unit->Heap->Prop}(q6:(se=false∨n<1∨(B.length:Int)<n)->Q (zC,6,()) H)
  (q0:∀c g H',se=true->1≤n->B[(n-1).toNat]? =some c->CR H.length H' g c->bP [] H H'->Q (g,0,()) H'):CALL P [TC,fA] qA [.pointer (some ⟨b,0,none⟩),.int .i64 n] H Q:=by
 apply J5
 unfold qM
 refine Eo h (bI rfl ?_)
 have few:=h.few
 obtain⟨⟨cs,ns,w,hc⟩,_,lt,ml⟩:=id h
 refine hJ (se=false∨n<1∨(B.length:Int)<n) (fun j hj=>w.En rfl (bT (fun e=>hj _ ?_) (fun e=>dH (fun h1=>hj _ ?_) (fun h1=>w.Yl rfl (hj _ ?_))))) q6 (fun hN=> ?_)
 ·simp only[true_iff]; exact .inl (by simpa using e)
 ·simp only[true_iff]; exact .inr (.inl h1)
 ·have:¬se=false:=by simpa using e
  simp only[decide_eq_true_eq]; constructor
  ·exact fun q=>.inr (.inr q)
  ·rintro(q|q|q)
   ·exact absurd q this
   ·exact absurd q h1
   ·exact q
 ·have hse:se=true:=by cases hs:se with|true=>rfl|false=>exact absurd (.inl hs) hN
  have h1:¬n<1:=fun q=>hN (.inr (.inl q))
  have h2:¬(B.length:Int)<n:=fun q=>hN (.inr (.inr q))
  have hx:B[(n-1).toNat]? =some (B[(n-1).toNat]'(by omega)):=List.getElem?_eq_getElem (by omega)
  generalize (B[(n-1).toNat]'(by omega))=c at hx
  obtain⟨g,hg,cr⟩:=hc _ c hx
  have hp4:c.ps.length≤4:=by
   have:=okB.ok c (List.mem_of_getElem? hx)
   unfold xI at this
   by_cases hf:zX c=0
   ·exact qH hf
   ·rw[if_neg hf]at this; exact absurd this hf
  rw[dA (x:=n-1) (by omega) (by omega)]
  refine⟨⟨by omega,by omega⟩,w.IC hg (by simp) (Xj cr.p (by omega) fun s H' hs lo f=>q0 c _ H' hse (by omega) hx ⟨by rw[←cr.e]; rfl,hs,lo⟩ f)⟩
theorem Xo(h:BP m H b se B ms)(okB:G5 B){t:Tg}{Q:ay×Int×Unit->Heap->Prop}(q6:(se=false∨t.Card<1∨(B.length:Int)<t.Card)->Q (zC,6,()) H)
  (q0:∀c g H',se=true->1≤t.Card->B[(t.Card-1).toNat]? =some c->CR H.length H' g c->bP [] H H'->Q (g,0,()) H'):CALL P [TC,fA] pW [.pointer (some ⟨b,0,none⟩),jZ.enc t] H Q:=by
 apply PX
 unfold wH
 exact aew h okB q6 q0
def VN(B:List Cd)(t:Tg)(f:aG):Prop:=
 ∃c,1≤t.Card∧B[(t.Card-1).toNat]? =some c∧(t.Owner=0∨t.Owner=1)∧1≤t.Place∧t.Place≤5∧(t.Place=4->c.g.Kind≠2∧1≤t.Stamp∧(f.Holder=0∨f.Holder=1)∧f.Traits<256)
def kZ(ts:List Tg):Nat->List Int
 |0=>[]
 |n+1=>kZ ts n++if(ts[n]?.map (·.Place))=some 4 then [(n:Int)]else []
theorem oC{ts:List Tg}{x:Int}:∀{n:Nat},x∈kZ ts n↔∃(k:Nat) (t:Tg),k<n∧x=k∧ts[k]? =some t∧t.Place=4
 |0=>by simp[kZ]
 |n+1=>by
  simp only[kZ,List.mem_append,oC (n:=n)]
  constructor
  ·rintro(⟨k,t,h1,h2⟩|h)
   ·exact⟨k,t,by omega,h2⟩
   ·split at h
    ·rename_i e
     simp at h; subst h
     obtain⟨t,ht,hp⟩:=Option.map_eq_some_iff.1 e
     exact⟨n,t,by omega,rfl,ht,hp⟩
    ·cases h
  ·rintro⟨k,t,h1,h2,h3,h4⟩
   by_cases e:k=n
   ·subst e; right
    rw[if_pos (by rw[h3]; simp[h4])]; simp[h2]
   ·exact .inl ⟨k,t,by omega,h2,h3,h4⟩
theorem wX{ts:List Tg}:∀n:Nat,(kZ ts n).Nodup
 |0=>List.nodup_nil
 |n+1=>by
  simp only[kZ]
  rw[List.nodup_append]
  refine⟨wX n,by split<;>simp,fun a ha b hb=> ?_⟩
  obtain⟨k,t,h1,h2,_⟩:=oC.1 ha
  split at hb
  ·simp at hb; omega
  ·cases hb
theorem Yo{ts:List Tg}{n k:Nat}:(kZ ts n).length≤(kZ ts (n+k)).length:=by
 induction k with
 |zero=>exact Nat.le_refl _
 |succ k ih=>
  rw[←Nat.add_assoc]
  simp only[kZ,List.length_append]; omega
theorem Xp{ts:List Tg}:∀n:Nat,(kZ ts n).length≤n
 |0=>Nat.le_refl _
 |n+1=>by
  have:=Xp (ts:=ts) n
  simp only[kZ,List.length_append]
  split<;>simp<;>omega
structure Ux(B:List Cd)(ts:List Tg)(fs:List aG):Prop where
 all:∀(i:Nat) t f,ts[i]? =some t->fs[i]? =some f->VN B t f
 few:(kZ ts ts.length).length≤16
 dst:∀(i j:Nat) t u,i≠j->ts[i]? =some t->ts[j]? =some u->t.Place=4->u.Place=4->t.Stamp≠u.Stamp
open Classical in
noncomputable def fJ(se:Bool)(B:List Cd)(ts:List Tg)(fs:List aG):Int:=
 if 2048<ts.length then 3 else if se=false∨fs.length≠ts.length then 2 else if Ux B ts fs then 0 else 2
def Xq(ts:List Tg)(l:List Int):Prop:=l.Perm (kZ ts ts.length)∧∀(i j:Nat) a b,i<j->l[i]? =some a->l[j]? =some b->aY ts a.toNat≤aY ts b.toNat
structure Pl(H0 H:Heap)(cs so:Sl)(B:List Cd)(ts:List Tg)(cl:List ay)(ol:List Int):Prop where
 c:eY TC H cs cl
 len:cl.length=ts.length
 card:∀(i:Nat) t c,ts[i]? =some t->t.Place=4->1≤t.Card->B[(t.Card-1).toNat]? =some c->∃g,cl[i]? =some g∧CR H0.length H g c
 o:eY fA H so ol
 ord:Xq ts ol
 f:bP [] H0 H
theorem Ow.put{T:Tag}(hT:∀x,(T.cells x).length=T.n)(h1:∀x,(T.cells x).all cell1=true){s:Sl}{l sp:List T.α}(h:Ow T H s l sp){i:Int}{n:Nat}(hi:i=n)(hn:n<l.length)(x:T.α){sz:Nat}(hz:sz=T.n){K:Heap->Prop}
  (hK:∀c H',s.p=some ⟨c,0,none⟩->Ow T H' s (l.set n x) sp->bP [c] H H'->H'.length=H.length->K H'):dw s.p s.len i sz fun b o=>ST H b o (T.cells x) K:=by
 obtain⟨g1,g2,g0,⟨_,g3,_⟩|⟨c,g3,g4⟩⟩:=id h
 ·subst g3; simp at hn
 ·subst hi; subst hz
  have hx:(l++sp)[n]? =some l[n]:=by rw[List.getElem?_append_left hn,List.getElem?_eq_getElem hn]
  unfold dw NIL
  rw[g3]
  refine⟨⟨by omega,by omega⟩,?_⟩
  refine pO (fl T ((l++sp).take n)) (T.cells l[n]) (fl T ((l++sp).drop (n+1))) g4 (iF _ _ _ hx) ?_ (by rw[hT,hT]) (h1 x) ?_
  ·rw[bW hT,List.length_take,Nat.min_eq_left (by rw[List.length_append]; omega),Int.toNat_natCast]; simp
  ·refine hK c _ g3 ⟨by simpa using g1,by simpa using g2,g0,.inr ⟨c,g3,?_⟩⟩ (bP.set _ _ (by simp)) (by simp)
   rw[fD (dI g4)]
   have hx2:(l.set n x++sp)[n]? =some x:=by rw[List.getElem?_append_left (by simpa using hn),List.getElem?_set_self hn]
   rw[iF _ _ _ hx2]
   have e1:(l.set n x++sp).take n=(l++sp).take n:=by
    rw[List.take_append_of_le_length (by simp; omega),List.take_append_of_le_length (by omega),List.take_set_of_le (Nat.le_refl _)]
   have e2:(l.set n x++sp).drop (n+1)=(l++sp).drop (n+1):=by
    rw[←List.set_append_left n x hn,List.drop_set_of_lt (by omega)]
   rw[e1,e2]
theorem Lh{s:Sl}{l:List aG}(h:eY TF H s l){n:Nat}{x:aG}(hx:l[n]? =some x){K:Int->Prop}(hK:K x.Holder):dw s.p s.len (n:Int) 5 fun b o=>LD fA H b (o+0) K:=by
 have hl:=(List.getElem?_eq_some_iff.1 hx).1
 obtain⟨h1,⟨_,h2,_⟩|⟨_,_,_,h2,_⟩|⟨b,A,B,z,o,ro,h3,h4⟩⟩:=h
 ·subst h2; simp at hl
 ·subst h2; simp at hl
 ·unfold dw NIL
  rw[h3]
  refine⟨⟨by omega,by omega⟩,?_⟩
  refine dO (T:=fA) x.Holder (A++fl TF (l.take n)) ((TF.cells x).drop 1++(fl TF (l.drop (n+1))++B)) h4 ?_ ?_ rfl hK
  ·rw[iF (T:=TF) l n x hx]; simp[List.append_assoc]
  ·rw[List.length_append,bW Le,List.length_take,Nat.min_eq_left (by omega),Int.toNat_natCast]; rfl
theorem CS{s:Sl}{l:List aG}(h:eY TF H s l){i:Int}{n:Nat}(hi:i=n){x:aG}(hx:l[n]? =some x){K:Int->Prop}(hK:K x.Traits):dw s.p s.len i 5 fun b o=>LD (au .u16) H b (o+2) K:=by
 subst hi
 have hl:=(List.getElem?_eq_some_iff.1 hx).1
 obtain⟨h1,⟨_,h2,_⟩|⟨_,_,_,h2,_⟩|⟨b,A,B,z,o,ro,h3,h4⟩⟩:=h
 ·subst h2; simp at hl
 ·subst h2; simp at hl
 ·unfold dw NIL
  rw[h3]
  refine⟨⟨by omega,by omega⟩,?_⟩
  refine dO (T:=au .u16) x.Traits (A++(fl TF (l.take n)++(TF.cells x).take 2)) ((TF.cells x).drop 3++(fl TF (l.drop (n+1))++B)) h4 ?_ ?_ rfl hK
  ·rw[iF (T:=TF) l n x hx]; simp[List.append_assoc]
  ·rw[List.length_append,List.length_append,bW Le,List.length_take,Nat.min_eq_left (by omega),Int.toNat_natCast]
   show A.length+n*5+2=A.length+(n*5+2); omega
end
end Go.Proofs.YtijnknjopjmiiaaGreatDoor.Zq
end
section
namespace Go.Proofs.YtijnknjopjmiiaaGreatDoor.Zq
open Zv
section
variable{H:Heap}{b m:Nat}{se:Bool}{B:List Cd}{ms:List ak}
theorem Z7{ts:List Tg}{fs:List aG}(h1:¬2048<ts.length)(h2:¬(se=false∨fs.length≠ts.length)):(Ux B ts fs->fJ se B ts fs=0)∧(¬Ux B ts fs->fJ se B ts fs=2):=by
 unfold fJ
 rw[if_neg h1,if_neg h2]
 exact⟨fun h=>if_pos h,fun h=>if_neg h⟩
structure Sc(m:Nat)(H:Heap)(B:List Cd)(ts:List Tg)(n:Nat)(cl:List ay)(so:Sl):Prop where
 len:cl.length=ts.length
 c:∀(i:Nat) t c,i<n->ts[i]? =some t->t.Place=4->B[(t.Card-1).toNat]? =some c->∃g,cl[i]? =some g∧CR m H g c∧∀x off,g.Parts.p=some ⟨x,off,none⟩->so.p≠some ⟨x,0,none⟩
theorem Ow.after{T:Tag}{H1 H2:Heap}{out s:Sl}{l sp:List T.α}(h:Ow T H1 s l sp)(a:After out H1 H2)(ap:∀d,s.p=some ⟨d,0,none⟩->out.p≠some ⟨d,0,none⟩):Ow T H2 s l sp:=by
 by_cases hq:∃d,out.p=some ⟨d,0,none⟩
 ·obtain⟨d0,hd0⟩:=hq
  exact h.cO (a.cO (B:=[d0]) fun d hd=>by rw[hd0]at hd; cases hd; simp) fun x hx e=>by simp at hx; subst hx; exact ap _ e hd0
 ·exact h.cO (a.cO (B:=[]) fun d hd=>absurd ⟨d,hd⟩ hq) (by simp[Sl.off])
theorem Flat.cO{H':Heap}{s:Sl}(h:Flat H s)(f:bP [] H H'):Flat H' s:=fun d off e=>by
 obtain⟨c,sz,o,r,l,h1,h2⟩:=h d off e
 exact⟨c,sz,o,r,l,f.get (by simp) h1,h2⟩
theorem tyI:Oz E fA 27 (0:Int):=⟨⟨_,_,_,rfl,rfl,rfl,rfl,by decide,by decide,rfl⟩,by decide,qX,fun _=>rfl⟩
theorem abZ(h:BP m H b se B ms)(okB:G5 B){a1 a2:Sl}{ts:List Tg}{fs:List aG}(hs:eY jZ H a1 ts)(hf:eY TF H a2 fs)(fla:Flat H a1)(okt:∀t∈ts,t.Stamp≤9223372036854775807)(okf:∀f∈fs,0≤f.Traits)(bts:ts.length≤1048600){Q:aF×Int×Unit->Heap->Prop}
  (q1:∀p H',fJ se B ts fs≠0->bP [] H H'->Q (p,fJ se B ts fs,()) H') (q0:∀cs so cl ol H',fJ se B ts fs=0->Ux B ts fs->Pl H H' cs so B ts cl ol->Q (⟨some ⟨b,0,none⟩,a1,cs,so⟩,0,()) H'):
  CALL P [aC,fA] kC [.pointer (some ⟨b,0,none⟩),a1.v,a2.v] H Q:=by
 apply Np
 unfold uq
 have hsl:=hs.1
 have hfl:=hf.1
 unfold NEW
 have r1:(mk H [(.slice a1.p a1.len a1.cap)] 1 false)[H.length]? =some (.row [a1.v] 1 false false true):=by simp[mk,Sl.v]
 have f1:bP [] H (mk H [(.slice a1.p a1.len a1.cap)] 1 false):=bP.app _ _ _
 have l1:(mk H [(.slice a1.p a1.len a1.cap)] 1 false).length=H.length+1:=by simp[mk]
 generalize mk H [(.slice a1.p a1.len a1.cap)] 1 false=H1 at r1 f1 l1
 have ldv:∀{H':Heap} {k:Sl->Prop},bP [] H1 H'->k a1->LD aJ H' H.length 0 k:=fun f hk=>dO (T:=aJ) a1 [] [] (f.get (by simp) r1) rfl rfl rfl hk
 refine ldv (.refl _ _) (ldv (.refl _ _) ?_)
 rw[hsl]
 refine JB tyC (n:=ts.length) (m:=ts.length) rfl rfl (Nat.le_refl _) (by omega) fun s3 e3 n3=> ?_
 have l2:(mk H1 (fl TC (List.replicate ts.length zC)) TC.n false).length=H1.length+1:=by simp[mk]
 generalize mk H1 (fl TC (List.replicate ts.length zC)) TC.n false=H2 at n3 l2
 have f2:=n3.2.2
 have f02:bP [] H H2:=f1.trans f2
 have h2:=h.new f02
 have o3:Ow TC H2 s3 (List.replicate ts.length zC) []:=by simpa using n3.1
 have p3:s3.p=some ⟨H1.length,0,none⟩:=by rw[e3]
 refine ldv f2 ⟨rfl,Xn h2 fun i e he=> ?_⟩
 refine bI (by simpa using he) (ldv f2 (dH (fun hlong=> ?_) (fun hlong=> ?_)))
 ·have e:fJ se B ts fs=3:=by unfold fJ; rw[if_pos (by omega)]
  have:=q1 ⟨some ⟨b,0,none⟩,a1,s3,⟨none,0,0⟩⟩ H2 (by rw[e]; decide) f02
  rwa [e]at this
 have hlong:¬2048<ts.length:=by omega
 refine hJ (se=false∨fs.length≠ts.length) (fun j hj=>OG h2 (bT (fun e=>hj _ ?_) (fun e=>ldv f2 (hj _ ?_)))) (fun hbad=> ?_) (fun hgood=> ?_)
 ·simp only[true_iff]; exact .inl (by simpa using e)
 ·have:¬se=false:=by simpa using e
  simp only[bne_iff_ne,ne_eq]
  constructor
  ·intro q; exact .inr (by omega)
  ·rintro(q|q)
   ·exact absurd q this
   ·omega
 ·have e:fJ se B ts fs=2:=by unfold fJ; rw[if_neg hlong,if_pos hbad]
  have:=q1 ⟨some ⟨b,0,none⟩,a1,s3,⟨none,0,0⟩⟩ H2 (by rw[e]; decide) f02
  rwa [e]at this
 have hse:se=true:=by cases hs:se with|true=>rfl|false=>exact absurd (.inl hs) hgood
 have hfe:fs.length=ts.length:=Classical.byContradiction fun q=>hgood (.inr q)
 obtain⟨eT,eF⟩:=Z7 (B:=B) hlong hgood
 have bad:∀p H',¬Ux B ts fs->bP [] H H'->Q (p,2,()) H':=fun p H' hn f=>by
  have e:=eF hn
  have:=q1 p H' (by rw[e]; decide) f
  rwa [e]at this
 refine ldv f2 ?_
 refine aS (fun(y:Unit×(aF×aF×Unit)) H'=>∃(so:Sl) (cl:List ay) (sp:List Int),y.2.2.1=⟨some ⟨b,0,none⟩,a1,s3,so⟩∧bJ fA H1 so H' (kZ ts ts.length) sp∧(∀d,so.p=some ⟨d,0,none⟩->H2.length≤d)∧Ow TC H' s3 cl []∧Sc H2.length H' B ts ts.length cl so∧(∀(i:Nat) t f,ts[i]? =some t->fs[i]? =some f->VN B t f)∧(kZ ts ts.length).length≤16) (fun j hj=> ?_) ?_
 ·refine bG (fun(y:(Int×Unit)×(aF×aF×Unit)) H'=>∃(n:Nat) (so:Sl) (cl:List ay) (sp:List Int),y.1.1=n∧n≤ts.length∧y.2.2.1=⟨some ⟨b,0,none⟩,a1,s3,so⟩∧bJ fA H1 so H' (kZ ts n) sp∧(∀d,so.p=some ⟨d,0,none⟩->H2.length≤d)∧Ow TC H' s3 cl []∧Sc H2.length H' B ts n cl so∧(∀(i:Nat) t f,i<n->ts[i]? =some t->fs[i]? =some f->VN B t f)∧(kZ ts n).length≤16) (fun y=>ts.length-y.1.1.toNat) ?_
   ⟨0,⟨none,0,0⟩,_,[],rfl,Nat.zero_le _,rfl,⟨Ow.nil fA H2,by simp,f2⟩,by simp,o3,⟨by simp,fun i t c hi=>by omega⟩,fun i t f hi=>by omega,by simp[kZ]⟩
  rintro G ⟨⟨i,_⟩,p1,p2,_⟩ H' ⟨n,so,cl,sp,hi,hn,hp2,no,hso,oc,sc,hok,hfew⟩ hG
  simp only at hi hp2; subst hi; subst hp2
  dsimp only at hG ⊢
  have fb:=no.2.2
  have f0':bP [] H H':=f1.trans fb
  have h':=h.new f0'
  have h2l:H2.length≤H'.length:=by have:=oc.lt p3; omega
  refine dH (fun hlt=>bF ?_) (fun hge=>hj _ _ ?_)
  ·have hlt:n<ts.length:=by omega
   have hx:ts[n]? =some ts[n]:=List.getElem?_eq_getElem hlt
   have hy:fs[n]? =some (fs[n]'(by omega)):=List.getElem?_eq_getElem (by omega)
   have tbs:kZ ts (n+1)=kZ ts n++if(ts[n]).Place=4 then [(n:Int)]else []:=by
    simp only[kZ,hx,Option.map_some,Option.some.injEq]
   have hmt:ts[n]∈ts:=List.getElem_mem hlt
   have hmf:fs[n]'(by omega)∈fs:=List.getElem_mem (by omega)
   generalize ts[n]=t at hx tbs hmt
   generalize (fs[n]'(by omega))=f at hy hmf
   have notog:¬VN B t f->¬Ux B ts fs:=fun q k=>q (k.all n t f hx hy)
   refine bf (T:=jZ) zu (hs.cO f0' (by simp)) rfl hx rfl (Xo h' okB (fun q=> ?_) (fun c g H9 _ hc1 hcx cr f9=> ?_))
   ·refine bF (iJ rfl (iJ rfl (bad _ _ (notog ?_) f0')))
    rintro⟨c,k1,k2,_⟩
    have:=(List.getElem?_eq_some_iff.1 k2).1
    rcases q with q|q|q
    ·rw[hse]at q; cases q
    ·omega
    ·omega
   have okiff:VN B t f↔(t.Owner=0∨t.Owner=1)∧1≤t.Place∧t.Place≤5∧(t.Place=4->c.g.Kind≠2∧1≤t.Stamp∧(f.Holder=0∨f.Holder=1)∧f.Traits<256):=by
    constructor
    ·rintro⟨c',k1,k2,k3⟩
     rw[hcx]at k2; cases k2; exact k3
    ·exact fun q=>⟨c,hc1,hcx,q⟩
   have f09:bP [] H H9:=f0'.trans f9
   refine hJ (¬(t.Owner=0∨t.Owner=1)∨t.Place<1∨5<t.Place) (fun j2 hj2=>bI rfl (AO (fun e1=>AO (fun e2=>hj2 _ (by simp; omega)) (fun e2=>dH (fun e3=>hj2 _ (by simp; omega)) (fun e3=>hj2 _ (by simp; omega)))) (fun e1=>dH (fun e3=>hj2 _ (by simp; omega)) (fun e3=>hj2 _ (by simp; omega))))) (fun q=>bad _ _ (notog fun k=> ?_) f09) (fun hA=> ?_)
   ·have:=okiff.1 k; omega
   have no9:bJ fA H1 so H9 (kZ ts n) sp:=⟨no.1.cO f9 (by simp[Sl.off]),no.2.1,fb.trans f9⟩
   have oc9:Ow TC H9 s3 cl []:=oc.cO f9 (by simp[Sl.off])
   have sc9:∀(i:Nat) t c,i<n->ts[i]? =some t->t.Place=4->B[(t.Card-1).toNat]? =some c->∃g,cl[i]? =some g∧CR H2.length H9 g c∧∀x off,g.Parts.p=some ⟨x,off,none⟩->so.p≠some ⟨x,0,none⟩:=fun i t c k1 k2 k3 k4=>by
    obtain⟨g',w1,w2,w3⟩:=sc.c i t c k1 k2 k3 k4
    exact⟨g',w1,w2.cO f9 (by simp),w3⟩
   refine AO (fun hp4=> ?_) (fun hp4=> ?_)
   ·rw[if_neg hp4,List.append_nil]at tbs
    rw[dA (by omega) (by omega)]
    refine hG _ _ ⟨n+1,so,cl,sp,by simp,hlt,rfl,by rw[tbs]; exact no9,hso,oc9,⟨sc.len,fun i t' c' k1 k2 k3 k4=> ?_⟩,fun i t' f' k1 k2 k3=> ?_,by rw[tbs]; exact hfew⟩ (by simp; omega)
    ·by_cases e:i=n
     ·subst e; rw[hx]at k2; cases k2; exact absurd k3 hp4
     ·exact sc9 i t' c' (by omega) k2 k3 k4
    ·by_cases e:i=n
     ·subst e; rw[hx]at k2; cases k2; rw[hy]at k3; cases k3
      exact okiff.2 ⟨by omega,by omega,by omega,fun q=>absurd q hp4⟩
     ·exact hok i t' f' (by omega) k2 k3
   ·rw[if_pos hp4]at tbs
    have hkd:g.Kind=c.g.Kind:=by rw[←cr.e]; rfl
    have hf9:=hf.cO f09 (by simp)
    have hy0:=okf f hmf
    refine hJ (c.g.Kind=2∨t.Stamp<1∨¬(f.Holder=0∨f.Holder=1)∨¬f.Traits<256) (fun j2 hj2=> ?_) (fun q=>bad _ _ (notog fun k=> ?_) f09) (fun hB=> ?_)
    ·rw[hkd]
     refine fV (fun e=>hj2 _ (by simp; omega)) (fun e=>dH (fun e1=>hj2 _ (by simp; omega)) (fun e1=>Lh hf9 hy (AO (fun e2=>Lh hf9 hy (AO (fun e3=>hj2 _ (by simp; omega)) (fun e3=>CS hf9 rfl hy (KP hy0 (hj2 _ (by simp; omega)))))) (fun e2=>CS hf9 rfl hy (KP hy0 (hj2 _ (by simp; omega)))))))
    ·have:=(okiff.1 k).2.2.2 hp4; omega
    have okn:VN B t f:=okiff.2 ⟨by omega,by omega,by omega,fun _=>⟨by omega,by omega,by omega,by omega⟩⟩
    have hcl:=sc.len
    have hl9:=f9.1
    refine oc9.put (n:=n) YN (fun x=>tyC.one x) rfl (by omega) g rfl fun c0 H14 hc0 oc14 f14 l14=> ?_
    rw[p3]at hc0; cases hc0
    have cgn:CR H2.length H14 g c:=by
     have:CR H2.length H9 g c:=⟨cr.e,cr.p,fun d hd=>by have:=cr.lo d hd; omega⟩
     exact this.cO f14 fun d hd=>by simp at hd; omega
    have no14:bJ fA H1 so H14 (kZ ts n) sp:=by
     refine⟨no9.1.cO f14 fun d hd e=> ?_,no9.2.1,no9.2.2.then f14 fun d hd=> ?_⟩
     ·simp at hd; subst hd
      have:=hso _ e; omega
     ·simp at hd; subst hd; exact .inr (Nat.le_refl _)
    have htl:=Xp (ts:=ts) n
    refine JA tyI rfl (fun _=>by simp) (m:=1) [(n:Int)] rfl rfl (by show 2*((kZ ts n).length+1)*4096≤_; omega) no14.1 fun s42 H15 sp15 k1 k2 k3=> ?_
    have no15:bJ fA H1 s42 H15 (kZ ts n++[(n:Int)]) sp15:=no14.app k1 k2 k3
    have hlen42:s42.len=(kZ ts (n+1)).length:=by rw[tbs]; exact k1.1
    refine dH (fun hbig=>bad _ _ (fun k=> ?_) (f1.trans no15.2.2)) (fun hsm=> ?_)
    ·have:=k.few
     have:=Yo (ts:=ts) (n:=n+1) (k:=ts.length-(n+1))
     rw[show n+1+(ts.length-(n+1))=ts.length by omega]at this
     omega
    have l14':H9.length≤H14.length:=by omega
    have hso':∀d,s42.p=some ⟨d,0,none⟩->H2.length≤d:=fun d hd=>by
     rcases k2 with q|⟨q,_⟩
     ·exact hso d (by rw[←q]; exact hd)
     ·rw[q]at hd; cases hd; omega
    have ap42:∀(g':ay) d',CR H2.length H14 g' d'->(∀x off,g'.Parts.p=some ⟨x,off,none⟩->so.p≠some ⟨x,0,none⟩)->∀x off,g'.Parts.p=some ⟨x,off,none⟩->s42.p≠some ⟨x,0,none⟩:=fun g' d' cr' a' x off e e2=>by
     rcases k2 with q|⟨q,_⟩
     ·exact a' x off e (by rw[←q]; exact e2)
     ·rw[q]at e2
      have:=QF cr'.p e
      cases e2; omega
    have gap:∀x off,g.Parts.p=some ⟨x,off,none⟩->so.p≠some ⟨x,0,none⟩:=fun x off e e2=>by
     have:=cr.lo x (by rw[e]; simp[bl])
     have:=no.1.lt e2; omega
    rw[dA (by omega) (by omega)]
    refine hG _ _ ⟨n+1,s42,cl.set n g,sp15,by simp,hlt,rfl,by rw[tbs]; exact no15,hso',oc14.after k3 (fun d hd e=>by rw[p3]at hd; cases hd; have:=hso _ e; omega),⟨by simpa using sc.len,fun i t' c' w1 w2 w3 w4=> ?_⟩,fun i t' f' w1 w2 w3=> ?_,by omega⟩ (by simp; omega)
    ·by_cases e:i=n
     ·subst e; rw[hx]at w2; cases w2
      rw[hcx]at w4; cases w4
      exact⟨g,List.getElem?_set_self (by omega),cgn.after k3 gap,ap42 g c cgn gap⟩
     ·obtain⟨g',v1,v2,v3⟩:=sc9 i t' c' (by omega) w2 w3 w4
      have v2':CR H2.length H14 g' c':=v2.cO f14 fun d hd=>by simp at hd; omega
      exact⟨g',by rw[List.getElem?_set_ne (by omega)]; exact v1,v2'.after k3 v3,ap42 g' c' v2' v3⟩
    ·by_cases e:i=n
     ·subst e; rw[hx]at w2; cases w2; rw[hy]at w3; cases w3; exact okn
     ·exact hok i t' f' (by omega) w2 w3
  ·have hge:n=ts.length:=by omega
   subst hge
   exact⟨so,cl,sp,rfl,no,hso,oc,sc,fun i t f w1 w2=>hok i t f (List.getElem?_eq_some_iff.1 w1).1 w1 w2,hfew⟩
 ·rintro⟨_,p1,p2,_⟩ H6 ⟨so,cl,sp,hp2,no,hso,oc,sc,hok,hfew⟩
  simp only at hp2; subst hp2
  dsimp only
  have fb:=no.2.2
  have f06:bP [] H H6:=f1.trans fb
  have onT:∀x∈kZ ts ts.length,∃(k:Nat) (t:Tg),x=k∧ts[k]? =some t∧t.Place=4∧1≤t.Stamp∧t.Stamp≤9223372036854775807:=fun x hx=>by
   obtain⟨k,t,h1,rfl,h3,h4⟩:=oC.1 hx
   have hk:k<fs.length:=by rw[hfe]; exact h1
   obtain⟨c,_,_,_,_,_,w⟩:=hok k t _ h3 (List.getElem?_eq_getElem hk)
   exact⟨k,t,rfl,h3,h4,(w h4).2.1,okt t (List.mem_of_getElem? h3)⟩
  refine abY (vb:=H.length) no ⟨1,fb.get (by simp) r1⟩ (hs.cO f06 (by simp)) (fla.cO f06) (by omega) (fun d off e=>by have:=QF hs e; omega) (fun x hx=>by obtain⟨k,t,e,w1,w2,w3⟩:=onT x hx; exact⟨k,t,e,w1,w3⟩) (by omega) fun H16 l' hperm hsort no16 aft=> ?_
  have f016:bP [] H H16:=f1.trans no16.2.2
  have hl':l'.length=(kZ ts ts.length).length:=hperm.length_eq
  have hso16:=no16.1.rC
  have hsol:=hso16.1
  have hs16:=hs.cO f016 (by simp)
  have nd:l'.Nodup:=hperm.symm.nodup (wX _)
  have at':∀(k:Nat) x,l'[k]? =some x->∃(j:Nat) (t:Tg),x=j∧ts[j]? =some t∧t.Place=4∧aY ts x.toNat=t.Stamp:=fun k x hx=>by
   obtain⟨j,t,rfl,w1,w2,_⟩:=onT x (hperm.mem_iff.1 (List.mem_of_getElem? hx))
   exact⟨j,t,rfl,w1,w2,by simp[aY,w1]⟩
  refine aS (fun _ H'=>H'=H16∧∀(j:Nat) x y,1≤j->l'[j-1]? =some x->l'[j]? =some y->aY ts x.toNat<aY ts y.toNat) (fun j hj=> ?_) ?_
  ·refine bG (fun(t:(Int×Unit)×(aF×Unit)) H'=>H'=H16∧∃k:Nat,t.1.1=k∧1≤k∧∀(j:Nat) x y,1≤j->j<k->l'[j-1]? =some x->l'[j]? =some y->aY ts x.toNat<aY ts y.toNat) (fun t=>l'.length+1-t.1.1.toNat) ?_ ⟨rfl,1,rfl,Nat.le_refl _,fun j x y w1 w2=>by omega⟩
   rintro G ⟨⟨i,_⟩,p3',_⟩ H' ⟨rfl,k,hk,hk1,hno⟩ hG
   simp only at hk; subst hk
   dsimp only at hG ⊢
   refine dH (fun hlt=> ?_) (fun hge=>hj _ _ ⟨rfl,fun j x y w1 w2 w3=>hno j x y w1 (by have:=(List.getElem?_eq_some_iff.1 w3).1; omega) w2 w3⟩)
   have hkl:k<l'.length:=by omega
   have hxk:l'[k-1]? =some (l'[k-1]'(by omega)):=List.getElem?_eq_getElem (by omega)
   have hyk:l'[k]? =some l'[k]:=List.getElem?_eq_getElem hkl
   have hne:=List.pairwise_iff_getElem.1 nd (k-1) k (by omega) hkl (by omega)
   generalize (l'[k-1]'(by omega))=x at hxk hne
   generalize l'[k]=y at hyk hne
   obtain⟨jx,tx,ex,hjx,px,sx⟩:=at' _ x hxk
   obtain⟨jy,ty,ey,hjy,py,sy⟩:=at' _ y hyk
   rw[dA (x:=(k:Int)-1) (by omega) (by omega)]
   refine ldv no16.2.2 (bf (T:=fA) qX hso16 (n:=k-1) (by omega) hxk rfl (nK hs16 ex hjx (ldv no16.2.2 (bf (T:=fA) qX hso16 (n:=k) rfl hyk rfl (nK hs16 ey hjy (fV (fun e=>bad _ _ (fun w=> ?_) f016) (fun e=> ?_)))))))
   ·exact w.dst jx jy tx ty (fun q=>hne (by rw[ex,ey,q])) hjx hjy px py e
   ·rw[dA (by omega) (by omega)]
    refine hG _ _ ⟨rfl,k+1,by simp,by omega,fun j a b w1 w2 w3 w4=> ?_⟩ (by simp; omega)
    by_cases ej:j=k
    ·subst ej; rw[hxk]at w3; cases w3; rw[hyk]at w4; cases w4
     have:=hsort (j-1) j x y (by omega) hxk hyk
     rw[sx,sy]at this ⊢
     omega
    ·exact hno j a b w1 (by omega) w3 w4
  ·rintro⟨_,p4,_⟩ H17 ⟨rfl,hstr⟩
   have lt2:∀(p q:Nat) x y,p<q->l'[p]? =some x->l'[q]? =some y->aY ts x.toNat<aY ts y.toNat:=fun p q x y hpq hx hy=>by
    have hql:=(List.getElem?_eq_some_iff.1 hy).1
    have hz:l'[p+1]? =some (l'[p+1]'(by omega)):=List.getElem?_eq_getElem (by omega)
    have h1:=hstr (p+1) x _ (by omega) (by simpa using hx) hz
    by_cases e:p+1=q
    ·subst e; rw[hy]at hz; cases hz; exact h1
    ·have h2:=hsort (p+1) q _ y (by omega) hz hy
     omega
   have N8:Ux B ts fs:=⟨hok,hfew,fun i j t u hij hi hj pt pu=>by
    have mi:(i:Int)∈l':=hperm.mem_iff.2 (oC.2 ⟨i,t,(List.getElem?_eq_some_iff.1 hi).1,rfl,hi,pt⟩)
    have mj:(j:Int)∈l':=hperm.mem_iff.2 (oC.2 ⟨j,u,(List.getElem?_eq_some_iff.1 hj).1,rfl,hj,pu⟩)
    obtain⟨p,hp⟩:=List.mem_iff_getElem?.1 mi
    obtain⟨q,hq⟩:=List.mem_iff_getElem?.1 mj
    have si:aY ts (i:Int).toNat=t.Stamp:=by simp[aY,hi]
    have sj:aY ts (j:Int).toNat=u.Stamp:=by simp[aY,hj]
    rcases Nat.lt_trichotomy p q with w|w|w
    ·have:=lt2 p q _ _ w hp hq; omega
    ·subst w; rw[hp]at hq; simp at hq; exact absurd (by omega) hij
    ·have:=lt2 q p _ _ w hq hp; omega⟩
   refine q0 s3 so cl l' H17 (eT N8) N8 ⟨(oc.after aft (fun d hd e=>by rw[p3]at hd; cases hd; have:=hso _ e; omega)).rC,sc.len,fun i t c w1 w2 w3 w4=> ?_,hso16,⟨hperm,hsort⟩,f016⟩
   obtain⟨g',v1,v2,v3⟩:=sc.c i t c (List.getElem?_eq_some_iff.1 w1).1 w1 w2 w4
   have:=v2.after aft v3
   exact⟨g',v1,this.e,this.p,fun d hd=>by have:=this.lo d hd; omega⟩
end
end Go.Proofs.YtijnknjopjmiiaaGreatDoor.Zq
end
section
namespace Go.Proofs.YtijnknjopjmiiaaGreatDoor.Zq
open Zv
section
variable{H:Heap}
def F8(t:Int):Int:=if 1≤t∧t≤8 then IntKind.wrap .u16 (1*2 ^ (min (IntKind.wrap .u8 (t-1)).toNat (IntKind.bits .u16)))else 0
def Z8(s t:Int):Bool:=(IntKind.wrap .u16 (((BitVec.ofInt (IntKind.bits .u16) s &&& BitVec.ofInt (IntKind.bits .u16) (F8 t)).toNat:Int))) !=0
def Lj(s t:Int):Int:=IntKind.wrap .u16 (((BitVec.ofInt (IntKind.bits .u16) s ||| BitVec.ofInt (IntKind.bits .u16) (F8 t)).toNat:Int))
def Ll(s t:Int):Int:=IntKind.wrap .u16 (((BitVec.ofInt (IntKind.bits .u16) s &&& ~~~BitVec.ofInt (IntKind.bits .u16) (F8 t)).toNat:Int))
def Z9(v:Int):Int:=if v=10 then 1 else if v=11 then 2 else if v=12∨v=13 then 3 else if v=14 then 4 else if v=15 then 5 else 0
theorem afh(x:Int):0≤IntKind.wrap .u8 x:=by
 show 0≤x%256
 omega
theorem Xr(x:Int):0≤IntKind.wrap .u16 x:=by
 show 0≤x%65536
 omega
theorem VO{t:Int}{Q:Int×Unit->Heap->Prop}(hq:Q (F8 t,()) H):CALL P [au .u16] ou [.int .u8 t] H Q:=by
 apply Ug
 unfold zn
 apply VD
 unfold CQ
 refine JD (1≤t∧t≤8) (fun j hj=>dH (fun h=>hj _ (by simp; omega)) (fun h=>hj _ (by simp; omega))) ?_
 refine Qy (fun h=> ?_) (fun h=> ?_)
 ·unfold F8 at hq; rw[if_neg h]at hq; exact hq
 ·unfold F8 at hq; rw[if_pos h]at hq; exact⟨afh _,hq⟩
theorem aac{s t:Int}{Q:Bool×Unit->Heap->Prop}(hq:Q (Z8 s t,()) H):CALL P [ah] rZ [.int .u16 s,.int .u8 t] H Q:=by
 apply Ud
 unfold zk
 exact VO hq
theorem ab1{s t:Int}{Q:Int×Unit->Heap->Prop}(hq:Q (Lj s t,()) H):CALL P [au .u16] wz [.int .u16 s,.int .u8 t] H Q:=by
 apply Qj
 unfold wM
 exact VO hq
theorem ab2{s t:Int}{Q:Int×Unit->Heap->Prop}(hq:Q (Ll s t,()) H):CALL P [au .u16] oO [.int .u16 s,.int .u8 t] H Q:=by
 apply Ic
 unfold pF
 exact VO hq
theorem adG{v:Int}{Q:Int×Unit->Heap->Prop}(hq:Q (Z9 v,()) H):CALL P [au .i64] qE [.int .u8 v] H Q:=by
 apply KD
 unfold qR
 unfold Z9 at hq
 refine fV (fun h=>by rwa [if_pos h]at hq) (fun h1=>fV (fun h=>by rwa [if_neg h1,if_pos h]at hq) (fun h2=>hJ (v=12∨v=13) (fun j hj=>fV (fun h=>hj _ (by simp; omega)) (fun h=>hj _ (by simp; omega))) (fun h3=>by rwa [if_neg h1,if_neg h2,if_pos h3]at hq) (fun h3=> ?_)))
 rw[if_neg h1,if_neg h2,if_neg h3]at hq
 exact fV (fun h=>by rwa [if_pos h]at hq) (fun h4=>fV (fun h=>by rwa [if_neg h4,if_pos h]at hq) (fun h5=>by rwa [if_neg h4,if_neg h5]at hq))
theorem bJ.older{T:Tag}{H H1 H':Heap}{s:Sl}{l sp:List T.α}(h:bJ T H1 s H' l sp)(f:bP [] H H1):bJ T H s H' l sp:=
 ⟨h.1,fun d hd=>Nat.le_trans f.1 (h.2.1 d hd),f.trans h.2.2⟩
theorem bJ.new{T:Tag}{H H1 H':Heap}{s:Sl}{l sp:List T.α}(h:bJ T H s H1 l sp)(f:bP [] H1 H'):bJ T H s H' l sp:=
 ⟨h.1.cO f (by simp[Sl.off]),h.2.1,h.2.2.trans f⟩
theorem bJ.nil'(T:Tag)(H:Heap):bJ T H ⟨none,0,0⟩ H [] []:=⟨Ow.nil T H,by simp,.refl _ _⟩
end
end Go.Proofs.YtijnknjopjmiiaaGreatDoor.Zq
end
section
namespace Go.Proofs.YtijnknjopjmiiaaGreatDoor.Zq
open Zv
section
abbrev lg:Tag:=aH
abbrev Sg:=aN
abbrev Ft:=aG
theorem F9(x:Sg):(lg.cells x).length=lg.n:=rfl
theorem QH:Oz E lg 37 (⟨0,0,⟨0,0,0,0,0,0,0,ByteArray.mk #[]⟩⟩:Sg):=⟨⟨_,_,_,rfl,rfl,rfl,rfl,by decide,by decide,rfl⟩,by decide,F9,fun _=>rfl⟩
theorem tyF:Oz E TF 30 (⟨0,0,0,0,0⟩:Ft):=⟨⟨_,_,_,rfl,rfl,rfl,rfl,by decide,by decide,rfl⟩,by decide,Le,fun _=>rfl⟩
def L6(fs:List Ft)(i:Int):Ft:=fs[i.toNat]?.getD ⟨0,0,0,0,0⟩
def cdI(B:List Cd)(ts:List Tg)(i:Int):Option Cd:=ts[i.toNat]?.bind fun t=>B[(t.Card-1).toNat]?
def cpI(B:List Cd)(ts:List Tg)(i:Int):List Pt:=((cdI B ts i).map (·.ps)).getD []
def ckI(B:List Cd)(ts:List Tg)(i:Int):Int:=((cdI B ts i).map (·.g.Kind)).getD 0
def oD(n k:Int)(p:Pt×Nat):List Sg:=if p.1.When=5∧Z9 p.1.Verb=k then [⟨n,p.2,p.1⟩]else []
def Uy(n k:Int)(ps:List Pt):List Sg:=ps.zipIdx.flatMap (oD n k)
def mM(B:List Cd)(ts:List Tg)(fs:List Ft)(k i:Int):List Sg:=if Z8 (L6 fs i).Traits 6=true then []else Uy (i+1) k (cpI B ts i)
def rH(B:List Cd)(ts:List Tg)(fs:List Ft)(ol:List Int)(k:Int):List Sg:=ol.flatMap (mM B ts fs k)
def wY(B:List Cd)(ts:List Tg)(fs:List Ft)(s:Sg)(i:Int):Bool:=
 if s.What.Whom=4 then i==s.Thing-1
 else if ckI B ts i≠1 then false
 else if s.What.Whom=5 then(L6 fs i).Holder==(L6 fs (s.Thing-1)).Holder
 else if s.What.Whom=6 then(L6 fs i).Holder !=(L6 fs (s.Thing-1)).Holder
 else if s.What.Whom=7 then true
 else if s.What.Whom=8 then(L6 fs i).Holder==(L6 fs (s.Thing-1)).Holder&&i !=s.Thing-1
 else if s.What.Whom=9 then(L6 fs i).Suit==s.What.Suit
 else if s.What.Whom=10 then Z8 (L6 fs i).Traits s.What.Trait
 else false
def jr(B:List Cd)(ts:List Tg)(fs:List Ft)(s:Sg)(i:Int):List Int:=if wY B ts fs s i=true then [i+1]else []
def eH(B:List Cd)(ts:List Tg)(fs:List Ft)(ol:List Int)(s:Sg):List Int:=ol.flatMap (jr B ts fs s)
def sF(f:Ft)(p:Pt)(h:Int):Ft:=
 if p.Verb=10 then{ f with Holder:=h }
 else if p.Verb=11 then{ f with Suit:=p.Suit }
 else if p.Verb=12 then{ f with Traits:=Lj f.Traits p.Trait }
 else if p.Verb=13 then{ f with Traits:=Ll f.Traits p.Trait }
 else if p.Verb=14 then{ f with Power:=p.Count,Health:=p.Count }
 else if p.Verb=15 then{ f with Power:=IntKind.wrap .i64 (f.Power+p.Count),Health:=IntKind.wrap .i64 (f.Health+p.Count) }
 else f
def vk(s:Sg)(h:Int)(out:List Ft)(n:Int):List Ft:=out.set (n-1).toNat (sF (L6 out (n-1)) s.What h)
def nM(B:List Cd)(ts:List Tg)(fs:List Ft)(ol:List Int)(s:Sg):List Ft:=
 (eH B ts fs ol s).foldl (vk s (L6 fs (s.Thing-1)).Holder) fs
def mG(B:List Cd)(ts:List Tg)(fs:List Ft)(ol:List Int)(s o:Sg):Bool:=decide (eH B ts fs ol s≠eH B ts (nM B ts fs ol o) ol s)
theorem QI{α β:Type}(f:α->List β){l:List α}{n:Nat}{x:α}(hx:l[n]? =some x):(l.take (n+1)).flatMap f=(l.take n).flatMap f++f x:=by
 rw[List.take_add_one,hx,List.flatMap_append]; simp
theorem Yp{α β:Type}(f:β->α->β)(b:β){l:List α}{n:Nat}{x:α}(hx:l[n]? =some x):(l.take (n+1)).foldl f b=f ((l.take n).foldl f b) x:=by
 rw[List.take_add_one,hx,List.foldl_append]; simp
theorem CU{α β:Type}{f:α->List β}{c:Nat}:∀{l:List α},(∀x∈l,(f x).length≤c)->(l.flatMap f).length≤c*l.length
 |[],_=>by simp
 |x::r,h=>by
  rw[List.flatMap_cons,List.length_append,List.length_cons,Nat.mul_succ]
  have:=CU (l:=r) (fun y hy=>h y (by simp[hy]))
  have:=h x (by simp)
  omega
theorem OI(n k:Int)(p:Pt×Nat):(oD n k p).length≤1:=by unfold oD; split<;>simp
theorem Uz(n k:Int)(ps:List Pt):(Uy n k ps).length≤ps.length:=by
 have:=CU (f:=oD n k) (c:=1) (l:=ps.zipIdx) (fun x _=>OI n k x)
 rw[List.length_zipIdx]at this
 unfold Uy; omega
theorem GR(B:List Cd)(ts:List Tg)(fs:List Ft)(s:Sg)(i:Int):(jr B ts fs s i).length≤1:=by unfold jr; split<;>simp
theorem Lm(B:List Cd)(ts:List Tg)(fs:List Ft)(ol:List Int)(s:Sg):(eH B ts fs ol s).length≤ol.length:=by
 have:=CU (f:=jr B ts fs s) (c:=1) (l:=ol) (fun x _=>GR B ts fs s x)
 unfold eH; omega
theorem nN{B:List Cd}{ts:List Tg}{fs:List Ft}{ol:List Int}{s:Sg}{x:Int}:x∈eH B ts fs ol s↔x-1∈ol∧wY B ts fs s (x-1)=true:=by
 unfold eH jr
 simp only[List.mem_flatMap]
 constructor
 ·rintro⟨i,h1,h2⟩
  split at h2
  ·simp at h2; subst h2
   rename_i h3
   rw[show i+1-1=i by omega]; exact⟨h1,h3⟩
  ·cases h2
 ·rintro⟨h1,h2⟩
  exact⟨_,h1,by rw[if_pos h2]; simp⟩
theorem aae(s:Sg)(h:Int)(out:List Ft)(n:Int):(vk s h out n).length=out.length:=by unfold vk; simp
theorem wZ(s:Sg)(h:Int):∀(l:List Int) (out:List Ft),(l.foldl (vk s h) out).length=out.length
 |[],_=>rfl
 |x::r,out=>by rw[List.foldl_cons,wZ s h r,aae]
theorem nO(B:List Cd)(ts:List Tg)(fs:List Ft)(ol:List Int)(s:Sg):(nM B ts fs ol s).length=fs.length:=wZ _ _ _ _
theorem zx{fs:List Ft}{i:Int}{n:Nat}{f:Ft}(hi:i=n)(hf:fs[n]? =some f):L6 fs i=f:=by
 subst hi; simp[L6,hf]
def qY(ts:List Tg)(s o:Sg):Bool:=
 decide (aY ts (s.Thing-1).toNat<aY ts (o.Thing-1).toNat)||(decide (aY ts (s.Thing-1).toNat=aY ts (o.Thing-1).toNat)&&decide (s.Place<o.Place))
def AZ(l:List Sg)(i:Int):Sg:=l[i.toNat]?.getD ⟨0,0,⟨0,0,0,0,0,0,0,ByteArray.mk #[]⟩⟩
theorem Lp{l:List Sg}{i:Int}{n:Nat}{s:Sg}(hi:i=n)(h:l[n]? =some s):AZ l i=s:=by subst hi; simp[AZ,h]
def zy(B:List Cd)(ts:List Tg)(fs:List Ft)(ol:List Int)(l:List Sg)(i k:Nat):Bool:=(List.range k).any fun j=>j !=i&&mG B ts fs ol (AZ l (i:Int)) (AZ l (j:Int))
def nx(B:List Cd)(ts:List Tg)(fs:List Ft)(ol:List Int)(l:List Sg):Nat->Int×Int
 |0=>(-1,0)
 |n+1=>(if(!zy B ts fs ol l n l.length&&(decide ((nx B ts fs ol l n).1<0)||qY ts (AZ l n) (AZ l (nx B ts fs ol l n).1)))=true then(n:Int)else(nx B ts fs ol l n).1,
   if qY ts (AZ l n) (AZ l (nx B ts fs ol l n).2)=true then(n:Int)else(nx B ts fs ol l n).2)
def zA(B:List Cd)(ts:List Tg)(fs:List Ft)(ol:List Int)(l:List Sg):Int:=if(nx B ts fs ol l l.length).1<0 then(nx B ts fs ol l l.length).2 else(nx B ts fs ol l l.length).1
theorem QJ(B:List Cd)(ts:List Tg)(fs:List Ft)(ol:List Int)(l:List Sg):∀n,-1≤(nx B ts fs ol l n).1∧(nx B ts fs ol l n).1<n∧0≤(nx B ts fs ol l n).2∧((nx B ts fs ol l n).2<n∨(nx B ts fs ol l n).2=0)
 |0=>by simp[nx]
 |n+1=>by
  obtain⟨h1,h2,h3,h4⟩:=QJ B ts fs ol l n
  unfold nx
  refine⟨?_,?_,?_,?_⟩<;>dsimp only<;>split<;>omega
theorem zQ(B:List Cd)(ts:List Tg)(fs:List Ft)(ol:List Int){l:List Sg}(h:0<l.length):0≤zA B ts fs ol l∧zA B ts fs ol l<l.length:=by
 obtain⟨h1,h2,h3,h4⟩:=QJ B ts fs ol l l.length
 unfold zA
 split<;>omega
def dY(B:List Cd)(ts:List Tg)(ol:List Int)(fs:List Ft)(l:List Sg):Nat->List Ft×List Sg×List Sg
 |0=>(fs,l,[])
 |n+1=>
  let q:=dY B ts ol fs l n
  let i:=zA B ts q.1 ol q.2.1
  (nM B ts q.1 ol (AZ q.2.1 i),q.2.1.eraseIdx i.toNat,q.2.2++[AZ q.2.1 i])
theorem kF(B:List Cd)(ts:List Tg)(ol:List Int)(fs:List Ft)(l:List Sg):∀n,n≤l.length->(dY B ts ol fs l n).1.length=fs.length∧(dY B ts ol fs l n).2.1.length=l.length-n∧(∀s∈(dY B ts ol fs l n).2.1,s∈l)∧(dY B ts ol fs l n).2.2.length=n
 |0,_=>by simp[dY]
 |n+1,hn=>by
  obtain⟨h1,h2,h3,h4⟩:=kF B ts ol fs l n (by omega)
  have hr:=zQ B ts (dY B ts ol fs l n).1 ol (l:=(dY B ts ol fs l n).2.1) (by omega)
  unfold dY
  refine⟨?_,?_,fun s hs=>h3 s ?_,?_⟩
  ·dsimp only; rw[nO,h1]
  ·dsimp only; rw[List.length_eraseIdx,if_pos (by omega),h2]; omega
  ·exact List.mem_of_mem_eraseIdx hs
  ·dsimp only; rw[List.length_append,h4]; rfl
theorem Et{B:List Cd}{ts:List Tg}{fs:List Ft}{ol:List Int}{k:Int}{s:Sg}(h:s∈rH B ts fs ol k):s.Thing-1∈ol∧∃i:Nat,s.Place=i∧(cpI B ts (s.Thing-1))[i]? =some s.What∧s.What.When=5∧Z9 s.What.Verb=k∧Z8 (L6 fs (s.Thing-1)).Traits 6=false:=by
 unfold rH at h
 obtain⟨x,hx,h⟩:=List.mem_flatMap.1 h
 unfold mM at h
 split at h
 ·cases h
 ·rename_i hh
  unfold Uy at h
  obtain⟨p,hp,h⟩:=List.mem_flatMap.1 h
  unfold oD at h
  split at h
  ·rename_i hc
   simp at h; subst h
   have:=List.mk_mem_zipIdx_iff_getElem?.1 (show(p.1,p.2)∈(cpI B ts x).zipIdx from hp)
   have e:x+1-1=x:=by omega
   simp only[e]
   exact⟨hx,p.2,rfl,this,hc.1,hc.2,by simpa using hh⟩
  ·cases h
end
end Go.Proofs.YtijnknjopjmiiaaGreatDoor.Zq
end
section
namespace Go.Proofs.YtijnknjopjmiiaaGreatDoor.Zq
open Zv
section
variable{H:Heap}{b m:Nat}{se:Bool}{B:List Cd}{ms:List ak}
structure fM(B:List Cd)(ts:List Tg)(ol:List Int):Prop where
 few:ol.length≤16
 nd:ol.Nodup
 srt:∀(i j:Nat) a b,i<j->ol[i]? =some a->ol[j]? =some b->aY ts a.toNat<aY ts b.toNat
 at':∀i∈ol,∃(k:Nat) (t:Tg) (c:Cd),i=k∧ts[k]? =some t∧t.Place=4∧1≤t.Card∧B[(t.Card-1).toNat]? =some c∧1≤t.Stamp∧c.g.Kind≠2∧c.ps.length≤4
 all:∀(k:Nat) t,ts[k]? =some t->t.Place=4->(k:Int)∈ol
 len:ts.length≤2048
theorem G5.p4(h:G5 B){c:Cd}(hc:c∈B):c.ps.length≤4:=by
 have:=h.ok c hc
 unfold xI at this
 by_cases hf:zX c=0
 ·exact qH hf
 ·rw[if_neg hf]at this; exact absurd this hf
theorem Xq.aex{ts:List Tg}{fs:List Ft}{ol:List Int}(h:Xq ts ol)(N8:Ux B ts fs)(hfe:fs.length=ts.length)(okB:G5 B)(hlen:ts.length≤2048):fM B ts ol:=by
 obtain⟨hp,hs⟩:=h
 have nd:ol.Nodup:=hp.symm.nodup (wX _)
 have at':∀i∈ol,∃(k:Nat) (t:Tg) (c:Cd),i=k∧ts[k]? =some t∧t.Place=4∧1≤t.Card∧B[(t.Card-1).toNat]? =some c∧1≤t.Stamp∧c.g.Kind≠2∧c.ps.length≤4:=fun i hi=>by
  obtain⟨k,t,h1,rfl,h3,h4⟩:=oC.1 (hp.mem_iff.1 hi)
  have hk:k<fs.length:=by omega
  obtain⟨c,w1,w2,_,_,_,w⟩:=N8.all k t _ h3 (List.getElem?_eq_getElem hk)
  exact⟨k,t,c,rfl,h3,h4,w1,w2,(w h4).2.1,(w h4).1,okB.p4 (List.mem_of_getElem? w2)⟩
 refine⟨by rw[hp.length_eq]; exact N8.few,nd,fun i j a b' hij ha hb=> ?_,at',fun k t h1 h2=>hp.mem_iff.2 (oC.2 ⟨k,t,(List.getElem?_eq_some_iff.1 h1).1,rfl,h1,h2⟩),hlen⟩
 have h1:=hs i j a b' hij ha hb
 obtain⟨k,t,_,e1,e2,e3,_⟩:=at' a (List.mem_of_getElem? ha)
 obtain⟨k',t',_,e1',e2',e3',_⟩:=at' b' (List.mem_of_getElem? hb)
 have ea:aY ts a.toNat=t.Stamp:=by subst e1; simp[aY,e2]
 have eb:aY ts b'.toNat=t'.Stamp:=by subst e1'; simp[aY,e2']
 rw[ea,eb]at h1 ⊢
 have hab:k≠k':=fun q=>by
  have hi:=(List.getElem?_eq_some_iff.1 ha)
  have hj:=(List.getElem?_eq_some_iff.1 hb)
  have:=List.pairwise_iff_getElem.1 nd i j hi.1 hj.1 hij
  exact this (by rw[hi.2,hj.2,e1,e1',q])
 have:=N8.dst k k' t t' hab e2 e2' e3 e3'
 omega
structure VP(m:Nat)(H:Heap)(a1 cs so:Sl)(B:List Cd)(ts:List Tg)(ol:List Int):Prop where
 hs:eY jZ H a1 ts
 c:∃cl,eY TC H cs cl∧∀(i:Nat) t c,ts[i]? =some t->t.Place=4->1≤t.Card->B[(t.Card-1).toNat]? =some c->∃g,cl[i]? =some g∧CR m H g c
 o:eY fA H so ol
 ot:fM B ts ol
theorem VP.new{H':Heap}{a1 cs so:Sl}{ts:List Tg}{ol:List Int}(h:VP m H a1 cs so B ts ol)(f:bP [] H H'):VP m H' a1 cs so B ts ol:=by
 obtain⟨h1,⟨cl,h2,h3⟩,h4,h5⟩:=h
 exact⟨h1.cO f (by simp),⟨cl,h2.cO f (by simp),fun i t c w1 w2 w3 w4=>by obtain⟨g,q1,q2⟩:=h3 i t c w1 w2 w3 w4; exact⟨g,q1,q2.cO f (by simp)⟩⟩,h4.cO f (by simp),h5⟩
theorem VP.card{a1 cs so:Sl}{ts:List Tg}{ol:List Int}(h:VP m H a1 cs so B ts ol):∃cl,eY TC H cs cl∧∀i∈ol,∃(k:Nat) (t:Tg) (c:Cd) (g:ay),i=k∧ts[k]? =some t∧cl[k]? =some g∧CR m H g c∧cpI B ts i=c.ps∧ckI B ts i=c.g.Kind∧g.Kind=c.g.Kind∧c.ps.length≤4:=by
 obtain⟨h1,⟨cl,h2,h3⟩,h4,h5⟩:=h
 refine⟨cl,h2,fun i hi=> ?_⟩
 obtain⟨k,t,c,e1,e2,e3,e4,e5,e6,e7,e8⟩:=h5.at' i hi
 obtain⟨g,q1,q2⟩:=h3 k t c e2 e3 e4 e5
 subst e1
 have hk:g.Kind=c.g.Kind:=by rw[←q2.e]; rfl
 have hcd:cdI B ts (k:Int)=some c:=by unfold cdI; rw[Int.toNat_natCast,e2]; exact e5
 exact⟨k,t,c,g,rfl,e2,q1,q2,by unfold cpI; rw[hcd]; rfl,by unfold ckI; rw[hcd]; rfl,hk,e8⟩
theorem UA(h:BP m H b se B ms)(okB:G5 B){a1 a2:Sl}{ts:List Tg}{fs:List aG}(hs:eY jZ H a1 ts)(hf:eY TF H a2 fs)(fla:Flat H a1)(okt:∀t∈ts,t.Stamp≤9223372036854775807)(okf:∀f∈fs,0≤f.Traits)(bts:ts.length≤1048600){Q:aF×Int×Unit->Heap->Prop}
  (q1:∀p H',fJ se B ts fs≠0->bP [] H H'->Q (p,fJ se B ts fs,()) H') (q0:∀cs so ol H',fJ se B ts fs=0->Ux B ts fs->VP H.length H' a1 cs so B ts ol->bP [] H H'->Q (⟨some ⟨b,0,none⟩,a1,cs,so⟩,0,()) H'):
  CALL P [aC,fA] kC [.pointer (some ⟨b,0,none⟩),a1.v,a2.v] H Q:=by
 refine abZ h okB hs hf fla okt okf bts q1 fun cs so cl ol H' e N8 pl=> ?_
 have hfe:fs.length=ts.length:=by
  refine Classical.byContradiction fun q=> ?_
  unfold fJ at e
  split at e
  ·cases e
  ·rw[if_pos (.inr q)]at e; cases e
 have hlen:ts.length≤2048:=by
  refine Classical.byContradiction fun q=> ?_
  unfold fJ at e
  rw[if_pos (by omega)]at e; cases e
 exact q0 cs so ol H' e N8 ⟨hs.cO pl.f (by simp),⟨cl,pl.c,pl.card⟩,pl.o,pl.ord.aex N8 hfe okB hlen⟩ pl.f
theorem aaf{s:Sl}{l:List Pt}(h:eY TP H s l){i:Int}{n:Nat}{x:Pt}(hi:i=n)(hx:l[n]? =some x){K:Pt->Prop}(hK:K x):dw s.p s.len i 8 fun b o=>LD TP H b o K:=bf (T:=TP) hTP h hi hx rfl hK
theorem VQ{s:Sl}{gs:List ay}(h:eY TC H s gs){i:Int}{n:Nat}{g:ay}(hi:i=n)(hx:gs[n]? =some g){K:Sl->Prop}(hk:K g.Parts):dw s.p s.len i 9 fun b o=>LD aJ H b (o+8) K:=by
 subst hi; exact F7 h hx hk
theorem adI{a1 a2 cs so:Sl}{bp:Option Addr}{ts:List Tg}{fs:List Ft}{ol:List Int}(pl:VP m H a1 cs so B ts ol)(hf:eY TF H a2 fs)(hfe:fs.length=ts.length){k:Int}{Q:Sl×Unit->Heap->Prop}
  (hq:∀s H' sp,bJ lg H s H' (rH B ts fs ol k) sp->Q (s,()) H'):CALL P [aJ] je [aC.enc ⟨bp,a1,cs,so⟩,a2.v,.int .i64 k] H Q:=by
 apply xM
 unfold jk
 have hol:=pl.o.1
 obtain⟨cl,hcl,cd⟩:=pl.card
 refine aS (fun y H'=>∃sp,bJ lg H y.1.1 H' (rH B ts fs ol k) sp) (fun j hj=> ?_) (fun y H' h=>by obtain⟨sp,h⟩:=h; exact hq _ _ _ h)
 refine bG (fun(y:(Sl×Int×Unit)×Unit) H'=>∃(n:Nat) (sp:List Sg),y.1.2.1=n∧n≤ol.length∧bJ lg H y.1.1 H' ((ol.take n).flatMap (mM B ts fs k)) sp) (fun y=>ol.length-y.1.2.1.toNat) ?_ ⟨0,[],rfl,Nat.zero_le _,by simpa using bJ.nil' lg H⟩
 rintro G ⟨⟨out,i,_⟩,_⟩ H1 ⟨n,sp,hi,hn,no⟩ hG
 simp only at hi no; subst hi
 dsimp only at hG ⊢
 have f1:=no.2.2
 refine dH (fun hlt=> ?_) (fun hge=>hj _ _ ⟨sp,?_⟩)
 ·have hlt:n<ol.length:=by omega
  have hx:ol[n]? =some ol[n]:=List.getElem?_eq_getElem hlt
  have hm:ol[n]∈ol:=List.getElem_mem hlt
  generalize ol[n]=x at hx hm
  obtain⟨kx,t,c,g,ek,et,eg,cr,ecp,eck,egk,e4⟩:=cd x hm
  have hkl:kx<fs.length:=by rw[hfe]; exact(List.getElem?_eq_some_iff.1 et).1
  have hfx:fs[kx]? =some fs[kx]:=List.getElem?_eq_getElem hkl
  generalize fs[kx]=f at hfx
  have eft:L6 fs x=f:=zx ek hfx
  have tk:=QI (mM B ts fs k) hx
  have hpre:((ol.take n).flatMap (mM B ts fs k)).length≤64:=by
   have:=CU (f:=mM B ts fs k) (c:=4) (l:=ol.take n) fun y hy=>by
    obtain⟨_,_,c',_,_,_,_,_,ecp',_,_,e4'⟩:=cd y (List.mem_of_mem_take hy)
    unfold mM
    split
    ·simp
    ·have:=Uz (y+1) k (cpI B ts y)
     rw[ecp']at this ⊢; omega
   have h16:=pl.ot.few
   rw[List.length_take]at this
   omega
  refine aS (fun y H'=>∃sp,bJ lg H y.1.1 H' ((ol.take (n+1)).flatMap (mM B ts fs k)) sp) (fun j2 hj2=> ?_) ?_
  ·refine bf (T:=fA) qX (pl.o.cO f1 (by simp)) rfl hx rfl (CS (hf.cO f1 (by simp)) ek hfx (aac (bT (fun hM=> ?_) (fun hM=> ?_))))
   ·refine hj2 _ _ ⟨sp,?_⟩
    have:mM B ts fs k x=[]:=by unfold mM; rw[eft,if_pos hM]
    rw[tk,this,List.append_nil]; exact no
   ·have e1:mM B ts fs k x=Uy (x+1) k c.ps:=by
     unfold mM; rw[eft,if_neg (by have hM:Z8 f.Traits 6=false:=hM; rw[hM]; decide),ecp]
    rw[e1]at tk
    refine VQ (hcl.cO f1 (by simp)) ek eg ?_
    have hps:=cr.p
    have hpl:=hps.1
    refine aS (fun y H'=>∃sp,bJ lg H y.1.1 H' ((ol.take (n+1)).flatMap (mM B ts fs k)) sp) (fun j3 hj3=> ?_) (fun y H' h=>hj2 _ _ h)
    refine bG (fun(y:(Sl×Int×Unit)×Unit) H'=>∃(i:Nat) (sp:List Sg),y.1.2.1=i∧i≤c.ps.length∧bJ lg H y.1.1 H' ((ol.take n).flatMap (mM B ts fs k)++(c.ps.zipIdx.take i).flatMap (oD (x+1) k)) sp) (fun y=>c.ps.length-y.1.2.1.toNat) ?_ ⟨0,sp,rfl,Nat.zero_le _,by simpa using no⟩
    rintro G2 ⟨⟨out2,i2,_⟩,_⟩ H2 ⟨i,sp2,hi,hin,no2⟩ hG2
    simp only at hi no2; subst hi
    dsimp only at hG2 ⊢
    have f2:=no2.2.2
    refine dH (fun hlt2=> ?_) (fun hge2=>hj3 _ _ ⟨sp2,?_⟩)
    ·have hlt2:i<c.ps.length:=by omega
     have hy:c.ps[i]? =some c.ps[i]:=List.getElem?_eq_getElem hlt2
     have hz:c.ps.zipIdx[i]? =some (c.ps[i],i):=by rw[List.getElem?_zipIdx,hy]; simp
     generalize c.ps[i]=p at hy hz
     have tk2:=QI (oD (x+1) k) hz
     have hpre2:((c.ps.zipIdx.take i).flatMap (oD (x+1) k)).length≤4:=by
      have:=CU (f:=oD (x+1) k) (c:=1) (l:=c.ps.zipIdx.take i) fun y _=>OI _ _ y
      rw[List.length_take,List.length_zipIdx]at this
      omega
     refine aaf (hps.cO f2 (by simp)) rfl hy (JD (p.When=5∧Z9 p.Verb=k) (fun j4 hj4=>fV (fun e5=>adG (hj4 _ (by simp[e5]))) (fun e5=>hj4 _ (by simp[e5]))) ?_)
     refine aS (fun y H'=>∃sp,bJ lg H y.1.1 H' ((ol.take n).flatMap (mM B ts fs k)++(c.ps.zipIdx.take (i+1)).flatMap (oD (x+1) k)) sp) (fun j5 hj5=>dH (fun hc=> ?_) (fun hc=>hj5 _ _ ⟨sp2,?_⟩)) ?_
     ·have e2:oD (x+1) k (p,i)=[⟨x+1,i,p⟩]:=by unfold oD; rw[if_pos hc]
      have hkx:x+1≤9223372036854775807∧0≤x:=by
       have h1:=pl.ot.len
       omega
      rw[dA (by omega) (by omega)]
      refine JA QH rfl (fun _=>by simp) (m:=1) [(⟨x+1,i,p⟩:Sg)] rfl rfl (by rw[List.length_append]; show 2*(_+1)*4096≤_; omega) no2.1 fun s4 H5 sp5 k1 k2 k3=> ?_
      refine hj5 _ _ ⟨sp5,?_⟩
      rw[tk2,e2,←List.append_assoc]
      exact no2.app k1 k2 k3
     ·have e2:oD (x+1) k (p,i)=[]:=by unfold oD; rw[if_neg hc]
      rw[tk2,e2,List.append_nil]; exact no2
     ·rintro⟨⟨out3,_⟩,_⟩ H3 ⟨sp3,no3⟩
      rw[dA (by omega) (by omega)]
      exact hG2 _ _ ⟨i+1,sp3,by simp,hlt2,no3⟩ (by simp; omega)
    ·have:i=c.ps.length:=by omega
     subst this
     have e3:c.ps.zipIdx.take c.ps.length=c.ps.zipIdx:=by rw[←List.length_zipIdx (l:=c.ps) (i:=0),List.take_length]
     rw[e3]at no2
     rw[tk]; exact no2
  ·rintro⟨⟨out3,_⟩,_⟩ H3 ⟨sp3,no3⟩
   have:=pl.ot.few
   rw[dA (by omega) (by omega)]
   exact hG _ _ ⟨n+1,sp3,by simp,hlt,no3⟩ (by simp; omega)
 ·have:n=ol.length:=by omega
  subst this
  rw[List.take_length]at no; exact no
theorem Yq(h:BP m H b se B ms)(okB:G5 B){a1 a2:Sl}{ts:List Tg}{fs:List aG}(hs:eY jZ H a1 ts)(hf:eY TF H a2 fs)(fla:Flat H a1)(okt:∀t∈ts,t.Stamp≤9223372036854775807)(okf:∀f∈fs,0≤f.Traits)(bts:ts.length≤1048600){k:Int}{Q:Sl×Int×Unit->Heap->Prop}
  (q1:∀H',fJ se B ts fs≠0->bP [] H H'->Q (⟨none,0,0⟩,fJ se B ts fs,()) H') (q2:∀H',fJ se B ts fs=0->(k<1∨5<k)->bP [] H H'->Q (⟨none,0,0⟩,2,()) H')
  (q0:∀s ol H' sp,fJ se B ts fs=0->Ux B ts fs->1≤k->k≤5->fM B ts ol->bJ lg H s H' (rH B ts fs ol k) sp->Q (s,0,()) H'):
  CALL P [aJ,fA] oM [.pointer (some ⟨b,0,none⟩),a1.v,a2.v,.int .i64 k] H Q:=by
 apply Hq
 unfold oZ
 refine UA h okB hs hf fla okt okf bts (fun p H' e f=>iJ (by simpa using e) (q1 H' e f)) fun cs so ol H' e N8 pl f=>bI rfl ?_
 have hfe:fs.length=ts.length:=by
  refine Classical.byContradiction fun q=> ?_
  unfold fJ at e
  split at e
  ·cases e
  ·rw[if_pos (.inr q)]at e; cases e
 refine hJ (k<1∨5<k) (fun j hj=>dH (fun h=>hj _ (by simp; omega)) (fun h=>hj _ (by simp; omega))) (fun hk=>q2 _ e hk f) (fun hk=> ?_)
 exact adI pl (hf.cO f (by simp)) hfe fun s H2 sp no=>q0 s ol H2 sp e N8 (by omega) (by omega) pl.ot (no.older f)
end
end Go.Proofs.YtijnknjopjmiiaaGreatDoor.Zq
end
