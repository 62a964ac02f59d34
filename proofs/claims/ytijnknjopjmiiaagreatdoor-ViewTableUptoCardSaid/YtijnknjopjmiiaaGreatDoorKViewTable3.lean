/- Part 3 of the proof of ViewTable: what its row stands on (lemmas about the model, the evaluator, contracts of functions), put together and cut to what is used. -/
import Derived.Test.YtijnknjopjmiiaaGreatDoorKViewTable2
import Derived.Shelf.Sort.Plain
import Derived.Shelf.Slices.In.SortNone
import Derived.Shelf.SlSortCmp.Whole1
import Derived.Shelf.SlSortCmp.NoneTotal
import Derived.Test.YtijnknjopjmiiaaGreatDoorProg
import Derived.Shelf.Strings.SlTrimAscii
import Derived.ChangeArms
import Derived.OpenShut
import Derived.SizedLaws
import Derived.KernelRfl
namespace Go.Proofs.YtijnknjopjmiiaaGreatDoor
def rg:Nat->Nat->List Nat->List Nat
 |_,0,l=>l
 |a,n+1,l=>a::rg (a+1) n l
end Go.Proofs.YtijnknjopjmiiaaGreatDoor
section
namespace Go.Proofs.YtijnknjopjmiiaaGreatDoor.Zq
open Go.Shelf Go.Proofs
def rW:Go.Shelf.Ren:=⟨fun|160=>162|232=>181|231=>180|227=>182|234=>184|233=>183|236=>186|235=>185|228=>192|271=>195|151=>194|197=>193|120=>199|152=>198|260=>197|137=>200|119=>201|224=>202|225=>203|217=>204|266=>205|n=>n,fun|9=>9|4=>4|3=>3|5=>5|117=>226|116=>225|0=>0|124=>229|21=>21|105=>237|46=>195|119=>243|139=>246|138=>245|n=>n,fun|3=>0|4=>1|n=>n⟩
theorem lays160:Go.Proofs.Lays.n160 Tryz.prog rW:={
 mixed:=by kernel_rfl
 f119:=Tryz.func201.trans (congrArg some (by kernel_rfl))
 f120:=Tryz.func199.trans (congrArg some (by kernel_rfl))
 f137:=Tryz.func200.trans (congrArg some (by kernel_rfl))
 f151:=Tryz.func194.trans (congrArg some (by kernel_rfl))
 f152:=Tryz.func198.trans (congrArg some (by kernel_rfl))
 f160:=Tryz.func162.trans (congrArg some (by kernel_rfl))
 f197:=Tryz.func193.trans (congrArg some (by kernel_rfl))
 f217:=Tryz.func204.trans (congrArg some (by kernel_rfl))
 f224:=Tryz.func202.trans (congrArg some (by kernel_rfl))
 f225:=Tryz.func203.trans (congrArg some (by kernel_rfl))
 f227:=Tryz.func182.trans (congrArg some (by kernel_rfl))
 f228:=Tryz.func192.trans (congrArg some (by kernel_rfl))
 f231:=Tryz.func180.trans (congrArg some (by kernel_rfl))
 f232:=Tryz.func181.trans (congrArg some (by kernel_rfl))
 f233:=Tryz.func183.trans (congrArg some (by kernel_rfl))
 f234:=Tryz.func184.trans (congrArg some (by kernel_rfl))
 f235:=Tryz.func185.trans (congrArg some (by kernel_rfl))
 f236:=Tryz.func186.trans (congrArg some (by kernel_rfl))
 f260:=Tryz.func197.trans (congrArg some (by kernel_rfl))
 f266:=Tryz.func205.trans (congrArg some (by kernel_rfl))
 f271:=Tryz.func195.trans (congrArg some (by kernel_rfl))
 t0:=Tryz.underlying0
 a0:=Tryz.isAgg0
 z0:=Tryz.sizeOf0
 v0:=Tryz.zeroValue0
 t3:=Tryz.underlying3
 a3:=Tryz.isAgg3
 z3:=Tryz.sizeOf3
 v3:=Tryz.zeroValue3
 t4:=Tryz.underlying4
 a4:=Tryz.isAgg4
 z4:=Tryz.sizeOf4
 v4:=Tryz.zeroValue4
 t5:=Tryz.underlying5
 a5:=Tryz.isAgg5
 z5:=Tryz.sizeOf5
 v5:=Tryz.zeroValue5
 t9:=Tryz.underlying9
 a9:=Tryz.isAgg9
 z9:=Tryz.sizeOf9
 v9:=Tryz.zeroValue9
 t21:=Tryz.underlying21
 a21:=Tryz.isAgg21
 z21:=Tryz.sizeOf21
 v21:=Tryz.zeroValue21
 t46:=Tryz.underlying195
 a46:=Tryz.isAgg195
 z46:=Tryz.sizeOf195
 v46:=Tryz.zeroValue195
 t105:=Tryz.underlying237
 a105:=Tryz.isAgg237
 z105:=Tryz.sizeOf237
 v105:=Tryz.zeroValue237
 t116:=Tryz.underlying225
 a116:=Tryz.isAgg225
 z116:=Tryz.sizeOf225
 t117:=Tryz.underlying226
 a117:=Tryz.isAgg226
 z117:=Tryz.sizeOf226
 v117:=Tryz.zeroValue226
 t119:=Tryz.underlying243
 a119:=Tryz.isAgg243
 z119:=Tryz.sizeOf243
 t124:=Tryz.underlying229
 a124:=Tryz.isAgg229
 z124:=Tryz.sizeOf229
 v124:=Tryz.zeroValue229
 t138:=Tryz.underlying245
 a138:=Tryz.isAgg245
 z138:=Tryz.sizeOf245
 v138:=Tryz.zeroValue245
 t139:=Tryz.underlying246
 a139:=Tryz.isAgg246
 z139:=Tryz.sizeOf246
 v139:=Tryz.zeroValue246
 g3:=by kernel_rfl
 g4:=by kernel_rfl }
def OA:Go.Shelf.Ren:=⟨fun|6=>107|15=>146|14=>145|28=>175|29=>176|20=>167|21=>168|22=>169|23=>170|24=>171|25=>172|26=>173|27=>174|46=>187|47=>188|48=>189|49=>190|50=>191|57=>196|n=>n,fun|22=>27|24=>3|25=>42|3=>3|39=>195|0=>0|53=>218|55=>220|4=>4|46=>211|45=>210|50=>215|5=>5|9=>9|66=>230|70=>234|76=>240|77=>207|n=>n,fun|n=>n⟩
theorem acW:Go.Proofs.SlLaysF.n6 Tryz.prog OA:={
 mixed:=by kernel_rfl
 f6:=⟨Tryz.f107.name,by decide,Tryz.func107.trans (congrArg some (by kernel_rfl))⟩
 f14:=⟨Tryz.f145.name,by decide,Tryz.func145.trans (congrArg some (by kernel_rfl))⟩
 f15:=Tryz.func146.trans (congrArg some (by kernel_rfl))
 f20:=⟨Tryz.f167.name,by decide,Tryz.func167.trans (congrArg some (by kernel_rfl))⟩
 f21:=⟨Tryz.f168.name,by decide,Tryz.func168.trans (congrArg some (by kernel_rfl))⟩
 f22:=⟨Tryz.f169.name,by decide,Tryz.func169.trans (congrArg some (by kernel_rfl))⟩
 f23:=⟨Tryz.f170.name,by decide,Tryz.func170.trans (congrArg some (by kernel_rfl))⟩
 f24:=⟨Tryz.f171.name,by decide,Tryz.func171.trans (congrArg some (by kernel_rfl))⟩
 f25:=⟨Tryz.f172.name,by decide,Tryz.func172.trans (congrArg some (by kernel_rfl))⟩
 f26:=⟨Tryz.f173.name,by decide,Tryz.func173.trans (congrArg some (by kernel_rfl))⟩
 f27:=⟨Tryz.f174.name,by decide,Tryz.func174.trans (congrArg some (by kernel_rfl))⟩
 f28:=Tryz.func175.trans (congrArg some (by kernel_rfl))
 f29:=Tryz.func176.trans (congrArg some (by kernel_rfl))
 f46:=⟨Tryz.f187.name,by decide,Tryz.func187.trans (congrArg some (by kernel_rfl))⟩
 f47:=Tryz.func188.trans (congrArg some (by kernel_rfl))
 f48:=Tryz.func189.trans (congrArg some (by kernel_rfl))
 f49:=⟨Tryz.f190.name,by decide,Tryz.func190.trans (congrArg some (by kernel_rfl))⟩
 f50:=⟨Tryz.f191.name,by decide,Tryz.func191.trans (congrArg some (by kernel_rfl))⟩
 f57:=⟨Tryz.f196.name,by decide,Tryz.func196.trans (congrArg some (by kernel_rfl))⟩
 t0:=Tryz.underlying0
 a0:=Tryz.isAgg0
 z0:=Tryz.sizeOf0
 v0:=Tryz.zeroValue0
 t3:=Tryz.underlying3
 a3:=Tryz.isAgg3
 z3:=Tryz.sizeOf3
 v3:=Tryz.zeroValue3
 t4:=Tryz.underlying4
 a4:=Tryz.isAgg4
 z4:=Tryz.sizeOf4
 v4:=Tryz.zeroValue4
 t5:=Tryz.underlying5
 a5:=Tryz.isAgg5
 z5:=Tryz.sizeOf5
 v5:=Tryz.zeroValue5
 t9:=Tryz.underlying9
 a9:=Tryz.isAgg9
 z9:=Tryz.sizeOf9
 v9:=Tryz.zeroValue9
 t22:=Tryz.underlying27
 a22:=Tryz.isAgg27
 z22:=Tryz.sizeOf27
 v22:=Tryz.zeroValue27
 a24:=Tryz.isAgg3
 z24:=Tryz.sizeOf3
 t25:=Tryz.underlying42
 a25:=Tryz.isAgg42
 z25:=Tryz.sizeOf42
 v25:=Tryz.zeroValue42
 t39:=Tryz.underlying195
 a39:=Tryz.isAgg195
 z39:=Tryz.sizeOf195
 v39:=Tryz.zeroValue195
 t45:=Tryz.underlying210
 a45:=Tryz.isAgg210
 z45:=Tryz.sizeOf210
 v45:=Tryz.zeroValue210
 t46:=Tryz.underlying211
 a46:=Tryz.isAgg211
 z46:=Tryz.sizeOf211
 v46:=Tryz.zeroValue211
 t50:=Tryz.underlying215
 a50:=Tryz.isAgg215
 z50:=Tryz.sizeOf215
 v50:=Tryz.zeroValue215
 t53:=Tryz.underlying218
 a53:=Tryz.isAgg218
 z53:=Tryz.sizeOf218
 v53:=Tryz.zeroValue218
 t55:=Tryz.underlying220
 a55:=Tryz.isAgg220
 z55:=Tryz.sizeOf220
 v55:=Tryz.zeroValue220
 t66:=Tryz.underlying230
 a66:=Tryz.isAgg230
 z66:=Tryz.sizeOf230
 v66:=Tryz.zeroValue230
 t70:=Tryz.underlying234
 a70:=Tryz.isAgg234
 z70:=Tryz.sizeOf234
 v70:=Tryz.zeroValue234
 t76:=Tryz.underlying240
 a76:=Tryz.isAgg240
 z76:=Tryz.sizeOf240
 v76:=Tryz.zeroValue240
 t77:=Tryz.underlying207
 a77:=Tryz.isAgg207
 z77:=Tryz.sizeOf207
 v77:=Tryz.zeroValue207 }
def Vr:Go.Shelf.Ren:=⟨fun|6=>107|15=>146|14=>145|28=>175|29=>176|20=>167|21=>168|22=>169|23=>170|24=>171|25=>172|26=>173|27=>174|46=>187|47=>188|48=>189|49=>190|50=>191|57=>196|n=>n,fun|22=>27|24=>3|25=>42|3=>3|39=>195|0=>0|53=>218|55=>220|4=>4|46=>211|45=>210|50=>215|5=>5|9=>9|66=>230|70=>234|76=>240|77=>207|n=>n,fun|n=>n⟩
theorem adn:Go.Proofs.SlLaysF0.n6 Tryz.prog Vr:={
 mixed:=by kernel_rfl
 f6:=⟨Tryz.f107.name,by decide,Tryz.func107.trans (congrArg some (by kernel_rfl))⟩
 f14:=⟨Tryz.f145.name,by decide,Tryz.func145.trans (congrArg some (by kernel_rfl))⟩
 f15:=Tryz.func146.trans (congrArg some (by kernel_rfl))
 f20:=⟨Tryz.f167.name,by decide,Tryz.func167.trans (congrArg some (by kernel_rfl))⟩
 f21:=⟨Tryz.f168.name,by decide,Tryz.func168.trans (congrArg some (by kernel_rfl))⟩
 f22:=⟨Tryz.f169.name,by decide,Tryz.func169.trans (congrArg some (by kernel_rfl))⟩
 f23:=⟨Tryz.f170.name,by decide,Tryz.func170.trans (congrArg some (by kernel_rfl))⟩
 f24:=⟨Tryz.f171.name,by decide,Tryz.func171.trans (congrArg some (by kernel_rfl))⟩
 f25:=⟨Tryz.f172.name,by decide,Tryz.func172.trans (congrArg some (by kernel_rfl))⟩
 f26:=⟨Tryz.f173.name,by decide,Tryz.func173.trans (congrArg some (by kernel_rfl))⟩
 f27:=⟨Tryz.f174.name,by decide,Tryz.func174.trans (congrArg some (by kernel_rfl))⟩
 f28:=Tryz.func175.trans (congrArg some (by kernel_rfl))
 f29:=Tryz.func176.trans (congrArg some (by kernel_rfl))
 f46:=⟨Tryz.f187.name,by decide,Tryz.func187.trans (congrArg some (by kernel_rfl))⟩
 f47:=Tryz.func188.trans (congrArg some (by kernel_rfl))
 f48:=Tryz.func189.trans (congrArg some (by kernel_rfl))
 f49:=⟨Tryz.f190.name,by decide,Tryz.func190.trans (congrArg some (by kernel_rfl))⟩
 f50:=⟨Tryz.f191.name,by decide,Tryz.func191.trans (congrArg some (by kernel_rfl))⟩
 f57:=⟨Tryz.f196.name,by decide,Tryz.func196.trans (congrArg some (by kernel_rfl))⟩
 t0:=Tryz.underlying0
 a0:=Tryz.isAgg0
 z0:=Tryz.sizeOf0
 v0:=Tryz.zeroValue0
 t3:=Tryz.underlying3
 a3:=Tryz.isAgg3
 z3:=Tryz.sizeOf3
 v3:=Tryz.zeroValue3
 t4:=Tryz.underlying4
 a4:=Tryz.isAgg4
 z4:=Tryz.sizeOf4
 v4:=Tryz.zeroValue4
 t5:=Tryz.underlying5
 a5:=Tryz.isAgg5
 z5:=Tryz.sizeOf5
 v5:=Tryz.zeroValue5
 t9:=Tryz.underlying9
 a9:=Tryz.isAgg9
 z9:=Tryz.sizeOf9
 v9:=Tryz.zeroValue9
 t22:=Tryz.underlying27
 a22:=Tryz.isAgg27
 z22:=Tryz.sizeOf27
 v22:=Tryz.zeroValue27
 t25:=Tryz.underlying42
 a25:=Tryz.isAgg42
 z25:=Tryz.sizeOf42
 v25:=Tryz.zeroValue42
 t39:=Tryz.underlying195
 a39:=Tryz.isAgg195
 z39:=Tryz.sizeOf195
 v39:=Tryz.zeroValue195
 t45:=Tryz.underlying210
 a45:=Tryz.isAgg210
 z45:=Tryz.sizeOf210
 v45:=Tryz.zeroValue210
 t46:=Tryz.underlying211
 a46:=Tryz.isAgg211
 z46:=Tryz.sizeOf211
 v46:=Tryz.zeroValue211
 t50:=Tryz.underlying215
 a50:=Tryz.isAgg215
 z50:=Tryz.sizeOf215
 v50:=Tryz.zeroValue215
 t53:=Tryz.underlying218
 a53:=Tryz.isAgg218
 z53:=Tryz.sizeOf218
 v53:=Tryz.zeroValue218
 t55:=Tryz.underlying220
 a55:=Tryz.isAgg220
 z55:=Tryz.sizeOf220
 v55:=Tryz.zeroValue220
 t66:=Tryz.underlying230
 a66:=Tryz.isAgg230
 z66:=Tryz.sizeOf230
 v66:=Tryz.zeroValue230
 t70:=Tryz.underlying234
 a70:=Tryz.isAgg234
 z70:=Tryz.sizeOf234
 v70:=Tryz.zeroValue234
 t76:=Tryz.underlying240
 a76:=Tryz.isAgg240
 z76:=Tryz.sizeOf240
 v76:=Tryz.zeroValue240
 t77:=Tryz.underlying207
 a77:=Tryz.isAgg207
 z77:=Tryz.sizeOf207
 v77:=Tryz.zeroValue207 }
open Go.RowKit Go.Lib Go.Sort in
theorem slices_SortFunc_none{α:Type}[Inhabited α](p:Option Addr)(cap:Nat)(fv:Value)(w:World):
  Calls Tryz.prog 107 #[.slice p 0 cap,fv] w fun e w'=>e= .returned (.tuple #[])∧w'=w:=AnyF.slices_SortFunc_none adn p cap fv w
end Go.Proofs.YtijnknjopjmiiaaGreatDoor.Zq
end
section
namespace Go.Proofs.YtijnknjopjmiiaaGreatDoor.Zq
variable{P:Program}{M:Mp}{H:Heap}{w:World}
def vC(P:Program)(H:Heap):Nat->TypeId->List Value->Prop
 |0,_,_=>False
 |d+1,t,cs=>cs.length=P.cellsOf t∧
  match P.underlying t with
  |some .bool=>∃b,cs=[.bool b]
  |some (.int k)=>∃n,cs=[.int k n]∧(Lit.int k n).wf=true
  |some .string=>∃s:ByteArray,cs=[.string s]∧s.size≤maxLen
  |some (.slice e)=>cs=[.slice none 0 0]∨(∃b off,cs=[.slice (some ⟨b,off,some 0⟩) 0 0])∨
    ∃b len cap,∃acss:List (List Value),cs=[.slice (some ⟨b,0,none⟩) len cap]∧len≤cap∧cap≤maxLen∧acss.length=cap∧0<cap∧H[b]? =some (.row acss.flatten (P.cellsOf e) false true true)∧∀a∈acss,vC P H d e a
  |some (.struct fs)=>∃acss:List (List Value),acss.length=fs.size∧cs=acss.flatten∧∀(i:Nat) (f:Field) (a:List Value),fs[i]? =some f->acss[i]? =some a->vC P H d f.type a
  |some (.array n e)=>∃acss:List (List Value),acss.length=n∧cs=acss.flatten∧∀a∈acss,vC P H d e a
  |_=>False
theorem vC.len{d:Nat}{t:TypeId}{cs:List Value}(h:vC P H d t cs):cs.length=P.cellsOf t:=by
 cases d with
 |zero=>exact h.elim
 |succ d=>exact h.1
theorem vC.app{K:Heap}:∀{d:Nat} {t:TypeId} {cs:List Value},vC P H d t cs->vC P (H++K) d t cs
 |0,_,_,h=>h.elim
 |d+1,t,cs,h=>by
  simp only[vC]at h ⊢
  refine⟨h.1,?_⟩
  have h:=h.2
  split at h
  ·exact h
  ·exact h
  ·exact h
  ·rcases h with h|h|⟨b,len,cap,acss,h1,h2,h3,h4,h5,h6,h7⟩
   ·exact .inl h
   ·exact .inr (.inl h)
   ·exact .inr (.inr ⟨b,len,cap,acss,h1,h2,h3,h4,h5,by rw[List.getElem?_append_left (List.getElem?_eq_some_iff.1 h6).1]; exact h6,fun a ha=>(h7 a ha).app⟩)
  ·obtain⟨acss,h1,h2,h3⟩:=h
   exact⟨acss,h1,h2,fun i f a hf ha=>(h3 i f a hf ha).app⟩
  ·obtain⟨acss,h1,h2,h3⟩:=h
   exact⟨acss,h1,h2,fun a ha=>(h3 a ha).app⟩
  ·exact h
def JC(P:Program):List Field->Nat->Nat->Bool
 |[],o,n=>o==n
 |f::r,o,n=>f.offset==o&&JC P r (o+P.cellsOf f.type) n
def okD(P:Program):Nat->TypeId->Bool
 |0,_=>false
 |d+1,t=>
  match P.underlying t with
  |some .bool|some (.int _)|some .string=>P.cellsOf t==1
  |some (.slice e)=>P.cellsOf t==1&&decide (0<P.cellsOf e)&&okD P d e
  |some (.struct fs)=>JC P fs.toList 0 (P.cellsOf t)&&fs.toList.all fun f=>okD P d f.type
  |some (.array n e)=>n*P.cellsOf e==P.cellsOf t&&okD P d e
  |_=>false
def Vs(H:Heap):Prop:=∀b,¬aZ H b
theorem Vs.app{H K:Heap}(h:Vs H)(k:∀x∈K,∃c sz l,x= .row c sz false true l):Vs (H++K):=by
 intro b hb
 unfold aZ at hb
 by_cases hl:b<H.length
 ·rw[List.getElem?_append_left hl]at hb
  exact h b (by unfold aZ; exact hb)
 ·rw[List.getElem?_append_right (by omega)]at hb
  cases hq:K[b-H.length]? with
  |none=>rw[hq]at hb; exact hb
  |some x=>
   obtain⟨c,sz,l,rfl⟩:=k x (List.mem_of_getElem? hq)
   rw[hq]at hb; simp at hb
structure Adds(M:Mp)(H:Heap)(w:World)(N:Mp)(K:Heap):Prop where
 hr:HR (M++N) (H++K) w
 ro:∀x∈K,∃c sz l,x= .row c sz false true l
theorem Adds.refl(h:HR M H w):Adds M H w [] []:=⟨by simpa using h,fun x hx=>by simp at hx⟩
theorem Adds.trans{N N':Mp}{K K':Heap}(h:Adds M H w N K)(k:Adds (M++N) (H++K) w N' K'):Adds M H w (N++N') (K++K'):=
 ⟨by simpa[List.append_assoc]using k.hr,fun x hx=>by rcases List.mem_append.1 hx with h1|h1; exact h.ro x h1; exact k.ro x h1⟩
theorem addRow(h:HR M H w)(hro:Vs H){cells us:List Value}{sz b o:Nat}(hc:∃c t fz,w.heap[b]? =some (.cells c t fz)∧o+us.length≤c.size∧(c.toList.drop o).take us.length=us)(hv:VL M cells us):
  ∃e:jd,e.blk=b∧e.base=o∧e.opn=false∧Adds M H w [some e] [.row cells sz false true true]:=by
 obtain⟨c,t,fz,hw,hle,htk⟩:=hc
 refine⟨⟨b,o,false,cells.length,sz,c.size⟩,rfl,rfl,rfl,⟨?_,fun x hx=>by simp at hx; exact⟨_,_,_,hx⟩⟩⟩
 have hx:=Ext.app M [some (⟨b,o,false,cells.length,sz,c.size⟩:jd)]
 have hlen:=h.len
 have hro':Vs (H++[.row cells sz false true true]):=hro.app fun x hx=>by simp at hx; exact⟨_,_,_,hx⟩
 refine⟨by simp[hlen],fun q e k hq hk=> ?_,fun q q' e e' _ _ _ hwr _=>absurd hwr (hro' q)⟩
 by_cases hl:q<M.length
 ·rw[List.getElem?_append_left hl]at hq
  rw[List.getElem?_append_left (by omega)]at hk
  exact(h.blk q e k hq hk).mono hx
 ·have e0:q=M.length:=by
   have:=(List.getElem?_eq_some_iff.1 hq).1
   simp at this; omega
  subst e0
  rw[List.getElem?_append_right (Nat.le_refl _)]at hq
  rw[hlen,List.getElem?_append_right (Nat.le_refl _)]at hk
  simp at hq hk; subst hq; subst hk
  exact⟨rfl,rfl,rfl,fun _=>⟨c,t,fz,hw,rfl,by have:=hv.1; simp; omega,by
   have e:(c.toList.drop o).take cells.length=us:=by rw[hv.1]; exact htk
   simp only
   rw[e]; exact hv.mono hx,fun hf=>by simp at hf⟩⟩
theorem pieces{P:Program}:∀{l:List Field} {o n:Nat} {cs:List Value},JC P l o n=true->cs.length=n->o≤n∧((l.map fun f=>(cs.drop f.offset).take (P.cellsOf f.type)).flatten=cs.drop o)
 |[],o,n,cs,h,hl=>by
  simp[JC]at h; subst h
  exact⟨Nat.le_refl _,by simp[hl]⟩
 |f::r,o,n,cs,h,hl=>by
  simp only[JC,Bool.and_eq_true,beq_iff_eq]at h
  obtain⟨h1,h2⟩:=h
  obtain⟨h3,h4⟩:=pieces h2 hl
  refine⟨by omega,?_⟩
  simp only[List.map_cons,List.flatten_cons,h4,h1]
  rw[←List.drop_drop]
  exact List.take_append_drop _ _
theorem PI:∀(n sz:Nat) (cs:List Value),cs.length=n*sz->((List.range n).map fun i=>(cs.drop (i*sz)).take sz).flatten=cs
 |0,sz,cs,h=>by simp at h; simp[h]
 |n+1,sz,cs,h=>by
  rw[List.range_succ,List.map_append,List.flatten_append]
  have hl:(cs.take (n*sz)).length=n*sz:=by simp; rw[h,Nat.add_mul]; omega
  have:=PI n sz (cs.take (n*sz)) hl
  have e:((List.range n).map fun i=>(cs.drop (i*sz)).take sz)=(List.range n).map fun i=>((cs.take (n*sz)).drop (i*sz)).take sz:=by
   apply List.map_congr_left
   intro i hi
   have hi:i<n:=by simpa using hi
   rw[List.drop_take,List.take_take]
   congr 1
   have:(i+1)*sz≤n*sz:=Nat.mul_le_mul_right _ hi
   rw[Nat.add_mul]at this
   omega
  rw[e,this]
  simp only[List.map_cons,List.map_nil,List.flatten_cons,List.flatten_nil,List.append_nil]
  rw[List.take_of_length_le (l:=cs.drop (n*sz)) (by simp; rw[h,Nat.add_mul]; omega)]
  exact List.take_append_drop _ _
section
variable{HH:Type}{enc:TypeId×Value->HH}{base:Nat}{spare:Nat->Bool}{held:Bool}
theorem IB(M:Mp){v:Value}(h:rM v=true):VL M [v] [v]:=VL.cons (VR.rM h) (VL.nil M)
end
end Go.Proofs.YtijnknjopjmiiaaGreatDoor.Zq
end
section
namespace Go.Proofs.YtijnknjopjmiiaaGreatDoor.Zq
section
variable{Pr:Program}{H:Heap}
inductive Sh where
 |b
 |i (k:IntKind)
 |s
 |sl
def U2:List Sh->List Value->Prop
 |[],cs=>cs=[]
 | .b::r,cs=>∃x t,cs= .bool x::t∧U2 r t
 | .i k::r,cs=>∃x t,cs= .int k x::t∧U2 r t
 | .s::r,cs=>∃x t,cs= .string x::t∧U2 r t
 | .sl::r,cs=>∃(x:Sl) (t:List Value),cs=x.v::t∧U2 r t
theorem U2.app:∀{a b:List Sh} {x y:List Value},U2 a x->U2 b y->U2 (a++b) (x++y)
 |[],b,x,y,h,k=>by
  have h:x=[]:=h
  subst h; exact k
 | .b::r,b,x,y,h,k=>by obtain⟨q,t,rfl,h⟩:=h; exact⟨q,t++y,rfl,U2.app h k⟩
 | .i _::r,b,x,y,h,k=>by obtain⟨q,t,rfl,h⟩:=h; exact⟨q,t++y,rfl,U2.app h k⟩
 | .s::r,b,x,y,h,k=>by obtain⟨q,t,rfl,h⟩:=h; exact⟨q,t++y,rfl,U2.app h k⟩
 | .sl::r,b,x,y,h,k=>by obtain⟨q,t,rfl,h⟩:=h; exact⟨q,t++y,rfl,U2.app h k⟩
def X4:List (Option (List Sh))->Option (List Sh)
 |[]=>some []
 |x::r=>match x,X4 r with|some a,some b=>some (a++b)|_,_=>none
def Xd(P:Program):Nat->TypeId->Option (List Sh)
 |0,_=>none
 |d+1,t=>
  match P.underlying t with
  |some .bool=>some [.b]
  |some (.int k)=>some [.i k]
  |some .string=>some [.s]
  |some (.slice _)=>some [.sl]
  |some (.struct fs)=>X4 (fs.toList.map fun f=>Xd P d f.type)
  |some (.array n e)=>X4 ((List.range n).map fun _=>Xd P d e)
  |_=>none
theorem PK:∀(l:List (Option (List Sh))) (acss:List (List Value)) (ss:List Sh),acss.length=l.length->(∀(i:Nat) o a,l[i]? =some o->acss[i]? =some a->∀s,o=some s->U2 s a)->X4 l=some ss->U2 ss acss.flatten
 |[],[],ss,_,_,h=>by simp[X4]at h; subst h; rfl
 |o::l,a::acss,ss,hl,hp,h=>by
  simp only[X4]at h
  split at h
  ·rename_i x y hy
   cases h
   rw[List.flatten_cons]
   exact U2.app (hp 0 _ a rfl rfl x rfl) (PK l acss y (by simpa using hl) (fun i o a h1 h2=>hp (i+1) o a (by simpa using h1) (by simpa using h2)) hy)
  ·cases h
 |[],_::_,_,h,_,_=>by simp at h
 |_::_,[],_,h,_,_=>by simp at h
theorem vC.Xd:∀{d:Nat} {t:TypeId} {cs:List Value} {ss:List Sh},vC Pr H d t cs->Zq.Xd Pr d t=some ss->U2 ss cs
 |0,_,_,_,h,_=>h.elim
 |d+1,t,cs,ss,h,hs=>by
  simp only[vC]at h
  simp only[Zq.Xd]at hs
  obtain⟨_,h⟩:=h
  split at h
  ·rename_i ht
   rw[ht]at hs; cases hs
   obtain⟨b,rfl⟩:=h
   exact⟨b,[],rfl,rfl⟩
  ·rename_i ht
   rw[ht]at hs; cases hs
   obtain⟨b,rfl,_⟩:=h
   exact⟨b,[],rfl,rfl⟩
  ·rename_i ht
   rw[ht]at hs; cases hs
   obtain⟨b,rfl,_⟩:=h
   exact⟨b,[],rfl,rfl⟩
  ·rename_i ht
   rw[ht]at hs; cases hs
   rcases h with rfl|⟨b,off,rfl⟩|⟨b,len,cap,acss,rfl,_⟩
   ·exact⟨⟨none,0,0⟩,[],rfl,rfl⟩
   ·exact⟨⟨some ⟨b,off,some 0⟩,0,0⟩,[],rfl,rfl⟩
   ·exact⟨⟨some ⟨b,0,none⟩,len,cap⟩,[],rfl,rfl⟩
  ·rename_i fs ht
   rw[ht]at hs
   obtain⟨acss,hl,rfl,hp⟩:=h
   refine PK _ acss ss (by simp[hl]) (fun i o a h1 h2 s hs=> ?_) hs
   simp only[List.getElem?_map,Option.map_eq_some_iff]at h1
   obtain⟨f,h3,h4⟩:=h1
   exact vC.Xd (hp i f a (by simpa using h3) h2) (h4.trans hs)
  ·rename_i n e ht
   rw[ht]at hs
   obtain⟨acss,hl,rfl,hp⟩:=h
   refine PK _ acss ss (by simp[hl]) (fun i o a h1 h2 s hs=> ?_) hs
   simp only[List.getElem?_map,Option.map_eq_some_iff]at h1
   obtain⟨f,h3,h4⟩:=h1
   exact vC.Xd (hp a (List.mem_of_getElem? h2)) (h4.trans hs)
  ·exact h.elim
end
section
variable{P:Program}
theorem Vs.nil:Vs []:=fun b hb=>by unfold aZ at hb; simp at hb
theorem CALL.law{M:Mp}{H:Heap}{w:World}{g:FuncId}{args args':List Value}(h:CALL P [ah] g args H fun x _=>x.1=true)(hr:HR M H w)(hv:VL M args args')(hn:Vs H):
  Calls P g args'.toArray w fun e w'=>e= .returned (.bool true)∧RowKit.Below w.heap.size w w':=by
 refine EV.law (EV.mono h ?_) hr hv hn
 rintro v H' ⟨x,rfl,hx⟩
 show Value.bool x.1=_
 rw[hx]
theorem Vs.adds{M N:Mp}{H K:Heap}{w:World}(h:Vs H)(a:Adds M H w N K):Vs (H++K):=h.app a.ro
end
end Go.Proofs.YtijnknjopjmiiaaGreatDoor.Zq
end
section
namespace Go.Proofs.YtijnknjopjmiiaaGreatDoor.Zq
section
section
variable{Pr:Program}{H:Heap}
theorem BK:∀(acss:List (List Value)) (i:Nat) (a:List Value),acss[i]? =some a->(acss.flatten.drop ((acss.take i).map List.length).sum).take a.length=a
 |[],i,a,h=>by simp at h
 |x::r,0,a,h=>by simp at h; subst h; simp
 |x::r,i+1,a,h=>by
  have:=BK r i a (by simpa using h)
  simp only[List.flatten_cons,List.take_succ_cons,List.map_cons,List.sum_cons]
  rw[←List.drop_drop,List.drop_left]; exact this
theorem Xe{d:Nat}{fs:List Field}:∀{acss:List (List Value)} (i:Nat),(∀(j:Nat) (f:Field) (a:List Value),fs[j]? =some f->acss[j]? =some a->vC Pr H d f.type a)->acss.length=fs.length->((acss.take i).map List.length).sum=((fs.take i).map fun f=>Pr.cellsOf f.type).sum:=by
 induction fs with
 |nil=>intro acss i _ hl; have:acss=[]:=List.length_eq_zero_iff.1 hl; subst this; simp
 |cons f r ih=>
  intro acss i hp hl
  cases acss with
  |nil=>simp at hl
  |cons a q=>
   cases i with
   |zero=>rfl
   |succ i=>
    simp only[List.take_succ_cons,List.map_cons,List.sum_cons]
    rw[(hp 0 f a rfl rfl).len,ih i (fun j g b h1 h2=>hp (j+1) g b (by simpa using h1) (by simpa using h2)) (by simpa using hl)]
theorem vC.fld{d:Nat}{t:TypeId}{cs:List Value}{fs:Array Field}(ht:Pr.underlying t=some (.struct fs)){i off:Nat}{f:Field}(hf:fs[i]? =some f)(hoff:((fs.toList.take i).map fun f=>Pr.cellsOf f.type).sum=off)(h:vC Pr H (d+1) t cs):
  vC Pr H d f.type ((cs.drop off).take (Pr.cellsOf f.type)):=by
 simp only[vC,ht]at h
 obtain⟨_,acss,hl,rfl,hp⟩:=h
 have hi:i<fs.size:=(Array.getElem?_eq_some_iff.1 hf).1
 have ha:acss[i]? =some acss[i]:=List.getElem?_eq_getElem (by omega)
 have hw:=hp i f _ hf ha
 have:=BK acss i _ ha
 rw[Xe (Pr:=Pr) (H:=H) (d:=d) (fs:=fs.toList) i (fun j f a h1 h2=>hp j f a (by simpa using h1) h2) (by simpa using hl),hoff,hw.len]at this
 rw[this]; exact hw
theorem Sl.Zu{s u:Sl}(h:s.v=u.v):s=u:=by
 cases s; cases u
 simp only[Sl.v,Value.slice.injEq]at h
 obtain⟨rfl,rfl,rfl⟩:=h; rfl
end
end
section
variable{B:Nat}{P:Program}{M:Mp}{H:Heap}{w:World}
def fG(B:Nat)(P:Program)(H:Heap):Nat->TypeId->List Value->Prop
 |0,_,_=>False
 |d+1,t,cs=>cs.length=P.cellsOf t∧
  match P.underlying t with
  |some .bool=>∃b,cs=[.bool b]
  |some (.int k)=>∃n,cs=[.int k n]∧(Lit.int k n).wf=true
  |some .string=>∃s:ByteArray,cs=[.string s]∧s.size≤maxLen
  |some (.slice e)=>cs=[.slice none 0 0]∨(∃b off,cs=[.slice (some ⟨b,off,some 0⟩) 0 0])∨
    ∃b len cap,∃acss:List (List Value),cs=[.slice (some ⟨b,0,none⟩) len cap]∧len≤cap∧cap≤maxLen∧len≤B∧acss.length=cap∧0<cap∧H[b]? =some (.row acss.flatten (P.cellsOf e) false true true)∧∀a∈acss,fG B P H d e a
  |some (.struct fs)=>∃acss:List (List Value),acss.length=fs.size∧cs=acss.flatten∧∀(i:Nat) (f:Field) (a:List Value),fs[i]? =some f->acss[i]? =some a->fG B P H d f.type a
  |some (.array n e)=>∃acss:List (List Value),acss.length=n∧cs=acss.flatten∧∀a∈acss,fG B P H d e a
  |_=>False
theorem fG.len{d:Nat}{t:TypeId}{cs:List Value}(h:fG B P H d t cs):cs.length=P.cellsOf t:=by
 cases d with
 |zero=>exact h.elim
 |succ d=>exact h.1
theorem fG.app{K:Heap}:∀{d:Nat} {t:TypeId} {cs:List Value},fG B P H d t cs->fG B P (H++K) d t cs
 |0,_,_,h=>h.elim
 |d+1,t,cs,h=>by
  simp only[fG]at h ⊢
  refine⟨h.1,?_⟩
  have h:=h.2
  split at h
  ·exact h
  ·exact h
  ·exact h
  ·rcases h with h|h|⟨b,len,cap,acss,h1,h2,h3,hB,h4,h5,h6,h7⟩
   ·exact .inl h
   ·exact .inr (.inl h)
   ·exact .inr (.inr ⟨b,len,cap,acss,h1,h2,h3,hB,h4,h5,by rw[List.getElem?_append_left (List.getElem?_eq_some_iff.1 h6).1]; exact h6,fun a ha=>(h7 a ha).app⟩)
  ·obtain⟨acss,h1,h2,h3⟩:=h
   exact⟨acss,h1,h2,fun i f a hf ha=>(h3 i f a hf ha).app⟩
  ·obtain⟨acss,h1,h2,h3⟩:=h
   exact⟨acss,h1,h2,fun a ha=>(h3 a ha).app⟩
  ·exact h
section
variable{HH:Type}{S:DataW HH->Prop}{enc:TypeId×Value->HH}{base:Nat}{spare:Nat->Bool}{held:Bool}
def acX(B:Nat)(S:DataW HH->Prop)(P:Program)(w:World)(enc:TypeId×Value->HH)(base:Nat)(spare:Nat->Bool)(held:Bool)(d:Nat)(t:TypeId):Prop:=
 ∀(fuel:Nat) (cs:List Value) (x:DataW HH×List MemPlace) (M:Mp) (H:Heap),DataW.trod enc P w base spare held fuel t cs=some x->S x.1->HR M H w->Vs H→
  ∃N K acs,Adds M H w N K∧VL (M++N) acs cs∧fG B P (H++K) d t acs
theorem PN{d:Nat}:∀(l:List (TypeId×List Value)) (M:Mp) (H:Heap),(∀p∈l,acX B S P w enc base spare held d p.1)->(∀p∈l,∃fuel x,DataW.trod enc P w base spare held fuel p.1 p.2=some x∧S x.1)->HR M H w->Vs H→
  ∃N K acss,Adds M H w N K∧acss.length=l.length∧VL (M++N) (List.flatten acss) (l.map (·.2)).flatten∧∀(i:Nat) (p:TypeId×List Value) (a:List Value),l[i]? =some p->acss[i]? =some a->fG B P (H++K) d p.1 a
 |[],M,H,_,_,h,_=>⟨[],[],[],.refl h,rfl,by simpa using VL.nil _,fun i p a hi=>by simp at hi⟩
 |p::l,M,H,ho,hr,h,hro=>by
  obtain⟨fuel,x,hx,hs⟩:=hr p (by simp)
  obtain⟨N,K,acs,h1,h2,h3⟩:=ho p (by simp) fuel p.2 x M H hx hs h hro
  obtain⟨N',K',acss,g1,g2,g3,g4⟩:=PN l (M++N) (H++K) (fun q hq=>ho q (by simp[hq])) (fun q hq=>hr q (by simp[hq])) h1.hr (hro.app h1.ro)
  refine⟨N++N',K++K',acs::acss,h1.trans g1,by simp[g2],?_,fun i q a hi ha=> ?_⟩
  ·simp only[List.map_cons,List.flatten_cons]
   rw[←List.append_assoc]
   exact(h2.mono (Ext.app _ _)).append g3
  ·cases i with
   |zero=>simp at hi ha; subst hi; subst ha; rw[←List.append_assoc]; exact h3.app
   |succ i=>rw[←List.append_assoc]; exact g4 i q a (by simpa using hi) (by simpa using ha)
theorem JE(hS1:∀e r,S (.slice e r)->e.length≤B∧∀d∈e++r,S d)(hS2:∀l,S (.agg l)->∀d∈l,S d):∀(d:Nat) (t:TypeId),okD P d t=true->acX B S P w enc base (fun _=>true) held d t
 |0,t,h=>by simp[okD]at h
 |d+1,t,h=>by
  intro fuel cs x M H hx hs hr hro
  unfold okD at h
  split at h
  ·rename_i ht
   obtain⟨b,rfl,_⟩:=DataW.trod_bool ht hx
   exact⟨[],[],_,.refl hr,IB _ rfl,by simp only[fG,ht]; exact⟨by simpa using(by simpa using h:P.cellsOf t=1).symm,b,rfl⟩⟩
  ·rename_i k ht
   obtain⟨n,rfl,_,hw⟩:=DataW.trod_int ht hx
   exact⟨[],[],_,.refl hr,IB _ rfl,by simp only[fG,ht]; exact⟨by simpa using(by simpa using h:P.cellsOf t=1).symm,n,rfl,hw⟩⟩
  ·rename_i ht
   obtain⟨s,rfl,_,hs⟩:=DataW.trod_string ht hx
   exact⟨[],[],_,.refl hr,IB _ rfl,by simp only[fG,ht]; exact⟨by simpa using(by simpa using h:P.cellsOf t=1).symm,s,rfl,hs⟩⟩
  ·rename_i e ht
   simp only[Bool.and_eq_true,beq_iff_eq,decide_eq_true_eq]at h
   obtain⟨⟨hc1,hc0⟩,hok⟩:=h
   rcases DataW.trod_slice ht hx with⟨rfl,_⟩|⟨a,len,cap,elems,rest,n,_,rfl,hxe,hb,hl,hm,hlen,hel,hsp,_⟩
   ·exact⟨[],[],_,.refl hr,IB _ rfl,by simp[fG,ht,hc1]⟩
   ·obtain⟨hrl,hre⟩:=hsp rfl
    rw[hxe]at hs
    obtain⟨hsl,hsm⟩:=hS1 _ _ hs
    rw[List.length_map,hlen]at hsl
    by_cases hcap:cap=0
    ·subst hcap
     have:len=0:=by omega
     subst this
     exact⟨[],[],[.slice (some ⟨0,0,some 0⟩) 0 0],.refl hr,VL.cons .sliceE (VL.nil _),by simp only[fG,ht]; exact⟨by simp[hc1],.inr (.inl ⟨0,0,rfl⟩)⟩⟩
    ·have hall:∀i,i<cap->∃ci y,w.cells? base (a.add (i*P.cellsOf e)) (P.cellsOf e)=some ci∧DataW.trod enc P w base (fun _=>true) held n e ci=some y∧S y.1:=by
      intro i hi
      by_cases h':i<len
      ·have:=hel i h'
       rw[List.getElem?_eq_getElem (by omega),Option.bind_eq_some_iff]at this
       obtain⟨ci,q1,q2⟩:=this
       exact⟨ci,_,q1,q2,hsm _ (List.mem_append_left _ (List.mem_map.2 ⟨_,List.getElem_mem _,rfl⟩))⟩
      ·have:=hre (i-len) (by omega)
       rw[show len+(i-len)=i by omega,List.getElem?_eq_getElem (by omega),Option.bind_eq_some_iff]at this
       obtain⟨ci,q1,q2⟩:=this
       exact⟨ci,_,q1,q2,hsm _ (List.mem_append_right _ (List.mem_map.2 ⟨_,List.getElem_mem _,rfl⟩))⟩
     have hspot:a.spot=none:=by
      obtain⟨ci,y,q1,_⟩:=hall 0 (by omega)
      obtain⟨_,q3,q4⟩:=World.cells?_some q1
      have:=q4 0 hc0
      rw[List.getElem?_eq_getElem (by omega)]at this
      simp only[Nat.zero_mul]at this
      unfold World.cell? at this
      simp only[Addr.add,if_true]at this
      split at this
      ·split at this
       ·simp at this
       ·rename_i hns; simpa using hns
      ·simp at this
     obtain⟨bl,of,sp⟩:=a
     simp only at hspot; subst hspot
     obtain⟨c,ct,fz,hw⟩:∃c ct fz,w.heap[bl]? =some (.cells c ct fz):=by
      obtain⟨ci,y,q1,_⟩:=hall 0 (by omega)
      obtain⟨_,q3,q4⟩:=World.cells?_some q1
      have:=q4 0 hc0
      rw[List.getElem?_eq_getElem (by omega)]at this
      simp only[Nat.zero_mul]at this
      unfold World.cell? at this
      simp only[Addr.add,if_true]at this
      split at this
      ·rename_i c ct fz hw; exact⟨c,ct,fz,hw⟩
      ·simp at this
     have hci:∀i,i<cap->w.cells? base ((⟨bl,of,none⟩:Addr).add (i*P.cellsOf e)) (P.cellsOf e)=some ((c.toList.drop (of+i*P.cellsOf e)).take (P.cellsOf e))∧of+i*P.cellsOf e+P.cellsOf e≤c.size:=by
      intro i hi
      obtain⟨ci,y,q1,_⟩:=hall i hi
      obtain⟨_,q3,q4⟩:=World.cells?_some q1
      have hj:∀j,j<P.cellsOf e->c.toList[of+i*P.cellsOf e+j]? =ci[j]? :=by
       intro j hj
       have:=q4 j hj
       rw[Addr.add_lit,Addr.add_lit]at this
       unfold World.cell? at this
       simp only[hw]at this
       simpa using this
      have hsz:of+i*P.cellsOf e+P.cellsOf e≤c.size:=by
       have:=hj (P.cellsOf e-1) (by omega)
       rw[List.getElem?_eq_getElem (l:=ci) (by omega)]at this
       have:=(List.getElem?_eq_some_iff.1 this).1
       simp at this; omega
      refine⟨?_,hsz⟩
      rw[q1]; congr 1
      apply List.ext_getElem?
      intro j
      rw[List.getElem?_take,List.getElem?_drop]
      by_cases hjl:j<P.cellsOf e
      ·rw[if_pos hjl,hj j hjl]
      ·rw[if_neg hjl,List.getElem?_eq_none (by omega)]
     let us:=(c.toList.drop of).take (cap*P.cellsOf e)
     have hul:us.length=cap*P.cellsOf e:=by
      have:=(hci (cap-1) (by omega)).2
      have h2:(cap-1)*P.cellsOf e+P.cellsOf e=cap*P.cellsOf e:=by rw[←Nat.succ_mul]; congr 1; omega
      simp[us]; omega
     let l:=(List.range cap).map fun i=>(e,(us.drop (i*P.cellsOf e)).take (P.cellsOf e))
     have hpc:∀i,i<cap->(us.drop (i*P.cellsOf e)).take (P.cellsOf e)=(c.toList.drop (of+i*P.cellsOf e)).take (P.cellsOf e):=by
      intro i hi
      simp only[us]
      rw[List.drop_take,List.take_take,List.drop_drop]
      congr 1
      have:(i+1)*P.cellsOf e≤cap*P.cellsOf e:=Nat.mul_le_mul_right _ hi
      rw[Nat.add_mul]at this
      omega
     obtain⟨N,K,acss,g1,g2,g3,g4⟩:=PN (d:=d) l M H (fun p hp=>by
       obtain⟨i,_,rfl⟩:=List.mem_map.1 hp
       exact JE hS1 hS2 d e hok) (fun p hp=>by
       obtain⟨i,hi,rfl⟩:=List.mem_map.1 hp
       have hi:i<cap:=by simpa using hi
       obtain⟨ci,y,q1,q2,q3⟩:=hall i hi
       rw[(hci i hi).1]at q1
       have q1:=Option.some.inj q1
       refine⟨n,y,?_,q3⟩
       simp only
       rw[hpc i hi,q1]; exact q2) hr hro
     have hfl:(l.map (·.2)).flatten=us:=by
      simp only[l,List.map_map]
      exact PI cap _ us hul
     rw[hfl]at g3
     obtain⟨en,k1,k2,k3,k4⟩:=addRow (sz:=P.cellsOf e) (b:=bl) (o:=of) g1.hr (hro.app g1.ro) ⟨c,ct,fz,hw,by
      have:=(hci (cap-1) (by omega)).2
      have h2:(cap-1)*P.cellsOf e+P.cellsOf e=cap*P.cellsOf e:=by rw[←Nat.succ_mul]; congr 1; omega
      rw[hul]; omega,by rw[hul]⟩ g3
     refine⟨N++[some en],K++[.row acss.flatten (P.cellsOf e) false true true],[.slice (some ⟨(H++K).length,0,none⟩) len cap],g1.trans k4,?_,?_⟩
     ·refine VL.cons ?_ (VL.nil _)
      have hget:(M++(N++[some en]))[(H++K).length]? =some (some en):=by
       have:=g1.hr.len
       rw[←List.append_assoc,←this]; simp
      have:=VR.slice (M:=M++(N++[some en])) (off:=0) (len:=len) (cap:=cap) (c:=cap) hget (.inl rfl)
      rw[k1,k2]at this
      exact this
     ·simp only[fG,ht]
      refine⟨by simp[hc1],.inr (.inr ⟨_,len,cap,acss,rfl,hl,hm,hsl,by rw[g2]; simp[l],by omega,?_,fun x hxm=> ?_⟩)⟩
      ·rw[←List.append_assoc]; simp
      ·obtain⟨i,hi⟩:=List.mem_iff_getElem?.1 hxm
       have hil:i<cap:=by have:=(List.getElem?_eq_some_iff.1 hi).1; rw[g2]at this; simpa[l]using this
       have:=g4 i (e,(us.drop (i*P.cellsOf e)).take (P.cellsOf e)) x (by simp[l,hil]) hi
       rw[←List.append_assoc]; exact this.app
  ·rename_i fs ht
   simp only[Bool.and_eq_true,List.all_eq_true]at h
   obtain⟨hct,hok⟩:=h
   obtain⟨xs,n,_,hxe,hl,hxl,hxs⟩:=DataW.trod_struct ht hx
   rw[hxe]at hs
   have hsm:=hS2 _ hs
   obtain⟨_,hfl⟩:=pieces hct hl
   obtain⟨N,K,acss,g1,g2,g3,g4⟩:=PN (d:=d) (fs.toList.map fun f=>(f.type,(cs.drop f.offset).take (P.cellsOf f.type))) M H (fun p hp=>by
     obtain⟨f,hf,rfl⟩:=List.mem_map.1 hp
     exact JE hS1 hS2 d f.type (hok f hf)) (fun p hp=>by
     obtain⟨f,hf,rfl⟩:=List.mem_map.1 hp
     obtain⟨i,hi⟩:=List.mem_iff_getElem?.1 hf
     have hi':fs[i]? =some f:=by simpa using hi
     have hil:i<xs.length:=by rw[hxl]; exact(Array.getElem?_eq_some_iff.1 hi').1
     exact⟨n,xs[i],by rw[hxs i f hi',List.getElem?_eq_getElem hil],hsm _ (List.mem_map.2 ⟨_,List.getElem_mem _,rfl⟩)⟩) hr hro
   refine⟨N,K,acss.flatten,g1,?_,?_⟩
   ·have e:((fs.toList.map fun f=>(f.type,(cs.drop f.offset).take (P.cellsOf f.type))).map (·.2)).flatten=cs:=by
     rw[List.map_map]
     have:=hfl
     rw[List.drop_zero]at this
     exact this
    rw[e]at g3; exact g3
   ·simp only[fG,ht]
    refine⟨?_,acss,by rw[g2]; simp,rfl,fun i f a hf ha=>g4 i _ a (by simp only[List.getElem?_map]; rw[show fs.toList[i]? =some f by simpa using hf]; rfl) ha⟩
    have:=g3.1
    rw[this,List.map_map,←hl]
    have e:=hfl
    rw[List.drop_zero]at e
    exact congrArg List.length e
  ·rename_i m e ht
   simp only[Bool.and_eq_true,beq_iff_eq]at h
   obtain⟨hct,hok⟩:=h
   obtain⟨xs,n,_,hxe,hl,hxl,hxs⟩:=DataW.trod_array ht hx
   rw[hxe]at hs
   have hsm:=hS2 _ hs
   have hfl:=PI m (P.cellsOf e) cs (by rw[hl,hct])
   obtain⟨N,K,acss,g1,g2,g3,g4⟩:=PN (d:=d) ((List.range m).map fun i=>(e,(cs.drop (i*P.cellsOf e)).take (P.cellsOf e))) M H (fun p hp=>by
     obtain⟨i,hi,rfl⟩:=List.mem_map.1 hp
     exact JE hS1 hS2 d e hok) (fun p hp=>by
     obtain⟨i,hi,rfl⟩:=List.mem_map.1 hp
     have hi:i<m:=by simpa using hi
     exact⟨n,xs[i]'(by omega),by simp only; rw[hxs i hi,List.getElem?_eq_getElem (by omega)],hsm _ (List.mem_map.2 ⟨_,List.getElem_mem _,rfl⟩)⟩) hr hro
   have e1:(((List.range m).map fun i=>(e,(cs.drop (i*P.cellsOf e)).take (P.cellsOf e))).map (·.2)).flatten=cs:=by rw[List.map_map]; exact hfl
   rw[e1]at g3
   refine⟨N,K,acss.flatten,g1,g3,?_⟩
   simp only[fG,ht]
   refine⟨by rw[g3.1,hl],acss,by rw[g2]; simp,rfl,fun a ha=> ?_⟩
   obtain⟨i,hi⟩:=List.mem_iff_getElem?.1 ha
   have him:i<m:=by have:=(List.getElem?_eq_some_iff.1 hi).1; rw[g2]at this; simpa using this
   exact g4 i (e,(cs.drop (i*P.cellsOf e)).take (P.cellsOf e)) a (by simp[him]) hi
  ·simp at h
end
theorem fG.wt:∀{d:Nat} {t:TypeId} {cs:List Value},fG B P H d t cs->vC P H d t cs
 |0,_,_,h=>h.elim
 |d+1,t,cs,h=>by
  simp only[fG]at h
  simp only[vC]
  refine⟨h.1,?_⟩
  have h:=h.2
  split at h
  ·rename_i ht; (try simp only[ht]); exact h
  ·rename_i ht; (try simp only[ht]); exact h
  ·rename_i ht; (try simp only[ht]); exact h
  ·rename_i ht
   (try simp only[ht])
   rcases h with h|h|⟨b,len,cap,acss,h1,h2,h3,hB,h4,h5,h6,h7⟩
   ·exact .inl h
   ·exact .inr (.inl h)
   ·exact .inr (.inr ⟨b,len,cap,acss,h1,h2,h3,h4,h5,h6,fun a ha=>(h7 a ha).wt⟩)
  ·rename_i ht
   (try simp only[ht])
   obtain⟨acss,h1,h2,h3⟩:=h
   exact⟨acss,h1,h2,fun i f a hf ha=>(h3 i f a hf ha).wt⟩
  ·rename_i ht
   (try simp only[ht])
   obtain⟨acss,h1,h2,h3⟩:=h
   exact⟨acss,h1,h2,fun a ha=>(h3 a ha).wt⟩
  ·exact h.elim
theorem Zw{d:Nat}{fs:List Field}:∀{acss:List (List Value)} (i:Nat),(∀(j:Nat) (f:Field) (a:List Value),fs[j]? =some f->acss[j]? =some a->fG B P H d f.type a)->acss.length=fs.length->((acss.take i).map List.length).sum=((fs.take i).map fun f=>P.cellsOf f.type).sum:=
 fun i h hl=>Xe i (fun j f a h1 h2=>(h j f a h1 h2).wt) hl
theorem fG.fld{d:Nat}{t:TypeId}{cs:List Value}{fs:Array Field}(ht:P.underlying t=some (.struct fs)){i off:Nat}{f:Field}(hf:fs[i]? =some f)(hoff:((fs.toList.take i).map fun f=>P.cellsOf f.type).sum=off)(h:fG B P H (d+1) t cs):
  fG B P H d f.type ((cs.drop off).take (P.cellsOf f.type)):=by
 simp only[fG,ht]at h
 obtain⟨_,acss,hl,rfl,hp⟩:=h
 have hi:i<fs.size:=(Array.getElem?_eq_some_iff.1 hf).1
 have ha:acss[i]? =some acss[i]:=List.getElem?_eq_getElem (by omega)
 have hw:=hp i f _ hf ha
 have:=BK acss i _ ha
 rw[Zw (P:=P) (H:=H) (d:=d) (fs:=fs.toList) i (fun j f a h1 h2=>hp j f a (by simpa using h1) h2) (by simpa using hl),hoff,hw.len]at this
 rw[this]; exact hw
end
def yD:Value->Prop
 | .int k n=>(Lit.int k n).wf=true
 | .string s=>s.size≤maxLen
 |_=>True
theorem vC.Md{P:Program}{H:Heap}:∀{d:Nat} {t:TypeId} {cs:List Value},vC P H d t cs->∀v∈cs,yD v
 |0,_,_,h=>h.elim
 |d+1,t,cs,h=>by
  simp only[vC]at h
  obtain⟨_,h⟩:=h
  intro v hv
  split at h
  ·obtain⟨b,rfl⟩:=h
   simp at hv; subst hv; trivial
  ·obtain⟨b,rfl,q⟩:=h
   simp at hv; subst hv; exact q
  ·obtain⟨b,rfl,q⟩:=h
   simp at hv; subst hv; exact q
  ·rcases h with rfl|⟨b,off,rfl⟩|⟨b,len,cap,acss,rfl,_⟩<;>(simp at hv; subst hv; trivial)
  ·obtain⟨acss,hl,rfl,hp⟩:=h
   obtain⟨a,ha,hva⟩:=List.mem_flatten.1 hv
   obtain⟨i,hi⟩:=List.mem_iff_getElem?.1 ha
   have hil:=(List.getElem?_eq_some_iff.1 hi).1
   exact vC.Md (hp i _ a (Array.getElem?_eq_getElem (by omega)) hi) v hva
  ·obtain⟨acss,hl,rfl,hp⟩:=h
   obtain⟨a,ha,hva⟩:=List.mem_flatten.1 hv
   exact vC.Md (hp a ha) v hva
  ·exact h.elim
end Go.Proofs.YtijnknjopjmiiaaGreatDoor.Zq
end
section
namespace Go.Proofs.YtijnknjopjmiiaaGreatDoor
open Go Zq
def Tryz.tab:List (Option TI):=[
 none,
 none,
 none,
 some ⟨.int .i64,1,8,[.int .i64 0]⟩,
 some ⟨.bool,1,1,[.bool false]⟩,
 some ⟨.int .u8,1,1,[.int .u8 0]⟩,
 none,
 none,
 none,
 some ⟨.string,1,16,[.string ⟨#[]⟩]⟩,
 none,
 none,
 none,
 none,
 none,
 none,
 none,
 none,
 none,
 none,
 none,
 some ⟨.int .i32,1,4,[.int .i32 0]⟩,
 some ⟨.slice 97,1,24,[.slice none 0 0]⟩,
 some ⟨.slice 101,1,24,[.slice none 0 0]⟩,
 none,
 some ⟨.struct [(0,22),(1,23),(2,4)],3,56,[.slice none 0 0,.slice none 0 0,.bool false]⟩,
 some ⟨.slice 46,1,24,[.slice none 0 0]⟩,
 some ⟨.slice 3,1,24,[.slice none 0 0]⟩,
 none,
 some ⟨.pointer 131,1,8,[.pointer none]⟩,
 some ⟨.slice 51,1,24,[.slice none 0 0]⟩,
 none,
 none,
 none,
 some ⟨.int .i64,1,8,[.int .i64 0]⟩,
 none,
 none,
 some ⟨.slice 60,1,24,[.slice none 0 0]⟩,
 none,
 none,
 none,
 none,
 some ⟨.func,1,8,[.nilFunc]⟩,
 some ⟨.int .u8,1,1,[.int .u8 0]⟩,
 some ⟨.array 4 3,4,32,[.int .i64 0,.int .i64 0,.int .i64 0,.int .i64 0]⟩,
 none,
 some ⟨.struct [(0,3),(1,3),(2,43),(3,3),(4,3),(5,44),(9,3),(10,4)],11,88,[.int .i64 0,.int .i64 0,.int .u8 0,.int .i64 0,.int .i64 0,.int .i64 0,.int .i64 0,.int .i64 0,.int .i64 0,.int .i64 0,.bool false]⟩,
 some ⟨.int .u8,1,1,[.int .u8 0]⟩,
 none,
 some ⟨.int .u16,1,2,[.int .u16 0]⟩,
 none,
 some ⟨.struct [(0,3),(1,47),(2,49),(3,3),(4,3)],5,32,[.int .i64 0,.int .u8 0,.int .u16 0,.int .i64 0,.int .i64 0]⟩,
 some ⟨.int .u8,1,1,[.int .u8 0]⟩,
 some ⟨.int .u8,1,1,[.int .u8 0]⟩,
 some ⟨.int .u8,1,1,[.int .u8 0]⟩,
 some ⟨.int .u8,1,1,[.int .u8 0]⟩,
 some ⟨.int .u8,1,1,[.int .u8 0]⟩,
 none,
 some ⟨.struct [(0,52),(1,53),(2,54),(3,3),(4,47),(5,55),(6,56),(7,9)],8,40,[.int .u8 0,.int .u8 0,.int .u8 0,.int .i64 0,.int .u8 0,.int .u8 0,.int .u8 0,.string ⟨#[]⟩]⟩,
 none,
 some ⟨.struct [(0,3),(1,3),(2,58)],10,56,[.int .i64 0,.int .i64 0,.int .u8 0,.int .u8 0,.int .u8 0,.int .i64 0,.int .u8 0,.int .u8 0,.int .u8 0,.string ⟨#[]⟩]⟩,
 none,
 none,
 some ⟨.pointer 133,1,8,[.pointer none]⟩,
 none,
 none,
 none,
 none,
 none,
 none,
 none,
 none,
 none,
 none,
 none,
 none,
 some ⟨.slice 30,1,24,[.slice none 0 0]⟩,
 none,
 some ⟨.slice 37,1,24,[.slice none 0 0]⟩,
 none,
 none,
 none,
 none,
 none,
 none,
 none,
 none,
 some ⟨.func,1,8,[.nilFunc]⟩,
 none,
 none,
 none,
 none,
 none,
 none,
 some ⟨.int .u8,1,1,[.int .u8 0]⟩,
 some ⟨.slice 58,1,24,[.slice none 0 0]⟩,
 none,
 some ⟨.struct [(0,9),(1,47),(2,94),(3,3),(4,3),(5,3),(6,49),(7,4),(8,95)],9,80,[.string ⟨#[]⟩,.int .u8 0,.int .u8 0,.int .i64 0,.int .i64 0,.int .i64 0,.int .u16 0,.bool false,.slice none 0 0]⟩,
 none,
 none,
 none,
 some ⟨.struct [(0,56),(1,9),(2,3),(3,3)],4,40,[.int .u8 0,.string ⟨#[]⟩,.int .i64 0,.int .i64 0]⟩,
 none,
 none,
 none,
 none,
 none,
 none,
 none,
 none,
 some ⟨.slice 114,1,24,[.slice none 0 0]⟩,
 none,
 none,
 none,
 some ⟨.struct [(0,60),(10,27)],11,80,[.int .i64 0,.int .i64 0,.int .u8 0,.int .u8 0,.int .u8 0,.int .i64 0,.int .u8 0,.int .u8 0,.int .u8 0,.string ⟨#[]⟩,.slice none 0 0]⟩,
 none,
 none,
 none,
 none,
 none,
 none,
 none,
 none,
 some ⟨.func,1,8,[.nilFunc]⟩,
 none,
 none,
 none,
 some ⟨.array 64 97,576,5120,[.string ⟨#[]⟩,.int .u8 0,.int .u8 0,.int .i64 0,.int .i64 0,.int .i64 0,.int .u16 0,.bool false,.slice none 0 0,.string ⟨#[]⟩,.int .u8 0,.int .u8 0,.int .i64 0,.int .i64 0,.int .i64 0,.int .u16 0,.bool false,.slice none 0 0,.string ⟨#[]⟩,.int .u8 0,.int .u8 0,.int .i64 0,.int .i64 0,.int .i64 0,.int .u16 0,.bool false,.slice none 0 0,.string ⟨#[]⟩,.int .u8 0,.int .u8 0,.int .i64 0,.int .i64 0,.int .i64 0,.int .u16 0,.bool false,.slice none 0 0,.string ⟨#[]⟩,.int .u8 0,.int .u8 0,.int .i64 0,.int .i64 0,.int .i64 0,.int .u16 0,.bool false,.slice none 0 0,.string ⟨#[]⟩,.int .u8 0,.int .u8 0,.int .i64 0,.int .i64 0,.int .i64 0,.int .u16 0,.bool false,.slice none 0 0,.string ⟨#[]⟩,.int .u8 0,.int .u8 0,.int .i64 0,.int .i64 0,.int .i64 0,.int .u16 0,.bool false,.slice none 0 0,.string ⟨#[]⟩,.int .u8 0,.int .u8 0,.int .i64 0,.int .i64 0,.int .i64 0,.int .u16 0,.bool false,.slice none 0 0,.string ⟨#[]⟩,.int .u8 0,.int .u8 0,.int .i64 0,.int .i64 0,.int .i64 0,.int .u16 0,.bool false,.slice none 0 0,.string ⟨#[]⟩,.int .u8 0,.int .u8 0,.int .i64 0,.int .i64 0,.int .i64 0,.int .u16 0,.bool false,.slice none 0 0,.string ⟨#[]⟩,.int .u8 0,.int .u8 0,.int .i64 0,.int .i64 0,.int .i64 0,.int .u16 0,.bool false,.slice none 0 0,.string ⟨#[]⟩,.int .u8 0,.int .u8 0,.int .i64 0,.int .i64 0,.int .i64 0,.int .u16 0,.bool false,.slice none 0 0,.string ⟨#[]⟩,.int .u8 0,.int .u8 0,.int .i64 0,.int .i64 0,.int .i64 0,.int .u16 0,.bool false,.slice none 0 0,.string ⟨#[]⟩,.int .u8 0,.int .u8 0,.int .i64 0,.int .i64 0,.int .i64 0,.int .u16 0,.bool false,.slice none 0 0,.string ⟨#[]⟩,.int .u8 0,.int .u8 0,.int .i64 0,.int .i64 0,.int .i64 0,.int .u16 0,.bool false,.slice none 0 0,.string ⟨#[]⟩,.int .u8 0,.int .u8 0,.int .i64 0,.int .i64 0,.int .i64 0,.int .u16 0,.bool false,.slice none 0 0,.string ⟨#[]⟩,.int .u8 0,.int .u8 0,.int .i64 0,.int .i64 0,.int .i64 0,.int .u16 0,.bool false,.slice none 0 0,.string ⟨#[]⟩,.int .u8 0,.int .u8 0,.int .i64 0,.int .i64 0,.int .i64 0,.int .u16 0,.bool false,.slice none 0 0,.string ⟨#[]⟩,.int .u8 0,.int .u8 0,.int .i64 0,.int .i64 0,.int .i64 0,.int .u16 0,.bool false,.slice none 0 0,.string ⟨#[]⟩,.int .u8 0,.int .u8 0,.int .i64 0,.int .i64 0,.int .i64 0,.int .u16 0,.bool false,.slice none 0 0,.string ⟨#[]⟩,.int .u8 0,.int .u8 0,.int .i64 0,.int .i64 0,.int .i64 0,.int .u16 0,.bool false,.slice none 0 0,.string ⟨#[]⟩,.int .u8 0,.int .u8 0,.int .i64 0,.int .i64 0,.int .i64 0,.int .u16 0,.bool false,.slice none 0 0,.string ⟨#[]⟩,.int .u8 0,.int .u8 0,.int .i64 0,.int .i64 0,.int .i64 0,.int .u16 0,.bool false,.slice none 0 0,.string ⟨#[]⟩,.int .u8 0,.int .u8 0,.int .i64 0,.int .i64 0,.int .i64 0,.int .u16 0,.bool false,.slice none 0 0,.string ⟨#[]⟩,.int .u8 0,.int .u8 0,.int .i64 0,.int .i64 0,.int .i64 0,.int .u16 0,.bool false,.slice none 0 0,.string ⟨#[]⟩,.int .u8 0,.int .u8 0,.int .i64 0,.int .i64 0,.int .i64 0,.int .u16 0,.bool false,.slice none 0 0,.string ⟨#[]⟩,.int .u8 0,.int .u8 0,.int .i64 0,.int .i64 0,.int .i64 0,.int .u16 0,.bool false,.slice none 0 0,.string ⟨#[]⟩,.int .u8 0,.int .u8 0,.int .i64 0,.int .i64 0,.int .i64 0,.int .u16 0,.bool false,.slice none 0 0,.string ⟨#[]⟩,.int .u8 0,.int .u8 0,.int .i64 0,.int .i64 0,.int .i64 0,.int .u16 0,.bool false,.slice none 0 0,.string ⟨#[]⟩,.int .u8 0,.int .u8 0,.int .i64 0,.int .i64 0,.int .i64 0,.int .u16 0,.bool false,.slice none 0 0,.string ⟨#[]⟩,.int .u8 0,.int .u8 0,.int .i64 0,.int .i64 0,.int .i64 0,.int .u16 0,.bool false,.slice none 0 0,.string ⟨#[]⟩,.int .u8 0,.int .u8 0,.int .i64 0,.int .i64 0,.int .i64 0,.int .u16 0,.bool false,.slice none 0 0,.string ⟨#[]⟩,.int .u8 0,.int .u8 0,.int .i64 0,.int .i64 0,.int .i64 0,.int .u16 0,.bool false,.slice none 0 0,.string ⟨#[]⟩,.int .u8 0,.int .u8 0,.int .i64 0,.int .i64 0,.int .i64 0,.int .u16 0,.bool false,.slice none 0 0,.string ⟨#[]⟩,.int .u8 0,.int .u8 0,.int .i64 0,.int .i64 0,.int .i64 0,.int .u16 0,.bool false,.slice none 0 0,.string ⟨#[]⟩,.int .u8 0,.int .u8 0,.int .i64 0,.int .i64 0,.int .i64 0,.int .u16 0,.bool false,.slice none 0 0,.string ⟨#[]⟩,.int .u8 0,.int .u8 0,.int .i64 0,.int .i64 0,.int .i64 0,.int .u16 0,.bool false,.slice none 0 0,.string ⟨#[]⟩,.int .u8 0,.int .u8 0,.int .i64 0,.int .i64 0,.int .i64 0,.int .u16 0,.bool false,.slice none 0 0,.string ⟨#[]⟩,.int .u8 0,.int .u8 0,.int .i64 0,.int .i64 0,.int .i64 0,.int .u16 0,.bool false,.slice none 0 0,.string ⟨#[]⟩,.int .u8 0,.int .u8 0,.int .i64 0,.int .i64 0,.int .i64 0,.int .u16 0,.bool false,.slice none 0 0,.string ⟨#[]⟩,.int .u8 0,.int .u8 0,.int .i64 0,.int .i64 0,.int .i64 0,.int .u16 0,.bool false,.slice none 0 0,.string ⟨#[]⟩,.int .u8 0,.int .u8 0,.int .i64 0,.int .i64 0,.int .i64 0,.int .u16 0,.bool false,.slice none 0 0,.string ⟨#[]⟩,.int .u8 0,.int .u8 0,.int .i64 0,.int .i64 0,.int .i64 0,.int .u16 0,.bool false,.slice none 0 0,.string ⟨#[]⟩,.int .u8 0,.int .u8 0,.int .i64 0,.int .i64 0,.int .i64 0,.int .u16 0,.bool false,.slice none 0 0,.string ⟨#[]⟩,.int .u8 0,.int .u8 0,.int .i64 0,.int .i64 0,.int .i64 0,.int .u16 0,.bool false,.slice none 0 0,.string ⟨#[]⟩,.int .u8 0,.int .u8 0,.int .i64 0,.int .i64 0,.int .i64 0,.int .u16 0,.bool false,.slice none 0 0,.string ⟨#[]⟩,.int .u8 0,.int .u8 0,.int .i64 0,.int .i64 0,.int .i64 0,.int .u16 0,.bool false,.slice none 0 0,.string ⟨#[]⟩,.int .u8 0,.int .u8 0,.int .i64 0,.int .i64 0,.int .i64 0,.int .u16 0,.bool false,.slice none 0 0,.string ⟨#[]⟩,.int .u8 0,.int .u8 0,.int .i64 0,.int .i64 0,.int .i64 0,.int .u16 0,.bool false,.slice none 0 0,.string ⟨#[]⟩,.int .u8 0,.int .u8 0,.int .i64 0,.int .i64 0,.int .i64 0,.int .u16 0,.bool false,.slice none 0 0,.string ⟨#[]⟩,.int .u8 0,.int .u8 0,.int .i64 0,.int .i64 0,.int .i64 0,.int .u16 0,.bool false,.slice none 0 0,.string ⟨#[]⟩,.int .u8 0,.int .u8 0,.int .i64 0,.int .i64 0,.int .i64 0,.int .u16 0,.bool false,.slice none 0 0,.string ⟨#[]⟩,.int .u8 0,.int .u8 0,.int .i64 0,.int .i64 0,.int .i64 0,.int .u16 0,.bool false,.slice none 0 0,.string ⟨#[]⟩,.int .u8 0,.int .u8 0,.int .i64 0,.int .i64 0,.int .i64 0,.int .u16 0,.bool false,.slice none 0 0,.string ⟨#[]⟩,.int .u8 0,.int .u8 0,.int .i64 0,.int .i64 0,.int .i64 0,.int .u16 0,.bool false,.slice none 0 0,.string ⟨#[]⟩,.int .u8 0,.int .u8 0,.int .i64 0,.int .i64 0,.int .i64 0,.int .u16 0,.bool false,.slice none 0 0,.string ⟨#[]⟩,.int .u8 0,.int .u8 0,.int .i64 0,.int .i64 0,.int .i64 0,.int .u16 0,.bool false,.slice none 0 0,.string ⟨#[]⟩,.int .u8 0,.int .u8 0,.int .i64 0,.int .i64 0,.int .i64 0,.int .u16 0,.bool false,.slice none 0 0,.string ⟨#[]⟩,.int .u8 0,.int .u8 0,.int .i64 0,.int .i64 0,.int .i64 0,.int .u16 0,.bool false,.slice none 0 0,.string ⟨#[]⟩,.int .u8 0,.int .u8 0,.int .i64 0,.int .i64 0,.int .i64 0,.int .u16 0,.bool false,.slice none 0 0,.string ⟨#[]⟩,.int .u8 0,.int .u8 0,.int .i64 0,.int .i64 0,.int .i64 0,.int .u16 0,.bool false,.slice none 0 0,.string ⟨#[]⟩,.int .u8 0,.int .u8 0,.int .i64 0,.int .i64 0,.int .i64 0,.int .u16 0,.bool false,.slice none 0 0,.string ⟨#[]⟩,.int .u8 0,.int .u8 0,.int .i64 0,.int .i64 0,.int .i64 0,.int .u16 0,.bool false,.slice none 0 0,.string ⟨#[]⟩,.int .u8 0,.int .u8 0,.int .i64 0,.int .i64 0,.int .i64 0,.int .u16 0,.bool false,.slice none 0 0]⟩,
 some ⟨.array 9 9,9,144,[.string ⟨#[]⟩,.string ⟨#[]⟩,.string ⟨#[]⟩,.string ⟨#[]⟩,.string ⟨#[]⟩,.string ⟨#[]⟩,.string ⟨#[]⟩,.string ⟨#[]⟩,.string ⟨#[]⟩]⟩,
 some ⟨.array 5 101,20,200,[.int .u8 0,.string ⟨#[]⟩,.int .i64 0,.int .i64 0,.int .u8 0,.string ⟨#[]⟩,.int .i64 0,.int .i64 0,.int .u8 0,.string ⟨#[]⟩,.int .i64 0,.int .i64 0,.int .u8 0,.string ⟨#[]⟩,.int .i64 0,.int .i64 0,.int .u8 0,.string ⟨#[]⟩,.int .i64 0,.int .i64 0]⟩,
 none,
 some ⟨.struct [(0,4),(1,4),(2,3),(3,127),(579,128),(588,129)],608,5480,[.bool false,.bool false,.int .i64 0,.string ⟨#[]⟩,.int .u8 0,.int .u8 0,.int .i64 0,.int .i64 0,.int .i64 0,.int .u16 0,.bool false,.slice none 0 0,.string ⟨#[]⟩,.int .u8 0,.int .u8 0,.int .i64 0,.int .i64 0,.int .i64 0,.int .u16 0,.bool false,.slice none 0 0,.string ⟨#[]⟩,.int .u8 0,.int .u8 0,.int .i64 0,.int .i64 0,.int .i64 0,.int .u16 0,.bool false,.slice none 0 0,.string ⟨#[]⟩,.int .u8 0,.int .u8 0,.int .i64 0,.int .i64 0,.int .i64 0,.int .u16 0,.bool false,.slice none 0 0,.string ⟨#[]⟩,.int .u8 0,.int .u8 0,.int .i64 0,.int .i64 0,.int .i64 0,.int .u16 0,.bool false,.slice none 0 0,.string ⟨#[]⟩,.int .u8 0,.int .u8 0,.int .i64 0,.int .i64 0,.int .i64 0,.int .u16 0,.bool false,.slice none 0 0,.string ⟨#[]⟩,.int .u8 0,.int .u8 0,.int .i64 0,.int .i64 0,.int .i64 0,.int .u16 0,.bool false,.slice none 0 0,.string ⟨#[]⟩,.int .u8 0,.int .u8 0,.int .i64 0,.int .i64 0,.int .i64 0,.int .u16 0,.bool false,.slice none 0 0,.string ⟨#[]⟩,.int .u8 0,.int .u8 0,.int .i64 0,.int .i64 0,.int .i64 0,.int .u16 0,.bool false,.slice none 0 0,.string ⟨#[]⟩,.int .u8 0,.int .u8 0,.int .i64 0,.int .i64 0,.int .i64 0,.int .u16 0,.bool false,.slice none 0 0,.string ⟨#[]⟩,.int .u8 0,.int .u8 0,.int .i64 0,.int .i64 0,.int .i64 0,.int .u16 0,.bool false,.slice none 0 0,.string ⟨#[]⟩,.int .u8 0,.int .u8 0,.int .i64 0,.int .i64 0,.int .i64 0,.int .u16 0,.bool false,.slice none 0 0,.string ⟨#[]⟩,.int .u8 0,.int .u8 0,.int .i64 0,.int .i64 0,.int .i64 0,.int .u16 0,.bool false,.slice none 0 0,.string ⟨#[]⟩,.int .u8 0,.int .u8 0,.int .i64 0,.int .i64 0,.int .i64 0,.int .u16 0,.bool false,.slice none 0 0,.string ⟨#[]⟩,.int .u8 0,.int .u8 0,.int .i64 0,.int .i64 0,.int .i64 0,.int .u16 0,.bool false,.slice none 0 0,.string ⟨#[]⟩,.int .u8 0,.int .u8 0,.int .i64 0,.int .i64 0,.int .i64 0,.int .u16 0,.bool false,.slice none 0 0,.string ⟨#[]⟩,.int .u8 0,.int .u8 0,.int .i64 0,.int .i64 0,.int .i64 0,.int .u16 0,.bool false,.slice none 0 0,.string ⟨#[]⟩,.int .u8 0,.int .u8 0,.int .i64 0,.int .i64 0,.int .i64 0,.int .u16 0,.bool false,.slice none 0 0,.string ⟨#[]⟩,.int .u8 0,.int .u8 0,.int .i64 0,.int .i64 0,.int .i64 0,.int .u16 0,.bool false,.slice none 0 0,.string ⟨#[]⟩,.int .u8 0,.int .u8 0,.int .i64 0,.int .i64 0,.int .i64 0,.int .u16 0,.bool false,.slice none 0 0,.string ⟨#[]⟩,.int .u8 0,.int .u8 0,.int .i64 0,.int .i64 0,.int .i64 0,.int .u16 0,.bool false,.slice none 0 0,.string ⟨#[]⟩,.int .u8 0,.int .u8 0,.int .i64 0,.int .i64 0,.int .i64 0,.int .u16 0,.bool false,.slice none 0 0,.string ⟨#[]⟩,.int .u8 0,.int .u8 0,.int .i64 0,.int .i64 0,.int .i64 0,.int .u16 0,.bool false,.slice none 0 0,.string ⟨#[]⟩,.int .u8 0,.int .u8 0,.int .i64 0,.int .i64 0,.int .i64 0,.int .u16 0,.bool false,.slice none 0 0,.string ⟨#[]⟩,.int .u8 0,.int .u8 0,.int .i64 0,.int .i64 0,.int .i64 0,.int .u16 0,.bool false,.slice none 0 0,.string ⟨#[]⟩,.int .u8 0,.int .u8 0,.int .i64 0,.int .i64 0,.int .i64 0,.int .u16 0,.bool false,.slice none 0 0,.string ⟨#[]⟩,.int .u8 0,.int .u8 0,.int .i64 0,.int .i64 0,.int .i64 0,.int .u16 0,.bool false,.slice none 0 0,.string ⟨#[]⟩,.int .u8 0,.int .u8 0,.int .i64 0,.int .i64 0,.int .i64 0,.int .u16 0,.bool false,.slice none 0 0,.string ⟨#[]⟩,.int .u8 0,.int .u8 0,.int .i64 0,.int .i64 0,.int .i64 0,.int .u16 0,.bool false,.slice none 0 0,.string ⟨#[]⟩,.int .u8 0,.int .u8 0,.int .i64 0,.int .i64 0,.int .i64 0,.int .u16 0,.bool false,.slice none 0 0,.string ⟨#[]⟩,.int .u8 0,.int .u8 0,.int .i64 0,.int .i64 0,.int .i64 0,.int .u16 0,.bool false,.slice none 0 0,.string ⟨#[]⟩,.int .u8 0,.int .u8 0,.int .i64 0,.int .i64 0,.int .i64 0,.int .u16 0,.bool false,.slice none 0 0,.string ⟨#[]⟩,.int .u8 0,.int .u8 0,.int .i64 0,.int .i64 0,.int .i64 0,.int .u16 0,.bool false,.slice none 0 0,.string ⟨#[]⟩,.int .u8 0,.int .u8 0,.int .i64 0,.int .i64 0,.int .i64 0,.int .u16 0,.bool false,.slice none 0 0,.string ⟨#[]⟩,.int .u8 0,.int .u8 0,.int .i64 0,.int .i64 0,.int .i64 0,.int .u16 0,.bool false,.slice none 0 0,.string ⟨#[]⟩,.int .u8 0,.int .u8 0,.int .i64 0,.int .i64 0,.int .i64 0,.int .u16 0,.bool false,.slice none 0 0,.string ⟨#[]⟩,.int .u8 0,.int .u8 0,.int .i64 0,.int .i64 0,.int .i64 0,.int .u16 0,.bool false,.slice none 0 0,.string ⟨#[]⟩,.int .u8 0,.int .u8 0,.int .i64 0,.int .i64 0,.int .i64 0,.int .u16 0,.bool false,.slice none 0 0,.string ⟨#[]⟩,.int .u8 0,.int .u8 0,.int .i64 0,.int .i64 0,.int .i64 0,.int .u16 0,.bool false,.slice none 0 0,.string ⟨#[]⟩,.int .u8 0,.int .u8 0,.int .i64 0,.int .i64 0,.int .i64 0,.int .u16 0,.bool false,.slice none 0 0,.string ⟨#[]⟩,.int .u8 0,.int .u8 0,.int .i64 0,.int .i64 0,.int .i64 0,.int .u16 0,.bool false,.slice none 0 0,.string ⟨#[]⟩,.int .u8 0,.int .u8 0,.int .i64 0,.int .i64 0,.int .i64 0,.int .u16 0,.bool false,.slice none 0 0,.string ⟨#[]⟩,.int .u8 0,.int .u8 0,.int .i64 0,.int .i64 0,.int .i64 0,.int .u16 0,.bool false,.slice none 0 0,.string ⟨#[]⟩,.int .u8 0,.int .u8 0,.int .i64 0,.int .i64 0,.int .i64 0,.int .u16 0,.bool false,.slice none 0 0,.string ⟨#[]⟩,.int .u8 0,.int .u8 0,.int .i64 0,.int .i64 0,.int .i64 0,.int .u16 0,.bool false,.slice none 0 0,.string ⟨#[]⟩,.int .u8 0,.int .u8 0,.int .i64 0,.int .i64 0,.int .i64 0,.int .u16 0,.bool false,.slice none 0 0,.string ⟨#[]⟩,.int .u8 0,.int .u8 0,.int .i64 0,.int .i64 0,.int .i64 0,.int .u16 0,.bool false,.slice none 0 0,.string ⟨#[]⟩,.int .u8 0,.int .u8 0,.int .i64 0,.int .i64 0,.int .i64 0,.int .u16 0,.bool false,.slice none 0 0,.string ⟨#[]⟩,.int .u8 0,.int .u8 0,.int .i64 0,.int .i64 0,.int .i64 0,.int .u16 0,.bool false,.slice none 0 0,.string ⟨#[]⟩,.int .u8 0,.int .u8 0,.int .i64 0,.int .i64 0,.int .i64 0,.int .u16 0,.bool false,.slice none 0 0,.string ⟨#[]⟩,.int .u8 0,.int .u8 0,.int .i64 0,.int .i64 0,.int .i64 0,.int .u16 0,.bool false,.slice none 0 0,.string ⟨#[]⟩,.int .u8 0,.int .u8 0,.int .i64 0,.int .i64 0,.int .i64 0,.int .u16 0,.bool false,.slice none 0 0,.string ⟨#[]⟩,.int .u8 0,.int .u8 0,.int .i64 0,.int .i64 0,.int .i64 0,.int .u16 0,.bool false,.slice none 0 0,.string ⟨#[]⟩,.int .u8 0,.int .u8 0,.int .i64 0,.int .i64 0,.int .i64 0,.int .u16 0,.bool false,.slice none 0 0,.string ⟨#[]⟩,.int .u8 0,.int .u8 0,.int .i64 0,.int .i64 0,.int .i64 0,.int .u16 0,.bool false,.slice none 0 0,.string ⟨#[]⟩,.int .u8 0,.int .u8 0,.int .i64 0,.int .i64 0,.int .i64 0,.int .u16 0,.bool false,.slice none 0 0,.string ⟨#[]⟩,.int .u8 0,.int .u8 0,.int .i64 0,.int .i64 0,.int .i64 0,.int .u16 0,.bool false,.slice none 0 0,.string ⟨#[]⟩,.int .u8 0,.int .u8 0,.int .i64 0,.int .i64 0,.int .i64 0,.int .u16 0,.bool false,.slice none 0 0,.string ⟨#[]⟩,.int .u8 0,.int .u8 0,.int .i64 0,.int .i64 0,.int .i64 0,.int .u16 0,.bool false,.slice none 0 0,.string ⟨#[]⟩,.int .u8 0,.int .u8 0,.int .i64 0,.int .i64 0,.int .i64 0,.int .u16 0,.bool false,.slice none 0 0,.string ⟨#[]⟩,.int .u8 0,.int .u8 0,.int .i64 0,.int .i64 0,.int .i64 0,.int .u16 0,.bool false,.slice none 0 0,.string ⟨#[]⟩,.int .u8 0,.int .u8 0,.int .i64 0,.int .i64 0,.int .i64 0,.int .u16 0,.bool false,.slice none 0 0,.string ⟨#[]⟩,.int .u8 0,.int .u8 0,.int .i64 0,.int .i64 0,.int .i64 0,.int .u16 0,.bool false,.slice none 0 0,.string ⟨#[]⟩,.int .u8 0,.int .u8 0,.int .i64 0,.int .i64 0,.int .i64 0,.int .u16 0,.bool false,.slice none 0 0,.string ⟨#[]⟩,.string ⟨#[]⟩,.string ⟨#[]⟩,.string ⟨#[]⟩,.string ⟨#[]⟩,.string ⟨#[]⟩,.string ⟨#[]⟩,.string ⟨#[]⟩,.string ⟨#[]⟩,.int .u8 0,.string ⟨#[]⟩,.int .i64 0,.int .i64 0,.int .u8 0,.string ⟨#[]⟩,.int .i64 0,.int .i64 0,.int .u8 0,.string ⟨#[]⟩,.int .i64 0,.int .i64 0,.int .u8 0,.string ⟨#[]⟩,.int .i64 0,.int .i64 0,.int .u8 0,.string ⟨#[]⟩,.int .i64 0,.int .i64 0]⟩,
 none,
 some ⟨.struct [(0,4),(1,4),(2,22),(3,128),(12,129)],32,376,[.bool false,.bool false,.slice none 0 0,.string ⟨#[]⟩,.string ⟨#[]⟩,.string ⟨#[]⟩,.string ⟨#[]⟩,.string ⟨#[]⟩,.string ⟨#[]⟩,.string ⟨#[]⟩,.string ⟨#[]⟩,.string ⟨#[]⟩,.int .u8 0,.string ⟨#[]⟩,.int .i64 0,.int .i64 0,.int .u8 0,.string ⟨#[]⟩,.int .i64 0,.int .i64 0,.int .u8 0,.string ⟨#[]⟩,.int .i64 0,.int .i64 0,.int .u8 0,.string ⟨#[]⟩,.int .i64 0,.int .i64 0,.int .u8 0,.string ⟨#[]⟩,.int .i64 0,.int .i64 0]⟩,
 none,
 none,
 none,
 none,
 none,
 some ⟨.struct [(0,29),(1,26),(2,22),(3,27)],4,80,[.pointer none,.slice none 0 0,.slice none 0 0,.slice none 0 0]⟩,
 none,
 none,
 none,
 none,
 none,
 none,
 none,
 none,
 none,
 none,
 none,
 none,
 none,
 none,
 none,
 none,
 none,
 none,
 none,
 none,
 none,
 none,
 none,
 none,
 none,
 none,
 none,
 none,
 none,
 none,
 none,
 none,
 none,
 none,
 none,
 none,
 none,
 none,
 none,
 none,
 none,
 none,
 none,
 none,
 none,
 none,
 none,
 none,
 none,
 none,
 none,
 none,
 none,
 none,
 none,
 some ⟨.int .u64,1,8,[.int .u64 0]⟩,
 none,
 none,
 none,
 none,
 none,
 none,
 none,
 none,
 none,
 none,
 none,
 none,
 none,
 none,
 some ⟨.int .i64,1,8,[.int .i64 0]⟩,
 none,
 none,
 none,
 none,
 none,
 none,
 none,
 some ⟨.int .u32,1,4,[.int .u32 0]⟩,
 none,
 some ⟨.int .u64,1,8,[.int .u64 0]⟩,
 none,
 none,
 none,
 none,
 some ⟨.array 256 4,256,256,[.bool false,.bool false,.bool false,.bool false,.bool false,.bool false,.bool false,.bool false,.bool false,.bool false,.bool false,.bool false,.bool false,.bool false,.bool false,.bool false,.bool false,.bool false,.bool false,.bool false,.bool false,.bool false,.bool false,.bool false,.bool false,.bool false,.bool false,.bool false,.bool false,.bool false,.bool false,.bool false,.bool false,.bool false,.bool false,.bool false,.bool false,.bool false,.bool false,.bool false,.bool false,.bool false,.bool false,.bool false,.bool false,.bool false,.bool false,.bool false,.bool false,.bool false,.bool false,.bool false,.bool false,.bool false,.bool false,.bool false,.bool false,.bool false,.bool false,.bool false,.bool false,.bool false,.bool false,.bool false,.bool false,.bool false,.bool false,.bool false,.bool false,.bool false,.bool false,.bool false,.bool false,.bool false,.bool false,.bool false,.bool false,.bool false,.bool false,.bool false,.bool false,.bool false,.bool false,.bool false,.bool false,.bool false,.bool false,.bool false,.bool false,.bool false,.bool false,.bool false,.bool false,.bool false,.bool false,.bool false,.bool false,.bool false,.bool false,.bool false,.bool false,.bool false,.bool false,.bool false,.bool false,.bool false,.bool false,.bool false,.bool false,.bool false,.bool false,.bool false,.bool false,.bool false,.bool false,.bool false,.bool false,.bool false,.bool false,.bool false,.bool false,.bool false,.bool false,.bool false,.bool false,.bool false,.bool false,.bool false,.bool false,.bool false,.bool false,.bool false,.bool false,.bool false,.bool false,.bool false,.bool false,.bool false,.bool false,.bool false,.bool false,.bool false,.bool false,.bool false,.bool false,.bool false,.bool false,.bool false,.bool false,.bool false,.bool false,.bool false,.bool false,.bool false,.bool false,.bool false,.bool false,.bool false,.bool false,.bool false,.bool false,.bool false,.bool false,.bool false,.bool false,.bool false,.bool false,.bool false,.bool false,.bool false,.bool false,.bool false,.bool false,.bool false,.bool false,.bool false,.bool false,.bool false,.bool false,.bool false,.bool false,.bool false,.bool false,.bool false,.bool false,.bool false,.bool false,.bool false,.bool false,.bool false,.bool false,.bool false,.bool false,.bool false,.bool false,.bool false,.bool false,.bool false,.bool false,.bool false,.bool false,.bool false,.bool false,.bool false,.bool false,.bool false,.bool false,.bool false,.bool false,.bool false,.bool false,.bool false,.bool false,.bool false,.bool false,.bool false,.bool false,.bool false,.bool false,.bool false,.bool false,.bool false,.bool false,.bool false,.bool false,.bool false,.bool false,.bool false,.bool false,.bool false,.bool false,.bool false,.bool false,.bool false,.bool false,.bool false,.bool false,.bool false,.bool false,.bool false,.bool false,.bool false,.bool false,.bool false,.bool false,.bool false,.bool false,.bool false,.bool false,.bool false,.bool false,.bool false,.bool false,.bool false,.bool false,.bool false]⟩,
 none,
 none,
 none,
 some ⟨.pointer 225,1,8,[.pointer none]⟩,
 some ⟨.int .u64,1,8,[.int .u64 0]⟩,
 none,
 none,
 none,
 some ⟨.pointer 3,1,8,[.pointer none]⟩,
 none,
 none,
 none,
 none,
 none,
 some ⟨.pointer 230,1,8,[.pointer none]⟩,
 none,
 none,
 some ⟨.array 256 5,256,256,[.int .u8 0,.int .u8 0,.int .u8 0,.int .u8 0,.int .u8 0,.int .u8 0,.int .u8 0,.int .u8 0,.int .u8 0,.int .u8 0,.int .u8 0,.int .u8 0,.int .u8 0,.int .u8 0,.int .u8 0,.int .u8 0,.int .u8 0,.int .u8 0,.int .u8 0,.int .u8 0,.int .u8 0,.int .u8 0,.int .u8 0,.int .u8 0,.int .u8 0,.int .u8 0,.int .u8 0,.int .u8 0,.int .u8 0,.int .u8 0,.int .u8 0,.int .u8 0,.int .u8 0,.int .u8 0,.int .u8 0,.int .u8 0,.int .u8 0,.int .u8 0,.int .u8 0,.int .u8 0,.int .u8 0,.int .u8 0,.int .u8 0,.int .u8 0,.int .u8 0,.int .u8 0,.int .u8 0,.int .u8 0,.int .u8 0,.int .u8 0,.int .u8 0,.int .u8 0,.int .u8 0,.int .u8 0,.int .u8 0,.int .u8 0,.int .u8 0,.int .u8 0,.int .u8 0,.int .u8 0,.int .u8 0,.int .u8 0,.int .u8 0,.int .u8 0,.int .u8 0,.int .u8 0,.int .u8 0,.int .u8 0,.int .u8 0,.int .u8 0,.int .u8 0,.int .u8 0,.int .u8 0,.int .u8 0,.int .u8 0,.int .u8 0,.int .u8 0,.int .u8 0,.int .u8 0,.int .u8 0,.int .u8 0,.int .u8 0,.int .u8 0,.int .u8 0,.int .u8 0,.int .u8 0,.int .u8 0,.int .u8 0,.int .u8 0,.int .u8 0,.int .u8 0,.int .u8 0,.int .u8 0,.int .u8 0,.int .u8 0,.int .u8 0,.int .u8 0,.int .u8 0,.int .u8 0,.int .u8 0,.int .u8 0,.int .u8 0,.int .u8 0,.int .u8 0,.int .u8 0,.int .u8 0,.int .u8 0,.int .u8 0,.int .u8 0,.int .u8 0,.int .u8 0,.int .u8 0,.int .u8 0,.int .u8 0,.int .u8 0,.int .u8 0,.int .u8 0,.int .u8 0,.int .u8 0,.int .u8 0,.int .u8 0,.int .u8 0,.int .u8 0,.int .u8 0,.int .u8 0,.int .u8 0,.int .u8 0,.int .u8 0,.int .u8 0,.int .u8 0,.int .u8 0,.int .u8 0,.int .u8 0,.int .u8 0,.int .u8 0,.int .u8 0,.int .u8 0,.int .u8 0,.int .u8 0,.int .u8 0,.int .u8 0,.int .u8 0,.int .u8 0,.int .u8 0,.int .u8 0,.int .u8 0,.int .u8 0,.int .u8 0,.int .u8 0,.int .u8 0,.int .u8 0,.int .u8 0,.int .u8 0,.int .u8 0,.int .u8 0,.int .u8 0,.int .u8 0,.int .u8 0,.int .u8 0,.int .u8 0,.int .u8 0,.int .u8 0,.int .u8 0,.int .u8 0,.int .u8 0,.int .u8 0,.int .u8 0,.int .u8 0,.int .u8 0,.int .u8 0,.int .u8 0,.int .u8 0,.int .u8 0,.int .u8 0,.int .u8 0,.int .u8 0,.int .u8 0,.int .u8 0,.int .u8 0,.int .u8 0,.int .u8 0,.int .u8 0,.int .u8 0,.int .u8 0,.int .u8 0,.int .u8 0,.int .u8 0,.int .u8 0,.int .u8 0,.int .u8 0,.int .u8 0,.int .u8 0,.int .u8 0,.int .u8 0,.int .u8 0,.int .u8 0,.int .u8 0,.int .u8 0,.int .u8 0,.int .u8 0,.int .u8 0,.int .u8 0,.int .u8 0,.int .u8 0,.int .u8 0,.int .u8 0,.int .u8 0,.int .u8 0,.int .u8 0,.int .u8 0,.int .u8 0,.int .u8 0,.int .u8 0,.int .u8 0,.int .u8 0,.int .u8 0,.int .u8 0,.int .u8 0,.int .u8 0,.int .u8 0,.int .u8 0,.int .u8 0,.int .u8 0,.int .u8 0,.int .u8 0,.int .u8 0,.int .u8 0,.int .u8 0,.int .u8 0,.int .u8 0,.int .u8 0,.int .u8 0,.int .u8 0,.int .u8 0,.int .u8 0,.int .u8 0,.int .u8 0,.int .u8 0,.int .u8 0,.int .u8 0,.int .u8 0,.int .u8 0,.int .u8 0,.int .u8 0,.int .u8 0,.int .u8 0,.int .u8 0,.int .u8 0,.int .u8 0,.int .u8 0,.int .u8 0,.int .u8 0,.int .u8 0,.int .u8 0,.int .u8 0,.int .u8 0]⟩,
 none,
 some ⟨.struct [(0,5),(1,5)],2,2,[.int .u8 0,.int .u8 0]⟩,
 some ⟨.array 16 245,32,32,[.int .u8 0,.int .u8 0,.int .u8 0,.int .u8 0,.int .u8 0,.int .u8 0,.int .u8 0,.int .u8 0,.int .u8 0,.int .u8 0,.int .u8 0,.int .u8 0,.int .u8 0,.int .u8 0,.int .u8 0,.int .u8 0,.int .u8 0,.int .u8 0,.int .u8 0,.int .u8 0,.int .u8 0,.int .u8 0,.int .u8 0,.int .u8 0,.int .u8 0,.int .u8 0,.int .u8 0,.int .u8 0,.int .u8 0,.int .u8 0,.int .u8 0,.int .u8 0]⟩]
def Tryz.fns:List FuncId:=[3,4,5,6,7,8,9,10,11,12,13,14,15,16,17,18,19,20,21,22,23,24,25,26,27,28,29,30,31,32,33,34,35,36,37,38,39,40,41,42,43,44,45,46,47,48,49,50,51,52,53,54,55,56,57,58,59,60,61,62,63,64,65,66,67,68,69,70,71,72,73,74,75,76,77,78,79,80,81,82,83,84,85,86,87,88,89,90,91,92,93,94,95,96,97,98,99,100,101,102,103,104,105,106,107,108,109,110,111,112,113,114,115,116,117,118,119,120,121,122,123,124,125,126,127,128,129,130,131,132,133,134,135,136,137,138,139,140,141,142,143,144,145,146,147,148,149,150,151,152,153,154,155,156,157,158,159,160,161,162,163,164,165,166,167,168,169,170,171,172,173,174,175,176,177,178,179,180,181,182,183,184,185,186,187,188,189,190,191,192,193,194,195,196,197,198,199,200,201]
def Tryz.hint:FuncId->Hint:=fun f=>match f with
 |3=>(.seq .leaf (.seq .leaf (.seq .leaf (.seq .leaf (.seq .leaf (.seq .leaf (.seq .leaf (.seq .leaf (.seq .leaf (.seq .leaf (.seq .leaf (.seq (.seq .leaf (.sub none (.loop [1,3,9,10,15,19,20,21] .leaf))) (.seq (.seq .leaf (.sub none (.loop [1,3,9,10,15,19,20,22] .leaf))) (.seq .leaf (.seq .leaf (.seq (.seq .leaf (.sub none (.loop [1,9,10,15,19,20,24,25,26] .leaf))) (.seq .leaf (.seq .leaf (.seq .leaf (.seq (.seq .leaf (.sub none (.loop [8,10,15,19,20,25,27,28,29] .leaf))) (.seq (.seq .leaf (.sub none (.loop [8,15,25,28,30] .leaf))) .leaf)))))))))))))))))))))
 |5=>(.seq .leaf (.seq .leaf (.seq .leaf (.seq .leaf (.seq .leaf (.seq .leaf (.seq (.seq .leaf (.sub none (.loop [1,4,5,6,8,10] .leaf))) (.seq (.seq .leaf (.sub none (.loop [1,4,5,6,8,11] (.seq .leaf (.seq (.sub none (.seq .leaf (.seq .leaf (.seq .leaf (.seq .leaf (.seq .leaf (.seq .leaf (.seq .leaf (.seq (.seq .leaf (.sub none (.loop [1,5,6,8,11,12,13,15,16,18,19,20] .leaf))) .leaf))))))))) .leaf))))) .leaf))))))))
 |8=>(.seq .leaf (.seq .leaf (.seq (.seq .leaf (.sub none (.loop [0,1,5,6] (.seq .leaf (.seq (.sub none (.seq .leaf (.seq .leaf (.seq (.seq .leaf (.sub none (.loop [0,1,5,6,7,8] .leaf))) .leaf)))) .leaf))))) .leaf)))
 |10=>(.seq .leaf (.seq .leaf (.seq .leaf (.seq .leaf (.seq (.seq .leaf (.sub none (.loop [6,8,20] .leaf))) .leaf)))))
 |11=>(.seq .leaf (.seq .leaf (.seq (.seq .leaf (.sub none (.loop [0,1,4,5] .leaf))) .leaf)))
 |12=>(.seq .leaf (.seq .leaf (.seq (.seq .leaf (.sub none (.loop [0,1,4,5] .leaf))) .leaf)))
 |15=>(.seq .leaf (.seq .leaf (.seq (.seq .leaf (.sub none (.loop [1,2,3,4,5,6,7] .leaf))) (.seq (.seq .leaf (.sub none (.loop [1,2,3,4,5,6,8] .leaf))) .leaf))))
 |17=>(.seq .leaf (.seq .leaf (.seq .leaf (.seq .leaf (.seq .leaf (.seq (.seq .leaf (.sub none (.loop [8,10,32,33] .leaf))) .leaf))))))
 |18=>(.seq .leaf (.seq .leaf (.seq .leaf (.seq .leaf (.seq .leaf (.seq (.seq .leaf (.sub none (.loop [0,1,2,8,10,43] (.seq .leaf (.seq .leaf (.seq (.sub none (.seq .leaf (.seq .leaf (.sub none (.loop [0,1,2,8,10,11,43,50,51,52] .leaf))))) .leaf)))))) .leaf))))))
 |20=>(.seq .leaf (.sub none (.loop [0,2] .leaf)))
 |22=>(.seq .leaf (.seq .leaf (.seq .leaf (.seq .leaf (.seq (.seq .leaf (.sub none (.loop [0,1,2,8,10] .leaf))) .leaf)))))
 |23=>(.seq .leaf (.seq .leaf (.seq .leaf (.seq (.seq .leaf (.sub none (.loop [6,7,8,9] .leaf))) .leaf))))
 |24=>(.seq .leaf (.seq .leaf (.seq .leaf (.seq .leaf (.seq .leaf (.seq (.seq .leaf (.sub none (.loop [2,8,10,11] (.seq .leaf (.seq (.sub none (.seq .leaf (.sub none (.loop [2,8,10,11,12] .leaf)))) .leaf))))) .leaf))))))
 |25=>(.seq .leaf (.seq .leaf (.seq (.seq .leaf (.sub none (.loop [0,3,4] .leaf))) (.seq (.seq .leaf (.sub none (.loop [3,5] (.seq .leaf (.seq (.sub none (.seq .leaf (.sub none (.loop [3,5,6] .leaf)))) .leaf))))) (.seq (.seq .leaf (.sub none (.loop [2,3,7] (.seq .leaf (.seq (.sub none (.seq .leaf (.sub none (.loop [2,3,7,8] .leaf)))) .leaf))))) .leaf)))))
 |26=>(.seq .leaf (.seq .leaf (.seq (.seq .leaf (.sub none (.loop [0,3,4] .leaf))) (.seq (.seq .leaf (.sub none (.loop [3,5] (.seq .leaf (.seq (.sub none (.seq .leaf (.sub none (.loop [3,5,6] .leaf)))) .leaf))))) (.seq (.seq .leaf (.sub none (.loop [2,3,7] (.seq .leaf (.seq (.sub none (.seq .leaf (.sub none (.loop [2,3,7,8] .leaf)))) .leaf))))) .leaf)))))
 |28=>(.seq .leaf (.seq .leaf (.seq (.seq .leaf (.sub none (.loop [0,1,5,6] .leaf))) .leaf)))
 |31=>(.seq .leaf (.seq .leaf (.seq (.seq .leaf (.sub none (.loop [0,4,5,6,7,25,26] .leaf))) (.seq (.seq .leaf (.sub none (.loop [0,4,6,37,38] .leaf))) .leaf))))
 |32=>(.seq .leaf (.seq .leaf (.seq .leaf (.seq (.seq .leaf (.sub none (.loop [0,1,2,3,4,5] .leaf))) .leaf))))
 |37=>(.seq .leaf (.seq .leaf (.seq .leaf (.seq .leaf (.seq (.sub none (.loop [0,3,7] .leaf)) .leaf)))))
 |39=>(.seq .leaf (.seq .leaf (.seq .leaf (.seq .leaf (.seq .leaf (.seq .leaf (.seq .leaf (.seq .leaf (.seq .leaf (.seq (.seq .leaf (.sub none (.loop [0,3,6,7,8] .leaf))) .leaf))))))))))
 |40=>(.seq .leaf (.seq .leaf (.seq .leaf (.seq (.seq .leaf (.sub none (.loop [0,3,4,52,53] .leaf))) .leaf))))
 |41=>(.seq .leaf (.seq .leaf (.seq .leaf (.seq .leaf (.seq .leaf (.seq (.seq .leaf (.sub none (.loop [0,3,4,5] .leaf))) .leaf))))))
 |42=>(.seq .leaf (.seq .leaf (.seq (.seq .leaf (.sub none (.loop [0,2,21,22,23] (.seq .leaf (.seq .leaf (.seq (.sub none (.seq .leaf (.seq .leaf (.sub none (.loop [0,2,21,22,23,28,29,30] .leaf))))) .leaf)))))) .leaf)))
 |43=>(.seq .leaf (.seq .leaf (.seq .leaf (.seq (.seq .leaf (.sub none (.loop [0,2,3] (.seq .leaf (.seq (.sub none (.seq .leaf (.sub none (.loop [0,2,3,4] .leaf)))) .leaf))))) .leaf))))
 |49=>(.seq .leaf (.seq .leaf (.seq (.seq .leaf (.sub none (.loop [0,1,4,5] .leaf))) .leaf)))
 |50=>(.seq .leaf (.seq .leaf (.seq .leaf (.seq .leaf (.seq .leaf (.seq .leaf (.seq .leaf (.seq .leaf (.seq .leaf (.seq (.seq .leaf (.sub none (.loop [1,4,5,7,11] (.seq .leaf (.seq (.sub none (.seq .leaf (.sub none (.loop [1,4,5,7,11,12] .leaf)))) .leaf))))) .leaf))))))))))
 |51=>(.seq .leaf (.seq .leaf (.seq .leaf (.seq .leaf (.seq .leaf (.seq .leaf (.seq (.sub none (.loop [0,1,11,13,14] .leaf)) .leaf)))))))
 |52=>(.seq .leaf (.seq .leaf (.seq (.seq .leaf (.sub none (.loop [0,1,2,7,8] .leaf))) .leaf)))
 |53=>(.seq .leaf (.seq .leaf (.seq .leaf (.seq .leaf (.seq (.seq .leaf (.sub none (.loop [0,1,6,8,9] (.seq .leaf (.seq (.sub none (.seq .leaf (.seq .leaf (.sub none (.loop [0,1,6,8,9,11,13] .leaf))))) .leaf))))) .leaf)))))
 |61=>(.seq .leaf (.seq .leaf (.seq .leaf (.seq (.seq .leaf (.sub none (.loop [0,1,4,5,9,33,34,35] .leaf))) (.seq .leaf (.seq (.seq .leaf (.sub none (.loop [4,5,9,70,71,72] .leaf))) .leaf))))))
 |63=>(.seq .leaf (.seq .leaf (.seq .leaf (.seq .leaf (.seq .leaf (.seq .leaf (.seq (.sub none (.loop [11,13,15,16] .leaf)) .leaf)))))))
 |64=>(.seq .leaf (.seq .leaf (.seq (.seq .leaf (.sub none (.loop [0,2,7,13,14,15] .leaf))) .leaf)))
 |66=>(.seq .leaf (.seq .leaf (.seq (.seq .leaf (.sub none (.loop [1,2,13,14,15] .leaf))) .leaf)))
 |67=>(.seq .leaf (.seq (.seq .leaf (.sub none (.loop [0,1,4,9,10] .leaf))) .leaf))
 |72=>(.seq .leaf (.seq .leaf (.seq .leaf (.seq (.seq .leaf (.sub none (.loop [1,2,4] .leaf))) .leaf))))
 |73=>(.seq .leaf (.seq (.seq .leaf (.sub none (.loop [0,1,4,5] .leaf))) .leaf))
 |77=>(.seq .leaf (.seq .leaf (.seq (.seq .leaf (.sub none (.loop [2,19] .leaf))) .leaf)))
 |78=>(.seq .leaf (.seq .leaf (.seq (.seq .leaf (.sub none (.loop [0,2,3] .leaf))) .leaf)))
 |80=>(.seq .leaf (.seq .leaf (.seq .leaf (.seq (.seq .leaf (.sub none (.loop [0,2,4,6,7,8,49,50,51] .leaf))) (.seq .leaf (.seq (.seq .leaf (.sub none (.loop [4,6,7,8,15] .leaf))) .leaf))))))
 |82=>(.seq .leaf (.seq .leaf (.seq (.seq .leaf (.sub none (.loop [1,3,5,7,11,12,13] .leaf))) .leaf)))
 |83=>(.seq .leaf (.seq (.seq .leaf (.sub none (.loop [0,1,4,7,8] .leaf))) .leaf))
 |84=>(.seq .leaf (.seq .leaf (.seq (.seq .leaf (.sub none (.loop [1,5,7,16,17,18] .leaf))) .leaf)))
 |85=>(.seq .leaf (.seq .leaf (.seq (.seq .leaf (.sub none (.loop [0,1,4,5,6,7] .leaf))) .leaf)))
 |87=>(.seq .leaf (.seq .leaf (.seq (.seq .leaf (.sub none (.loop [0,1,2,3,9,10,11] (.seq .leaf (.seq (.sub none (.seq .leaf (.seq .leaf (.seq (.seq .leaf (.sub none (.loop [0,1,2,3,9,10,11,12,13] .leaf))) .leaf)))) .leaf))))) .leaf)))
 |88=>(.seq .leaf (.seq .leaf (.seq .leaf (.seq .leaf (.seq .leaf (.seq (.seq .leaf (.sub none (.loop [7,9,10,11,12] .leaf))) .leaf))))))
 |89=>(.seq .leaf (.seq .leaf (.seq (.seq .leaf (.sub none (.loop [0,4,5,6,7,8] .leaf))) (.seq (.seq .leaf (.sub none (.loop [0,4,5,6,9] .leaf))) .leaf))))
 |93=>(.seq .leaf (.seq .leaf (.seq .leaf (.seq (.seq .leaf (.sub none (.loop [0,3,4] .leaf))) .leaf))))
 |94=>(.seq .leaf (.seq .leaf (.seq .leaf (.seq (.seq .leaf (.sub none (.loop [0,3,4] .leaf))) .leaf))))
 |97=>(.seq .leaf (.sub none (.seq .leaf (.seq .leaf (.seq (.seq .leaf (.sub none (.loop [1,2,3,7,8,13,14,15] (.seq .leaf (.seq .leaf (.seq (.sub none (.seq .leaf (.seq .leaf (.seq (.seq .leaf (.sub none (.loop [1,2,3,7,8,9,10,13,14,15,32,33,34] .leaf))) .leaf)))) .leaf)))))) .leaf)))))
 |102=>(.seq .leaf (.seq .leaf (.seq (.seq .leaf (.sub none (.loop [0,2,3] .leaf))) .leaf)))
 |115=>(.seq .leaf (.seq .leaf (.seq .leaf (.seq (.seq .leaf (.sub none (.loop [0,1,2,3,9,10,11] (.seq .leaf (.seq (.sub none (.seq .leaf (.seq .leaf (.seq .leaf (.sub none (.loop [0,1,2,3,9,10,11,12,14] .leaf)))))) .leaf))))) .leaf))))
 |118=>(.seq .leaf (.seq .leaf (.seq .leaf (.seq (.seq .leaf (.sub none (.loop [0,1,2,7,9,10,11] .leaf))) .leaf))))
 |122=>(.seq .leaf (.seq .leaf (.seq (.seq .leaf (.sub none (.loop [1,2,3,7,13,14,15] (.seq .leaf (.seq .leaf (.seq (.sub none (.seq .leaf (.seq .leaf (.seq .leaf (.sub none (.loop [1,2,3,7,9,13,14,15,30,31,32] .leaf)))))) .leaf)))))) .leaf)))
 |144=>(.seq .leaf (.seq .leaf (.seq (.seq .leaf (.sub none (.loop [0,2,3] .leaf))) .leaf)))
 |145=>(.seq .leaf (.seq .leaf (.sub none (.loop [0,1,2,3,4,10,11] .leaf))))
 |150=>(.seq .leaf (.seq .leaf (.seq .leaf (.seq (.seq .leaf (.sub none (.loop [0,1,2,6,7,8] (.seq .leaf (.seq (.sub none (.seq .leaf (.seq .leaf (.seq .leaf (.seq .leaf (.seq .leaf (.seq .leaf (.seq .leaf (.sub none (.loop [0,1,2,6,7,8,9,12] .leaf)))))))))) .leaf))))) .leaf))))
 |151=>(.seq .leaf (.seq .leaf (.seq .leaf (.sub none (.loop [0,2,3,4] (.sub none (.seq .leaf (.seq (.seq .leaf (.sub none (.loop [0,3,4,5,6] .leaf))) .leaf))))))))
 |155=>(.seq .leaf (.seq .leaf (.seq (.seq .leaf (.sub none (.loop [0,1,4,5] .leaf))) .leaf)))
 |161=>(.seq .leaf (.seq .leaf (.seq (.seq .leaf (.sub none (.loop [0,1,4,12,13] .leaf))) .leaf)))
 |167=>(.seq .leaf (.sub none (.loop [0,1,2,3,8] (.seq .leaf (.seq (.sub none (.seq .leaf (.sub none (.loop [0,1,2,3,8,9] .leaf)))) .leaf)))))
 |168=>(.seq .leaf (.seq .leaf (.seq .leaf (.seq (.seq .leaf (.sub none (.loop [0,3,8,9,10,11] .leaf))) (.seq .leaf (.sub none (.loop [0,3,8,9,12] .leaf)))))))
 |169=>(.seq .leaf (.seq .leaf (.cond none (.seq .leaf (.seq .leaf (.seq .leaf (.sub none (.loop [0,1,8,9,10,11] .leaf))))) .leaf)))
 |171=>(.seq .leaf (.seq .leaf (.sub none (.loop [0,8,9] .leaf))))
 |172=>(.seq .leaf (.seq .leaf (.seq (.seq .leaf (.sub none (.loop [0,1,2,3,8,9,10] (.seq .leaf (.seq (.sub none (.seq (.sub none (.loop [0,1,2,3,9,10] .leaf)) (.seq .leaf (.seq .leaf (.seq .leaf (.seq (.seq .leaf (.cond none (.seq .leaf (.sub none (.loop [0,1,2,3,9,10,11] .leaf))) .leaf)) (.seq .leaf (.cond none (.seq .leaf (.sub none (.loop [0,1,2,3,9,10,12] .leaf))) .leaf)))))))) .leaf))))) .leaf)))
 |173=>(.seq .leaf (.seq .leaf (.seq .leaf (.seq (.sub none (.loop [0,1,4,11,12] (.sub none (.seq (.sub none (.loop [0,1,4,11,12] .leaf)) (.seq (.sub none (.loop [0,1,4,11,12] .leaf)) .leaf))))) .leaf))))
 |174=>(.seq .leaf (.seq .leaf (.seq .leaf (.seq (.sub none (.loop [0,1,4,12,13] .leaf)) (.seq (.sub none (.loop [0,1,4,12,13] .leaf)) (.seq .leaf (.seq .leaf (.seq .leaf (.seq .leaf (.seq (.sub none (.loop [0,1,4,12,13] (.sub none (.seq (.sub none (.loop [0,1,4,12,13] .leaf)) (.seq (.sub none (.loop [0,1,4,12,13] .leaf)) .leaf))))) .leaf))))))))))
 |180=>(.seq .leaf (.seq (.sub none (.loop [0,1] .leaf)) .leaf))
 |181=>(.seq .leaf (.seq (.sub none (.loop [0,1] .leaf)) .leaf))
 |182=>(.seq .leaf (.seq (.seq .leaf (.sub none (.loop [0,2,3,4] .leaf))) .leaf))
 |183=>(.seq .leaf (.seq (.sub none (.loop [0,1] .leaf)) .leaf))
 |184=>(.seq .leaf (.seq (.sub none (.loop [0,1] .leaf)) .leaf))
 |185=>(.seq .leaf (.seq (.sub none (.loop [0,1] .leaf)) .leaf))
 |186=>(.seq .leaf (.seq (.sub none (.loop [0,1] .leaf)) .leaf))
 |187=>(.seq .leaf (.sub none (.loop [0,2,3,4,10] .leaf)))
 |195=>(.seq .leaf (.seq .leaf (.seq .leaf (.seq .leaf (.seq .leaf (.seq .leaf (.seq .leaf (.seq (.seq .leaf (.sub none (.loop [0,4,5,6] .leaf))) .leaf))))))))
 |198=>.leaf
 |_=>.leaf
noncomputable def Tryz.env:Env:={ ty:=adi Tryz.tab,fn:=adk Tryz.prog Tryz.fns,hint:=Tryz.hint,ext:=fun _=>none }
theorem Tryz.acY:Tryz.env.Ok Tryz.prog:=adl (by kernel_rfl) (by kernel_rfl) (by kernel_rfl)
theorem Tryz.afc(k:Nat):kK Tryz.prog (aFn Tryz.env k):=aeg Tryz.acY abw k
end Go.Proofs.YtijnknjopjmiiaaGreatDoor
end
section
namespace Go.Proofs.YtijnknjopjmiiaaGreatDoor
open Go Zq
namespace Zv
structure bM where
 Cards:Sl
 Marks:Sl
 Open:Bool
abbrev bC:Tag:=⟨bM,true,3,fun x=>[(.slice x.Cards.p x.Cards.len x.Cards.cap),(.slice x.Marks.p x.Marks.len x.Marks.cap),(.bool x.Open)],fun cs=>match cs with|[.slice c0p c0n c0k,.slice c1p c1n c1k,.bool c2]=>some (bM.mk (Sl.mk c0p c0n c0k) (Sl.mk c1p c1n c1k) c2)|_=>none,fun cs x h=>by
 split at h
 ·have h:=Option.some.inj h; subst h; rfl
 ·cases h⟩
structure bn where
 Card:Int
 Owner:Int
 Place:Int
 Stamp:Int
 Hurt:Int
 Marks:Int×Int×Int×Int
 Done:Int
 Fresh:Bool
abbrev aV:Tag:=⟨bn,true,11,fun x=>[(.int .i64 x.Card),(.int .i64 x.Owner),(.int .u8 x.Place),(.int .i64 x.Stamp),(.int .i64 x.Hurt),(.int .i64 x.Marks.1),(.int .i64 x.Marks.2.1),(.int .i64 x.Marks.2.2.1),(.int .i64 x.Marks.2.2.2),(.int .i64 x.Done),(.bool x.Fresh)],fun cs=>match cs with|[.int kc0 c0,.int kc1 c1,.int kc2 c2,.int kc3 c3,.int kc4 c4,.int kc5 c5,.int kc6 c6,.int kc7 c7,.int kc8 c8,.int kc9 c9,.bool c10]=>if kc0= .i64∧kc1= .i64∧kc2= .u8∧kc3= .i64∧kc4= .i64∧kc5= .i64∧kc6= .i64∧kc7= .i64∧kc8= .i64∧kc9= .i64 then some (bn.mk c0 c1 c2 c3 c4 (c5,c6,c7,c8) c9 c10)else none|_=>none,fun cs x h=>by
 split at h
 ·split at h
  ·rename_i e
   obtain⟨rfl,rfl,rfl,rfl,rfl,rfl,rfl,rfl,rfl,rfl⟩:=e
   have h:=Option.some.inj h; subst h; rfl
  ·cases h
 ·cases h⟩
structure aG where
 Holder:Int
 Suit:Int
 Traits:Int
 Power:Int
 Health:Int
abbrev aO:Tag:=⟨aG,true,5,fun x=>[(.int .i64 x.Holder),(.int .u8 x.Suit),(.int .u16 x.Traits),(.int .i64 x.Power),(.int .i64 x.Health)],fun cs=>match cs with|[.int kc0 c0,.int kc1 c1,.int kc2 c2,.int kc3 c3,.int kc4 c4]=>if kc0= .i64∧kc1= .u8∧kc2= .u16∧kc3= .i64∧kc4= .i64 then some (aG.mk c0 c1 c2 c3 c4)else none|_=>none,fun cs x h=>by
 split at h
 ·split at h
  ·rename_i e
   obtain⟨rfl,rfl,rfl,rfl,rfl⟩:=e
   have h:=Option.some.inj h; subst h; rfl
  ·cases h
 ·cases h⟩
structure aX where
 When:Int
 Verb:Int
 Whom:Int
 Count:Int
 Suit:Int
 Trait:Int
 Mark:Int
 Name:ByteArray
abbrev aT:Tag:=⟨aX,true,8,fun x=>[(.int .u8 x.When),(.int .u8 x.Verb),(.int .u8 x.Whom),(.int .i64 x.Count),(.int .u8 x.Suit),(.int .u8 x.Trait),(.int .u8 x.Mark),(.string x.Name)],fun cs=>match cs with|[.int kc0 c0,.int kc1 c1,.int kc2 c2,.int kc3 c3,.int kc4 c4,.int kc5 c5,.int kc6 c6,.string c7]=>if kc0= .u8∧kc1= .u8∧kc2= .u8∧kc3= .i64∧kc4= .u8∧kc5= .u8∧kc6= .u8 then some (aX.mk c0 c1 c2 c3 c4 c5 c6 c7)else none|_=>none,fun cs x h=>by
 split at h
 ·split at h
  ·rename_i e
   obtain⟨rfl,rfl,rfl,rfl,rfl,rfl,rfl⟩:=e
   have h:=Option.some.inj h; subst h; rfl
  ·cases h
 ·cases h⟩
abbrev iG:Tag:=⟨Int×Int×Int×Int,true,4,fun x=>[(.int .i64 x.1),(.int .i64 x.2.1),(.int .i64 x.2.2.1),(.int .i64 x.2.2.2)],fun cs=>match cs with|[.int kc0 c0,.int kc1 c1,.int kc2 c2,.int kc3 c3]=>if kc0= .i64∧kc1= .i64∧kc2= .i64∧kc3= .i64 then some (c0,c1,c2,c3)else none|_=>none,fun cs x h=>by
 split at h
 ·split at h
  ·rename_i e
   obtain⟨rfl,rfl,rfl,rfl⟩:=e
   have h:=Option.some.inj h; subst h; rfl
  ·cases h
 ·cases h⟩
structure aN where
 Thing:Int
 Place:Int
 What:aX
abbrev aH:Tag:=⟨aN,true,10,fun x=>[(.int .i64 x.Thing),(.int .i64 x.Place),(.int .u8 x.What.When),(.int .u8 x.What.Verb),(.int .u8 x.What.Whom),(.int .i64 x.What.Count),(.int .u8 x.What.Suit),(.int .u8 x.What.Trait),(.int .u8 x.What.Mark),(.string x.What.Name)],fun cs=>match cs with|[.int kc0 c0,.int kc1 c1,.int kc2 c2,.int kc3 c3,.int kc4 c4,.int kc5 c5,.int kc6 c6,.int kc7 c7,.int kc8 c8,.string c9]=>if kc0= .i64∧kc1= .i64∧kc2= .u8∧kc3= .u8∧kc4= .u8∧kc5= .i64∧kc6= .u8∧kc7= .u8∧kc8= .u8 then some (aN.mk c0 c1 (aX.mk c2 c3 c4 c5 c6 c7 c8 c9))else none|_=>none,fun cs x h=>by
 split at h
 ·split at h
  ·rename_i e
   obtain⟨rfl,rfl,rfl,rfl,rfl,rfl,rfl,rfl,rfl⟩:=e
   have h:=Option.some.inj h; subst h; rfl
  ·cases h
 ·cases h⟩
structure ay where
 Name:ByteArray
 Suit:Int
 Kind:Int
 Cost:Int
 Power:Int
 Health:Int
 Traits:Int
 Token:Bool
 Parts:Sl
abbrev aA:Tag:=⟨ay,true,9,fun x=>[(.string x.Name),(.int .u8 x.Suit),(.int .u8 x.Kind),(.int .i64 x.Cost),(.int .i64 x.Power),(.int .i64 x.Health),(.int .u16 x.Traits),(.bool x.Token),(.slice x.Parts.p x.Parts.len x.Parts.cap)],fun cs=>match cs with|[.string c0,.int kc1 c1,.int kc2 c2,.int kc3 c3,.int kc4 c4,.int kc5 c5,.int kc6 c6,.bool c7,.slice c8p c8n c8k]=>if kc1= .u8∧kc2= .u8∧kc3= .i64∧kc4= .i64∧kc5= .i64∧kc6= .u16 then some (ay.mk c0 c1 c2 c3 c4 c5 c6 c7 (Sl.mk c8p c8n c8k))else none|_=>none,fun cs x h=>by
 split at h
 ·split at h
  ·rename_i e
   obtain⟨rfl,rfl,rfl,rfl,rfl,rfl⟩:=e
   have h:=Option.some.inj h; subst h; rfl
  ·cases h
 ·cases h⟩
structure ak where
 Mark:Int
 Name:ByteArray
 Power:Int
 Health:Int
abbrev aQ:Tag:=⟨ak,true,4,fun x=>[(.int .u8 x.Mark),(.string x.Name),(.int .i64 x.Power),(.int .i64 x.Health)],fun cs=>match cs with|[.int kc0 c0,.string c1,.int kc2 c2,.int kc3 c3]=>if kc0= .u8∧kc2= .i64∧kc3= .i64 then some (ak.mk c0 c1 c2 c3)else none|_=>none,fun cs x h=>by
 split at h
 ·split at h
  ·rename_i e
   obtain⟨rfl,rfl,rfl⟩:=e
   have h:=Option.some.inj h; subst h; rfl
  ·cases h
 ·cases h⟩
abbrev fE:Tag:=⟨ak×ak×ak×ak×ak,true,20,fun x=>[(.int .u8 x.1.Mark),(.string x.1.Name),(.int .i64 x.1.Power),(.int .i64 x.1.Health),(.int .u8 x.2.1.Mark),(.string x.2.1.Name),(.int .i64 x.2.1.Power),(.int .i64 x.2.1.Health),(.int .u8 x.2.2.1.Mark),(.string x.2.2.1.Name),(.int .i64 x.2.2.1.Power),(.int .i64 x.2.2.1.Health),(.int .u8 x.2.2.2.1.Mark),(.string x.2.2.2.1.Name),(.int .i64 x.2.2.2.1.Power),(.int .i64 x.2.2.2.1.Health),(.int .u8 x.2.2.2.2.Mark),(.string x.2.2.2.2.Name),(.int .i64 x.2.2.2.2.Power),(.int .i64 x.2.2.2.2.Health)],fun cs=>match cs with|[.int kc0 c0,.string c1,.int kc2 c2,.int kc3 c3,.int kc4 c4,.string c5,.int kc6 c6,.int kc7 c7,.int kc8 c8,.string c9,.int kc10 c10,.int kc11 c11,.int kc12 c12,.string c13,.int kc14 c14,.int kc15 c15,.int kc16 c16,.string c17,.int kc18 c18,.int kc19 c19]=>if kc0= .u8∧kc2= .i64∧kc3= .i64∧kc4= .u8∧kc6= .i64∧kc7= .i64∧kc8= .u8∧kc10= .i64∧kc11= .i64∧kc12= .u8∧kc14= .i64∧kc15= .i64∧kc16= .u8∧kc18= .i64∧kc19= .i64 then some ((ak.mk c0 c1 c2 c3),(ak.mk c4 c5 c6 c7),(ak.mk c8 c9 c10 c11),(ak.mk c12 c13 c14 c15),(ak.mk c16 c17 c18 c19))else none|_=>none,fun cs x h=>by
 split at h
 ·split at h
  ·rename_i e
   obtain⟨rfl,rfl,rfl,rfl,rfl,rfl,rfl,rfl,rfl,rfl,rfl,rfl,rfl,rfl,rfl⟩:=e
   have h:=Option.some.inj h; subst h; rfl
  ·cases h
 ·cases h⟩
structure aF where
 b:Option Addr
 things:Sl
 cards:Sl
 order:Sl
abbrev aC:Tag:=⟨aF,true,4,fun x=>[(.pointer x.b),(.slice x.things.p x.things.len x.things.cap),(.slice x.cards.p x.cards.len x.cards.cap),(.slice x.order.p x.order.len x.order.cap)],fun cs=>match cs with|[.pointer c0,.slice c1p c1n c1k,.slice c2p c2n c2k,.slice c3p c3n c3k]=>some (aF.mk c0 (Sl.mk c1p c1n c1k) (Sl.mk c2p c2n c2k) (Sl.mk c3p c3n c3k))|_=>none,fun cs x h=>by
 split at h
 ·have h:=Option.some.inj h; subst h; rfl
 ·cases h⟩
structure DI where
 S:aN
 About:Sl
abbrev JF:Tag:=⟨DI,true,11,fun x=>[(.int .i64 x.S.Thing),(.int .i64 x.S.Place),(.int .u8 x.S.What.When),(.int .u8 x.S.What.Verb),(.int .u8 x.S.What.Whom),(.int .i64 x.S.What.Count),(.int .u8 x.S.What.Suit),(.int .u8 x.S.What.Trait),(.int .u8 x.S.What.Mark),(.string x.S.What.Name),(.slice x.About.p x.About.len x.About.cap)],fun cs=>match cs with|[.int kc0 c0,.int kc1 c1,.int kc2 c2,.int kc3 c3,.int kc4 c4,.int kc5 c5,.int kc6 c6,.int kc7 c7,.int kc8 c8,.string c9,.slice c10p c10n c10k]=>if kc0= .i64∧kc1= .i64∧kc2= .u8∧kc3= .u8∧kc4= .u8∧kc5= .i64∧kc6= .u8∧kc7= .u8∧kc8= .u8 then some (DI.mk (aN.mk c0 c1 (aX.mk c2 c3 c4 c5 c6 c7 c8 c9)) (Sl.mk c10p c10n c10k))else none|_=>none,fun cs x h=>by
 split at h
 ·split at h
  ·rename_i e
   obtain⟨rfl,rfl,rfl,rfl,rfl,rfl,rfl,rfl,rfl⟩:=e
   have h:=Option.some.inj h; subst h; rfl
  ·cases h
 ·cases h⟩
structure DJ where
 Made:Bool
 Shut:Bool
 List:Sl
 Names:ByteArray×ByteArray×ByteArray×ByteArray×ByteArray×ByteArray×ByteArray×ByteArray×ByteArray
 Marked:ak×ak×ak×ak×ak
abbrev JG:Tag:=⟨DJ,true,32,fun x=>[(.bool x.Made),(.bool x.Shut),(.slice x.List.p x.List.len x.List.cap),(.string x.Names.1),(.string x.Names.2.1),(.string x.Names.2.2.1),(.string x.Names.2.2.2.1),(.string x.Names.2.2.2.2.1),(.string x.Names.2.2.2.2.2.1),(.string x.Names.2.2.2.2.2.2.1),(.string x.Names.2.2.2.2.2.2.2.1),(.string x.Names.2.2.2.2.2.2.2.2),(.int .u8 x.Marked.1.Mark),(.string x.Marked.1.Name),(.int .i64 x.Marked.1.Power),(.int .i64 x.Marked.1.Health),(.int .u8 x.Marked.2.1.Mark),(.string x.Marked.2.1.Name),(.int .i64 x.Marked.2.1.Power),(.int .i64 x.Marked.2.1.Health),(.int .u8 x.Marked.2.2.1.Mark),(.string x.Marked.2.2.1.Name),(.int .i64 x.Marked.2.2.1.Power),(.int .i64 x.Marked.2.2.1.Health),(.int .u8 x.Marked.2.2.2.1.Mark),(.string x.Marked.2.2.2.1.Name),(.int .i64 x.Marked.2.2.2.1.Power),(.int .i64 x.Marked.2.2.2.1.Health),(.int .u8 x.Marked.2.2.2.2.Mark),(.string x.Marked.2.2.2.2.Name),(.int .i64 x.Marked.2.2.2.2.Power),(.int .i64 x.Marked.2.2.2.2.Health)],fun cs=>match cs with|[.bool c0,.bool c1,.slice c2p c2n c2k,.string c3,.string c4,.string c5,.string c6,.string c7,.string c8,.string c9,.string c10,.string c11,.int kc12 c12,.string c13,.int kc14 c14,.int kc15 c15,.int kc16 c16,.string c17,.int kc18 c18,.int kc19 c19,.int kc20 c20,.string c21,.int kc22 c22,.int kc23 c23,.int kc24 c24,.string c25,.int kc26 c26,.int kc27 c27,.int kc28 c28,.string c29,.int kc30 c30,.int kc31 c31]=>if kc12= .u8∧kc14= .i64∧kc15= .i64∧kc16= .u8∧kc18= .i64∧kc19= .i64∧kc20= .u8∧kc22= .i64∧kc23= .i64∧kc24= .u8∧kc26= .i64∧kc27= .i64∧kc28= .u8∧kc30= .i64∧kc31= .i64 then some (DJ.mk c0 c1 (Sl.mk c2p c2n c2k) (c3,c4,c5,c6,c7,c8,c9,c10,c11) ((ak.mk c12 c13 c14 c15),(ak.mk c16 c17 c18 c19),(ak.mk c20 c21 c22 c23),(ak.mk c24 c25 c26 c27),(ak.mk c28 c29 c30 c31)))else none|_=>none,fun cs x h=>by
 split at h
 ·split at h
  ·rename_i e
   obtain⟨rfl,rfl,rfl,rfl,rfl,rfl,rfl,rfl,rfl,rfl,rfl,rfl,rfl,rfl,rfl⟩:=e
   have h:=Option.some.inj h; subst h; rfl
  ·cases h
 ·cases h⟩
structure aI where
 lo:Int
 hi:Int
abbrev yE:Tag:=⟨aI,true,2,fun x=>[(.int .u8 x.lo),(.int .u8 x.hi)],fun cs=>match cs with|[.int kc0 c0,.int kc1 c1]=>if kc0= .u8∧kc1= .u8 then some (aI.mk c0 c1)else none|_=>none,fun cs x h=>by
 split at h
 ·split at h
  ·rename_i e
   obtain⟨rfl,rfl⟩:=e
   have h:=Option.some.inj h; subst h; rfl
  ·cases h
 ·cases h⟩
abbrev oJ:Tag:=⟨aI×aI×aI×aI×aI×aI×aI×aI×aI×aI×aI×aI×aI×aI×aI×aI,true,32,fun x=>[(.int .u8 x.1.lo),(.int .u8 x.1.hi),(.int .u8 x.2.1.lo),(.int .u8 x.2.1.hi),(.int .u8 x.2.2.1.lo),(.int .u8 x.2.2.1.hi),(.int .u8 x.2.2.2.1.lo),(.int .u8 x.2.2.2.1.hi),(.int .u8 x.2.2.2.2.1.lo),(.int .u8 x.2.2.2.2.1.hi),(.int .u8 x.2.2.2.2.2.1.lo),(.int .u8 x.2.2.2.2.2.1.hi),(.int .u8 x.2.2.2.2.2.2.1.lo),(.int .u8 x.2.2.2.2.2.2.1.hi),(.int .u8 x.2.2.2.2.2.2.2.1.lo),(.int .u8 x.2.2.2.2.2.2.2.1.hi),(.int .u8 x.2.2.2.2.2.2.2.2.1.lo),(.int .u8 x.2.2.2.2.2.2.2.2.1.hi),(.int .u8 x.2.2.2.2.2.2.2.2.2.1.lo),(.int .u8 x.2.2.2.2.2.2.2.2.2.1.hi),(.int .u8 x.2.2.2.2.2.2.2.2.2.2.1.lo),(.int .u8 x.2.2.2.2.2.2.2.2.2.2.1.hi),(.int .u8 x.2.2.2.2.2.2.2.2.2.2.2.1.lo),(.int .u8 x.2.2.2.2.2.2.2.2.2.2.2.1.hi),(.int .u8 x.2.2.2.2.2.2.2.2.2.2.2.2.1.lo),(.int .u8 x.2.2.2.2.2.2.2.2.2.2.2.2.1.hi),(.int .u8 x.2.2.2.2.2.2.2.2.2.2.2.2.2.1.lo),(.int .u8 x.2.2.2.2.2.2.2.2.2.2.2.2.2.1.hi),(.int .u8 x.2.2.2.2.2.2.2.2.2.2.2.2.2.2.1.lo),(.int .u8 x.2.2.2.2.2.2.2.2.2.2.2.2.2.2.1.hi),(.int .u8 x.2.2.2.2.2.2.2.2.2.2.2.2.2.2.2.lo),(.int .u8 x.2.2.2.2.2.2.2.2.2.2.2.2.2.2.2.hi)],fun cs=>match cs with|[.int kc0 c0,.int kc1 c1,.int kc2 c2,.int kc3 c3,.int kc4 c4,.int kc5 c5,.int kc6 c6,.int kc7 c7,.int kc8 c8,.int kc9 c9,.int kc10 c10,.int kc11 c11,.int kc12 c12,.int kc13 c13,.int kc14 c14,.int kc15 c15,.int kc16 c16,.int kc17 c17,.int kc18 c18,.int kc19 c19,.int kc20 c20,.int kc21 c21,.int kc22 c22,.int kc23 c23,.int kc24 c24,.int kc25 c25,.int kc26 c26,.int kc27 c27,.int kc28 c28,.int kc29 c29,.int kc30 c30,.int kc31 c31]=>if kc0= .u8∧kc1= .u8∧kc2= .u8∧kc3= .u8∧kc4= .u8∧kc5= .u8∧kc6= .u8∧kc7= .u8∧kc8= .u8∧kc9= .u8∧kc10= .u8∧kc11= .u8∧kc12= .u8∧kc13= .u8∧kc14= .u8∧kc15= .u8∧kc16= .u8∧kc17= .u8∧kc18= .u8∧kc19= .u8∧kc20= .u8∧kc21= .u8∧kc22= .u8∧kc23= .u8∧kc24= .u8∧kc25= .u8∧kc26= .u8∧kc27= .u8∧kc28= .u8∧kc29= .u8∧kc30= .u8∧kc31= .u8 then some ((aI.mk c0 c1),(aI.mk c2 c3),(aI.mk c4 c5),(aI.mk c6 c7),(aI.mk c8 c9),(aI.mk c10 c11),(aI.mk c12 c13),(aI.mk c14 c15),(aI.mk c16 c17),(aI.mk c18 c19),(aI.mk c20 c21),(aI.mk c22 c23),(aI.mk c24 c25),(aI.mk c26 c27),(aI.mk c28 c29),(aI.mk c30 c31))else none|_=>none,fun cs x h=>by
 split at h
 ·split at h
  ·rename_i e
   obtain⟨rfl,rfl,rfl,rfl,rfl,rfl,rfl,rfl,rfl,rfl,rfl,rfl,rfl,rfl,rfl,rfl,rfl,rfl,rfl,rfl,rfl,rfl,rfl,rfl,rfl,rfl,rfl,rfl,rfl,rfl,rfl,rfl⟩:=e
   have h:=Option.some.inj h; subst h; rfl
  ·cases h
 ·cases h⟩
noncomputable abbrev P:Program:=Tryz.prog
noncomputable abbrev E:Env:=Tryz.env
def acZ:TypeId->Tag:=fun t=>match t with
 |3=>(au .i64)
 |4=>ah
 |5=>(au .u8)
 |9=>dG
 |20=>uY
 |21=>(au .i32)
 |22=>aJ
 |23=>aJ
 |25=>bC
 |26=>aJ
 |27=>aJ
 |29=>dJ
 |30=>aJ
 |34=>(au .i64)
 |37=>aJ
 |42=>uY
 |43=>(au .u8)
 |44=>iG
 |46=>aV
 |47=>(au .u8)
 |49=>(au .u16)
 |51=>aO
 |52=>(au .u8)
 |53=>(au .u8)
 |54=>(au .u8)
 |55=>(au .u8)
 |56=>(au .u8)
 |58=>aT
 |60=>aH
 |63=>dJ
 |76=>aJ
 |78=>aJ
 |87=>uY
 |94=>(au .u8)
 |95=>aJ
 |97=>aA
 |101=>aQ
 |110=>aJ
 |114=>JF
 |123=>uY
 |124=>uY
 |129=>fE
 |133=>JG
 |139=>aC
 |167=>dJ
 |195=>(au .u64)
 |210=>(au .i64)
 |218=>(au .u32)
 |220=>(au .u64)
 |229=>dJ
 |230=>(au .u64)
 |234=>dJ
 |240=>dJ
 |245=>yE
 |246=>oJ
 |_=>uY
def aeo:FuncId->List Tag:=fun f=>match f with
 |3=>[ah]
 |4=>[ah]
 |5=>[ah]
 |6=>[ah]
 |7=>[dJ,aJ,ah]
 |8=>[aJ]
 |9=>[aJ,(au .i64)]
 |10=>[aJ,(au .i64)]
 |11=>[ah]
 |12=>[ah]
 |13=>[(au .i64)]
 |14=>[ah]
 |15=>[dJ,dJ,ah]
 |16=>[aJ]
 |17=>[aJ,(au .i64)]
 |18=>[aJ,(au .i64)]
 |19=>[ah]
 |21=>[aJ,(au .i64)]
 |22=>[aJ,(au .i64)]
 |23=>[aJ,(au .i64)]
 |24=>[aJ,(au .i64)]
 |25=>[ah]
 |26=>[ah]
 |27=>[(au .i64)]
 |28=>[ah]
 |29=>[aO]
 |30=>[aO,(au .i64)]
 |31=>[aO,(au .i64)]
 |32=>[dJ,aJ,ah]
 |33=>[aJ]
 |34=>[uY,(au .i64)]
 |35=>[dJ]
 |36=>[dJ]
 |37=>[(au .i64)]
 |38=>[aA]
 |39=>[(au .i64)]
 |40=>[(au .i64)]
 |41=>[(au .i64)]
 |42=>[(au .i64)]
 |43=>[(au .i64)]
 |44=>[ah]
 |45=>[ah]
 |46=>[aJ,(au .i64)]
 |47=>[ah]
 |48=>[aJ,(au .i64)]
 |49=>[ah]
 |50=>[aJ,(au .i64)]
 |51=>[aJ,aJ,(au .i64)]
 |52=>[aJ]
 |53=>[aJ,(au .i64)]
 |54=>[aO]
 |55=>[aH]
 |56=>[aA,(au .i64)]
 |57=>[(au .i64),(au .i64)]
 |58=>[aQ,ah]
 |59=>[(au .i64)]
 |60=>[aV]
 |61=>[aJ,(au .i64)]
 |62=>[aJ,aJ]
 |63=>[aJ,aJ,(au .i64)]
 |64=>[aJ]
 |65=>[(au .i64)]
 |66=>[(au .i64)]
 |67=>[(au .i64)]
 |68=>[ah]
 |69=>[aA]
 |70=>[aJ]
 |71=>[ah]
 |72=>[(au .i64)]
 |73=>[(au .i64)]
 |74=>[ah]
 |75=>[aA]
 |76=>[ah]
 |77=>[ah]
 |78=>[ah]
 |79=>[ah]
 |80=>[aC,(au .i64)]
 |81=>[ah]
 |82=>[aJ]
 |83=>[(au .i64)]
 |84=>[aJ]
 |85=>[aJ,ah]
 |86=>[aJ,(au .i64)]
 |87=>[(au .i64)]
 |88=>[aJ]
 |89=>[aO,(au .i64)]
 |90=>[aJ,(au .i64)]
 |91=>[aJ,(au .i64)]
 |92=>[aA,(au .i64)]
 |93=>[(au .i64)]
 |94=>[(au .i64)]
 |95=>[aJ,(au .i64)]
 |96=>[aJ]
 |97=>[(au .i64)]
 |98=>[aJ]
 |99=>[aJ]
 |100=>[(au .i64)]
 |101=>[(au .i64)]
 |102=>[ah]
 |103=>[ah]
 |104=>[ah]
 |105=>[(au .i64)]
 |106=>[ah]
 |108=>[(au .i64)]
 |109=>[ah]
 |110=>[ah]
 |111=>[(au .u16)]
 |112=>[(au .u16)]
 |113=>[aO,(au .i64)]
 |114=>[(au .i64)]
 |115=>[aJ]
 |116=>[ah]
 |117=>[ah]
 |118=>[aJ]
 |119=>[aO]
 |120=>[aQ,ah]
 |121=>[ah]
 |122=>[aJ]
 |123=>[ah]
 |124=>[ah]
 |125=>[ah]
 |126=>[dG]
 |127=>[dG]
 |128=>[ah]
 |129=>[ah,ah,ah,ah,ah]
 |130=>[(au .i64),(au .i64),ah]
 |131=>[ah]
 |132=>[ah]
 |133=>[ah]
 |134=>[ah]
 |135=>[ah]
 |136=>[ah]
 |137=>[ah]
 |138=>[ah,ah,ah,ah,ah]
 |139=>[(au .i64)]
 |140=>[(au .i64)]
 |141=>[ah]
 |142=>[ah]
 |143=>[ah]
 |144=>[ah]
 |146=>[(au .i64)]
 |147=>[ah]
 |148=>[(au .u16)]
 |149=>[aA,(au .i64)]
 |150=>[ah]
 |151=>[aJ]
 |152=>[ah]
 |153=>[aA,(au .i64)]
 |154=>[(au .i64)]
 |155=>[ah]
 |156=>[ah]
 |157=>[(au .u16)]
 |158=>[(au .u16)]
 |159=>[ah]
 |160=>[(au .i64)]
 |161=>[ah]
 |162=>[dG]
 |163=>[ah]
 |164=>[ah]
 |165=>[ah]
 |166=>[(au .i64),(au .i64)]
 |170=>[(au .i64),(au .i64)]
 |172=>[ah]
 |173=>[(au .i64)]
 |174=>[(au .i64),ah]
 |175=>[(au .i64)]
 |176=>[(au .i64)]
 |177=>[ah]
 |178=>[(au .u16)]
 |179=>[ah]
 |180=>[dG]
 |181=>[dG]
 |183=>[dG]
 |184=>[dG]
 |185=>[dG]
 |186=>[dG]
 |188=>[(au .u64)]
 |189=>[(au .u64)]
 |190=>[(au .i64)]
 |191=>[(au .i64)]
 |192=>[ah]
 |193=>[(au .i32),(au .i64)]
 |194=>[ah]
 |195=>[(au .i32),(au .i64)]
 |196=>[(au .i64),(au .i64)]
 |197=>[(au .i32),(au .i64)]
 |198=>[(au .i64)]
 |199=>[ah]
 |200=>[(au .i64)]
 |201=>[ah]
 |_=>[]
def aep:TypeId->Option Tag:=fun t=>match t with
 |_=>none
def afd:TypeId->List Tag:=fun t=>match t with
 |0=>[]
 |31=>[dJ,aJ,ah]
 |35=>[aJ,(au .i64)]
 |38=>[aJ,(au .i64)]
 |64=>[dJ,dJ,ah]
 |82=>[aO,(au .i64)]
 |85=>[dJ,aJ,ah]
 |88=>[uY,(au .i64)]
 |90=>[aJ,aJ]
 |103=>[aJ,(au .i64)]
 |107=>[aJ,aJ,(au .i64)]
 |111=>[aJ,(au .i64)]
 |117=>[aA,(au .i64)]
 |119=>[(au .i64),(au .i64)]
 |121=>[aQ,ah]
 |140=>[aC,(au .i64)]
 |146=>[aJ,ah]
 |183=>[ah,ah,ah,ah,ah]
 |185=>[(au .i64),(au .i64),ah]
 |207=>[(au .i64),(au .i64)]
 |211=>[(au .i64),(au .i64)]
 |215=>[(au .i64),ah]
 |237=>[(au .i32),(au .i64)]
 |t=>[acZ t]
noncomputable def C:kL:={ E:=E,P:=P,tag:=acZ,res:=aeo,lkp:=aep,rt:=afd }
theorem hE:C.E.Ok C.P:=Tryz.acY
abbrev lG:FuncId:=3
abbrev AV:FuncId:=6
abbrev sS:FuncId:=7
abbrev qw:FuncId:=8
abbrev uZ:FuncId:=9
abbrev lI:FuncId:=10
abbrev kN:FuncId:=11
abbrev jM:FuncId:=12
abbrev vY:FuncId:=13
abbrev sV:FuncId:=14
abbrev yF:FuncId:=15
abbrev sW:FuncId:=17
abbrev oK:FuncId:=30
abbrev qx:FuncId:=31
abbrev mV:FuncId:=33
abbrev rX:FuncId:=34
abbrev BL:FuncId:=35
abbrev yG:FuncId:=36
abbrev mW:FuncId:=37
abbrev lJ:FuncId:=38
abbrev lK:FuncId:=39
abbrev mX:FuncId:=40
abbrev lM:FuncId:=41
abbrev mY:FuncId:=42
abbrev lN:FuncId:=43
abbrev iL:FuncId:=44
abbrev jO:FuncId:=45
abbrev vg:FuncId:=49
abbrev pW:FuncId:=56
abbrev jJ:FuncId:=57
abbrev kP:FuncId:=58
abbrev qy:FuncId:=61
abbrev jc:FuncId:=62
abbrev oh:FuncId:=63
abbrev sZ:FuncId:=64
abbrev iH:FuncId:=65
abbrev vZ:FuncId:=66
abbrev gW:FuncId:=67
abbrev wo:FuncId:=68
abbrev rY:FuncId:=69
abbrev xC:FuncId:=70
abbrev fF:FuncId:=71
abbrev tq:FuncId:=72
abbrev iM:FuncId:=73
abbrev tu:FuncId:=74
abbrev lQ:FuncId:=75
abbrev nX:FuncId:=76
abbrev yH:FuncId:=77
abbrev wu:FuncId:=78
abbrev eG:FuncId:=79
abbrev kC:FuncId:=80
abbrev fH:FuncId:=82
abbrev iC:FuncId:=84
abbrev qA:FuncId:=92
abbrev jv:FuncId:=93
abbrev jw:FuncId:=94
abbrev oM:FuncId:=95
abbrev bU:FuncId:=96
abbrev kQ:FuncId:=97
abbrev bY:FuncId:=98
abbrev cZ:FuncId:=99
abbrev yI:FuncId:=100
abbrev qB:FuncId:=101
abbrev oN:FuncId:=102
abbrev fO:FuncId:=103
abbrev tC:FuncId:=104
abbrev tH:FuncId:=105
abbrev kD:FuncId:=106
abbrev gq:FuncId:=107
abbrev dV:FuncId:=108
abbrev jP:FuncId:=110
abbrev wz:FuncId:=111
abbrev oO:FuncId:=112
abbrev je:FuncId:=122
abbrev iD:FuncId:=123
abbrev jf:FuncId:=124
abbrev wB:FuncId:=125
abbrev yJ:FuncId:=126
abbrev yK:FuncId:=127
abbrev kE:FuncId:=128
abbrev tJ:FuncId:=129
abbrev oP:FuncId:=130
abbrev oQ:FuncId:=131
abbrev qC:FuncId:=132
abbrev jQ:FuncId:=133
abbrev gX:FuncId:=134
abbrev gu:FuncId:=135
abbrev gY:FuncId:=136
abbrev tK:FuncId:=137
abbrev wC:FuncId:=138
abbrev pX:FuncId:=139
abbrev tN:FuncId:=140
abbrev tV:FuncId:=141
abbrev oU:FuncId:=142
abbrev jA:FuncId:=143
abbrev wE:FuncId:=144
abbrev rZ:FuncId:=147
abbrev ou:FuncId:=148
abbrev qE:FuncId:=160
abbrev iO:FuncId:=161
abbrev jB:FuncId:=162
abbrev jm:FuncId:=163
abbrev jo:FuncId:=164
abbrev qF:FuncId:=165
abbrev lS:FuncId:=166
abbrev JH:FuncId:=177
end Zv
end Go.Proofs.YtijnknjopjmiiaaGreatDoor
end
section
namespace Go.Proofs.YtijnknjopjmiiaaGreatDoor.Zq
theorem ado(a b:UInt8):a<b∨a=b∨b<a:=by
 have h:a.toNat<b.toNat∨a.toNat=b.toNat∨b.toNat<a.toNat:=by omega
 rcases h with h|h|h
 ·exact .inl (UInt8.lt_iff_toNat_lt.2 h)
 ·exact .inr (.inl (UInt8.toNat_inj.1 h))
 ·exact .inr (.inr (UInt8.lt_iff_toNat_lt.2 h))
theorem aer{a b c:UInt8}(h:a<b)(k:b<c):a<c:=UInt8.lt_iff_toNat_lt.2 (by have:=UInt8.lt_iff_toNat_lt.1 h; have:=UInt8.lt_iff_toNat_lt.1 k; omega)
theorem ac0:∀{x y z:List UInt8},Op.bytesLess x y=true->Op.bytesLess y z=true->Op.bytesLess x z=true
 |_,[],_,h,_=>by simp[Op.bytesLess]at h
 |_,_::_,[],_,k=>by simp[Op.bytesLess]at k
 |[],b::y,c::z,_,_=>rfl
 |a::x,b::y,c::z,h,k=>by
  simp only[Op.bytesLess,Bool.or_eq_true,Bool.and_eq_true,decide_eq_true_eq,beq_iff_eq]at h k ⊢
  rcases h with h|⟨rfl,h⟩
  ·rcases k with k|⟨rfl,k⟩
   ·exact .inl (aer h k)
   ·exact .inl h
  ·rcases k with k|⟨rfl,k⟩
   ·exact .inl k
   ·exact .inr ⟨rfl,ac0 h k⟩
theorem Zx:∀{x y:List UInt8},x≠y->Op.bytesLess x y=false->Op.bytesLess y x=true
 |[],[],h,_=>absurd rfl h
 |[],_::_,_,k=>by simp[Op.bytesLess]at k
 |_::_,[],_,_=>rfl
 |a::x,b::y,h,k=>by
  simp only[Op.bytesLess,Bool.or_eq_false_iff,Bool.and_eq_false_iff,decide_eq_false_iff_not,beq_eq_false_iff_ne,ne_eq]at k
  simp only[Op.bytesLess,Bool.or_eq_true,Bool.and_eq_true,decide_eq_true_eq,beq_iff_eq]
  rcases ado a b with q|q|q
  ·exact absurd q k.1
  ·subst q
   refine .inr ⟨rfl,Zx (fun e=>h (by rw[e])) ?_⟩
   rcases k.2 with e|e
   ·exact absurd rfl e
   ·exact e
  ·exact .inl q
section
variable{α:Type}(lt:α->α->Bool)
def insL(x:α)(l:List α):List α:=l.takeWhile (fun d=> !lt x d)++x::l.dropWhile (fun d=> !lt x d)
def Zy(l:List α):Prop:=l.Pairwise fun a b=>lt a b=true
variable{lt}
theorem wF{p:α->Bool}:∀(l:List α) (i:Nat),i≤l.length->(∀(j:Nat) (h:j<l.length),j<i->p l[j]=true)->(∀(h:i<l.length),p l[i]=false)->l.takeWhile p=l.take i∧l.dropWhile p=l.drop i
 |[],i,h,_,_=>by
  have:i=0:=by simpa using h
  subst this; exact⟨rfl,rfl⟩
 |a::l,0,_,_,h2=>by
  have:p a=false:=h2 (by simp)
  simp[this]
 |a::l,i+1,h,h1,h2=>by
  have ha:p a=true:=h1 0 (by simp) (by omega)
  obtain⟨e1,e2⟩:=wF l i (by simpa using h) (fun j hj hji=>h1 (j+1) (by simpa using hj) (by omega)) (fun hi=>h2 (by simpa using hi))
  simp[ha,e1,e2]
theorem Zz(tr:∀{a b c:α},lt a b=true->lt b c=true->lt a c=true){x:α}{l:List α}(hs:Zy lt l){i:Nat}(hi:i≤l.length)(h1:∀(j:Nat) (h:j<l.length),i≤j->lt x l[j]=true)(h2:∀(h:0<i),lt x (l[i-1]'(by omega))=false):insL lt x l=l.take i++x::l.drop i:=by
 unfold insL
 have k1:∀(j:Nat) (h:j<l.length),j<i->(!lt x l[j])=true:=fun j hj hji=>by
  have h3:=h2 (by omega)
  cases hb:lt x l[j]with
  |false=>rfl
  |true=>
   by_cases e:j=i-1
   ·subst e; rw[hb]at h3; cases h3
   ·have:=List.pairwise_iff_getElem.1 hs j (i-1) hj (by omega) (by omega)
    rw[tr hb this]at h3; cases h3
 have k2:∀(h:i<l.length),(!lt x l[i])=false:=fun h=>by rw[h1 i h (Nat.le_refl _)]; rfl
 obtain⟨e1,e2⟩:=wF (p:=fun d=> !lt x d) l i hi k1 k2
 rw[e1,e2]
theorem OB{x:α}{l:List α}{i:Nat}(hi:i≤l.length)(h1:∀(j:Nat) (h:j<l.length),j<i->lt x l[j]=false)(h2:∀(h:i<l.length),lt x l[i]=true):insL lt x l=l.take i++x::l.drop i:=by
 unfold insL
 obtain⟨e1,e2⟩:=wF (p:=fun d=> !lt x d) l i hi (fun j hj hji=>by rw[h1 j hj hji]; rfl) (fun h=>by rw[h2 h]; rfl)
 rw[e1,e2]
theorem SY{x y:α}{l:List α}:y∈insL lt x l↔y=x∨y∈l:=by
 unfold insL
 rw[List.mem_append,List.mem_cons]
 constructor
 ·rintro(h|h|h)
  ·exact .inr ((List.takeWhile_sublist _).subset h)
  ·exact .inl h
  ·exact .inr ((List.dropWhile_sublist _).subset h)
 ·rintro(h|h)
  ·exact .inr (.inl h)
  ·rw[←List.takeWhile_append_dropWhile (p:=fun d=> !lt x d) (l:=l),List.mem_append]at h
   rcases h with h|h
   ·exact .inl h
   ·exact .inr (.inr h)
theorem S9{x:α}{l:List α}:(insL lt x l).length=l.length+1:=by
 have:=congrArg List.length (List.takeWhile_append_dropWhile (p:=fun d=> !lt x d) (l:=l))
 rw[List.length_append]at this
 unfold insL
 rw[List.length_append,List.length_cons]; omega
theorem qG{p:α->Bool}:∀{l:List α} {y:α} {r:List α},l.dropWhile p=y::r->p y=false
 |[],_,_,h=>by simp at h
 |a::l,y,r,h=>by
  rw[List.dropWhile_cons]at h
  split at h
  ·exact qG h
  ·rename_i e; cases h; simpa using e
theorem AX{p:α->Bool}:∀{l:List α} {y:α},y∈l.takeWhile p->p y=true
 |[],_,h=>by simp at h
 |a::l,y,h=>by
  rw[List.takeWhile_cons]at h
  split at h
  ·rename_i e
   rcases List.mem_cons.1 h with rfl|h
   ·exact e
   ·exact AX h
  ·simp at h
theorem ZA(tr:∀{a b c:α},lt a b=true->lt b c=true->lt a c=true){x:α}{l:List α}(hs:Zy lt l)(tot:∀y∈l,lt x y=false->lt y x=true):Zy lt (insL lt x l):=by
 have hl:=List.takeWhile_append_dropWhile (p:=fun d=> !lt x d) (l:=l)
 have hs':=hs
 unfold Zy at hs' ⊢
 rw[←hl,List.pairwise_append]at hs'
 obtain⟨s1,s2,s3⟩:=hs'
 have below:∀y∈l.takeWhile (fun d=> !lt x d),lt y x=true:=fun y hy=>tot y ((List.takeWhile_sublist _).subset hy) (by simpa using AX hy)
 have above:∀y∈l.dropWhile (fun d=> !lt x d),lt x y=true:=by
  cases hd:l.dropWhile (fun d=> !lt x d)with
  |nil=>intro y hy; cases hy
  |cons z r=>
   have hz:lt x z=true:=by simpa using qG hd
   rw[hd]at s2
   intro y hy
   rcases List.mem_cons.1 hy with rfl|hy
   ·exact hz
   ·exact tr hz ((List.pairwise_cons.1 s2).1 y hy)
 unfold insL
 rw[List.pairwise_append]
 refine⟨s1,List.pairwise_cons.2 ⟨above,s2⟩,fun a ha b hb=> ?_⟩
 rcases List.mem_cons.1 hb with rfl|hb
 ·exact below a ha
 ·exact s3 a ha b hb
end
end Go.Proofs.YtijnknjopjmiiaaGreatDoor.Zq
end
section
namespace Go.Proofs.YtijnknjopjmiiaaGreatDoor.Zq
open Zv
abbrev Pt:=aX
def GH(b:UInt8):Bool:=b==45||(decide (97≤b)&&decide (b≤122))
def oz(s:ByteArray):Prop:=1≤s.data.toList.length∧s.data.toList.length≤20∧s.data.toList.head? ≠some 45∧s.data.toList.all GH=true
def lT(v:Int):Int:=if 1≤v∧v≤9 then 1 else if 10≤v∧v≤15 then 2 else if 16≤v∧v≤19 then 3 else 0
def yL(w:Int):Int:=if 1≤w∧w≤4 then 1 else if w=5 then 2 else if w=6 then 3 else 0
def cU(v:Int):Prop:=v=1∨v=2∨v=3∨v=4∨v=5∨v=7∨v=9∨v=14∨v=15∨v=16∨v=19
def sU(v w:Int):Prop:=v=11∨w=9
def tU(v w:Int):Prop:=v=12∨v=13∨w=10
instance (v:Int):Decidable (cU v):=by unfold cU; infer_instance
instance (v w:Int):Decidable (sU v w):=by unfold sU; infer_instance
instance (v w:Int):Decidable (tU v w):=by unfold tU; infer_instance
def zW(v:Int):Int:=if v=9∨v=15 then -99 else if v=5 then -9 else if v=14 then 0 else 1
def yM(v:Int):Int:=if v=5 then 9 else 99
def su(v x:Int):Prop:=if cU v then zW v≤x∧x≤yM v∧(v=14∨x≠0)else x=0
def inU(u:Prop)[Decidable u](x most:Int):Prop:=if u then 1≤x∧x≤most else x=0
def lU(p:Pt):Prop:=
 if lT p.Verb=1 then(if p.Whom=3 then p.When=1 else ¬((p.Whom=1∨p.Whom=2)∧(p.Verb=6∨p.Verb=8∨p.Verb=9)))
 else if lT p.Verb=2 then ¬(p.Whom=1∨p.Whom=2)∧p.Whom≠3
 else p.Whom≠3
open Classical in
noncomputable def GZ(p:Pt):Int:=
 if p.When<1∨6<p.When∨p.Verb<1∨19<p.Verb∨p.Whom<1∨10<p.Whom then 2
 else if lT p.Verb≠yL p.When∨p.Verb=11∧p.Whom=9 then 8
 else if ¬lU p then 13
 else if ¬su p.Verb p.Count then 2
 else if ¬(inU (sU p.Verb p.Whom) p.Suit 6∧inU (tU p.Verb p.Whom) p.Trait 8∧inU (p.Verb=9) p.Mark 4)then 2
 else if(if p.Verb=7 then ¬oz p.Name else p.Name.data.toList≠[])then 4
 else 0
structure Cd where
 g:ay
 ps:List Pt
def bare(g:ay):ay:={ g with Parts:=⟨none,0,0⟩ }
open Classical in
noncomputable def JI(k:Int):List Pt->Int
 |[]=>0
 |p::r=>if GZ p≠0 then GZ p else if k=2∧p.When≠1∨k=3∧p.When=4 then 8 else JI k r
open Classical in
noncomputable def zX(c:Cd):Int:=
 if ¬oz c.g.Name then 4
 else if ¬(1≤c.g.Suit∧c.g.Suit≤6)∨¬(1≤c.g.Kind∧c.g.Kind≤3)then 8
 else if ¬(0≤c.g.Cost∧c.g.Cost≤10)∨¬(0≤c.g.Power∧c.g.Power≤99)∨¬(0≤c.g.Health∧c.g.Health≤99)then 2
 else if c.g.Kind=1∧c.g.Health=0∨c.g.Kind≠1∧(c.g.Power≠0∨c.g.Health≠0)then 8
 else if ¬(c.g.Traits<256)∨c.g.Kind=2∧c.g.Token=true then 8
 else if 4<c.ps.length then 3
 else 0
noncomputable def xI(c:Cd):Int:=if zX c=0 then JI c.g.Kind c.ps else zX c
theorem qH{c:Cd}(h:zX c=0):c.ps.length≤4:=by
 unfold zX at h
 repeat' split at h
 all_goals first|omega|(exfalso; exact absurd h (by decide))
def C9(c d:Cd):Bool:=decide (c.g.Suit<d.g.Suit)||(c.g.Suit==d.g.Suit&&Op.bytesLess c.g.Name.toList d.g.Name.toList)
theorem ZB{a b c:Cd}(h:C9 a b=true)(k:C9 b c=true):C9 a c=true:=by
 unfold C9 at*
 simp only[Bool.or_eq_true,Bool.and_eq_true,decide_eq_true_eq,beq_iff_eq]at*
 rcases h with h|⟨h1,h2⟩<;>rcases k with k|⟨k1,k2⟩
 ·exact .inl (by omega)
 ·exact .inl (by omega)
 ·exact .inl (by omega)
 ·exact .inr ⟨by omega,ac0 h2 k2⟩
theorem abA{a b:Cd}(hn:a.g.Name.toList≠b.g.Name.toList)(h:C9 a b=false):C9 b a=true:=by
 unfold C9 at*
 simp only[Bool.or_eq_true,Bool.and_eq_true,decide_eq_true_eq,beq_iff_eq,Bool.or_eq_false_iff,Bool.and_eq_false_iff,decide_eq_false_iff_not,beq_eq_false_iff_ne,ne_eq]at*
 by_cases e:a.g.Suit=b.g.Suit
 ·refine .inr ⟨e.symm,Zx hn ?_⟩
  rcases h.2 with q|q
  ·exact absurd e q
  ·exact q
 ·exact .inl (by omega)
def jR(B:List Cd)(s:ByteArray):Option Nat:=B.findIdx? fun d=>d.g.Name.toList==s.toList
open Classical in
noncomputable def zY(B:List Cd)(c:Cd):Int:=if xI c≠0 then xI c else if(jR B c.g.Name).isSome then 5 else if 64≤B.length then 14 else 0
open Classical in
noncomputable def BM(B:List Cd)(c:Cd):List Cd:=if zY B c=0 then insL C9 c B else B
structure G5(B:List Cd):Prop where
 few:B.length≤64
 srt:Zy C9 B
 ok:∀c∈B,xI c=0
theorem abB{B:List Cd}(h:G5 B)(c:Cd):G5 (BM B c):=by
 unfold BM
 split
 ·rename_i e
  unfold zY at e
  split at e
  ·rename_i e2; exact absurd e e2
  ·rename_i e2
   split at e
   ·cases e
   ·rename_i e3
    split at e
    ·cases e
    ·rename_i e4
     have e2:xI c=0:=Classical.byContradiction e2
     refine⟨by rw[S9]; omega,ZA (lt:=C9) (fun h k=>ZB h k) h.srt fun y hy hl=>abA (fun en=> ?_) hl,fun d hd=> ?_⟩
     ·apply e3
      unfold jR
      rw[List.findIdx?_isSome,List.any_eq_true]
      exact⟨y,hy,by rw[en]; simp⟩
     ·rcases SY.1 hd with rfl|hd
      ·exact e2
      ·exact h.ok d hd
 ·exact h
open Classical in
noncomputable def DK(ms:List ak)(m:ak):Int:=
 if m.Mark<1∨4<m.Mark∨m.Power< -9∨9<m.Power∨m.Health< -9∨9<m.Health then 2
 else if ¬oz m.Name then 4
 else if(∃x,ms[m.Mark.toNat]? =some x∧x.Mark≠0)∨(∃x∈ms,x.Name.toList=m.Name.toList)then 5
 else 0
open Classical in
noncomputable def G6(ms:List ak)(m:ak):List ak:=if DK ms m=0 then ms.set m.Mark.toNat m else ms
def xE(B:List Cd)(p:Pt):Int:=if p.Verb=7 then(match jR B p.Name with|none=>6|some i=>if(B[i]?.map fun c=>c.g.Kind)=some 2 then 8 else 0)else 0
def tX(B:List Cd):List Pt->Int
 |[]=>0
 |p::r=>if xE B p≠0 then xE B p else tX B r
def sD(B:List Cd):Int:=tX B (B.flatMap (·.ps))
end Go.Proofs.YtijnknjopjmiiaaGreatDoor.Zq
end
section
namespace Go.Proofs.YtijnknjopjmiiaaGreatDoor
open Go Zq
namespace Zv
set_option maxRecDepth 100000
set_option linter.unusedVariables false
def lV(a0:bM)(a1:Sl)(a2:Int)(a3:Sl)(H:Heap)(Q:Bool×Unit->Heap->Prop):Prop:=
CALL P [ah] AV [] H fun(x1:Bool×Unit) H1=>
aK (!x1.1) (
Q (false,()) H1) (
CALL P [dJ,aJ,ah] sS [(bC.enc a0),a1.v] H1 fun(x2:(Option Addr)×Sl×Bool×Unit) H2=>
aK (!x2.2.2.1) (
Q (true,()) H2) (
CALL P [aJ] qw [a1.v,(.int .i64 a2)] H2 fun(x3:Sl×Unit) H3=>
CALL P [aJ,(au .i64)] uZ [(.pointer x2.1),x3.1.v] H3 fun(x4:Sl×Int×Unit) H4=>
CALL P [aJ,(au .i64)] lI [(.pointer x2.1),a1.v] H4 fun(x5:Sl×Int×Unit) H5=>
CALL P [aJ,(au .i64)] lI [(.pointer x2.1),x3.1.v] H5 fun(x6:Sl×Int×Unit) H6=>
JOIN (fun(j7:(Bool×Unit)×(Unit)->Heap->Prop)=>
aK (x4.2.1 !=0) (
j7 ((true,()),(())) H6) (
aK (x5.2.1 !=0) (
j7 ((true,()),(())) H6) (
aK (x6.2.1 !=0) (
j7 ((true,()),(())) H6) (
CALL P [ah] kN [x2.2.1.v,x4.1.v] H6 fun(x9:Bool×Unit) H8=>
aK (!x9.1) (
j7 ((true,()),(())) H8) (
CALL P [ah] jM [x5.1.v,x6.1.v] H8 fun(x10:Bool×Unit) H9=>
j7 ((!x10.1,()),(())) H9))))) fun(y8:(Bool×Unit)×(Unit)) H7=>
aK y8.1.1 (
Q (false,()) H7) (
GEN aJ (dR E 27 (.int .i64 (a1.len:Int)) (.int .i64 (a1.len:Int)) H7) fun(x11:Sl) H10=>
JOIN (fun(j12:(Unit)×(Unit)->Heap->Prop)=>
LOOP (fun(r14:(Int×Unit)×(Unit)->Heap->Prop) (s15:(Int×Unit)×(Unit)) H12=>
aK (decide (s15.1.1<(a1.len:Int))) (
dw x11.p x11.len s15.1.1 1 fun b16 o17=>
ST H12 b16 o17 [(.int .i64 s15.1.1)] fun H13=>
r14 ((IntKind.wrap .i64 (s15.1.1+1),()),(())) H13) (
j12 ((()),(())) H12)) ((0,()),(())) H10) fun(y13:(Unit)×(Unit)) H11=>
JOIN (fun(j18:(Unit)×(Unit)->Heap->Prop)=>
LOOP (fun(r20:(Int×Unit)×(Unit)->Heap->Prop) (s21:(Int×Unit)×(Unit)) H15=>
JOIN (fun(j22:(Bool×Unit)×(Unit)->Heap->Prop)=>
aK (decide (s21.1.1<(a3.len:Int))) (
aK (decide (s21.1.1<60)) (
j22 ((decide ((a1.len:Int)>0),()),(())) H15) (
j22 ((false,()),(())) H15)) (
j22 ((false,()),(())) H15)) fun(y23:(Bool×Unit)×(Unit)) H16=>
aK y23.1.1 (
dw a3.p a3.len s21.1.1 1 fun b24 o25=>
LD (au .i64) H16 b24 o25 fun(x26:Int)=>
CALL P [(au .i64)] vY [(.int .i64 x26),(.int .i64 (a1.len:Int))] H16 fun(x27:Int×Unit) H17=>
vT ((a1.len:Int)≠0) (
dw x11.p x11.len x27.1 1 fun b28 o29=>
LD (au .i64) H17 b28 o29 fun(x30:Int)=>
vT ((a1.len:Int)≠0) (
dw x11.p x11.len (Int.tmod s21.1.1 (a1.len:Int)) 1 fun b31 o32=>
LD (au .i64) H17 b31 o32 fun(x33:Int)=>
dw x11.p x11.len (Int.tmod s21.1.1 (a1.len:Int)) 1 fun b34 o35=>
ST H17 b34 o35 [(.int .i64 x30)] fun H18=>
dw x11.p x11.len x27.1 1 fun b36 o37=>
ST H18 b36 o37 [(.int .i64 x33)] fun H19=>
r20 ((IntKind.wrap .i64 (s21.1.1+1),()),(())) H19))) (
j18 ((()),(())) H16)) ((0,()),(())) H11) fun(y19:(Unit)×(Unit)) H14=>
GEN aJ (dR E 27 (.int .i64 (IntKind.wrap .i64 ((a1.len:Int)+1))) (.int .i64 (IntKind.wrap .i64 ((a1.len:Int)+1))) H14) fun(x38:Sl) H20=>
JOIN (fun(j39:(Sl×Unit)×(Unit)->Heap->Prop)=>
LOOP (fun(r41:(Sl×Int×Unit)×(Unit)->Heap->Prop) (s42:(Sl×Int×Unit)×(Unit)) H22=>
aK (decide (s42.1.2.1<(a1.len:Int))) (
dw x11.p x11.len s42.1.2.1 1 fun b43 o44=>
LD (au .i64) H22 b43 o44 fun(x45:Int)=>
dw a1.p a1.len x45 11 fun b46 o47=>
LD aV H22 b46 o47 fun(x48:bn)=>
EW aJ (lenV s42.1.1.v+1) (fC E [26,26] s42.1.1.v 1 (aV.cells x48) H22) fun(x49:Sl) H23=>
dw x11.p x11.len s42.1.2.1 1 fun b50 o51=>
LD (au .i64) H23 b50 o51 fun(x52:Int)=>
dw x38.p x38.len (IntKind.wrap .i64 (x52+1)) 1 fun b53 o54=>
ST H23 b53 o54 [(.int .i64 (IntKind.wrap .i64 (s42.1.2.1+1)))] fun H24=>
r41 ((x49,IntKind.wrap .i64 (s42.1.2.1+1),()),(())) H24) (
j39 ((s42.1.1,()),(())) H22)) (((Sl.mk none 0 0),0,()),(())) H20) fun(y40:(Sl×Unit)×(Unit)) H21=>
CALL P [aJ,(au .i64)] uZ [(.pointer x2.1),y40.1.1.v] H21 fun(x55:Sl×Int×Unit) H25=>
CALL P [aJ,(au .i64)] lI [(.pointer x2.1),y40.1.1.v] H25 fun(x56:Sl×Int×Unit) H26=>
JOIN (fun(j57:(Bool×Unit)×(Unit)->Heap->Prop)=>
aK (x55.2.1 !=0) (
j57 ((true,()),(())) H26) (
aK (x56.2.1 !=0) (
j57 ((true,()),(())) H26) (
aK ((x55.1.len:Int) !=(a1.len:Int)) (
j57 ((true,()),(())) H26) (
j57 (((x56.1.len:Int) !=(x5.1.len:Int),()),(())) H26)))) fun(y58:(Bool×Unit)×(Unit)) H27=>
aK y58.1.1 (
Q (false,()) H27) (
JOIN (fun(j59:(Unit)×(Unit)->Heap->Prop)=>
LOOP (fun(r61:(Int×Unit)×(Unit)->Heap->Prop) (s62:(Int×Unit)×(Unit)) H29=>
aK (decide (s62.1.1<(a1.len:Int))) (
dw x55.1.p x55.1.len s62.1.1 5 fun b63 o64=>
LD aO H29 b63 o64 fun(x65:aG)=>
dw x11.p x11.len s62.1.1 1 fun b66 o67=>
LD (au .i64) H29 b66 o67 fun(x68:Int)=>
dw x2.2.1.p x2.2.1.len x68 5 fun b69 o70=>
LD aO H29 b69 o70 fun(x71:aG)=>
aK (!((x65.Holder==x71.Holder)&&((x65.Suit==x71.Suit)&&((x65.Traits==x71.Traits)&&((x65.Power==x71.Power)&&((x65.Health==x71.Health)&&true)))))) (
Q (false,()) H29) (
r61 ((IntKind.wrap .i64 (s62.1.1+1),()),(())) H29)) (
j59 ((()),(())) H29)) ((0,()),(())) H27) fun(y60:(Unit)×(Unit)) H28=>
JOIN (fun(j72:(Unit)×(Unit)->Heap->Prop)=>
LOOP (fun(r74:(Int×Unit)×(Unit)->Heap->Prop) (s75:(Int×Unit)×(Unit)) H31=>
aK (decide (s75.1.1<(x5.1.len:Int))) (
JOIN (fun(j76:(Bool×Unit)×(Unit)->Heap->Prop)=>
dw x56.1.p x56.1.len s75.1.1 10 fun b78 o79=>
LD (au .i64) H31 b78 (o79+0) fun(x80:Int)=>
dw x5.1.p x5.1.len s75.1.1 10 fun b81 o82=>
LD (au .i64) H31 b81 (o82+0) fun(x83:Int)=>
dw x38.p x38.len x83 1 fun b84 o85=>
LD (au .i64) H31 b84 o85 fun(x86:Int)=>
aK (x80 !=x86) (
j76 ((true,()),(())) H31) (
dw x56.1.p x56.1.len s75.1.1 10 fun b87 o88=>
LD (au .i64) H31 b87 (o88+1) fun(x89:Int)=>
dw x5.1.p x5.1.len s75.1.1 10 fun b90 o91=>
LD (au .i64) H31 b90 (o91+1) fun(x92:Int)=>
aK (x89 !=x92) (
j76 ((true,()),(())) H31) (
dw x56.1.p x56.1.len s75.1.1 10 fun b93 o94=>
LD aT H31 b93 (o94+2) fun(x95:aX)=>
dw x5.1.p x5.1.len s75.1.1 10 fun b96 o97=>
LD aT H31 b96 (o97+2) fun(x98:aX)=>
j76 ((!((x95.When==x98.When)&&((x95.Verb==x98.Verb)&&((x95.Whom==x98.Whom)&&((x95.Count==x98.Count)&&((x95.Suit==x98.Suit)&&((x95.Trait==x98.Trait)&&((x95.Mark==x98.Mark)&&((x95.Name.toList==x98.Name.toList)&&true)))))))),()),(())) H31))) fun(y77:(Bool×Unit)×(Unit)) H32=>
aK y77.1.1 (
Q (false,()) H32) (
r74 ((IntKind.wrap .i64 (s75.1.1+1),()),(())) H32)) (
j72 ((()),(())) H31)) ((0,()),(())) H28) fun(y73:(Unit)×(Unit)) H30=>
Q (true,()) H30))))
def DL:dL:=(.seq .leaf (.seq .leaf (.seq .leaf (.seq .leaf (.seq .leaf (.seq .leaf (.seq .leaf (.seq .leaf (.seq (.seq (.reg ⟨[(84,ah)],[],(rg 63 21 [])⟩) .leaf) (.seq .leaf (.seq .leaf (.seq (.seq .leaf (.blk (some ⟨[],[],(rg 21 1 (rg 89 9 []))⟩) (.loop ⟨[(21,(au .i64))],[],(rg 89 9 [])⟩ .leaf))) (.seq (.seq .leaf (.blk (some ⟨[],[],(rg 22 2 (rg 98 38 []))⟩) (.loop ⟨[(22,(au .i64))],[],(rg 23 1 (rg 98 38 []))⟩ (.seq (.seq (.reg ⟨[(109,ah)],[],(rg 98 11 [])⟩) .leaf) .leaf)))) (.seq .leaf (.seq .leaf (.seq (.seq .leaf (.blk (some ⟨[(24,aJ)],[],(rg 26 1 (rg 139 24 []))⟩) (.loop ⟨[(24,aJ),(26,(au .i64))],[],(rg 139 24 [])⟩ .leaf))) (.seq .leaf (.seq .leaf (.seq (.seq (.reg ⟨[(193,ah)],[],(rg 175 18 [])⟩) .leaf) (.seq (.seq .leaf (.blk (some ⟨[],[],(rg 8 1 (rg 29 1 (rg 194 17 [])))⟩) (.loop ⟨[(29,(au .i64))],[],(rg 8 1 (rg 194 17 []))⟩ .leaf))) (.seq (.seq .leaf (.blk (some ⟨[],[],(rg 8 1 (rg 30 1 (rg 211 46 [])))⟩) (.loop ⟨[(30,(au .i64))],[],(rg 8 1 (rg 211 46 []))⟩ (.seq .leaf (.seq (.blk none (.seq (.reg ⟨[(256,ah)],[],(rg 217 39 [])⟩) .leaf)) .leaf))))) .leaf)))))))))))))))))))))
theorem DN(a0:bM)(a1:Sl)(a2:Int)(a3:Sl)(H:Heap)(Q:Bool×Unit->Heap->Prop):lV a0 a1 a2 a3 H Q=fB C [4,152] Tryz.f3.ntmps Tryz.f3.results.toList [ah] (aP Tryz.f3) DL [(bC.enc a0),a1.v,(.int .i64 a2),a3.v] H Q:=by kernel_rfl
theorem DR{a0:bM}{a1:Sl}{a2:Int}{a3:Sl}{H:Heap}{Q:Bool×Unit->Heap->Prop}(h:lV a0 a1 a2 a3 H Q):CALL P [ah] lG [(bC.enc a0),a1.v,(.int .i64 a2),a3.v] H Q:=aB hE Tryz.func3 rfl (by kernel_rfl) (DN a0 a1 a2 a3 H Q) h
def tY(a0:bM)(a1:Sl)(H:Heap)(Q:(Option Addr)×Sl×Bool×Unit->Heap->Prop):Prop:=
JOIN (fun(j1:(Bool×Unit)×(Unit)->Heap->Prop)=>
CALL P [ah] sV [(bC.enc a0),a1.v] H fun(x3:Bool×Unit) H2=>
aK x3.1 (
j1 ((true,()),(())) H2) (
j1 ((decide ((a1.len:Int)>60),()),(())) H2)) fun(y2:(Bool×Unit)×(Unit)) H1=>
aK y2.1.1 (
Q (none,(Sl.mk none 0 0),false,()) H1) (
CALL P [dJ,dJ,ah] yF [(bC.enc a0)] H1 fun(x4:(Option Addr)×(Option Addr)×Bool×Unit) H3=>
CALL P [aJ,(au .i64)] uZ [(.pointer x4.1),a1.v] H3 fun(x5:Sl×Int×Unit) H4=>
Q (x4.1,x5.1,x5.2.1==0,()) H4)
def Me:dL:=(.seq .leaf (.seq (.seq (.reg ⟨[(19,ah)],[],(rg 12 7 [])⟩) .leaf) .leaf))
theorem MB(a0:bM)(a1:Sl)(H:Heap)(Q:(Option Addr)×Sl×Bool×Unit->Heap->Prop):tY a0 a1 H Q=fB C [2] Tryz.f7.ntmps Tryz.f7.results.toList [dJ,aJ,ah] (aP Tryz.f7) Me [(bC.enc a0),a1.v] H Q:=by kernel_rfl
theorem MC{a0:bM}{a1:Sl}{H:Heap}{Q:(Option Addr)×Sl×Bool×Unit->Heap->Prop}(h:tY a0 a1 H Q):CALL P [dJ,aJ,ah] sS [(bC.enc a0),a1.v] H Q:=aB hE Tryz.func7 rfl (by kernel_rfl) (MB a0 a1 H Q) h
def qI(a0:Sl)(a1:Int)(H:Heap)(Q:Sl×Unit->Heap->Prop):Prop:=
CALL P [aJ] mV [a0.v] H fun(x1:Sl×Unit) H1=>
JOIN (fun(j2:(Unit)×(Unit)->Heap->Prop)=>
LOOP (fun(r4:(Int×Unit)×(Unit)->Heap->Prop) (s5:(Int×Unit)×(Unit)) H3=>
aK (decide (s5.1.1<(x1.1.len:Int))) (
JOIN (fun(j6:(Unit)×(Unit)->Heap->Prop)=>
dw a0.p a0.len s5.1.1 11 fun b8 o9=>
LD (au .u8) H3 b8 (o9+2) fun(x10:Int)=>
aK (x10 !=4) (
dw a0.p a0.len s5.1.1 11 fun b11 o12=>
LD (au .i64) H3 b11 (o12+0) fun(x13:Int)=>
dw a0.p a0.len s5.1.1 11 fun b14 o15=>
LD (au .i64) H3 b14 (o15+1) fun(x16:Int)=>
dw x1.1.p x1.1.len s5.1.1 11 fun b17 o18=>
ST H3 b17 o18 [(.int .i64 x13),(.int .i64 x16),(.int .u8 5),(.int .i64 0),(.int .i64 0),(.int .i64 0),(.int .i64 0),(.int .i64 0),(.int .i64 0),(.int .i64 0),(.bool false)] fun H5=>
j6 ((()),(())) H5) (
JOIN (fun(j19:(Int×Unit)×(Unit)->Heap->Prop)=>
LOOP (fun(r21:(Int×Int×Unit)×(Unit)->Heap->Prop) (s22:(Int×Int×Unit)×(Unit)) H7=>
aK (decide (s22.1.2.1<(a0.len:Int))) (
JOIN (fun(j23:(Bool×Unit)×(Unit)->Heap->Prop)=>
dw a0.p a0.len s22.1.2.1 11 fun b25 o26=>
LD (au .u8) H7 b25 (o26+2) fun(x27:Int)=>
aK (x27==4) (
dw a0.p a0.len s22.1.2.1 11 fun b28 o29=>
LD (au .i64) H7 b28 (o29+3) fun(x30:Int)=>
dw a0.p a0.len s5.1.1 11 fun b31 o32=>
LD (au .i64) H7 b31 (o32+3) fun(x33:Int)=>
j23 ((decide (x30<x33),()),(())) H7) (
j23 ((false,()),(())) H7)) fun(y24:(Bool×Unit)×(Unit)) H8=>
JOIN (fun(j34:(Int×Unit)×(Unit)->Heap->Prop)=>
aK y24.1.1 (
j34 ((IntKind.wrap .i64 (s22.1.1+1),()),(())) H8) (
j34 ((s22.1.1,()),(())) H8)) fun(y35:(Int×Unit)×(Unit)) H9=>
r21 ((y35.1.1,IntKind.wrap .i64 (s22.1.2.1+1),()),(())) H9) (
j19 ((s22.1.1,()),(())) H7)) ((0,0,()),(())) H3) fun(y20:(Int×Unit)×(Unit)) H6=>
CALL P [(au .i64)] vY [(.int .i64 a1),(.int .i64 1000)] H6 fun(x36:Int×Unit) H10=>
dw x1.1.p x1.1.len s5.1.1 11 fun b37 o38=>
ST H10 b37 (o38+3) [(.int .i64 (IntKind.wrap .i64 (1+(IntKind.wrap .i64 (y20.1.1*(IntKind.wrap .i64 (1+x36.1)))))))] fun H11=>
dw x1.1.p x1.1.len s5.1.1 11 fun b39 o40=>
ST H11 b39 (o40+4) [(.int .i64 7)] fun H12=>
dw x1.1.p x1.1.len s5.1.1 11 fun b41 o42=>
ST H12 b41 (o42+9) [(.int .i64 0)] fun H13=>
dw a0.p a0.len s5.1.1 11 fun b43 o44=>
LD ah H13 b43 (o44+10) fun(x45:Bool)=>
dw x1.1.p x1.1.len s5.1.1 11 fun b46 o47=>
ST H13 b46 (o47+10) [(.bool (!x45))] fun H14=>
j6 ((()),(())) H14)) fun(y7:(Unit)×(Unit)) H4=>
r4 ((IntKind.wrap .i64 (s5.1.1+1),()),(())) H4) (
j2 ((()),(())) H3)) ((0,()),(())) H1) fun(y3:(Unit)×(Unit)) H2=>
Q (x1.1,()) H2
def JK:dL:=(.seq .leaf (.seq .leaf (.seq (.seq .leaf (.blk (some ⟨[],[],(rg 6 3 (rg 11 81 []))⟩) (.loop ⟨[(6,(au .i64))],[],(rg 7 2 (rg 11 81 []))⟩ (.seq .leaf (.seq (.blk (some ⟨[],[],(rg 7 2 (rg 17 75 []))⟩) (.seq .leaf (.seq .leaf (.seq (.seq .leaf (.blk (some ⟨[(7,(au .i64))],[],(rg 8 1 (rg 37 27 []))⟩) (.loop ⟨[(7,(au .i64)),(8,(au .i64))],[],(rg 37 27 [])⟩ (.seq .leaf (.seq (.blk none (.seq (.reg ⟨[(61,ah)],[],(rg 43 18 [])⟩) (.cond (some ⟨[(7,(au .i64))],[],[62,63]⟩) .leaf .leaf))) .leaf))))) .leaf)))) .leaf))))) .leaf)))
theorem JL(a0:Sl)(a1:Int)(H:Heap)(Q:Sl×Unit->Heap->Prop):qI a0 a1 H Q=fB C [] Tryz.f8.ntmps Tryz.f8.results.toList [aJ] (aP Tryz.f8) JK [a0.v,(.int .i64 a1)] H Q:=by kernel_rfl
theorem JM{a0:Sl}{a1:Int}{H:Heap}{Q:Sl×Unit->Heap->Prop}(h:qI a0 a1 H Q):CALL P [aJ] qw [a0.v,(.int .i64 a1)] H Q:=aB hE Tryz.func8 rfl (by kernel_rfl) (JL a0 a1 H Q) h
def Fa(a0:Option Addr)(a1:Sl)(H:Heap)(Q:Sl×Int×Unit->Heap->Prop):Prop:=
CALL P [aJ,(au .i64)] sW [(.pointer a0),a1.v,(.int .i64 6)] H fun(x1:Sl×Int×Unit) H1=>
Q (x1.1,x1.2.1,()) H1
def X5:dL:=.leaf
theorem X6(a0:Option Addr)(a1:Sl)(H:Heap)(Q:Sl×Int×Unit->Heap->Prop):Fa a0 a1 H Q=fB C [] Tryz.f9.ntmps Tryz.f9.results.toList [aJ,(au .i64)] (aP Tryz.f9) X5 [(.pointer a0),a1.v] H Q:=by kernel_rfl
theorem X7{a0:Option Addr}{a1:Sl}{H:Heap}{Q:Sl×Int×Unit->Heap->Prop}(h:Fa a0 a1 H Q):CALL P [aJ,(au .i64)] uZ [(.pointer a0),a1.v] H Q:=aB hE Tryz.func9 rfl (by kernel_rfl) (X6 a0 a1 H Q) h
def wG(a0:Option Addr)(a1:Sl)(H:Heap)(Q:Sl×Int×Unit->Heap->Prop):Prop:=
CALL P [uY,(au .i64)] rX [(.pointer a0),a1.v] H fun(x1:Value×Int×Unit) H1=>
aK (x1.2.1 !=0) (
Q ((Sl.mk none 0 0),x1.2.1,()) H1) (
JOIN (fun(j2:(Sl×Unit)×(Unit)->Heap->Prop)=>
LOOP (fun(r4:(Sl×Int×Unit)×(Unit)->Heap->Prop) (s5:(Sl×Int×Unit)×(Unit)) H3=>
aK (decide (s5.1.2.1<5)) (
WU P [aJ,aJ] x1.1 [] H3 fun(x6:Sl×Sl×Unit) H4=>
EW aJ (lenV s5.1.1.v+(oH x6.2.1.v).getD 0) (dM E [37,37] s5.1.1.v x6.2.1.v H4) fun(x7:Sl) H5=>
r4 ((x7,IntKind.wrap .i64 (s5.1.2.1+1),()),(())) H5) (
j2 ((s5.1.1,()),(())) H3)) (((Sl.mk none 0 0),0,()),(())) H1) fun(y3:(Sl×Unit)×(Unit)) H2=>
Q (y3.1.1,0,()) H2)
def PO:dL:=(.seq .leaf (.seq .leaf (.seq .leaf (.seq .leaf (.seq (.seq .leaf (.blk (some ⟨[(8,aJ)],[],(rg 9 2 (rg 20 11 []))⟩) (.loop ⟨[(8,aJ),(20,(au .i64))],[],(rg 9 2 (rg 21 10 []))⟩ .leaf))) .leaf)))))
theorem PS(a0:Option Addr)(a1:Sl)(H:Heap)(Q:Sl×Int×Unit->Heap->Prop):wG a0 a1 H Q=fB C [] Tryz.f10.ntmps Tryz.f10.results.toList [aJ,(au .i64)] (aP Tryz.f10) PO [(.pointer a0),a1.v] H Q:=by kernel_rfl
theorem PU{a0:Option Addr}{a1:Sl}{H:Heap}{Q:Sl×Int×Unit->Heap->Prop}(h:wG a0 a1 H Q):CALL P [aJ,(au .i64)] lI [(.pointer a0),a1.v] H Q:=aB hE Tryz.func10 rfl (by kernel_rfl) (PS a0 a1 H Q) h
def kR(a0:Sl)(a1:Sl)(H:Heap)(Q:Bool×Unit->Heap->Prop):Prop:=
aK ((a0.len:Int) !=(a1.len:Int)) (
Q (false,()) H) (
JOIN (fun(j1:(Unit)×(Unit)->Heap->Prop)=>
LOOP (fun(r3:(Int×Unit)×(Unit)->Heap->Prop) (s4:(Int×Unit)×(Unit)) H2=>
aK (decide (s4.1.1<(a0.len:Int))) (
dw a0.p a0.len s4.1.1 5 fun b5 o6=>
LD aO H2 b5 o6 fun(x7:aG)=>
dw a1.p a1.len s4.1.1 5 fun b8 o9=>
LD aO H2 b8 o9 fun(x10:aG)=>
aK (!((x7.Holder==x10.Holder)&&((x7.Suit==x10.Suit)&&((x7.Traits==x10.Traits)&&((x7.Power==x10.Power)&&((x7.Health==x10.Health)&&true)))))) (
Q (false,()) H2) (
r3 ((IntKind.wrap .i64 (s4.1.1+1),()),(())) H2)) (
j1 ((()),(())) H2)) ((0,()),(())) H) fun(y2:(Unit)×(Unit)) H1=>
Q (true,()) H1)
def BN:dL:=(.seq .leaf (.seq .leaf (.seq (.seq .leaf (.blk (some ⟨[],[],(rg 4 2 (rg 11 15 []))⟩) (.loop ⟨[(5,(au .i64))],[],(rg 4 1 (rg 11 15 []))⟩ .leaf))) .leaf)))
theorem BO(a0:Sl)(a1:Sl)(H:Heap)(Q:Bool×Unit->Heap->Prop):kR a0 a1 H Q=fB C [] Tryz.f11.ntmps Tryz.f11.results.toList [ah] (aP Tryz.f11) BN [a0.v,a1.v] H Q:=by kernel_rfl
theorem BQ{a0:Sl}{a1:Sl}{H:Heap}{Q:Bool×Unit->Heap->Prop}(h:kR a0 a1 H Q):CALL P [ah] kN [a0.v,a1.v] H Q:=aB hE Tryz.func11 rfl (by kernel_rfl) (BO a0 a1 H Q) h
def jS(a0:Sl)(a1:Sl)(H:Heap)(Q:Bool×Unit->Heap->Prop):Prop:=
aK ((a0.len:Int) !=(a1.len:Int)) (
Q (false,()) H) (
JOIN (fun(j1:(Unit)×(Unit)->Heap->Prop)=>
LOOP (fun(r3:(Int×Unit)×(Unit)->Heap->Prop) (s4:(Int×Unit)×(Unit)) H2=>
aK (decide (s4.1.1<(a0.len:Int))) (
dw a0.p a0.len s4.1.1 10 fun b5 o6=>
LD aH H2 b5 o6 fun(x7:aN)=>
dw a1.p a1.len s4.1.1 10 fun b8 o9=>
LD aH H2 b8 o9 fun(x10:aN)=>
aK (!((x7.Thing==x10.Thing)&&((x7.Place==x10.Place)&&(((x7.What.When==x10.What.When)&&((x7.What.Verb==x10.What.Verb)&&((x7.What.Whom==x10.What.Whom)&&((x7.What.Count==x10.What.Count)&&((x7.What.Suit==x10.What.Suit)&&((x7.What.Trait==x10.What.Trait)&&((x7.What.Mark==x10.What.Mark)&&((x7.What.Name.toList==x10.What.Name.toList)&&true))))))))&&true)))) (
Q (false,()) H2) (
r3 ((IntKind.wrap .i64 (s4.1.1+1),()),(())) H2)) (
j1 ((()),(())) H2)) ((0,()),(())) H) fun(y2:(Unit)×(Unit)) H1=>
Q (true,()) H1)
def zZ:dL:=(.seq .leaf (.seq .leaf (.seq (.seq .leaf (.blk (some ⟨[],[],(rg 4 2 (rg 11 15 []))⟩) (.loop ⟨[(5,(au .i64))],[],(rg 4 1 (rg 11 15 []))⟩ .leaf))) .leaf)))
theorem Aa(a0:Sl)(a1:Sl)(H:Heap)(Q:Bool×Unit->Heap->Prop):jS a0 a1 H Q=fB C [] Tryz.f12.ntmps Tryz.f12.results.toList [ah] (aP Tryz.f12) zZ [a0.v,a1.v] H Q:=by kernel_rfl
theorem Ac{a0:Sl}{a1:Sl}{H:Heap}{Q:Bool×Unit->Heap->Prop}(h:jS a0 a1 H Q):CALL P [ah] jM [a0.v,a1.v] H Q:=aB hE Tryz.func12 rfl (by kernel_rfl) (Aa a0 a1 H Q) h
def BU(a0:Int)(a1:Int)(H:Heap)(Q:Int×Unit->Heap->Prop):Prop:=
aK (decide (a1<1)) (
Q (0,()) H) (
vT (a1≠0) (
JOIN (fun(j1:(Int×Unit)×(Unit)->Heap->Prop)=>
aK (decide ((Int.tmod a0 a1)<0)) (
j1 ((IntKind.wrap .i64 ((Int.tmod a0 a1)+a1),()),(())) H) (
j1 ((Int.tmod a0 a1,()),(())) H)) fun(y2:(Int×Unit)×(Unit)) H1=>
Q (y2.1.1,()) H1))
def Vt:dL:=(.seq .leaf (.seq .leaf (.seq .leaf (.seq (.seq .leaf (.cond (some ⟨[(0,(au .i64))],[],[12,13,14]⟩) .leaf .leaf)) .leaf))))
theorem Vu(a0:Int)(a1:Int)(H:Heap)(Q:Int×Unit->Heap->Prop):BU a0 a1 H Q=fB C [] Tryz.f13.ntmps Tryz.f13.results.toList [(au .i64)] (aP Tryz.f13) Vt [(.int .i64 a0),(.int .i64 a1)] H Q:=by kernel_rfl
theorem Vw{a0:Int}{a1:Int}{H:Heap}{Q:Int×Unit->Heap->Prop}(h:BU a0 a1 H Q):CALL P [(au .i64)] vY [(.int .i64 a0),(.int .i64 a1)] H Q:=aB hE Tryz.func13 rfl (by kernel_rfl) (Vu a0 a1 H Q) h
def tZ(a0:bM)(a1:Sl)(H:Heap)(Q:Bool×Unit->Heap->Prop):Prop:=
JOIN (fun(j1:(Bool×Unit)×(Unit)->Heap->Prop)=>
aK (decide ((a0.Cards.len:Int)>70)) (
j1 ((true,()),(())) H) (
aK (decide ((a0.Marks.len:Int)>40)) (
j1 ((true,()),(())) H) (
aK (decide ((a1.len:Int)>60)) (
j1 ((decide ((a1.len:Int)≤2048),()),(())) H) (
j1 ((false,()),(())) H)))) fun(y2:(Bool×Unit)×(Unit)) H1=>
Q (y2.1.1,()) H1
def MF:dL:=(.seq .leaf (.seq (.reg ⟨[(4,ah)],[],(rg 5 20 [])⟩) .leaf))
theorem MG(a0:bM)(a1:Sl)(H:Heap)(Q:Bool×Unit->Heap->Prop):tZ a0 a1 H Q=fB C [2] Tryz.f14.ntmps Tryz.f14.results.toList [ah] (aP Tryz.f14) MF [(bC.enc a0),a1.v] H Q:=by kernel_rfl
theorem MH{a0:bM}{a1:Sl}{H:Heap}{Q:Bool×Unit->Heap->Prop}(h:tZ a0 a1 H Q):CALL P [ah] sV [(bC.enc a0),a1.v] H Q:=aB hE Tryz.func14 rfl (by kernel_rfl) (MG a0 a1 H Q) h
def yN(a0:bM)(H:Heap)(Q:(Option Addr)×(Option Addr)×Bool×Unit->Heap->Prop):Prop:=
CALL P [dJ] BL [] H fun(x1:(Option Addr)×Unit) H1=>
CALL P [dJ] yG [] H1 fun(x2:(Option Addr)×Unit) H2=>
JOIN (fun(j3:(Unit)×(Unit)->Heap->Prop)=>
LOOP (fun(r5:(Int×Unit)×(Unit)->Heap->Prop) (s6:(Int×Unit)×(Unit)) H4=>
aK (decide (s6.1.1<(a0.Cards.len:Int))) (
dw a0.Cards.p a0.Cards.len s6.1.1 9 fun b7 o8=>
LD aA H4 b7 o8 fun(x9:ay)=>
dw a0.Cards.p a0.Cards.len s6.1.1 9 fun b10 o11=>
LD aA H4 b10 o11 fun(x12:ay)=>
CALL P [aA] lJ [(aA.enc x9)] H4 fun(x13:ay×Unit) H5=>
vT ((some (.slice a0.Cards.p a0.Cards.len a0.Cards.cap):Option Value)=some (.slice a0.Cards.p a0.Cards.len a0.Cards.cap)) (
LD aA H5 b10 o11 fun(x14:ay)=>
vT (aA.enc x14=(aA.enc x12)) (
CALL P [(au .i64)] mW [(.pointer x1.1),(aA.enc x13.1)] H5 fun(x15:Int×Unit) H6=>
vT ((some (.slice a0.Cards.p a0.Cards.len a0.Cards.cap):Option Value)=some (.slice a0.Cards.p a0.Cards.len a0.Cards.cap)) (
LD aA H6 b10 o11 fun(x16:ay)=>
vT (aA.enc x16=(aA.enc x12)) (
CALL P [aA] lJ [(aA.enc x12)] H6 fun(x17:ay×Unit) H7=>
CALL P [(au .i64)] lK [(.pointer x2.1),(aA.enc x17.1)] H7 fun(x18:Int×Unit) H8=>
aK (x15.1 !=x18.1) (
Q (x1.1,x2.1,false,()) H8) (
r5 ((IntKind.wrap .i64 (s6.1.1+1),()),(())) H8)))))) (
j3 ((()),(())) H4)) ((0,()),(())) H2) fun(y4:(Unit)×(Unit)) H3=>
JOIN (fun(j19:(Unit)×(Unit)->Heap->Prop)=>
LOOP (fun(r21:(Int×Unit)×(Unit)->Heap->Prop) (s22:(Int×Unit)×(Unit)) H10=>
aK (decide (s22.1.1<(a0.Marks.len:Int))) (
dw a0.Marks.p a0.Marks.len s22.1.1 4 fun b23 o24=>
LD aQ H10 b23 o24 fun(x25:ak)=>
dw a0.Marks.p a0.Marks.len s22.1.1 4 fun b26 o27=>
LD aQ H10 b26 o27 fun(x28:ak)=>
CALL P [(au .i64)] mX [(.pointer x1.1),(aQ.enc x25)] H10 fun(x29:Int×Unit) H11=>
vT ((some (.slice a0.Marks.p a0.Marks.len a0.Marks.cap):Option Value)=some (.slice a0.Marks.p a0.Marks.len a0.Marks.cap)) (
LD aQ H11 b26 o27 fun(x30:ak)=>
vT (aQ.enc x30=(aQ.enc x28)) (
CALL P [(au .i64)] lM [(.pointer x2.1),(aQ.enc x28)] H11 fun(x31:Int×Unit) H12=>
aK (x29.1 !=x31.1) (
Q (x1.1,x2.1,false,()) H12) (
r21 ((IntKind.wrap .i64 (s22.1.1+1),()),(())) H12)))) (
j19 ((()),(())) H10)) ((0,()),(())) H3) fun(y20:(Unit)×(Unit)) H9=>
JOIN (fun(j32:(Bool×Unit)×(Unit)->Heap->Prop)=>
aK (!a0.Open) (
CALL P [(au .i64)] mY [(.pointer x1.1)] H9 fun(x34:Int×Unit) H14=>
CALL P [(au .i64)] lN [(.pointer x2.1)] H14 fun(x35:Int×Unit) H15=>
j32 ((x34.1 !=x35.1,()),(())) H15) (
j32 ((false,()),(())) H9)) fun(y33:(Bool×Unit)×(Unit)) H13=>
aK y33.1.1 (
Q (x1.1,x2.1,false,()) H13) (
CALL P [ah] iL [(.pointer x1.1)] H13 fun(x36:Bool×Unit) H16=>
CALL P [ah] jO [(.pointer x2.1)] H16 fun(x37:Bool×Unit) H17=>
Q (x1.1,x2.1,(x36.1==x37.1),()) H17)
def Tc:dL:=(.seq .leaf (.seq .leaf (.seq (.seq .leaf (.blk (some ⟨[],[],(rg 2 3 (rg 7 1 (rg 11 26 [])))⟩) (.loop ⟨[(7,(au .i64))],[],(rg 2 3 (rg 11 26 []))⟩ .leaf))) (.seq (.seq .leaf (.blk (some ⟨[],[],(rg 2 3 (rg 8 1 (rg 37 24 [])))⟩) (.loop ⟨[(8,(au .i64))],[],(rg 2 3 (rg 37 24 []))⟩ .leaf))) (.seq (.seq (.reg ⟨[(70,ah)],[],(rg 61 9 [])⟩) .leaf) .leaf)))))
theorem Td(a0:bM)(H:Heap)(Q:(Option Addr)×(Option Addr)×Bool×Unit->Heap->Prop):yN a0 H Q=fB C [1] Tryz.f15.ntmps Tryz.f15.results.toList [dJ,dJ,ah] (aP Tryz.f15) Tc [(bC.enc a0)] H Q:=by kernel_rfl
theorem Tf{a0:bM}{H:Heap}{Q:(Option Addr)×(Option Addr)×Bool×Unit->Heap->Prop}(h:yN a0 H Q):CALL P [dJ,dJ,ah] yF [(bC.enc a0)] H Q:=aB hE Tryz.func15 rfl (by kernel_rfl) (Td a0 H Q) h
def uf(a0:Option Addr)(a1:Sl)(a2:Int)(H:Heap)(Q:Sl×Int×Unit->Heap->Prop):Prop:=
CALL P [uY,(au .i64)] rX [(.pointer a0),a1.v] H fun(x1:Value×Int×Unit) H1=>
aK (x1.2.1 !=0) (
Q ((Sl.mk none 0 0),x1.2.1,()) H1) (
JOIN (fun(j2:(Bool×Unit)×(Unit)->Heap->Prop)=>
aK (decide (a2<0)) (
j2 ((true,()),(())) H1) (
j2 ((decide (a2>6),()),(())) H1)) fun(y3:(Bool×Unit)×(Unit)) H2=>
aK y3.1.1 (
Q ((Sl.mk none 0 0),2,()) H2) (
WU P [aJ,aJ] x1.1 [] H2 fun(x4:Sl×Sl×Unit) H3=>
JOIN (fun(j5:(Sl×Unit)×(Unit)->Heap->Prop)=>
LOOP (fun(r7:(Sl×Int×Unit)×(Unit)->Heap->Prop) (s8:(Sl×Int×Unit)×(Unit)) H5=>
aK (decide (s8.1.2.1<a2)) (
WU P [aJ,aJ] x1.1 [] H5 fun(x9:Sl×Sl×Unit) H6=>
r7 ((x9.1,IntKind.wrap .i64 (s8.1.2.1+1),()),(())) H6) (
j5 ((s8.1.1,()),(())) H5)) ((x4.1,0,()),(())) H3) fun(y6:(Sl×Unit)×(Unit)) H4=>
NEW H4 [] 5 fun H7=>
EW aJ (lenV ((Sl.mk (some ⟨H4.length,0,none⟩) 0 0)).v+(oH y6.1.1.v).getD 0) (dM E [30,30] ((Sl.mk (some ⟨H4.length,0,none⟩) 0 0)).v y6.1.1.v H7) fun(x10:Sl) H8=>
Q (x10,0,()) H8))
def MI:dL:=(.seq .leaf (.seq .leaf (.seq .leaf (.seq (.seq (.reg ⟨[(26,ah)],[],(rg 21 5 [])⟩) .leaf) (.seq .leaf (.seq (.seq .leaf (.blk (some ⟨[(10,aJ)],[],(rg 33 8 [])⟩) (.loop ⟨[(10,aJ),(33,(au .i64))],[],(rg 34 7 [])⟩ .leaf))) .leaf))))))
theorem MJ(a0:Option Addr)(a1:Sl)(a2:Int)(H:Heap)(Q:Sl×Int×Unit->Heap->Prop):uf a0 a1 a2 H Q=fB C [] Tryz.f17.ntmps Tryz.f17.results.toList [aJ,(au .i64)] (aP Tryz.f17) MI [(.pointer a0),a1.v,(.int .i64 a2)] H Q:=by kernel_rfl
theorem MK{a0:Option Addr}{a1:Sl}{a2:Int}{H:Heap}{Q:Sl×Int×Unit->Heap->Prop}(h:uf a0 a1 a2 H Q):CALL P [aJ,(au .i64)] sW [(.pointer a0),a1.v,(.int .i64 a2)] H Q:=aB hE Tryz.func17 rfl (by kernel_rfl) (MJ a0 a1 a2 H Q) h
def oV(a0:Option Addr)(a1:bn)(H:Heap)(Q:aG×Int×Unit->Heap->Prop):Prop:=
CALL P [aA,(au .i64)] pW [(.pointer a0),(aV.enc a1)] H fun(x1:ay×Int×Unit) H1=>
aK (x1.2.1 !=0) (
Q ((aG.mk 0 0 0 0 0),x1.2.1,()) H1) (
JOIN (fun(j2:(Bool×Unit)×(Unit)->Heap->Prop)=>
aK (a1.Owner !=0) (
j2 ((a1.Owner !=1,()),(())) H1) (
j2 ((false,()),(())) H1)) fun(y3:(Bool×Unit)×(Unit)) H2=>
aK y3.1.1 (
Q ((aG.mk 0 0 0 0 0),2,()) H2) (
Q ((aG.mk a1.Owner x1.1.Suit x1.1.Traits x1.1.Power x1.1.Health),0,()) H2))
def G7:dL:=(.seq .leaf (.seq .leaf (.seq (.blk none (.seq .leaf (.cond none .leaf (.seq (.reg ⟨[(19,ah)],[],(rg 20 8 [])⟩) .leaf)))) .leaf)))
theorem G8(a0:Option Addr)(a1:bn)(H:Heap)(Q:aG×Int×Unit->Heap->Prop):oV a0 a1 H Q=fB C [3,4,6] Tryz.f30.ntmps Tryz.f30.results.toList [aO,(au .i64)] (aP Tryz.f30) G7 [(.pointer a0),(aV.enc a1)] H Q:=by kernel_rfl
theorem G9{a0:Option Addr}{a1:bn}{H:Heap}{Q:aG×Int×Unit->Heap->Prop}(h:oV a0 a1 H Q):CALL P [aO,(au .i64)] oK [(.pointer a0),(aV.enc a1)] H Q:=aB hE Tryz.func30 rfl (by kernel_rfl) (G8 a0 a1 H Q) h
def qJ(a0:Option Addr)(a1:aG)(a2:Int×Int×Int×Int)(H:Heap)(Q:aG×Int×Unit->Heap->Prop):Prop:=
CALL P [(au .i64),(au .i64)] jJ [(.pointer a0),(.string (ByteArray.mk #[]))] H fun(x1:Int×Int×Unit) H1=>
aK (x1.2.1==1) (
Q ((aG.mk 0 0 0 0 0),x1.2.1,()) H1) (
JOIN (fun(j2:(Unit)×(aG×Unit)->Heap->Prop)=>
LOOP (fun(r4:(Int×Unit)×(aG×Unit)->Heap->Prop) (s5:(Int×Unit)×(aG×Unit)) H3=>
aK (decide (s5.1.1<4)) (
dW (au .i64) (dF E 44 (.agg #[(.int .i64 a2.1),(.int .i64 a2.2.1),(.int .i64 a2.2.2.1),(.int .i64 a2.2.2.2)]) (.int .i64 s5.1.1)) fun(x6:Int)=>
JOIN (fun(j7:(Bool×Unit)×(Unit)->Heap->Prop)=>
aK (decide (x6<0)) (
j7 ((true,()),(())) H3) (
j7 ((decide (x6>99),()),(())) H3)) fun(y8:(Bool×Unit)×(Unit)) H4=>
aK y8.1.1 (
Q ((aG.mk 0 0 0 0 0),2,()) H4) (
r4 ((IntKind.wrap .i64 (s5.1.1+1),()),(s5.2.1,())) H4)) (
j2 ((()),(s5.2.1,())) H3)) ((0,()),((aG.mk 0 0 0 0 0),())) H1) fun(y3:(Unit)×(aG×Unit)) H2=>
JOIN (fun(j9:(Unit)×(aG×Unit)->Heap->Prop)=>
LOOP (fun(r11:(Int×Unit)×(aG×Unit)->Heap->Prop) (s12:(Int×Unit)×(aG×Unit)) H6=>
aK (decide (s12.1.1<4)) (
dW (au .i64) (dF E 44 (.agg #[(.int .i64 a2.1),(.int .i64 a2.2.1),(.int .i64 a2.2.2.1),(.int .i64 a2.2.2.2)]) (.int .i64 s12.1.1)) fun(x13:Int)=>
CALL P [aQ,ah] kP [(.pointer a0),(.int .u8 (IntKind.wrap .u8 (IntKind.wrap .i64 (s12.1.1+1))))] H6 fun(x14:ak×Bool×Unit) H7=>
JOIN (fun(j15:(Unit)×(aG×Unit)->Heap->Prop)=>
aK x14.2.1 (
j15 ((()),((aG.mk s12.2.1.Holder s12.2.1.Suit s12.2.1.Traits (IntKind.wrap .i64 (s12.2.1.Power+(IntKind.wrap .i64 (x13*x14.1.Power)))) (IntKind.wrap .i64 (s12.2.1.Health+(IntKind.wrap .i64 (x13*x14.1.Health))))),())) H7) (
j15 ((()),(s12.2.1,())) H7)) fun(y16:(Unit)×(aG×Unit)) H8=>
r11 ((IntKind.wrap .i64 (s12.1.1+1),()),(y16.2.1,())) H8) (
j9 ((()),(s12.2.1,())) H6)) ((0,()),(a1,())) H2) fun(y10:(Unit)×(aG×Unit)) H5=>
Q ((aG.mk y10.2.1.Holder y10.2.1.Suit y10.2.1.Traits (if 0>y10.2.1.Power then 0 else y10.2.1.Power) y10.2.1.Health),0,()) H5)
def JO:dL:=(.seq .leaf (.seq .leaf (.seq (.seq .leaf (.blk (some ⟨[],[(2,aO)],(rg 7 1 (rg 11 1 (rg 26 11 [])))⟩) (.loop ⟨[(26,(au .i64))],[(2,aO)],(rg 7 1 (rg 11 1 (rg 27 10 [])))⟩ (.seq .leaf (.seq .leaf (.seq (.blk none (.seq .leaf (.seq (.reg ⟨[(34,ah)],[],(rg 29 5 [])⟩) .leaf))) .leaf)))))) (.seq (.seq .leaf (.blk (some ⟨[],[(0,aO)],(rg 12 4 (rg 38 30 []))⟩) (.loop ⟨[(38,(au .i64))],[(0,aO)],(rg 12 4 (rg 39 29 []))⟩ (.seq .leaf (.seq .leaf (.seq (.blk none (.seq .leaf (.seq .leaf (.seq .leaf (.cond (some ⟨[],[(0,aO)],(rg 51 16 [])⟩) .leaf .leaf))))) .leaf)))))) .leaf))))
theorem JQ(a0:Option Addr)(a1:aG)(a2:Int×Int×Int×Int)(H:Heap)(Q:aG×Int×Unit->Heap->Prop):qJ a0 a1 a2 H Q=fB C [4,5,6,14] Tryz.f31.ntmps Tryz.f31.results.toList [aO,(au .i64)] (aP Tryz.f31) JO [(.pointer a0),(aO.enc a1),(iG.enc a2)] H Q:=by kernel_rfl
theorem JR{a0:Option Addr}{a1:aG}{a2:Int×Int×Int×Int}{H:Heap}{Q:aG×Int×Unit->Heap->Prop}(h:qJ a0 a1 a2 H Q):CALL P [aO,(au .i64)] qx [(.pointer a0),(aO.enc a1),(iG.enc a2)] H Q:=aB hE Tryz.func31 rfl (by kernel_rfl) (JQ a0 a1 a2 H Q) h
def mZ(a0:Sl)(H:Heap)(Q:Sl×Unit->Heap->Prop):Prop:=
EW aJ (lenV ((Sl.mk none 0 0)).v+(oH a0.v).getD 0) (dM E [26,26] ((Sl.mk none 0 0)).v a0.v H) fun(x1:Sl) H1=>
Q (x1,()) H1
def Fb:dL:=.leaf
theorem Fe(a0:Sl)(H:Heap)(Q:Sl×Unit->Heap->Prop):mZ a0 H Q=fB C [] Tryz.f33.ntmps Tryz.f33.results.toList [aJ] (aP Tryz.f33) Fb [a0.v] H Q:=by kernel_rfl
theorem Fg{a0:Sl}{H:Heap}{Q:Sl×Unit->Heap->Prop}(h:mZ a0 H Q):CALL P [aJ] mV [a0.v] H Q:=aB hE Tryz.func33 rfl (by kernel_rfl) (Fe a0 H Q) h
def yO(a0:Option Addr)(a1:Sl)(H:Heap)(Q:Value×Int×Unit->Heap->Prop):Prop:=
NEW H [(.pointer a0)] 1 fun H1=>
NEW H1 [(.slice a1.p a1.len a1.cap)] 1 fun H2=>
LD dJ H2 H.length 0 fun(x1:Option Addr)=>
LD aJ H2 H1.length 0 fun(x2:Sl)=>
CALL P [aJ,(au .i64)] qy [(.pointer x1),x2.v] H2 fun(x3:Sl×Int×Unit) H3=>
NEW H3 [(.slice none 0 0)] 1 fun H4=>
ST H4 H3.length 0 [(.slice x3.1.p x3.1.len x3.1.cap)] fun H5=>
NEW H5 [(.int .i64 0)] 1 fun H6=>
ST H6 H5.length 0 [(.int .i64 0)] fun H7=>
Q ((.func (.func jc) #[] #[(.pointer (some ⟨H5.length,0,none⟩)),(.pointer (some ⟨H3.length,0,none⟩)),(.pointer (some ⟨H.length,0,none⟩)),(.pointer (some ⟨H1.length,0,none⟩))]),x3.2.1,()) H7
def Ti:dL:=.leaf
theorem Tj(a0:Option Addr)(a1:Sl)(H:Heap)(Q:Value×Int×Unit->Heap->Prop):yO a0 a1 H Q=fB C [] Tryz.f34.ntmps Tryz.f34.results.toList [uY,(au .i64)] (aP Tryz.f34) Ti [(.pointer a0),a1.v] H Q:=by kernel_rfl
theorem Tm{a0:Option Addr}{a1:Sl}{H:Heap}{Q:Value×Int×Unit->Heap->Prop}(h:yO a0 a1 H Q):CALL P [uY,(au .i64)] rX [(.pointer a0),a1.v] H Q:=aB hE Tryz.func34 rfl (by kernel_rfl) (Tj a0 a1 H Q) h
def BX(H:Heap)(Q:(Option Addr)×Unit->Heap->Prop):Prop:=
NEW H [(.bool true),(.bool false),(.int .i64 0),(.string (ByteArray.mk #[])),(.int .u8 0),(.int .u8 0),(.int .i64 0),(.int .i64 0),(.int .i64 0),(.int .u16 0),(.bool false),(.slice none 0 0),(.string (ByteArray.mk #[])),(.int .u8 0),(.int .u8 0),(.int .i64 0),(.int .i64 0),(.int .i64 0),(.int .u16 0),(.bool false),(.slice none 0 0),(.string (ByteArray.mk #[])),(.int .u8 0),(.int .u8 0),(.int .i64 0),(.int .i64 0),(.int .i64 0),(.int .u16 0),(.bool false),(.slice none 0 0),(.string (ByteArray.mk #[])),(.int .u8 0),(.int .u8 0),(.int .i64 0),(.int .i64 0),(.int .i64 0),(.int .u16 0),(.bool false),(.slice none 0 0),(.string (ByteArray.mk #[])),(.int .u8 0),(.int .u8 0),(.int .i64 0),(.int .i64 0),(.int .i64 0),(.int .u16 0),(.bool false),(.slice none 0 0),(.string (ByteArray.mk #[])),(.int .u8 0),(.int .u8 0),(.int .i64 0),(.int .i64 0),(.int .i64 0),(.int .u16 0),(.bool false),(.slice none 0 0),(.string (ByteArray.mk #[])),(.int .u8 0),(.int .u8 0),(.int .i64 0),(.int .i64 0),(.int .i64 0),(.int .u16 0),(.bool false),(.slice none 0 0),(.string (ByteArray.mk #[])),(.int .u8 0),(.int .u8 0),(.int .i64 0),(.int .i64 0),(.int .i64 0),(.int .u16 0),(.bool false),(.slice none 0 0),(.string (ByteArray.mk #[])),(.int .u8 0),(.int .u8 0),(.int .i64 0),(.int .i64 0),(.int .i64 0),(.int .u16 0),(.bool false),(.slice none 0 0),(.string (ByteArray.mk #[])),(.int .u8 0),(.int .u8 0),(.int .i64 0),(.int .i64 0),(.int .i64 0),(.int .u16 0),(.bool false),(.slice none 0 0),(.string (ByteArray.mk #[])),(.int .u8 0),(.int .u8 0),(.int .i64 0),(.int .i64 0),(.int .i64 0),(.int .u16 0),(.bool false),(.slice none 0 0),(.string (ByteArray.mk #[])),(.int .u8 0),(.int .u8 0),(.int .i64 0),(.int .i64 0),(.int .i64 0),(.int .u16 0),(.bool false),(.slice none 0 0),(.string (ByteArray.mk #[])),(.int .u8 0),(.int .u8 0),(.int .i64 0),(.int .i64 0),(.int .i64 0),(.int .u16 0),(.bool false),(.slice none 0 0),(.string (ByteArray.mk #[])),(.int .u8 0),(.int .u8 0),(.int .i64 0),(.int .i64 0),(.int .i64 0),(.int .u16 0),(.bool false),(.slice none 0 0),(.string (ByteArray.mk #[])),(.int .u8 0),(.int .u8 0),(.int .i64 0),(.int .i64 0),(.int .i64 0),(.int .u16 0),(.bool false),(.slice none 0 0),(.string (ByteArray.mk #[])),(.int .u8 0),(.int .u8 0),(.int .i64 0),(.int .i64 0),(.int .i64 0),(.int .u16 0),(.bool false),(.slice none 0 0),(.string (ByteArray.mk #[])),(.int .u8 0),(.int .u8 0),(.int .i64 0),(.int .i64 0),(.int .i64 0),(.int .u16 0),(.bool false),(.slice none 0 0),(.string (ByteArray.mk #[])),(.int .u8 0),(.int .u8 0),(.int .i64 0),(.int .i64 0),(.int .i64 0),(.int .u16 0),(.bool false),(.slice none 0 0),(.string (ByteArray.mk #[])),(.int .u8 0),(.int .u8 0),(.int .i64 0),(.int .i64 0),(.int .i64 0),(.int .u16 0),(.bool false),(.slice none 0 0),(.string (ByteArray.mk #[])),(.int .u8 0),(.int .u8 0),(.int .i64 0),(.int .i64 0),(.int .i64 0),(.int .u16 0),(.bool false),(.slice none 0 0),(.string (ByteArray.mk #[])),(.int .u8 0),(.int .u8 0),(.int .i64 0),(.int .i64 0),(.int .i64 0),(.int .u16 0),(.bool false),(.slice none 0 0),(.string (ByteArray.mk #[])),(.int .u8 0),(.int .u8 0),(.int .i64 0),(.int .i64 0),(.int .i64 0),(.int .u16 0),(.bool false),(.slice none 0 0),(.string (ByteArray.mk #[])),(.int .u8 0),(.int .u8 0),(.int .i64 0),(.int .i64 0),(.int .i64 0),(.int .u16 0),(.bool false),(.slice none 0 0),(.string (ByteArray.mk #[])),(.int .u8 0),(.int .u8 0),(.int .i64 0),(.int .i64 0),(.int .i64 0),(.int .u16 0),(.bool false),(.slice none 0 0),(.string (ByteArray.mk #[])),(.int .u8 0),(.int .u8 0),(.int .i64 0),(.int .i64 0),(.int .i64 0),(.int .u16 0),(.bool false),(.slice none 0 0),(.string (ByteArray.mk #[])),(.int .u8 0),(.int .u8 0),(.int .i64 0),(.int .i64 0),(.int .i64 0),(.int .u16 0),(.bool false),(.slice none 0 0),(.string (ByteArray.mk #[])),(.int .u8 0),(.int .u8 0),(.int .i64 0),(.int .i64 0),(.int .i64 0),(.int .u16 0),(.bool false),(.slice none 0 0),(.string (ByteArray.mk #[])),(.int .u8 0),(.int .u8 0),(.int .i64 0),(.int .i64 0),(.int .i64 0),(.int .u16 0),(.bool false),(.slice none 0 0),(.string (ByteArray.mk #[])),(.int .u8 0),(.int .u8 0),(.int .i64 0),(.int .i64 0),(.int .i64 0),(.int .u16 0),(.bool false),(.slice none 0 0),(.string (ByteArray.mk #[])),(.int .u8 0),(.int .u8 0),(.int .i64 0),(.int .i64 0),(.int .i64 0),(.int .u16 0),(.bool false),(.slice none 0 0),(.string (ByteArray.mk #[])),(.int .u8 0),(.int .u8 0),(.int .i64 0),(.int .i64 0),(.int .i64 0),(.int .u16 0),(.bool false),(.slice none 0 0),(.string (ByteArray.mk #[])),(.int .u8 0),(.int .u8 0),(.int .i64 0),(.int .i64 0),(.int .i64 0),(.int .u16 0),(.bool false),(.slice none 0 0),(.string (ByteArray.mk #[])),(.int .u8 0),(.int .u8 0),(.int .i64 0),(.int .i64 0),(.int .i64 0),(.int .u16 0),(.bool false),(.slice none 0 0),(.string (ByteArray.mk #[])),(.int .u8 0),(.int .u8 0),(.int .i64 0),(.int .i64 0),(.int .i64 0),(.int .u16 0),(.bool false),(.slice none 0 0),(.string (ByteArray.mk #[])),(.int .u8 0),(.int .u8 0),(.int .i64 0),(.int .i64 0),(.int .i64 0),(.int .u16 0),(.bool false),(.slice none 0 0),(.string (ByteArray.mk #[])),(.int .u8 0),(.int .u8 0),(.int .i64 0),(.int .i64 0),(.int .i64 0),(.int .u16 0),(.bool false),(.slice none 0 0),(.string (ByteArray.mk #[])),(.int .u8 0),(.int .u8 0),(.int .i64 0),(.int .i64 0),(.int .i64 0),(.int .u16 0),(.bool false),(.slice none 0 0),(.string (ByteArray.mk #[])),(.int .u8 0),(.int .u8 0),(.int .i64 0),(.int .i64 0),(.int .i64 0),(.int .u16 0),(.bool false),(.slice none 0 0),(.string (ByteArray.mk #[])),(.int .u8 0),(.int .u8 0),(.int .i64 0),(.int .i64 0),(.int .i64 0),(.int .u16 0),(.bool false),(.slice none 0 0),(.string (ByteArray.mk #[])),(.int .u8 0),(.int .u8 0),(.int .i64 0),(.int .i64 0),(.int .i64 0),(.int .u16 0),(.bool false),(.slice none 0 0),(.string (ByteArray.mk #[])),(.int .u8 0),(.int .u8 0),(.int .i64 0),(.int .i64 0),(.int .i64 0),(.int .u16 0),(.bool false),(.slice none 0 0),(.string (ByteArray.mk #[])),(.int .u8 0),(.int .u8 0),(.int .i64 0),(.int .i64 0),(.int .i64 0),(.int .u16 0),(.bool false),(.slice none 0 0),(.string (ByteArray.mk #[])),(.int .u8 0),(.int .u8 0),(.int .i64 0),(.int .i64 0),(.int .i64 0),(.int .u16 0),(.bool false),(.slice none 0 0),(.string (ByteArray.mk #[])),(.int .u8 0),(.int .u8 0),(.int .i64 0),(.int .i64 0),(.int .i64 0),(.int .u16 0),(.bool false),(.slice none 0 0),(.string (ByteArray.mk #[])),(.int .u8 0),(.int .u8 0),(.int .i64 0),(.int .i64 0),(.int .i64 0),(.int .u16 0),(.bool false),(.slice none 0 0),(.string (ByteArray.mk #[])),(.int .u8 0),(.int .u8 0),(.int .i64 0),(.int .i64 0),(.int .i64 0),(.int .u16 0),(.bool false),(.slice none 0 0),(.string (ByteArray.mk #[])),(.int .u8 0),(.int .u8 0),(.int .i64 0),(.int .i64 0),(.int .i64 0),(.int .u16 0),(.bool false),(.slice none 0 0),(.string (ByteArray.mk #[])),(.int .u8 0),(.int .u8 0),(.int .i64 0),(.int .i64 0),(.int .i64 0),(.int .u16 0),(.bool false),(.slice none 0 0),(.string (ByteArray.mk #[])),(.int .u8 0),(.int .u8 0),(.int .i64 0),(.int .i64 0),(.int .i64 0),(.int .u16 0),(.bool false),(.slice none 0 0),(.string (ByteArray.mk #[])),(.int .u8 0),(.int .u8 0),(.int .i64 0),(.int .i64 0),(.int .i64 0),(.int .u16 0),(.bool false),(.slice none 0 0),(.string (ByteArray.mk #[])),(.int .u8 0),(.int .u8 0),(.int .i64 0),(.int .i64 0),(.int .i64 0),(.int .u16 0),(.bool false),(.slice none 0 0),(.string (ByteArray.mk #[])),(.int .u8 0),(.int .u8 0),(.int .i64 0),(.int .i64 0),(.int .i64 0),(.int .u16 0),(.bool false),(.slice none 0 0),(.string (ByteArray.mk #[])),(.int .u8 0),(.int .u8 0),(.int .i64 0),(.int .i64 0),(.int .i64 0),(.int .u16 0),(.bool false),(.slice none 0 0),(.string (ByteArray.mk #[])),(.int .u8 0),(.int .u8 0),(.int .i64 0),(.int .i64 0),(.int .i64 0),(.int .u16 0),(.bool false),(.slice none 0 0),(.string (ByteArray.mk #[])),(.int .u8 0),(.int .u8 0),(.int .i64 0),(.int .i64 0),(.int .i64 0),(.int .u16 0),(.bool false),(.slice none 0 0),(.string (ByteArray.mk #[])),(.int .u8 0),(.int .u8 0),(.int .i64 0),(.int .i64 0),(.int .i64 0),(.int .u16 0),(.bool false),(.slice none 0 0),(.string (ByteArray.mk #[])),(.int .u8 0),(.int .u8 0),(.int .i64 0),(.int .i64 0),(.int .i64 0),(.int .u16 0),(.bool false),(.slice none 0 0),(.string (ByteArray.mk #[])),(.int .u8 0),(.int .u8 0),(.int .i64 0),(.int .i64 0),(.int .i64 0),(.int .u16 0),(.bool false),(.slice none 0 0),(.string (ByteArray.mk #[])),(.int .u8 0),(.int .u8 0),(.int .i64 0),(.int .i64 0),(.int .i64 0),(.int .u16 0),(.bool false),(.slice none 0 0),(.string (ByteArray.mk #[])),(.int .u8 0),(.int .u8 0),(.int .i64 0),(.int .i64 0),(.int .i64 0),(.int .u16 0),(.bool false),(.slice none 0 0),(.string (ByteArray.mk #[])),(.int .u8 0),(.int .u8 0),(.int .i64 0),(.int .i64 0),(.int .i64 0),(.int .u16 0),(.bool false),(.slice none 0 0),(.string (ByteArray.mk #[])),(.int .u8 0),(.int .u8 0),(.int .i64 0),(.int .i64 0),(.int .i64 0),(.int .u16 0),(.bool false),(.slice none 0 0),(.string (ByteArray.mk #[])),(.int .u8 0),(.int .u8 0),(.int .i64 0),(.int .i64 0),(.int .i64 0),(.int .u16 0),(.bool false),(.slice none 0 0),(.string (ByteArray.mk #[])),(.int .u8 0),(.int .u8 0),(.int .i64 0),(.int .i64 0),(.int .i64 0),(.int .u16 0),(.bool false),(.slice none 0 0),(.string (ByteArray.mk #[])),(.string (ByteArray.mk #[])),(.string (ByteArray.mk #[])),(.string (ByteArray.mk #[])),(.string (ByteArray.mk #[])),(.string (ByteArray.mk #[])),(.string (ByteArray.mk #[])),(.string (ByteArray.mk #[])),(.string (ByteArray.mk #[])),(.int .u8 0),(.string (ByteArray.mk #[])),(.int .i64 0),(.int .i64 0),(.int .u8 0),(.string (ByteArray.mk #[])),(.int .i64 0),(.int .i64 0),(.int .u8 0),(.string (ByteArray.mk #[])),(.int .i64 0),(.int .i64 0),(.int .u8 0),(.string (ByteArray.mk #[])),(.int .i64 0),(.int .i64 0),(.int .u8 0),(.string (ByteArray.mk #[])),(.int .i64 0),(.int .i64 0)] 608 fun H1=>
Q ((some ⟨H.length,0,none⟩),()) H1
def Vx:dL:=.leaf
theorem Vy(H:Heap)(Q:(Option Addr)×Unit->Heap->Prop):BX H Q=fB C [] Tryz.f35.ntmps Tryz.f35.results.toList [dJ] (aP Tryz.f35) Vx [] H Q:=by kernel_rfl
theorem Vz{H:Heap}{Q:(Option Addr)×Unit->Heap->Prop}(h:BX H Q):CALL P [dJ] BL [] H Q:=aB hE Tryz.func35 rfl (by kernel_rfl) (Vy H Q) h
def yP(H:Heap)(Q:(Option Addr)×Unit->Heap->Prop):Prop:=
NEW H [(.bool true),(.bool false),(.slice none 0 0),(.string (ByteArray.mk #[])),(.string (ByteArray.mk #[])),(.string (ByteArray.mk #[])),(.string (ByteArray.mk #[])),(.string (ByteArray.mk #[])),(.string (ByteArray.mk #[])),(.string (ByteArray.mk #[])),(.string (ByteArray.mk #[])),(.string (ByteArray.mk #[])),(.int .u8 0),(.string (ByteArray.mk #[])),(.int .i64 0),(.int .i64 0),(.int .u8 0),(.string (ByteArray.mk #[])),(.int .i64 0),(.int .i64 0),(.int .u8 0),(.string (ByteArray.mk #[])),(.int .i64 0),(.int .i64 0),(.int .u8 0),(.string (ByteArray.mk #[])),(.int .i64 0),(.int .i64 0),(.int .u8 0),(.string (ByteArray.mk #[])),(.int .i64 0),(.int .i64 0)] 32 fun H1=>
Q ((some ⟨H.length,0,none⟩),()) H1
def Tn:dL:=.leaf
theorem Tq(H:Heap)(Q:(Option Addr)×Unit->Heap->Prop):yP H Q=fB C [] Tryz.f36.ntmps Tryz.f36.results.toList [dJ] (aP Tryz.f36) Tn [] H Q:=by kernel_rfl
theorem Tt{H:Heap}{Q:(Option Addr)×Unit->Heap->Prop}(h:yP H Q):CALL P [dJ] yG [] H Q:=aB hE Tryz.func36 rfl (by kernel_rfl) (Tq H Q) h
def ng(a0:Option Addr)(a1:ay)(H:Heap)(Q:Int×Unit->Heap->Prop):Prop:=
CALL P [(au .i64)] iH [(.pointer a0)] H fun(x1:Int×Unit) H1=>
aK (x1.1 !=0) (
Q (x1.1,()) H1) (
CALL P [(au .i64)] vZ [(aA.enc a1)] H1 fun(x2:Int×Unit) H2=>
aK (x2.1 !=0) (
Q (x2.1,()) H2) (
CALL P [(au .i64)] gW [(.pointer a0),(.string a1.Name)] H2 fun(x3:Int×Unit) H3=>
aK (decide (x3.1≥0)) (
Q (5,()) H3) (
NIL a0 fun b4 o5=>
LD (au .i64) H3 b4 (o5+2) fun(x6:Int)=>
aK (decide (x6≥64)) (
Q (14,()) H3) (
NIL a0 fun b7 o8=>
LD (au .i64) H3 b7 (o8+2) fun(x9:Int)=>
JOIN (fun(j10:(Int×Unit)×(Unit)->Heap->Prop)=>
LOOP (fun(r12:(Int×Unit)×(Unit)->Heap->Prop) (s13:(Int×Unit)×(Unit)) H5=>
JOIN (fun(j14:(Bool×Unit)×(Unit)->Heap->Prop)=>
aK (decide (s13.1.1>0)) (
NIL a0 fun b16 o17=>
yu 64 (IntKind.wrap .i64 (s13.1.1-1)) (
LD aA H5 b16 (o17+3+(IntKind.wrap .i64 (s13.1.1-1)).toNat*9) fun(x18:ay)=>
CALL P [ah] wo [(aA.enc a1),(aA.enc x18)] H5 fun(x19:Bool×Unit) H7=>
j14 ((x19.1,()),(())) H7)) (
j14 ((false,()),(())) H5)) fun(y15:(Bool×Unit)×(Unit)) H6=>
aK y15.1.1 (
NIL a0 fun b20 o21=>
yu 64 (IntKind.wrap .i64 (s13.1.1-1)) (
LD aA H6 b20 (o21+3+(IntKind.wrap .i64 (s13.1.1-1)).toNat*9) fun(x22:ay)=>
NIL a0 fun b23 o24=>
yu 64 s13.1.1 (
ST H6 b23 (o24+3+s13.1.1.toNat*9) (aA.cells x22) fun H8=>
r12 ((IntKind.wrap .i64 (s13.1.1-1),()),(())) H8))) (
j10 ((s13.1.1,()),(())) H6)) ((x9,()),(())) H3) fun(y11:(Int×Unit)×(Unit)) H4=>
NIL a0 fun b25 o26=>
CALL P [aA] rY [(aA.enc a1)] H4 fun(x27:ay×Unit) H9=>
yu 64 y11.1.1 (
ST H9 b25 (o26+3+y11.1.1.toNat*9) (aA.cells x27.1) fun H10=>
NIL a0 fun b28 o29=>
LD (au .i64) H10 b28 (o29+2) fun(x30:Int)=>
NIL a0 fun b31 o32=>
ST H10 b31 (o32+2) [(.int .i64 (IntKind.wrap .i64 (x30+1)))] fun H11=>
Q (0,()) H11)))))
def Fh:dL:=(.seq .leaf (.seq .leaf (.seq .leaf (.seq .leaf (.seq (.blk (some ⟨[(7,(au .i64))],[],(rg 35 27 [])⟩) (.loop ⟨[(7,(au .i64))],[],(rg 35 27 [])⟩ (.seq (.seq (.reg ⟨[(47,ah)],[],(rg 35 12 [])⟩) .leaf) .leaf))) .leaf)))))
theorem Fj(a0:Option Addr)(a1:ay)(H:Heap)(Q:Int×Unit->Heap->Prop):ng a0 a1 H Q=fB C [3] Tryz.f37.ntmps Tryz.f37.results.toList [(au .i64)] (aP Tryz.f37) Fh [(.pointer a0),(aA.enc a1)] H Q:=by kernel_rfl
theorem Fp{a0:Option Addr}{a1:ay}{H:Heap}{Q:Int×Unit->Heap->Prop}(h:ng a0 a1 H Q):CALL P [(au .i64)] mW [(.pointer a0),(aA.enc a1)] H Q:=aB hE Tryz.func37 rfl (by kernel_rfl) (Fj a0 a1 H Q) h
def qK(a0:ay)(H:Heap)(Q:ay×Unit->Heap->Prop):Prop:=
CALL P [aJ] xC [a0.Parts.v] H fun(x1:Sl×Unit) H1=>
Q ((ay.mk a0.Name a0.Suit a0.Kind a0.Cost a0.Power a0.Health a0.Traits a0.Token x1.1),()) H1
def JU:dL:=.leaf
theorem JV(a0:ay)(H:Heap)(Q:ay×Unit->Heap->Prop):qK a0 H Q=fB C [1,2] Tryz.f38.ntmps Tryz.f38.results.toList [aA] (aP Tryz.f38) JU [(aA.enc a0)] H Q:=by kernel_rfl
theorem JW{a0:ay}{H:Heap}{Q:ay×Unit->Heap->Prop}(h:qK a0 H Q):CALL P [aA] lJ [(aA.enc a0)] H Q:=aB hE Tryz.func38 rfl (by kernel_rfl) (JV a0 H Q) h
def lW(a0:Option Addr)(a1:ay)(H:Heap)(Q:Int×Unit->Heap->Prop):Prop:=
CALL P [ah] fF [(.pointer a0)] H fun(x1:Bool×Unit) H1=>
aK x1.1 (
Q (1,()) H1) (
NIL a0 fun b2 o3=>
LD ah H1 b2 (o3+1) fun(x4:Bool)=>
aK x4 (
Q (7,()) H1) (
CALL P [(au .i64)] tq [(aA.enc a1)] H1 fun(x5:Int×Unit) H2=>
aK (x5.1 !=0) (
Q (x5.1,()) H2) (
CALL P [(au .i64)] iM [(.pointer a0),(.string a1.Name)] H2 fun(x6:Int×Unit) H3=>
aK (decide (x6.1≥0)) (
Q (5,()) H3) (
NIL a0 fun b7 o8=>
LD aJ H3 b7 (o8+2) fun(x9:Sl)=>
aK (decide ((x9.len:Int)≥64)) (
Q (14,()) H3) (
JOIN (fun(j10:(Sl×Bool×Unit)×(Unit)->Heap->Prop)=>
LOOP (fun(r12:(Sl×Bool×Int×Unit)×(Unit)->Heap->Prop) (s13:(Sl×Bool×Int×Unit)×(Unit)) H5=>
NIL a0 fun b14 o15=>
LD aJ H5 b14 (o15+2) fun(x16:Sl)=>
aK (decide (s13.1.2.2.1<(x16.len:Int))) (
JOIN (fun(j17:(Bool×Unit)×(Unit)->Heap->Prop)=>
aK (!s13.1.2.1) (
NIL a0 fun b19 o20=>
LD aJ H5 b19 (o20+2) fun(x21:Sl)=>
dw x21.p x21.len s13.1.2.2.1 9 fun b22 o23=>
LD aA H5 b22 o23 fun(x24:ay)=>
CALL P [ah] tu [(aA.enc a1),(aA.enc x24)] H5 fun(x25:Bool×Unit) H7=>
j17 ((x25.1,()),(())) H7) (
j17 ((false,()),(())) H5)) fun(y18:(Bool×Unit)×(Unit)) H6=>
JOIN (fun(j26:(Sl×Bool×Unit)×(Unit)->Heap->Prop)=>
aK y18.1.1 (
CALL P [aA] lQ [(aA.enc a1)] H6 fun(x28:ay×Unit) H9=>
EW aJ (lenV s13.1.1.v+1) (fC E [22,22] s13.1.1.v 1 (aA.cells x28.1) H9) fun(x29:Sl) H10=>
j26 ((x29,true,()),(())) H10) (
j26 ((s13.1.1,s13.1.2.1,()),(())) H6)) fun(y27:(Sl×Bool×Unit)×(Unit)) H8=>
NIL a0 fun b30 o31=>
LD aJ H8 b30 (o31+2) fun(x32:Sl)=>
dw x32.p x32.len s13.1.2.2.1 9 fun b33 o34=>
LD aA H8 b33 o34 fun(x35:ay)=>
EW aJ (lenV y27.1.1.v+1) (fC E [22,22] y27.1.1.v 1 (aA.cells x35) H8) fun(x36:Sl) H11=>
r12 ((x36,y27.1.2.1,IntKind.wrap .i64 (s13.1.2.2.1+1),()),(())) H11) (
j10 ((s13.1.1,s13.1.2.1,()),(())) H5)) (((Sl.mk none 0 0),false,0,()),(())) H3) fun(y11:(Sl×Bool×Unit)×(Unit)) H4=>
JOIN (fun(j37:(Sl×Unit)×(Unit)->Heap->Prop)=>
aK (!y11.1.2.1) (
CALL P [aA] lQ [(aA.enc a1)] H4 fun(x39:ay×Unit) H13=>
EW aJ (lenV y11.1.1.v+1) (fC E [22,22] y11.1.1.v 1 (aA.cells x39.1) H13) fun(x40:Sl) H14=>
j37 ((x40,()),(())) H14) (
j37 ((y11.1.1,()),(())) H4)) fun(y38:(Sl×Unit)×(Unit)) H12=>
NIL a0 fun b41 o42=>
ST H12 b41 (o42+2) [(.slice y38.1.1.p y38.1.1.len y38.1.1.cap)] fun H15=>
Q (0,()) H15)))))
def DT:dL:=(.seq .leaf (.seq .leaf (.seq .leaf (.seq .leaf (.seq .leaf (.seq .leaf (.seq .leaf (.seq .leaf (.seq .leaf (.seq (.seq .leaf (.blk (some ⟨[(6,aJ),(7,ah)],[],(rg 8 1 (rg 31 37 []))⟩) (.loop ⟨[(6,aJ),(7,ah),(8,(au .i64))],[],(rg 31 37 [])⟩ (.seq .leaf (.seq (.blk none (.seq (.seq (.reg ⟨[(52,ah)],[],(rg 40 12 [])⟩) (.cond (some ⟨[(6,aJ),(7,ah)],[],(rg 53 5 [])⟩) .leaf .leaf)) .leaf)) .leaf))))) (.seq (.seq .leaf (.cond (some ⟨[(6,aJ)],[],(rg 70 5 [])⟩) .leaf .leaf)) .leaf)))))))))))
theorem DU(a0:Option Addr)(a1:ay)(H:Heap)(Q:Int×Unit->Heap->Prop):lW a0 a1 H Q=fB C [3,56,66,73] Tryz.f39.ntmps Tryz.f39.results.toList [(au .i64)] (aP Tryz.f39) DT [(.pointer a0),(aA.enc a1)] H Q:=by kernel_rfl
theorem DV{a0:Option Addr}{a1:ay}{H:Heap}{Q:Int×Unit->Heap->Prop}(h:lW a0 a1 H Q):CALL P [(au .i64)] lK [(.pointer a0),(aA.enc a1)] H Q:=aB hE Tryz.func39 rfl (by kernel_rfl) (DU a0 a1 H Q) h
def ny(a0:Option Addr)(a1:ak)(H:Heap)(Q:Int×Unit->Heap->Prop):Prop:=
CALL P [(au .i64)] iH [(.pointer a0)] H fun(x1:Int×Unit) H1=>
aK (x1.1 !=0) (
Q (x1.1,()) H1) (
JOIN (fun(j2:(Bool×Unit)×(Unit)->Heap->Prop)=>
aK (decide (a1.Mark<1)) (
j2 ((true,()),(())) H1) (
aK (decide (a1.Mark>4)) (
j2 ((true,()),(())) H1) (
CALL P [ah] nX [(.int .i64 a1.Power)] H1 fun(x4:Bool×Unit) H3=>
aK (!x4.1) (
j2 ((true,()),(())) H3) (
CALL P [ah] nX [(.int .i64 a1.Health)] H3 fun(x5:Bool×Unit) H4=>
j2 ((!x5.1,()),(())) H4)))) fun(y3:(Bool×Unit)×(Unit)) H2=>
aK y3.1.1 (
Q (2,()) H2) (
CALL P [ah] yH [(.string a1.Name)] H2 fun(x6:Bool×Unit) H5=>
aK (!x6.1) (
Q (4,()) H5) (
NIL a0 fun b7 o8=>
yu 5 a1.Mark (
LD (au .u8) H5 b7 (o8+588+a1.Mark.toNat*4+0) fun(x9:Int)=>
aK (x9 !=0) (
Q (5,()) H5) (
NIL a0 fun b10 o11=>
LD fE H5 b10 (o11+588) fun(x12:ak×ak×ak×ak×ak)=>
JOIN (fun(j13:(Unit)×(Unit)->Heap->Prop)=>
LOOP (fun(r15:(Int×Unit)×(Unit)->Heap->Prop) (s16:(Int×Unit)×(Unit)) H7=>
aK (decide (s16.1.1<5)) (
dW aQ (dF E 129 (.agg #[(.int .u8 x12.1.Mark),(.string x12.1.Name),(.int .i64 x12.1.Power),(.int .i64 x12.1.Health),(.int .u8 x12.2.1.Mark),(.string x12.2.1.Name),(.int .i64 x12.2.1.Power),(.int .i64 x12.2.1.Health),(.int .u8 x12.2.2.1.Mark),(.string x12.2.2.1.Name),(.int .i64 x12.2.2.1.Power),(.int .i64 x12.2.2.1.Health),(.int .u8 x12.2.2.2.1.Mark),(.string x12.2.2.2.1.Name),(.int .i64 x12.2.2.2.1.Power),(.int .i64 x12.2.2.2.1.Health),(.int .u8 x12.2.2.2.2.Mark),(.string x12.2.2.2.2.Name),(.int .i64 x12.2.2.2.2.Power),(.int .i64 x12.2.2.2.2.Health)]) (.int .i64 s16.1.1)) fun(x17:ak)=>
aK (x17.Name.toList==a1.Name.toList) (
Q (5,()) H7) (
r15 ((IntKind.wrap .i64 (s16.1.1+1),()),(())) H7)) (
j13 ((()),(())) H7)) ((0,()),(())) H5) fun(y14:(Unit)×(Unit)) H6=>
NIL a0 fun b18 o19=>
yu 5 a1.Mark (
ST H6 b18 (o19+588+a1.Mark.toNat*4) (aQ.cells a1) fun H8=>
Q (0,()) H8))))))
def Fq:dL:=(.seq .leaf (.seq .leaf (.seq (.blk none (.seq (.reg ⟨[(13,ah)],[],(rg 14 20 [])⟩) .leaf)) (.seq (.seq .leaf (.blk (some ⟨[],[],(rg 4 1 (rg 7 1 (rg 53 9 [])))⟩) (.loop ⟨[(53,(au .i64))],[],(rg 4 1 (rg 7 1 (rg 54 8 [])))⟩ .leaf))) .leaf))))
theorem Fv(a0:Option Addr)(a1:ak)(H:Heap)(Q:Int×Unit->Heap->Prop):ny a0 a1 H Q=fB C [3,7] Tryz.f40.ntmps Tryz.f40.results.toList [(au .i64)] (aP Tryz.f40) Fq [(.pointer a0),(aQ.enc a1)] H Q:=by kernel_rfl
theorem Fz{a0:Option Addr}{a1:ak}{H:Heap}{Q:Int×Unit->Heap->Prop}(h:ny a0 a1 H Q):CALL P [(au .i64)] mX [(.pointer a0),(aQ.enc a1)] H Q:=aB hE Tryz.func40 rfl (by kernel_rfl) (Fv a0 a1 H Q) h
def lX(a0:Option Addr)(a1:ak)(H:Heap)(Q:Int×Unit->Heap->Prop):Prop:=
CALL P [ah] fF [(.pointer a0)] H fun(x1:Bool×Unit) H1=>
aK x1.1 (
Q (1,()) H1) (
NIL a0 fun b2 o3=>
LD ah H1 b2 (o3+1) fun(x4:Bool)=>
aK x4 (
Q (7,()) H1) (
JOIN (fun(j5:(Bool×Unit)×(Unit)->Heap->Prop)=>
aK (decide (a1.Mark<1)) (
j5 ((true,()),(())) H1) (
aK (decide (a1.Mark>4)) (
j5 ((true,()),(())) H1) (
aK (decide (a1.Power<(-9))) (
j5 ((true,()),(())) H1) (
aK (decide (a1.Power>9)) (
j5 ((true,()),(())) H1) (
aK (decide (a1.Health<(-9))) (
j5 ((true,()),(())) H1) (
j5 ((decide (a1.Health>9),()),(())) H1)))))) fun(y6:(Bool×Unit)×(Unit)) H2=>
aK y6.1.1 (
Q (2,()) H2) (
CALL P [ah] wu [(.string a1.Name)] H2 fun(x7:Bool×Unit) H3=>
aK (!x7.1) (
Q (4,()) H3) (
JOIN (fun(j8:(Unit)×(Unit)->Heap->Prop)=>
LOOP (fun(r10:(Int×Unit)×(Unit)->Heap->Prop) (s11:(Int×Unit)×(Unit)) H5=>
aK (decide (s11.1.1≤4)) (
JOIN (fun(j12:(Bool×Unit)×(Unit)->Heap->Prop)=>
aK ((IntKind.wrap .u8 s11.1.1)==a1.Mark) (
NIL a0 fun b14 o15=>
yu 5 s11.1.1 (
LD (au .u8) H5 b14 (o15+12+s11.1.1.toNat*4+0) fun(x16:Int)=>
aK (x16 !=0) (
j12 ((true,()),(())) H5) (
NIL a0 fun b17 o18=>
yu 5 s11.1.1 (
LD dG H5 b17 (o18+12+s11.1.1.toNat*4+1) fun(x19:ByteArray)=>
j12 ((x19.toList==a1.Name.toList,()),(())) H5)))) (
NIL a0 fun b20 o21=>
yu 5 s11.1.1 (
LD dG H5 b20 (o21+12+s11.1.1.toNat*4+1) fun(x22:ByteArray)=>
j12 ((x22.toList==a1.Name.toList,()),(())) H5))) fun(y13:(Bool×Unit)×(Unit)) H6=>
aK y13.1.1 (
Q (5,()) H6) (
r10 ((IntKind.wrap .i64 (s11.1.1+1),()),(())) H6)) (
j8 ((()),(())) H5)) ((1,()),(())) H3) fun(y9:(Unit)×(Unit)) H4=>
NIL a0 fun b23 o24=>
yu 5 a1.Mark (
ST H4 b23 (o24+12+a1.Mark.toNat*4) (aQ.cells a1) fun H7=>
Q (0,()) H7)))))
def DW:dL:=(.seq .leaf (.seq .leaf (.seq .leaf (.seq (.seq (.reg ⟨[(39,ah)],[],(rg 12 27 [])⟩) .leaf) (.seq .leaf (.seq (.seq .leaf (.blk (some ⟨[],[],(rg 4 2 (rg 44 31 []))⟩) (.loop ⟨[(5,(au .i64))],[],(rg 4 1 (rg 44 31 []))⟩ (.seq .leaf (.seq (.blk none (.seq (.reg ⟨[(74,ah)],[],(rg 48 26 [])⟩) .leaf)) .leaf))))) .leaf))))))
theorem DX(a0:Option Addr)(a1:ak)(H:Heap)(Q:Int×Unit->Heap->Prop):lX a0 a1 H Q=fB C [3] Tryz.f41.ntmps Tryz.f41.results.toList [(au .i64)] (aP Tryz.f41) DW [(.pointer a0),(aQ.enc a1)] H Q:=by kernel_rfl
theorem DY{a0:Option Addr}{a1:ak}{H:Heap}{Q:Int×Unit->Heap->Prop}(h:lX a0 a1 H Q):CALL P [(au .i64)] lM [(.pointer a0),(aQ.enc a1)] H Q:=aB hE Tryz.func41 rfl (by kernel_rfl) (DX a0 a1 H Q) h
end Zv
end Go.Proofs.YtijnknjopjmiiaaGreatDoor
end
