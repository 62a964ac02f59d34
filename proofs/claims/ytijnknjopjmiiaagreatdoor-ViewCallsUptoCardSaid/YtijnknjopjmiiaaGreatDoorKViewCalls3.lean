/- Part 3 of the proof of ViewCalls: what its row stands on (lemmas about the model, the evaluator, contracts of functions), put together and cut to what is used. -/
import Derived.Test.YtijnknjopjmiiaaGreatDoorKViewCalls2
import Derived.Shelf.Sort.Plain
import Derived.Shelf.Slices.In.SortNone
import Derived.Shelf.SlSortCmp.Whole1
import Derived.Shelf.SlSortCmp.NoneTotal
import Derived.Test.YtijnknjopjmiiaaGreatDoorProg
import Derived.Shelf.Strings.SlTrimAscii
import Derived.ChangeArms
import Derived.OpenShut
import Derived.SizedLaws
import Derived.KernelRfl
section
namespace Go.Proofs.YtijnknjopjmiiaaGreatDoor.Zq
open Go.Shelf Go.Proofs
def vY:Go.Shelf.Ren:=⟨fun|160=>162|232=>181|231=>180|227=>182|234=>184|233=>183|236=>186|235=>185|228=>192|271=>195|151=>194|197=>193|120=>199|152=>198|260=>197|137=>200|119=>201|224=>202|225=>203|217=>204|266=>205|n=>n,fun|9=>9|4=>4|3=>3|5=>5|117=>226|116=>225|0=>0|124=>229|21=>21|105=>237|46=>195|119=>243|139=>246|138=>245|n=>n,fun|3=>0|4=>1|n=>n⟩
theorem lays160:Go.Proofs.Lays.n160 Tryz.prog vY:={
 mixed:=by kernel_rfl
 f119:=Tryz.func201.trans (congrArg some (by kernel_rfl))
 f120:=Tryz.func199.trans (congrArg some (by kernel_rfl))
 f137:=Tryz.func200.trans (congrArg some (by kernel_rfl))
 f151:=Tryz.func194.trans (congrArg some (by kernel_rfl))
 f152:=Tryz.func198.trans (congrArg some (by kernel_rfl))
 f160:=Tryz.func162.trans (congrArg some (by kernel_rfl))
 f197:=Tryz.func193.trans (congrArg some (by kernel_rfl))
 f217:=Tryz.func204.trans (congrArg some (by kernel_rfl))
 f224:=Tryz.func202.trans (congrArg some (by kernel_rfl))
 f225:=Tryz.func203.trans (congrArg some (by kernel_rfl))
 f227:=Tryz.func182.trans (congrArg some (by kernel_rfl))
 f228:=Tryz.func192.trans (congrArg some (by kernel_rfl))
 f231:=Tryz.func180.trans (congrArg some (by kernel_rfl))
 f232:=Tryz.func181.trans (congrArg some (by kernel_rfl))
 f233:=Tryz.func183.trans (congrArg some (by kernel_rfl))
 f234:=Tryz.func184.trans (congrArg some (by kernel_rfl))
 f235:=Tryz.func185.trans (congrArg some (by kernel_rfl))
 f236:=Tryz.func186.trans (congrArg some (by kernel_rfl))
 f260:=Tryz.func197.trans (congrArg some (by kernel_rfl))
 f266:=Tryz.func205.trans (congrArg some (by kernel_rfl))
 f271:=Tryz.func195.trans (congrArg some (by kernel_rfl))
 t0:=Tryz.underlying0
 a0:=Tryz.isAgg0
 z0:=Tryz.sizeOf0
 v0:=Tryz.zeroValue0
 t3:=Tryz.underlying3
 a3:=Tryz.isAgg3
 z3:=Tryz.sizeOf3
 v3:=Tryz.zeroValue3
 t4:=Tryz.underlying4
 a4:=Tryz.isAgg4
 z4:=Tryz.sizeOf4
 v4:=Tryz.zeroValue4
 t5:=Tryz.underlying5
 a5:=Tryz.isAgg5
 z5:=Tryz.sizeOf5
 v5:=Tryz.zeroValue5
 t9:=Tryz.underlying9
 a9:=Tryz.isAgg9
 z9:=Tryz.sizeOf9
 v9:=Tryz.zeroValue9
 t21:=Tryz.underlying21
 a21:=Tryz.isAgg21
 z21:=Tryz.sizeOf21
 v21:=Tryz.zeroValue21
 t46:=Tryz.underlying195
 a46:=Tryz.isAgg195
 z46:=Tryz.sizeOf195
 v46:=Tryz.zeroValue195
 t105:=Tryz.underlying237
 a105:=Tryz.isAgg237
 z105:=Tryz.sizeOf237
 v105:=Tryz.zeroValue237
 t116:=Tryz.underlying225
 a116:=Tryz.isAgg225
 z116:=Tryz.sizeOf225
 t117:=Tryz.underlying226
 a117:=Tryz.isAgg226
 z117:=Tryz.sizeOf226
 v117:=Tryz.zeroValue226
 t119:=Tryz.underlying243
 a119:=Tryz.isAgg243
 z119:=Tryz.sizeOf243
 t124:=Tryz.underlying229
 a124:=Tryz.isAgg229
 z124:=Tryz.sizeOf229
 v124:=Tryz.zeroValue229
 t138:=Tryz.underlying245
 a138:=Tryz.isAgg245
 z138:=Tryz.sizeOf245
 v138:=Tryz.zeroValue245
 t139:=Tryz.underlying246
 a139:=Tryz.isAgg246
 z139:=Tryz.sizeOf246
 v139:=Tryz.zeroValue246
 g3:=by kernel_rfl
 g4:=by kernel_rfl }
def Vm:Go.Shelf.Ren:=⟨fun|6=>107|15=>146|14=>145|28=>175|29=>176|20=>167|21=>168|22=>169|23=>170|24=>171|25=>172|26=>173|27=>174|46=>187|47=>188|48=>189|49=>190|50=>191|57=>196|n=>n,fun|22=>27|24=>3|25=>42|3=>3|39=>195|0=>0|53=>218|55=>220|4=>4|46=>211|45=>210|50=>215|5=>5|9=>9|66=>230|70=>234|76=>240|77=>207|n=>n,fun|n=>n⟩
theorem ahZ:Go.Proofs.SlLaysF.n6 Tryz.prog Vm:={
 mixed:=by kernel_rfl
 f6:=⟨Tryz.f107.name,by decide,Tryz.func107.trans (congrArg some (by kernel_rfl))⟩
 f14:=⟨Tryz.f145.name,by decide,Tryz.func145.trans (congrArg some (by kernel_rfl))⟩
 f15:=Tryz.func146.trans (congrArg some (by kernel_rfl))
 f20:=⟨Tryz.f167.name,by decide,Tryz.func167.trans (congrArg some (by kernel_rfl))⟩
 f21:=⟨Tryz.f168.name,by decide,Tryz.func168.trans (congrArg some (by kernel_rfl))⟩
 f22:=⟨Tryz.f169.name,by decide,Tryz.func169.trans (congrArg some (by kernel_rfl))⟩
 f23:=⟨Tryz.f170.name,by decide,Tryz.func170.trans (congrArg some (by kernel_rfl))⟩
 f24:=⟨Tryz.f171.name,by decide,Tryz.func171.trans (congrArg some (by kernel_rfl))⟩
 f25:=⟨Tryz.f172.name,by decide,Tryz.func172.trans (congrArg some (by kernel_rfl))⟩
 f26:=⟨Tryz.f173.name,by decide,Tryz.func173.trans (congrArg some (by kernel_rfl))⟩
 f27:=⟨Tryz.f174.name,by decide,Tryz.func174.trans (congrArg some (by kernel_rfl))⟩
 f28:=Tryz.func175.trans (congrArg some (by kernel_rfl))
 f29:=Tryz.func176.trans (congrArg some (by kernel_rfl))
 f46:=⟨Tryz.f187.name,by decide,Tryz.func187.trans (congrArg some (by kernel_rfl))⟩
 f47:=Tryz.func188.trans (congrArg some (by kernel_rfl))
 f48:=Tryz.func189.trans (congrArg some (by kernel_rfl))
 f49:=⟨Tryz.f190.name,by decide,Tryz.func190.trans (congrArg some (by kernel_rfl))⟩
 f50:=⟨Tryz.f191.name,by decide,Tryz.func191.trans (congrArg some (by kernel_rfl))⟩
 f57:=⟨Tryz.f196.name,by decide,Tryz.func196.trans (congrArg some (by kernel_rfl))⟩
 t0:=Tryz.underlying0
 a0:=Tryz.isAgg0
 z0:=Tryz.sizeOf0
 v0:=Tryz.zeroValue0
 t3:=Tryz.underlying3
 a3:=Tryz.isAgg3
 z3:=Tryz.sizeOf3
 v3:=Tryz.zeroValue3
 t4:=Tryz.underlying4
 a4:=Tryz.isAgg4
 z4:=Tryz.sizeOf4
 v4:=Tryz.zeroValue4
 t5:=Tryz.underlying5
 a5:=Tryz.isAgg5
 z5:=Tryz.sizeOf5
 v5:=Tryz.zeroValue5
 t9:=Tryz.underlying9
 a9:=Tryz.isAgg9
 z9:=Tryz.sizeOf9
 v9:=Tryz.zeroValue9
 t22:=Tryz.underlying27
 a22:=Tryz.isAgg27
 z22:=Tryz.sizeOf27
 v22:=Tryz.zeroValue27
 a24:=Tryz.isAgg3
 z24:=Tryz.sizeOf3
 t25:=Tryz.underlying42
 a25:=Tryz.isAgg42
 z25:=Tryz.sizeOf42
 v25:=Tryz.zeroValue42
 t39:=Tryz.underlying195
 a39:=Tryz.isAgg195
 z39:=Tryz.sizeOf195
 v39:=Tryz.zeroValue195
 t45:=Tryz.underlying210
 a45:=Tryz.isAgg210
 z45:=Tryz.sizeOf210
 v45:=Tryz.zeroValue210
 t46:=Tryz.underlying211
 a46:=Tryz.isAgg211
 z46:=Tryz.sizeOf211
 v46:=Tryz.zeroValue211
 t50:=Tryz.underlying215
 a50:=Tryz.isAgg215
 z50:=Tryz.sizeOf215
 v50:=Tryz.zeroValue215
 t53:=Tryz.underlying218
 a53:=Tryz.isAgg218
 z53:=Tryz.sizeOf218
 v53:=Tryz.zeroValue218
 t55:=Tryz.underlying220
 a55:=Tryz.isAgg220
 z55:=Tryz.sizeOf220
 v55:=Tryz.zeroValue220
 t66:=Tryz.underlying230
 a66:=Tryz.isAgg230
 z66:=Tryz.sizeOf230
 v66:=Tryz.zeroValue230
 t70:=Tryz.underlying234
 a70:=Tryz.isAgg234
 z70:=Tryz.sizeOf234
 v70:=Tryz.zeroValue234
 t76:=Tryz.underlying240
 a76:=Tryz.isAgg240
 z76:=Tryz.sizeOf240
 v76:=Tryz.zeroValue240
 t77:=Tryz.underlying207
 a77:=Tryz.isAgg207
 z77:=Tryz.sizeOf207
 v77:=Tryz.zeroValue207 }
def aaU:Go.Shelf.Ren:=⟨fun|6=>107|15=>146|14=>145|28=>175|29=>176|20=>167|21=>168|22=>169|23=>170|24=>171|25=>172|26=>173|27=>174|46=>187|47=>188|48=>189|49=>190|50=>191|57=>196|n=>n,fun|22=>27|24=>3|25=>42|3=>3|39=>195|0=>0|53=>218|55=>220|4=>4|46=>211|45=>210|50=>215|5=>5|9=>9|66=>230|70=>234|76=>240|77=>207|n=>n,fun|n=>n⟩
theorem ait:Go.Proofs.SlLaysF0.n6 Tryz.prog aaU:={
 mixed:=by kernel_rfl
 f6:=⟨Tryz.f107.name,by decide,Tryz.func107.trans (congrArg some (by kernel_rfl))⟩
 f14:=⟨Tryz.f145.name,by decide,Tryz.func145.trans (congrArg some (by kernel_rfl))⟩
 f15:=Tryz.func146.trans (congrArg some (by kernel_rfl))
 f20:=⟨Tryz.f167.name,by decide,Tryz.func167.trans (congrArg some (by kernel_rfl))⟩
 f21:=⟨Tryz.f168.name,by decide,Tryz.func168.trans (congrArg some (by kernel_rfl))⟩
 f22:=⟨Tryz.f169.name,by decide,Tryz.func169.trans (congrArg some (by kernel_rfl))⟩
 f23:=⟨Tryz.f170.name,by decide,Tryz.func170.trans (congrArg some (by kernel_rfl))⟩
 f24:=⟨Tryz.f171.name,by decide,Tryz.func171.trans (congrArg some (by kernel_rfl))⟩
 f25:=⟨Tryz.f172.name,by decide,Tryz.func172.trans (congrArg some (by kernel_rfl))⟩
 f26:=⟨Tryz.f173.name,by decide,Tryz.func173.trans (congrArg some (by kernel_rfl))⟩
 f27:=⟨Tryz.f174.name,by decide,Tryz.func174.trans (congrArg some (by kernel_rfl))⟩
 f28:=Tryz.func175.trans (congrArg some (by kernel_rfl))
 f29:=Tryz.func176.trans (congrArg some (by kernel_rfl))
 f46:=⟨Tryz.f187.name,by decide,Tryz.func187.trans (congrArg some (by kernel_rfl))⟩
 f47:=Tryz.func188.trans (congrArg some (by kernel_rfl))
 f48:=Tryz.func189.trans (congrArg some (by kernel_rfl))
 f49:=⟨Tryz.f190.name,by decide,Tryz.func190.trans (congrArg some (by kernel_rfl))⟩
 f50:=⟨Tryz.f191.name,by decide,Tryz.func191.trans (congrArg some (by kernel_rfl))⟩
 f57:=⟨Tryz.f196.name,by decide,Tryz.func196.trans (congrArg some (by kernel_rfl))⟩
 t0:=Tryz.underlying0
 a0:=Tryz.isAgg0
 z0:=Tryz.sizeOf0
 v0:=Tryz.zeroValue0
 t3:=Tryz.underlying3
 a3:=Tryz.isAgg3
 z3:=Tryz.sizeOf3
 v3:=Tryz.zeroValue3
 t4:=Tryz.underlying4
 a4:=Tryz.isAgg4
 z4:=Tryz.sizeOf4
 v4:=Tryz.zeroValue4
 t5:=Tryz.underlying5
 a5:=Tryz.isAgg5
 z5:=Tryz.sizeOf5
 v5:=Tryz.zeroValue5
 t9:=Tryz.underlying9
 a9:=Tryz.isAgg9
 z9:=Tryz.sizeOf9
 v9:=Tryz.zeroValue9
 t22:=Tryz.underlying27
 a22:=Tryz.isAgg27
 z22:=Tryz.sizeOf27
 v22:=Tryz.zeroValue27
 t25:=Tryz.underlying42
 a25:=Tryz.isAgg42
 z25:=Tryz.sizeOf42
 v25:=Tryz.zeroValue42
 t39:=Tryz.underlying195
 a39:=Tryz.isAgg195
 z39:=Tryz.sizeOf195
 v39:=Tryz.zeroValue195
 t45:=Tryz.underlying210
 a45:=Tryz.isAgg210
 z45:=Tryz.sizeOf210
 v45:=Tryz.zeroValue210
 t46:=Tryz.underlying211
 a46:=Tryz.isAgg211
 z46:=Tryz.sizeOf211
 v46:=Tryz.zeroValue211
 t50:=Tryz.underlying215
 a50:=Tryz.isAgg215
 z50:=Tryz.sizeOf215
 v50:=Tryz.zeroValue215
 t53:=Tryz.underlying218
 a53:=Tryz.isAgg218
 z53:=Tryz.sizeOf218
 v53:=Tryz.zeroValue218
 t55:=Tryz.underlying220
 a55:=Tryz.isAgg220
 z55:=Tryz.sizeOf220
 v55:=Tryz.zeroValue220
 t66:=Tryz.underlying230
 a66:=Tryz.isAgg230
 z66:=Tryz.sizeOf230
 v66:=Tryz.zeroValue230
 t70:=Tryz.underlying234
 a70:=Tryz.isAgg234
 z70:=Tryz.sizeOf234
 v70:=Tryz.zeroValue234
 t76:=Tryz.underlying240
 a76:=Tryz.isAgg240
 z76:=Tryz.sizeOf240
 v76:=Tryz.zeroValue240
 t77:=Tryz.underlying207
 a77:=Tryz.isAgg207
 z77:=Tryz.sizeOf207
 v77:=Tryz.zeroValue207 }
open Go.RowKit Go.Lib Go.Sort in
theorem slices_SortFunc_none{α:Type}[Inhabited α](p:Option Addr)(cap:Nat)(fv:Value)(w:World):
  Calls Tryz.prog 107 #[.slice p 0 cap,fv] w fun e w'=>e= .returned (.tuple #[])∧w'=w:=AnyF.slices_SortFunc_none ait p cap fv w
end Go.Proofs.YtijnknjopjmiiaaGreatDoor.Zq
end
section
namespace Go.Proofs.YtijnknjopjmiiaaGreatDoor.Zq
variable{P:Program}{M:Mp}{H:Heap}{w:World}
def zf(P:Program)(H:Heap):Nat->TypeId->List Value->Prop
 |0,_,_=>False
 |d+1,t,cs=>cs.length=P.cellsOf t∧
  match P.underlying t with
  |some .bool=>∃b,cs=[.bool b]
  |some (.int k)=>∃n,cs=[.int k n]∧(Lit.int k n).wf=true
  |some .string=>∃s:ByteArray,cs=[.string s]∧s.size≤maxLen
  |some (.slice e)=>cs=[.slice none 0 0]∨(∃b off,cs=[.slice (some ⟨b,off,some 0⟩) 0 0])∨
    ∃b len cap,∃acss:List (List Value),cs=[.slice (some ⟨b,0,none⟩) len cap]∧len≤cap∧cap≤maxLen∧acss.length=cap∧0<cap∧H[b]? =some (.row acss.flatten (P.cellsOf e) false true true)∧∀a∈acss,zf P H d e a
  |some (.struct fs)=>∃acss:List (List Value),acss.length=fs.size∧cs=acss.flatten∧∀(i:Nat) (f:Field) (a:List Value),fs[i]? =some f->acss[i]? =some a->zf P H d f.type a
  |some (.array n e)=>∃acss:List (List Value),acss.length=n∧cs=acss.flatten∧∀a∈acss,zf P H d e a
  |_=>False
theorem zf.len{d:Nat}{t:TypeId}{cs:List Value}(h:zf P H d t cs):cs.length=P.cellsOf t:=by
 cases d with
 |zero=>exact h.elim
 |succ d=>exact h.1
theorem zf.app{K:Heap}:∀{d:Nat} {t:TypeId} {cs:List Value},zf P H d t cs->zf P (H++K) d t cs
 |0,_,_,h=>h.elim
 |d+1,t,cs,h=>by
  simp only[zf]at h ⊢
  refine⟨h.1,?_⟩
  have h:=h.2
  split at h
  ·exact h
  ·exact h
  ·exact h
  ·rcases h with h|h|⟨b,len,cap,acss,h1,h2,h3,h4,h5,h6,h7⟩
   ·exact .inl h
   ·exact .inr (.inl h)
   ·exact .inr (.inr ⟨b,len,cap,acss,h1,h2,h3,h4,h5,by rw[List.getElem?_append_left (List.getElem?_eq_some_iff.1 h6).1]; exact h6,fun a ha=>(h7 a ha).app⟩)
  ·obtain⟨acss,h1,h2,h3⟩:=h
   exact⟨acss,h1,h2,fun i f a hf ha=>(h3 i f a hf ha).app⟩
  ·obtain⟨acss,h1,h2,h3⟩:=h
   exact⟨acss,h1,h2,fun a ha=>(h3 a ha).app⟩
  ·exact h
def Pq(P:Program):List Field->Nat->Nat->Bool
 |[],o,n=>o==n
 |f::r,o,n=>f.offset==o&&Pq P r (o+P.cellsOf f.type) n
def okD(P:Program):Nat->TypeId->Bool
 |0,_=>false
 |d+1,t=>
  match P.underlying t with
  |some .bool|some (.int _)|some .string=>P.cellsOf t==1
  |some (.slice e)=>P.cellsOf t==1&&decide (0<P.cellsOf e)&&okD P d e
  |some (.struct fs)=>Pq P fs.toList 0 (P.cellsOf t)&&fs.toList.all fun f=>okD P d f.type
  |some (.array n e)=>n*P.cellsOf e==P.cellsOf t&&okD P d e
  |_=>false
def RoH(H:Heap):Prop:=∀b,¬bI H b
theorem RoH.app{H K:Heap}(h:RoH H)(k:∀x∈K,∃c sz l,x= .row c sz false true l):RoH (H++K):=by
 intro b hb
 unfold bI at hb
 by_cases hl:b<H.length
 ·rw[List.getElem?_append_left hl]at hb
  exact h b (by unfold bI; exact hb)
 ·rw[List.getElem?_append_right (by omega)]at hb
  cases hq:K[b-H.length]? with
  |none=>rw[hq]at hb; exact hb
  |some x=>
   obtain⟨c,sz,l,rfl⟩:=k x (List.mem_of_getElem? hq)
   rw[hq]at hb; simp at hb
structure Adds(M:Mp)(H:Heap)(w:World)(N:Mp)(K:Heap):Prop where
 hr:HR (M++N) (H++K) w
 ro:∀x∈K,∃c sz l,x= .row c sz false true l
theorem Adds.refl(h:HR M H w):Adds M H w [] []:=⟨by simpa using h,fun x hx=>by simp at hx⟩
theorem Adds.trans{N N':Mp}{K K':Heap}(h:Adds M H w N K)(k:Adds (M++N) (H++K) w N' K'):Adds M H w (N++N') (K++K'):=
 ⟨by simpa[List.append_assoc]using k.hr,fun x hx=>by rcases List.mem_append.1 hx with h1|h1; exact h.ro x h1; exact k.ro x h1⟩
theorem addRow(h:HR M H w)(hro:RoH H){cells us:List Value}{sz b o:Nat}(hc:∃c t fz,w.heap[b]? =some (.cells c t fz)∧o+us.length≤c.size∧(c.toList.drop o).take us.length=us)(hv:VL M cells us):
  ∃e:jL,e.blk=b∧e.base=o∧e.opn=false∧Adds M H w [some e] [.row cells sz false true true]:=by
 obtain⟨c,t,fz,hw,hle,htk⟩:=hc
 refine⟨⟨b,o,false,cells.length,sz,c.size⟩,rfl,rfl,rfl,⟨?_,fun x hx=>by simp at hx; exact⟨_,_,_,hx⟩⟩⟩
 have hx:=Ext.app M [some (⟨b,o,false,cells.length,sz,c.size⟩:jL)]
 have hlen:=h.len
 have hro':RoH (H++[.row cells sz false true true]):=hro.app fun x hx=>by simp at hx; exact⟨_,_,_,hx⟩
 refine⟨by simp[hlen],fun q e k hq hk=> ?_,fun q q' e e' _ _ _ hwr _=>absurd hwr (hro' q)⟩
 by_cases hl:q<M.length
 ·rw[List.getElem?_append_left hl]at hq
  rw[List.getElem?_append_left (by omega)]at hk
  exact(h.blk q e k hq hk).mono hx
 ·have e0:q=M.length:=by
   have:=(List.getElem?_eq_some_iff.1 hq).1
   simp at this; omega
  subst e0
  rw[List.getElem?_append_right (Nat.le_refl _)]at hq
  rw[hlen,List.getElem?_append_right (Nat.le_refl _)]at hk
  simp at hq hk; subst hq; subst hk
  exact⟨rfl,rfl,rfl,fun _=>⟨c,t,fz,hw,rfl,by have:=hv.1; simp; omega,by
   have e:(c.toList.drop o).take cells.length=us:=by rw[hv.1]; exact htk
   simp only
   rw[e]; exact hv.mono hx,fun hf=>by simp at hf⟩⟩
theorem pieces{P:Program}:∀{l:List Field} {o n:Nat} {cs:List Value},Pq P l o n=true->cs.length=n->o≤n∧((l.map fun f=>(cs.drop f.offset).take (P.cellsOf f.type)).flatten=cs.drop o)
 |[],o,n,cs,h,hl=>by
  simp[Pq]at h; subst h
  exact⟨Nat.le_refl _,by simp[hl]⟩
 |f::r,o,n,cs,h,hl=>by
  simp only[Pq,Bool.and_eq_true,beq_iff_eq]at h
  obtain⟨h1,h2⟩:=h
  obtain⟨h3,h4⟩:=pieces h2 hl
  refine⟨by omega,?_⟩
  simp only[List.map_cons,List.flatten_cons,h4,h1]
  rw[←List.drop_drop]
  exact List.take_append_drop _ _
theorem Wh:∀(n sz:Nat) (cs:List Value),cs.length=n*sz->((List.range n).map fun i=>(cs.drop (i*sz)).take sz).flatten=cs
 |0,sz,cs,h=>by simp at h; simp[h]
 |n+1,sz,cs,h=>by
  rw[List.range_succ,List.map_append,List.flatten_append]
  have hl:(cs.take (n*sz)).length=n*sz:=by simp; rw[h,Nat.add_mul]; omega
  have:=Wh n sz (cs.take (n*sz)) hl
  have e:((List.range n).map fun i=>(cs.drop (i*sz)).take sz)=(List.range n).map fun i=>((cs.take (n*sz)).drop (i*sz)).take sz:=by
   apply List.map_congr_left
   intro i hi
   have hi:i<n:=by simpa using hi
   rw[List.drop_take,List.take_take]
   congr 1
   have:(i+1)*sz≤n*sz:=Nat.mul_le_mul_right _ hi
   rw[Nat.add_mul]at this
   omega
  rw[e,this]
  simp only[List.map_cons,List.map_nil,List.flatten_cons,List.flatten_nil,List.append_nil]
  rw[List.take_of_length_le (l:=cs.drop (n*sz)) (by simp; rw[h,Nat.add_mul]; omega)]
  exact List.take_append_drop _ _
section
variable{HH:Type}{enc:TypeId×Value->HH}{base:Nat}{spare:Nat->Bool}{held:Bool}
theorem Og(M:Mp){v:Value}(h:vO v=true):VL M [v] [v]:=VL.cons (VR.vO h) (VL.nil M)
end
end Go.Proofs.YtijnknjopjmiiaaGreatDoor.Zq
end
section
namespace Go.Proofs.YtijnknjopjmiiaaGreatDoor.Zq
section
variable{Pr:Program}{H:Heap}
inductive Sh where
 |b
 |i (k:IntKind)
 |s
 |sl
def ShL:List Sh->List Value->Prop
 |[],cs=>cs=[]
 | .b::r,cs=>∃x t,cs= .bool x::t∧ShL r t
 | .i k::r,cs=>∃x t,cs= .int k x::t∧ShL r t
 | .s::r,cs=>∃x t,cs= .string x::t∧ShL r t
 | .sl::r,cs=>∃(x:Sl) (t:List Value),cs=x.v::t∧ShL r t
theorem ShL.app:∀{a b:List Sh} {x y:List Value},ShL a x->ShL b y->ShL (a++b) (x++y)
 |[],b,x,y,h,k=>by
  have h:x=[]:=h
  subst h; exact k
 | .b::r,b,x,y,h,k=>by obtain⟨q,t,rfl,h⟩:=h; exact⟨q,t++y,rfl,ShL.app h k⟩
 | .i _::r,b,x,y,h,k=>by obtain⟨q,t,rfl,h⟩:=h; exact⟨q,t++y,rfl,ShL.app h k⟩
 | .s::r,b,x,y,h,k=>by obtain⟨q,t,rfl,h⟩:=h; exact⟨q,t++y,rfl,ShL.app h k⟩
 | .sl::r,b,x,y,h,k=>by obtain⟨q,t,rfl,h⟩:=h; exact⟨q,t++y,rfl,ShL.app h k⟩
def ac_:List (Option (List Sh))->Option (List Sh)
 |[]=>some []
 |x::r=>match x,ac_ r with|some a,some b=>some (a++b)|_,_=>none
def shp(P:Program):Nat->TypeId->Option (List Sh)
 |0,_=>none
 |d+1,t=>
  match P.underlying t with
  |some .bool=>some [.b]
  |some (.int k)=>some [.i k]
  |some .string=>some [.s]
  |some (.slice _)=>some [.sl]
  |some (.struct fs)=>ac_ (fs.toList.map fun f=>shp P d f.type)
  |some (.array n e)=>ac_ ((List.range n).map fun _=>shp P d e)
  |_=>none
theorem Wi:∀(l:List (Option (List Sh))) (acss:List (List Value)) (ss:List Sh),acss.length=l.length->(∀(i:Nat) o a,l[i]? =some o->acss[i]? =some a->∀s,o=some s->ShL s a)->ac_ l=some ss->ShL ss acss.flatten
 |[],[],ss,_,_,h=>by simp[ac_]at h; subst h; rfl
 |o::l,a::acss,ss,hl,hp,h=>by
  simp only[ac_]at h
  split at h
  ·rename_i x y hy
   cases h
   rw[List.flatten_cons]
   exact ShL.app (hp 0 _ a rfl rfl x rfl) (Wi l acss y (by simpa using hl) (fun i o a h1 h2=>hp (i+1) o a (by simpa using h1) (by simpa using h2)) hy)
  ·cases h
 |[],_::_,_,h,_,_=>by simp at h
 |_::_,[],_,h,_,_=>by simp at h
theorem zf.shp:∀{d:Nat} {t:TypeId} {cs:List Value} {ss:List Sh},zf Pr H d t cs->Zq.shp Pr d t=some ss->ShL ss cs
 |0,_,_,_,h,_=>h.elim
 |d+1,t,cs,ss,h,hs=>by
  simp only[zf]at h
  simp only[Zq.shp]at hs
  obtain⟨_,h⟩:=h
  split at h
  ·rename_i ht
   rw[ht]at hs; cases hs
   obtain⟨b,rfl⟩:=h
   exact⟨b,[],rfl,rfl⟩
  ·rename_i ht
   rw[ht]at hs; cases hs
   obtain⟨b,rfl,_⟩:=h
   exact⟨b,[],rfl,rfl⟩
  ·rename_i ht
   rw[ht]at hs; cases hs
   obtain⟨b,rfl,_⟩:=h
   exact⟨b,[],rfl,rfl⟩
  ·rename_i ht
   rw[ht]at hs; cases hs
   rcases h with rfl|⟨b,off,rfl⟩|⟨b,len,cap,acss,rfl,_⟩
   ·exact⟨⟨none,0,0⟩,[],rfl,rfl⟩
   ·exact⟨⟨some ⟨b,off,some 0⟩,0,0⟩,[],rfl,rfl⟩
   ·exact⟨⟨some ⟨b,0,none⟩,len,cap⟩,[],rfl,rfl⟩
  ·rename_i fs ht
   rw[ht]at hs
   obtain⟨acss,hl,rfl,hp⟩:=h
   refine Wi _ acss ss (by simp[hl]) (fun i o a h1 h2 s hs=> ?_) hs
   simp only[List.getElem?_map,Option.map_eq_some_iff]at h1
   obtain⟨f,h3,h4⟩:=h1
   exact zf.shp (hp i f a (by simpa using h3) h2) (h4.trans hs)
  ·rename_i n e ht
   rw[ht]at hs
   obtain⟨acss,hl,rfl,hp⟩:=h
   refine Wi _ acss ss (by simp[hl]) (fun i o a h1 h2 s hs=> ?_) hs
   simp only[List.getElem?_map,Option.map_eq_some_iff]at h1
   obtain⟨f,h3,h4⟩:=h1
   exact zf.shp (hp a (List.mem_of_getElem? h2)) (h4.trans hs)
  ·exact h.elim
end
section
variable{P:Program}
theorem RoH.nil:RoH []:=fun b hb=>by unfold bI at hb; simp at hb
theorem CALL.law{M:Mp}{H:Heap}{w:World}{g:FuncId}{args args':List Value}(h:CALL P [ah] g args H fun x _=>x.1=true)(hr:HR M H w)(hv:VL M args args')(hn:RoH H):
  Calls P g args'.toArray w fun e w'=>e= .returned (.bool true)∧RowKit.Below w.heap.size w w':=by
 refine EV.law (EV.mono h ?_) hr hv hn
 rintro v H' ⟨x,rfl,hx⟩
 show Value.bool x.1=_
 rw[hx]
theorem RoH.adds{M N:Mp}{H K:Heap}{w:World}(h:RoH H)(a:Adds M H w N K):RoH (H++K):=h.app a.ro
end
end Go.Proofs.YtijnknjopjmiiaaGreatDoor.Zq
end
section
namespace Go.Proofs.YtijnknjopjmiiaaGreatDoor.Zq
section
section
variable{Pr:Program}{H:Heap}
theorem F9:∀(acss:List (List Value)) (i:Nat) (a:List Value),acss[i]? =some a->(acss.flatten.drop ((acss.take i).map List.length).sum).take a.length=a
 |[],i,a,h=>by simp at h
 |x::r,0,a,h=>by simp at h; subst h; simp
 |x::r,i+1,a,h=>by
  have:=F9 r i a (by simpa using h)
  simp only[List.flatten_cons,List.take_succ_cons,List.map_cons,List.sum_cons]
  rw[←List.drop_drop,List.drop_left]; exact this
theorem ach{d:Nat}{fs:List Field}:∀{acss:List (List Value)} (i:Nat),(∀(j:Nat) (f:Field) (a:List Value),fs[j]? =some f->acss[j]? =some a->zf Pr H d f.type a)->acss.length=fs.length->((acss.take i).map List.length).sum=((fs.take i).map fun f=>Pr.cellsOf f.type).sum:=by
 induction fs with
 |nil=>intro acss i _ hl; have:acss=[]:=List.length_eq_zero_iff.1 hl; subst this; simp
 |cons f r ih=>
  intro acss i hp hl
  cases acss with
  |nil=>simp at hl
  |cons a q=>
   cases i with
   |zero=>rfl
   |succ i=>
    simp only[List.take_succ_cons,List.map_cons,List.sum_cons]
    rw[(hp 0 f a rfl rfl).len,ih i (fun j g b h1 h2=>hp (j+1) g b (by simpa using h1) (by simpa using h2)) (by simpa using hl)]
theorem zf.fld{d:Nat}{t:TypeId}{cs:List Value}{fs:Array Field}(ht:Pr.underlying t=some (.struct fs)){i off:Nat}{f:Field}(hf:fs[i]? =some f)(hoff:((fs.toList.take i).map fun f=>Pr.cellsOf f.type).sum=off)(h:zf Pr H (d+1) t cs):
  zf Pr H d f.type ((cs.drop off).take (Pr.cellsOf f.type)):=by
 simp only[zf,ht]at h
 obtain⟨_,acss,hl,rfl,hp⟩:=h
 have hi:i<fs.size:=(Array.getElem?_eq_some_iff.1 hf).1
 have ha:acss[i]? =some acss[i]:=List.getElem?_eq_getElem (by omega)
 have hw:=hp i f _ hf ha
 have:=F9 acss i _ ha
 rw[ach (Pr:=Pr) (H:=H) (d:=d) (fs:=fs.toList) i (fun j f a h1 h2=>hp j f a (by simpa using h1) h2) (by simpa using hl),hoff,hw.len]at this
 rw[this]; exact hw
theorem Sl.aeG{s u:Sl}(h:s.v=u.v):s=u:=by
 cases s; cases u
 simp only[Sl.v,Value.slice.injEq]at h
 obtain⟨rfl,rfl,rfl⟩:=h; rfl
end
end
section
variable{B:Nat}{P:Program}{M:Mp}{H:Heap}{w:World}
def gJ(B:Nat)(P:Program)(H:Heap):Nat->TypeId->List Value->Prop
 |0,_,_=>False
 |d+1,t,cs=>cs.length=P.cellsOf t∧
  match P.underlying t with
  |some .bool=>∃b,cs=[.bool b]
  |some (.int k)=>∃n,cs=[.int k n]∧(Lit.int k n).wf=true
  |some .string=>∃s:ByteArray,cs=[.string s]∧s.size≤maxLen
  |some (.slice e)=>cs=[.slice none 0 0]∨(∃b off,cs=[.slice (some ⟨b,off,some 0⟩) 0 0])∨
    ∃b len cap,∃acss:List (List Value),cs=[.slice (some ⟨b,0,none⟩) len cap]∧len≤cap∧cap≤maxLen∧len≤B∧acss.length=cap∧0<cap∧H[b]? =some (.row acss.flatten (P.cellsOf e) false true true)∧∀a∈acss,gJ B P H d e a
  |some (.struct fs)=>∃acss:List (List Value),acss.length=fs.size∧cs=acss.flatten∧∀(i:Nat) (f:Field) (a:List Value),fs[i]? =some f->acss[i]? =some a->gJ B P H d f.type a
  |some (.array n e)=>∃acss:List (List Value),acss.length=n∧cs=acss.flatten∧∀a∈acss,gJ B P H d e a
  |_=>False
theorem gJ.len{d:Nat}{t:TypeId}{cs:List Value}(h:gJ B P H d t cs):cs.length=P.cellsOf t:=by
 cases d with
 |zero=>exact h.elim
 |succ d=>exact h.1
theorem gJ.app{K:Heap}:∀{d:Nat} {t:TypeId} {cs:List Value},gJ B P H d t cs->gJ B P (H++K) d t cs
 |0,_,_,h=>h.elim
 |d+1,t,cs,h=>by
  simp only[gJ]at h ⊢
  refine⟨h.1,?_⟩
  have h:=h.2
  split at h
  ·exact h
  ·exact h
  ·exact h
  ·rcases h with h|h|⟨b,len,cap,acss,h1,h2,h3,hB,h4,h5,h6,h7⟩
   ·exact .inl h
   ·exact .inr (.inl h)
   ·exact .inr (.inr ⟨b,len,cap,acss,h1,h2,h3,hB,h4,h5,by rw[List.getElem?_append_left (List.getElem?_eq_some_iff.1 h6).1]; exact h6,fun a ha=>(h7 a ha).app⟩)
  ·obtain⟨acss,h1,h2,h3⟩:=h
   exact⟨acss,h1,h2,fun i f a hf ha=>(h3 i f a hf ha).app⟩
  ·obtain⟨acss,h1,h2,h3⟩:=h
   exact⟨acss,h1,h2,fun a ha=>(h3 a ha).app⟩
  ·exact h
section
variable{HH:Type}{S:DataW HH->Prop}{enc:TypeId×Value->HH}{base:Nat}{spare:Nat->Bool}{held:Bool}
def ah0(B:Nat)(S:DataW HH->Prop)(P:Program)(w:World)(enc:TypeId×Value->HH)(base:Nat)(spare:Nat->Bool)(held:Bool)(d:Nat)(t:TypeId):Prop:=
 ∀(fuel:Nat) (cs:List Value) (x:DataW HH×List MemPlace) (M:Mp) (H:Heap),DataW.trod enc P w base spare held fuel t cs=some x->S x.1->HR M H w->RoH H→
  ∃N K acs,Adds M H w N K∧VL (M++N) acs cs∧gJ B P (H++K) d t acs
theorem Wj{d:Nat}:∀(l:List (TypeId×List Value)) (M:Mp) (H:Heap),(∀p∈l,ah0 B S P w enc base spare held d p.1)->(∀p∈l,∃fuel x,DataW.trod enc P w base spare held fuel p.1 p.2=some x∧S x.1)->HR M H w->RoH H→
  ∃N K acss,Adds M H w N K∧acss.length=l.length∧VL (M++N) (List.flatten acss) (l.map (·.2)).flatten∧∀(i:Nat) (p:TypeId×List Value) (a:List Value),l[i]? =some p->acss[i]? =some a->gJ B P (H++K) d p.1 a
 |[],M,H,_,_,h,_=>⟨[],[],[],.refl h,rfl,by simpa using VL.nil _,fun i p a hi=>by simp at hi⟩
 |p::l,M,H,ho,hr,h,hro=>by
  obtain⟨fuel,x,hx,hs⟩:=hr p (by simp)
  obtain⟨N,K,acs,h1,h2,h3⟩:=ho p (by simp) fuel p.2 x M H hx hs h hro
  obtain⟨N',K',acss,g1,g2,g3,g4⟩:=Wj l (M++N) (H++K) (fun q hq=>ho q (by simp[hq])) (fun q hq=>hr q (by simp[hq])) h1.hr (hro.app h1.ro)
  refine⟨N++N',K++K',acs::acss,h1.trans g1,by simp[g2],?_,fun i q a hi ha=> ?_⟩
  ·simp only[List.map_cons,List.flatten_cons]
   rw[←List.append_assoc]
   exact(h2.mono (Ext.app _ _)).append g3
  ·cases i with
   |zero=>simp at hi ha; subst hi; subst ha; rw[←List.append_assoc]; exact h3.app
   |succ i=>rw[←List.append_assoc]; exact g4 i q a (by simpa using hi) (by simpa using ha)
theorem Pv(hS1:∀e r,S (.slice e r)->e.length≤B∧∀d∈e++r,S d)(hS2:∀l,S (.agg l)->∀d∈l,S d):∀(d:Nat) (t:TypeId),okD P d t=true->ah0 B S P w enc base (fun _=>true) held d t
 |0,t,h=>by simp[okD]at h
 |d+1,t,h=>by
  intro fuel cs x M H hx hs hr hro
  unfold okD at h
  split at h
  ·rename_i ht
   obtain⟨b,rfl,_⟩:=DataW.trod_bool ht hx
   exact⟨[],[],_,.refl hr,Og _ rfl,by simp only[gJ,ht]; exact⟨by simpa using(by simpa using h:P.cellsOf t=1).symm,b,rfl⟩⟩
  ·rename_i k ht
   obtain⟨n,rfl,_,hw⟩:=DataW.trod_int ht hx
   exact⟨[],[],_,.refl hr,Og _ rfl,by simp only[gJ,ht]; exact⟨by simpa using(by simpa using h:P.cellsOf t=1).symm,n,rfl,hw⟩⟩
  ·rename_i ht
   obtain⟨s,rfl,_,hs⟩:=DataW.trod_string ht hx
   exact⟨[],[],_,.refl hr,Og _ rfl,by simp only[gJ,ht]; exact⟨by simpa using(by simpa using h:P.cellsOf t=1).symm,s,rfl,hs⟩⟩
  ·rename_i e ht
   simp only[Bool.and_eq_true,beq_iff_eq,decide_eq_true_eq]at h
   obtain⟨⟨hc1,hc0⟩,hok⟩:=h
   rcases DataW.trod_slice ht hx with⟨rfl,_⟩|⟨a,len,cap,elems,rest,n,_,rfl,hxe,hb,hl,hm,hlen,hel,hsp,_⟩
   ·exact⟨[],[],_,.refl hr,Og _ rfl,by simp[gJ,ht,hc1]⟩
   ·obtain⟨hrl,hre⟩:=hsp rfl
    rw[hxe]at hs
    obtain⟨hsl,hsm⟩:=hS1 _ _ hs
    rw[List.length_map,hlen]at hsl
    by_cases hcap:cap=0
    ·subst hcap
     have:len=0:=by omega
     subst this
     exact⟨[],[],[.slice (some ⟨0,0,some 0⟩) 0 0],.refl hr,VL.cons .sliceE (VL.nil _),by simp only[gJ,ht]; exact⟨by simp[hc1],.inr (.inl ⟨0,0,rfl⟩)⟩⟩
    ·have hall:∀i,i<cap->∃ci y,w.cells? base (a.add (i*P.cellsOf e)) (P.cellsOf e)=some ci∧DataW.trod enc P w base (fun _=>true) held n e ci=some y∧S y.1:=by
      intro i hi
      by_cases h':i<len
      ·have:=hel i h'
       rw[List.getElem?_eq_getElem (by omega),Option.bind_eq_some_iff]at this
       obtain⟨ci,q1,q2⟩:=this
       exact⟨ci,_,q1,q2,hsm _ (List.mem_append_left _ (List.mem_map.2 ⟨_,List.getElem_mem _,rfl⟩))⟩
      ·have:=hre (i-len) (by omega)
       rw[show len+(i-len)=i by omega,List.getElem?_eq_getElem (by omega),Option.bind_eq_some_iff]at this
       obtain⟨ci,q1,q2⟩:=this
       exact⟨ci,_,q1,q2,hsm _ (List.mem_append_right _ (List.mem_map.2 ⟨_,List.getElem_mem _,rfl⟩))⟩
     have hspot:a.spot=none:=by
      obtain⟨ci,y,q1,_⟩:=hall 0 (by omega)
      obtain⟨_,q3,q4⟩:=World.cells?_some q1
      have:=q4 0 hc0
      rw[List.getElem?_eq_getElem (by omega)]at this
      simp only[Nat.zero_mul]at this
      unfold World.cell? at this
      simp only[Addr.add,if_true]at this
      split at this
      ·split at this
       ·simp at this
       ·rename_i hns; simpa using hns
      ·simp at this
     obtain⟨bl,of,sp⟩:=a
     simp only at hspot; subst hspot
     obtain⟨c,ct,fz,hw⟩:∃c ct fz,w.heap[bl]? =some (.cells c ct fz):=by
      obtain⟨ci,y,q1,_⟩:=hall 0 (by omega)
      obtain⟨_,q3,q4⟩:=World.cells?_some q1
      have:=q4 0 hc0
      rw[List.getElem?_eq_getElem (by omega)]at this
      simp only[Nat.zero_mul]at this
      unfold World.cell? at this
      simp only[Addr.add,if_true]at this
      split at this
      ·rename_i c ct fz hw; exact⟨c,ct,fz,hw⟩
      ·simp at this
     have hci:∀i,i<cap->w.cells? base ((⟨bl,of,none⟩:Addr).add (i*P.cellsOf e)) (P.cellsOf e)=some ((c.toList.drop (of+i*P.cellsOf e)).take (P.cellsOf e))∧of+i*P.cellsOf e+P.cellsOf e≤c.size:=by
      intro i hi
      obtain⟨ci,y,q1,_⟩:=hall i hi
      obtain⟨_,q3,q4⟩:=World.cells?_some q1
      have hj:∀j,j<P.cellsOf e->c.toList[of+i*P.cellsOf e+j]? =ci[j]? :=by
       intro j hj
       have:=q4 j hj
       rw[Addr.add_lit,Addr.add_lit]at this
       unfold World.cell? at this
       simp only[hw]at this
       simpa using this
      have hsz:of+i*P.cellsOf e+P.cellsOf e≤c.size:=by
       have:=hj (P.cellsOf e-1) (by omega)
       rw[List.getElem?_eq_getElem (l:=ci) (by omega)]at this
       have:=(List.getElem?_eq_some_iff.1 this).1
       simp at this; omega
      refine⟨?_,hsz⟩
      rw[q1]; congr 1
      apply List.ext_getElem?
      intro j
      rw[List.getElem?_take,List.getElem?_drop]
      by_cases hjl:j<P.cellsOf e
      ·rw[if_pos hjl,hj j hjl]
      ·rw[if_neg hjl,List.getElem?_eq_none (by omega)]
     let us:=(c.toList.drop of).take (cap*P.cellsOf e)
     have hul:us.length=cap*P.cellsOf e:=by
      have:=(hci (cap-1) (by omega)).2
      have h2:(cap-1)*P.cellsOf e+P.cellsOf e=cap*P.cellsOf e:=by rw[←Nat.succ_mul]; congr 1; omega
      simp[us]; omega
     let l:=(List.range cap).map fun i=>(e,(us.drop (i*P.cellsOf e)).take (P.cellsOf e))
     have hpc:∀i,i<cap->(us.drop (i*P.cellsOf e)).take (P.cellsOf e)=(c.toList.drop (of+i*P.cellsOf e)).take (P.cellsOf e):=by
      intro i hi
      simp only[us]
      rw[List.drop_take,List.take_take,List.drop_drop]
      congr 1
      have:(i+1)*P.cellsOf e≤cap*P.cellsOf e:=Nat.mul_le_mul_right _ hi
      rw[Nat.add_mul]at this
      omega
     obtain⟨N,K,acss,g1,g2,g3,g4⟩:=Wj (d:=d) l M H (fun p hp=>by
       obtain⟨i,_,rfl⟩:=List.mem_map.1 hp
       exact Pv hS1 hS2 d e hok) (fun p hp=>by
       obtain⟨i,hi,rfl⟩:=List.mem_map.1 hp
       have hi:i<cap:=by simpa using hi
       obtain⟨ci,y,q1,q2,q3⟩:=hall i hi
       rw[(hci i hi).1]at q1
       have q1:=Option.some.inj q1
       refine⟨n,y,?_,q3⟩
       simp only
       rw[hpc i hi,q1]; exact q2) hr hro
     have hfl:(l.map (·.2)).flatten=us:=by
      simp only[l,List.map_map]
      exact Wh cap _ us hul
     rw[hfl]at g3
     obtain⟨en,k1,k2,k3,k4⟩:=addRow (sz:=P.cellsOf e) (b:=bl) (o:=of) g1.hr (hro.app g1.ro) ⟨c,ct,fz,hw,by
      have:=(hci (cap-1) (by omega)).2
      have h2:(cap-1)*P.cellsOf e+P.cellsOf e=cap*P.cellsOf e:=by rw[←Nat.succ_mul]; congr 1; omega
      rw[hul]; omega,by rw[hul]⟩ g3
     refine⟨N++[some en],K++[.row acss.flatten (P.cellsOf e) false true true],[.slice (some ⟨(H++K).length,0,none⟩) len cap],g1.trans k4,?_,?_⟩
     ·refine VL.cons ?_ (VL.nil _)
      have hget:(M++(N++[some en]))[(H++K).length]? =some (some en):=by
       have:=g1.hr.len
       rw[←List.append_assoc,←this]; simp
      have:=VR.slice (M:=M++(N++[some en])) (off:=0) (len:=len) (cap:=cap) (c:=cap) hget (.inl rfl)
      rw[k1,k2]at this
      exact this
     ·simp only[gJ,ht]
      refine⟨by simp[hc1],.inr (.inr ⟨_,len,cap,acss,rfl,hl,hm,hsl,by rw[g2]; simp[l],by omega,?_,fun x hxm=> ?_⟩)⟩
      ·rw[←List.append_assoc]; simp
      ·obtain⟨i,hi⟩:=List.mem_iff_getElem?.1 hxm
       have hil:i<cap:=by have:=(List.getElem?_eq_some_iff.1 hi).1; rw[g2]at this; simpa[l]using this
       have:=g4 i (e,(us.drop (i*P.cellsOf e)).take (P.cellsOf e)) x (by simp[l,hil]) hi
       rw[←List.append_assoc]; exact this.app
  ·rename_i fs ht
   simp only[Bool.and_eq_true,List.all_eq_true]at h
   obtain⟨hct,hok⟩:=h
   obtain⟨xs,n,_,hxe,hl,hxl,hxs⟩:=DataW.trod_struct ht hx
   rw[hxe]at hs
   have hsm:=hS2 _ hs
   obtain⟨_,hfl⟩:=pieces hct hl
   obtain⟨N,K,acss,g1,g2,g3,g4⟩:=Wj (d:=d) (fs.toList.map fun f=>(f.type,(cs.drop f.offset).take (P.cellsOf f.type))) M H (fun p hp=>by
     obtain⟨f,hf,rfl⟩:=List.mem_map.1 hp
     exact Pv hS1 hS2 d f.type (hok f hf)) (fun p hp=>by
     obtain⟨f,hf,rfl⟩:=List.mem_map.1 hp
     obtain⟨i,hi⟩:=List.mem_iff_getElem?.1 hf
     have hi':fs[i]? =some f:=by simpa using hi
     have hil:i<xs.length:=by rw[hxl]; exact(Array.getElem?_eq_some_iff.1 hi').1
     exact⟨n,xs[i],by rw[hxs i f hi',List.getElem?_eq_getElem hil],hsm _ (List.mem_map.2 ⟨_,List.getElem_mem _,rfl⟩)⟩) hr hro
   refine⟨N,K,acss.flatten,g1,?_,?_⟩
   ·have e:((fs.toList.map fun f=>(f.type,(cs.drop f.offset).take (P.cellsOf f.type))).map (·.2)).flatten=cs:=by
     rw[List.map_map]
     have:=hfl
     rw[List.drop_zero]at this
     exact this
    rw[e]at g3; exact g3
   ·simp only[gJ,ht]
    refine⟨?_,acss,by rw[g2]; simp,rfl,fun i f a hf ha=>g4 i _ a (by simp only[List.getElem?_map]; rw[show fs.toList[i]? =some f by simpa using hf]; rfl) ha⟩
    have:=g3.1
    rw[this,List.map_map,←hl]
    have e:=hfl
    rw[List.drop_zero]at e
    exact congrArg List.length e
  ·rename_i m e ht
   simp only[Bool.and_eq_true,beq_iff_eq]at h
   obtain⟨hct,hok⟩:=h
   obtain⟨xs,n,_,hxe,hl,hxl,hxs⟩:=DataW.trod_array ht hx
   rw[hxe]at hs
   have hsm:=hS2 _ hs
   have hfl:=Wh m (P.cellsOf e) cs (by rw[hl,hct])
   obtain⟨N,K,acss,g1,g2,g3,g4⟩:=Wj (d:=d) ((List.range m).map fun i=>(e,(cs.drop (i*P.cellsOf e)).take (P.cellsOf e))) M H (fun p hp=>by
     obtain⟨i,hi,rfl⟩:=List.mem_map.1 hp
     exact Pv hS1 hS2 d e hok) (fun p hp=>by
     obtain⟨i,hi,rfl⟩:=List.mem_map.1 hp
     have hi:i<m:=by simpa using hi
     exact⟨n,xs[i]'(by omega),by simp only; rw[hxs i hi,List.getElem?_eq_getElem (by omega)],hsm _ (List.mem_map.2 ⟨_,List.getElem_mem _,rfl⟩)⟩) hr hro
   have e1:(((List.range m).map fun i=>(e,(cs.drop (i*P.cellsOf e)).take (P.cellsOf e))).map (·.2)).flatten=cs:=by rw[List.map_map]; exact hfl
   rw[e1]at g3
   refine⟨N,K,acss.flatten,g1,g3,?_⟩
   simp only[gJ,ht]
   refine⟨by rw[g3.1,hl],acss,by rw[g2]; simp,rfl,fun a ha=> ?_⟩
   obtain⟨i,hi⟩:=List.mem_iff_getElem?.1 ha
   have him:i<m:=by have:=(List.getElem?_eq_some_iff.1 hi).1; rw[g2]at this; simpa using this
   exact g4 i (e,(cs.drop (i*P.cellsOf e)).take (P.cellsOf e)) a (by simp[him]) hi
  ·simp at h
end
theorem gJ.wt:∀{d:Nat} {t:TypeId} {cs:List Value},gJ B P H d t cs->zf P H d t cs
 |0,_,_,h=>h.elim
 |d+1,t,cs,h=>by
  simp only[gJ]at h
  simp only[zf]
  refine⟨h.1,?_⟩
  have h:=h.2
  split at h
  ·rename_i ht; (try simp only[ht]); exact h
  ·rename_i ht; (try simp only[ht]); exact h
  ·rename_i ht; (try simp only[ht]); exact h
  ·rename_i ht
   (try simp only[ht])
   rcases h with h|h|⟨b,len,cap,acss,h1,h2,h3,hB,h4,h5,h6,h7⟩
   ·exact .inl h
   ·exact .inr (.inl h)
   ·exact .inr (.inr ⟨b,len,cap,acss,h1,h2,h3,h4,h5,h6,fun a ha=>(h7 a ha).wt⟩)
  ·rename_i ht
   (try simp only[ht])
   obtain⟨acss,h1,h2,h3⟩:=h
   exact⟨acss,h1,h2,fun i f a hf ha=>(h3 i f a hf ha).wt⟩
  ·rename_i ht
   (try simp only[ht])
   obtain⟨acss,h1,h2,h3⟩:=h
   exact⟨acss,h1,h2,fun a ha=>(h3 a ha).wt⟩
  ·exact h.elim
theorem aeH{d:Nat}{fs:List Field}:∀{acss:List (List Value)} (i:Nat),(∀(j:Nat) (f:Field) (a:List Value),fs[j]? =some f->acss[j]? =some a->gJ B P H d f.type a)->acss.length=fs.length->((acss.take i).map List.length).sum=((fs.take i).map fun f=>P.cellsOf f.type).sum:=
 fun i h hl=>ach i (fun j f a h1 h2=>(h j f a h1 h2).wt) hl
theorem gJ.fld{d:Nat}{t:TypeId}{cs:List Value}{fs:Array Field}(ht:P.underlying t=some (.struct fs)){i off:Nat}{f:Field}(hf:fs[i]? =some f)(hoff:((fs.toList.take i).map fun f=>P.cellsOf f.type).sum=off)(h:gJ B P H (d+1) t cs):
  gJ B P H d f.type ((cs.drop off).take (P.cellsOf f.type)):=by
 simp only[gJ,ht]at h
 obtain⟨_,acss,hl,rfl,hp⟩:=h
 have hi:i<fs.size:=(Array.getElem?_eq_some_iff.1 hf).1
 have ha:acss[i]? =some acss[i]:=List.getElem?_eq_getElem (by omega)
 have hw:=hp i f _ hf ha
 have:=F9 acss i _ ha
 rw[aeH (P:=P) (H:=H) (d:=d) (fs:=fs.toList) i (fun j f a h1 h2=>hp j f a (by simpa using h1) h2) (by simpa using hl),hoff,hw.len]at this
 rw[this]; exact hw
end
def zH:Value->Prop
 | .int k n=>(Lit.int k n).wf=true
 | .string s=>s.size≤maxLen
 |_=>True
theorem zf.Wn{P:Program}{H:Heap}:∀{d:Nat} {t:TypeId} {cs:List Value},zf P H d t cs->∀v∈cs,zH v
 |0,_,_,h=>h.elim
 |d+1,t,cs,h=>by
  simp only[zf]at h
  obtain⟨_,h⟩:=h
  intro v hv
  split at h
  ·obtain⟨b,rfl⟩:=h
   simp at hv; subst hv; trivial
  ·obtain⟨b,rfl,q⟩:=h
   simp at hv; subst hv; exact q
  ·obtain⟨b,rfl,q⟩:=h
   simp at hv; subst hv; exact q
  ·rcases h with rfl|⟨b,off,rfl⟩|⟨b,len,cap,acss,rfl,_⟩<;>(simp at hv; subst hv; trivial)
  ·obtain⟨acss,hl,rfl,hp⟩:=h
   obtain⟨a,ha,hva⟩:=List.mem_flatten.1 hv
   obtain⟨i,hi⟩:=List.mem_iff_getElem?.1 ha
   have hil:=(List.getElem?_eq_some_iff.1 hi).1
   exact zf.Wn (hp i _ a (Array.getElem?_eq_getElem (by omega)) hi) v hva
  ·obtain⟨acss,hl,rfl,hp⟩:=h
   obtain⟨a,ha,hva⟩:=List.mem_flatten.1 hv
   exact zf.Wn (hp a ha) v hva
  ·exact h.elim
end Go.Proofs.YtijnknjopjmiiaaGreatDoor.Zq
end
section
namespace Go.Proofs.YtijnknjopjmiiaaGreatDoor
open Go Zq
def Tryz.tab:List (Option TI):=[
 none,
 none,
 none,
 some ⟨.int .i64,1,8,[.int .i64 0]⟩,
 some ⟨.bool,1,1,[.bool false]⟩,
 some ⟨.int .u8,1,1,[.int .u8 0]⟩,
 none,
 none,
 none,
 some ⟨.string,1,16,[.string ⟨#[]⟩]⟩,
 none,
 none,
 none,
 none,
 none,
 none,
 none,
 none,
 none,
 none,
 none,
 some ⟨.int .i32,1,4,[.int .i32 0]⟩,
 some ⟨.slice 97,1,24,[.slice none 0 0]⟩,
 some ⟨.slice 101,1,24,[.slice none 0 0]⟩,
 none,
 some ⟨.struct [(0,22),(1,23),(2,4)],3,56,[.slice none 0 0,.slice none 0 0,.bool false]⟩,
 some ⟨.slice 46,1,24,[.slice none 0 0]⟩,
 some ⟨.slice 3,1,24,[.slice none 0 0]⟩,
 none,
 some ⟨.pointer 131,1,8,[.pointer none]⟩,
 some ⟨.slice 51,1,24,[.slice none 0 0]⟩,
 none,
 none,
 none,
 some ⟨.int .i64,1,8,[.int .i64 0]⟩,
 none,
 none,
 some ⟨.slice 60,1,24,[.slice none 0 0]⟩,
 none,
 none,
 none,
 none,
 some ⟨.func,1,8,[.nilFunc]⟩,
 some ⟨.int .u8,1,1,[.int .u8 0]⟩,
 some ⟨.array 4 3,4,32,[.int .i64 0,.int .i64 0,.int .i64 0,.int .i64 0]⟩,
 none,
 some ⟨.struct [(0,3),(1,3),(2,43),(3,3),(4,3),(5,44),(9,3),(10,4)],11,88,[.int .i64 0,.int .i64 0,.int .u8 0,.int .i64 0,.int .i64 0,.int .i64 0,.int .i64 0,.int .i64 0,.int .i64 0,.int .i64 0,.bool false]⟩,
 some ⟨.int .u8,1,1,[.int .u8 0]⟩,
 none,
 some ⟨.int .u16,1,2,[.int .u16 0]⟩,
 none,
 some ⟨.struct [(0,3),(1,47),(2,49),(3,3),(4,3)],5,32,[.int .i64 0,.int .u8 0,.int .u16 0,.int .i64 0,.int .i64 0]⟩,
 some ⟨.int .u8,1,1,[.int .u8 0]⟩,
 some ⟨.int .u8,1,1,[.int .u8 0]⟩,
 some ⟨.int .u8,1,1,[.int .u8 0]⟩,
 some ⟨.int .u8,1,1,[.int .u8 0]⟩,
 some ⟨.int .u8,1,1,[.int .u8 0]⟩,
 none,
 some ⟨.struct [(0,52),(1,53),(2,54),(3,3),(4,47),(5,55),(6,56),(7,9)],8,40,[.int .u8 0,.int .u8 0,.int .u8 0,.int .i64 0,.int .u8 0,.int .u8 0,.int .u8 0,.string ⟨#[]⟩]⟩,
 none,
 some ⟨.struct [(0,3),(1,3),(2,58)],10,56,[.int .i64 0,.int .i64 0,.int .u8 0,.int .u8 0,.int .u8 0,.int .i64 0,.int .u8 0,.int .u8 0,.int .u8 0,.string ⟨#[]⟩]⟩,
 none,
 none,
 some ⟨.pointer 133,1,8,[.pointer none]⟩,
 none,
 none,
 none,
 none,
 none,
 none,
 none,
 none,
 none,
 none,
 none,
 none,
 some ⟨.slice 30,1,24,[.slice none 0 0]⟩,
 none,
 some ⟨.slice 37,1,24,[.slice none 0 0]⟩,
 none,
 none,
 none,
 none,
 none,
 none,
 none,
 none,
 some ⟨.func,1,8,[.nilFunc]⟩,
 none,
 none,
 none,
 none,
 none,
 none,
 some ⟨.int .u8,1,1,[.int .u8 0]⟩,
 some ⟨.slice 58,1,24,[.slice none 0 0]⟩,
 none,
 some ⟨.struct [(0,9),(1,47),(2,94),(3,3),(4,3),(5,3),(6,49),(7,4),(8,95)],9,80,[.string ⟨#[]⟩,.int .u8 0,.int .u8 0,.int .i64 0,.int .i64 0,.int .i64 0,.int .u16 0,.bool false,.slice none 0 0]⟩,
 none,
 none,
 none,
 some ⟨.struct [(0,56),(1,9),(2,3),(3,3)],4,40,[.int .u8 0,.string ⟨#[]⟩,.int .i64 0,.int .i64 0]⟩,
 none,
 none,
 none,
 none,
 none,
 none,
 none,
 none,
 some ⟨.slice 114,1,24,[.slice none 0 0]⟩,
 none,
 none,
 none,
 some ⟨.struct [(0,60),(10,27)],11,80,[.int .i64 0,.int .i64 0,.int .u8 0,.int .u8 0,.int .u8 0,.int .i64 0,.int .u8 0,.int .u8 0,.int .u8 0,.string ⟨#[]⟩,.slice none 0 0]⟩,
 none,
 none,
 none,
 none,
 none,
 none,
 none,
 none,
 some ⟨.func,1,8,[.nilFunc]⟩,
 none,
 none,
 none,
 some ⟨.array 64 97,576,5120,[.string ⟨#[]⟩,.int .u8 0,.int .u8 0,.int .i64 0,.int .i64 0,.int .i64 0,.int .u16 0,.bool false,.slice none 0 0,.string ⟨#[]⟩,.int .u8 0,.int .u8 0,.int .i64 0,.int .i64 0,.int .i64 0,.int .u16 0,.bool false,.slice none 0 0,.string ⟨#[]⟩,.int .u8 0,.int .u8 0,.int .i64 0,.int .i64 0,.int .i64 0,.int .u16 0,.bool false,.slice none 0 0,.string ⟨#[]⟩,.int .u8 0,.int .u8 0,.int .i64 0,.int .i64 0,.int .i64 0,.int .u16 0,.bool false,.slice none 0 0,.string ⟨#[]⟩,.int .u8 0,.int .u8 0,.int .i64 0,.int .i64 0,.int .i64 0,.int .u16 0,.bool false,.slice none 0 0,.string ⟨#[]⟩,.int .u8 0,.int .u8 0,.int .i64 0,.int .i64 0,.int .i64 0,.int .u16 0,.bool false,.slice none 0 0,.string ⟨#[]⟩,.int .u8 0,.int .u8 0,.int .i64 0,.int .i64 0,.int .i64 0,.int .u16 0,.bool false,.slice none 0 0,.string ⟨#[]⟩,.int .u8 0,.int .u8 0,.int .i64 0,.int .i64 0,.int .i64 0,.int .u16 0,.bool false,.slice none 0 0,.string ⟨#[]⟩,.int .u8 0,.int .u8 0,.int .i64 0,.int .i64 0,.int .i64 0,.int .u16 0,.bool false,.slice none 0 0,.string ⟨#[]⟩,.int .u8 0,.int .u8 0,.int .i64 0,.int .i64 0,.int .i64 0,.int .u16 0,.bool false,.slice none 0 0,.string ⟨#[]⟩,.int .u8 0,.int .u8 0,.int .i64 0,.int .i64 0,.int .i64 0,.int .u16 0,.bool false,.slice none 0 0,.string ⟨#[]⟩,.int .u8 0,.int .u8 0,.int .i64 0,.int .i64 0,.int .i64 0,.int .u16 0,.bool false,.slice none 0 0,.string ⟨#[]⟩,.int .u8 0,.int .u8 0,.int .i64 0,.int .i64 0,.int .i64 0,.int .u16 0,.bool false,.slice none 0 0,.string ⟨#[]⟩,.int .u8 0,.int .u8 0,.int .i64 0,.int .i64 0,.int .i64 0,.int .u16 0,.bool false,.slice none 0 0,.string ⟨#[]⟩,.int .u8 0,.int .u8 0,.int .i64 0,.int .i64 0,.int .i64 0,.int .u16 0,.bool false,.slice none 0 0,.string ⟨#[]⟩,.int .u8 0,.int .u8 0,.int .i64 0,.int .i64 0,.int .i64 0,.int .u16 0,.bool false,.slice none 0 0,.string ⟨#[]⟩,.int .u8 0,.int .u8 0,.int .i64 0,.int .i64 0,.int .i64 0,.int .u16 0,.bool false,.slice none 0 0,.string ⟨#[]⟩,.int .u8 0,.int .u8 0,.int .i64 0,.int .i64 0,.int .i64 0,.int .u16 0,.bool false,.slice none 0 0,.string ⟨#[]⟩,.int .u8 0,.int .u8 0,.int .i64 0,.int .i64 0,.int .i64 0,.int .u16 0,.bool false,.slice none 0 0,.string ⟨#[]⟩,.int .u8 0,.int .u8 0,.int .i64 0,.int .i64 0,.int .i64 0,.int .u16 0,.bool false,.slice none 0 0,.string ⟨#[]⟩,.int .u8 0,.int .u8 0,.int .i64 0,.int .i64 0,.int .i64 0,.int .u16 0,.bool false,.slice none 0 0,.string ⟨#[]⟩,.int .u8 0,.int .u8 0,.int .i64 0,.int .i64 0,.int .i64 0,.int .u16 0,.bool false,.slice none 0 0,.string ⟨#[]⟩,.int .u8 0,.int .u8 0,.int .i64 0,.int .i64 0,.int .i64 0,.int .u16 0,.bool false,.slice none 0 0,.string ⟨#[]⟩,.int .u8 0,.int .u8 0,.int .i64 0,.int .i64 0,.int .i64 0,.int .u16 0,.bool false,.slice none 0 0,.string ⟨#[]⟩,.int .u8 0,.int .u8 0,.int .i64 0,.int .i64 0,.int .i64 0,.int .u16 0,.bool false,.slice none 0 0,.string ⟨#[]⟩,.int .u8 0,.int .u8 0,.int .i64 0,.int .i64 0,.int .i64 0,.int .u16 0,.bool false,.slice none 0 0,.string ⟨#[]⟩,.int .u8 0,.int .u8 0,.int .i64 0,.int .i64 0,.int .i64 0,.int .u16 0,.bool false,.slice none 0 0,.string ⟨#[]⟩,.int .u8 0,.int .u8 0,.int .i64 0,.int .i64 0,.int .i64 0,.int .u16 0,.bool false,.slice none 0 0,.string ⟨#[]⟩,.int .u8 0,.int .u8 0,.int .i64 0,.int .i64 0,.int .i64 0,.int .u16 0,.bool false,.slice none 0 0,.string ⟨#[]⟩,.int .u8 0,.int .u8 0,.int .i64 0,.int .i64 0,.int .i64 0,.int .u16 0,.bool false,.slice none 0 0,.string ⟨#[]⟩,.int .u8 0,.int .u8 0,.int .i64 0,.int .i64 0,.int .i64 0,.int .u16 0,.bool false,.slice none 0 0,.string ⟨#[]⟩,.int .u8 0,.int .u8 0,.int .i64 0,.int .i64 0,.int .i64 0,.int .u16 0,.bool false,.slice none 0 0,.string ⟨#[]⟩,.int .u8 0,.int .u8 0,.int .i64 0,.int .i64 0,.int .i64 0,.int .u16 0,.bool false,.slice none 0 0,.string ⟨#[]⟩,.int .u8 0,.int .u8 0,.int .i64 0,.int .i64 0,.int .i64 0,.int .u16 0,.bool false,.slice none 0 0,.string ⟨#[]⟩,.int .u8 0,.int .u8 0,.int .i64 0,.int .i64 0,.int .i64 0,.int .u16 0,.bool false,.slice none 0 0,.string ⟨#[]⟩,.int .u8 0,.int .u8 0,.int .i64 0,.int .i64 0,.int .i64 0,.int .u16 0,.bool false,.slice none 0 0,.string ⟨#[]⟩,.int .u8 0,.int .u8 0,.int .i64 0,.int .i64 0,.int .i64 0,.int .u16 0,.bool false,.slice none 0 0,.string ⟨#[]⟩,.int .u8 0,.int .u8 0,.int .i64 0,.int .i64 0,.int .i64 0,.int .u16 0,.bool false,.slice none 0 0,.string ⟨#[]⟩,.int .u8 0,.int .u8 0,.int .i64 0,.int .i64 0,.int .i64 0,.int .u16 0,.bool false,.slice none 0 0,.string ⟨#[]⟩,.int .u8 0,.int .u8 0,.int .i64 0,.int .i64 0,.int .i64 0,.int .u16 0,.bool false,.slice none 0 0,.string ⟨#[]⟩,.int .u8 0,.int .u8 0,.int .i64 0,.int .i64 0,.int .i64 0,.int .u16 0,.bool false,.slice none 0 0,.string ⟨#[]⟩,.int .u8 0,.int .u8 0,.int .i64 0,.int .i64 0,.int .i64 0,.int .u16 0,.bool false,.slice none 0 0,.string ⟨#[]⟩,.int .u8 0,.int .u8 0,.int .i64 0,.int .i64 0,.int .i64 0,.int .u16 0,.bool false,.slice none 0 0,.string ⟨#[]⟩,.int .u8 0,.int .u8 0,.int .i64 0,.int .i64 0,.int .i64 0,.int .u16 0,.bool false,.slice none 0 0,.string ⟨#[]⟩,.int .u8 0,.int .u8 0,.int .i64 0,.int .i64 0,.int .i64 0,.int .u16 0,.bool false,.slice none 0 0,.string ⟨#[]⟩,.int .u8 0,.int .u8 0,.int .i64 0,.int .i64 0,.int .i64 0,.int .u16 0,.bool false,.slice none 0 0,.string ⟨#[]⟩,.int .u8 0,.int .u8 0,.int .i64 0,.int .i64 0,.int .i64 0,.int .u16 0,.bool false,.slice none 0 0,.string ⟨#[]⟩,.int .u8 0,.int .u8 0,.int .i64 0,.int .i64 0,.int .i64 0,.int .u16 0,.bool false,.slice none 0 0,.string ⟨#[]⟩,.int .u8 0,.int .u8 0,.int .i64 0,.int .i64 0,.int .i64 0,.int .u16 0,.bool false,.slice none 0 0,.string ⟨#[]⟩,.int .u8 0,.int .u8 0,.int .i64 0,.int .i64 0,.int .i64 0,.int .u16 0,.bool false,.slice none 0 0,.string ⟨#[]⟩,.int .u8 0,.int .u8 0,.int .i64 0,.int .i64 0,.int .i64 0,.int .u16 0,.bool false,.slice none 0 0,.string ⟨#[]⟩,.int .u8 0,.int .u8 0,.int .i64 0,.int .i64 0,.int .i64 0,.int .u16 0,.bool false,.slice none 0 0,.string ⟨#[]⟩,.int .u8 0,.int .u8 0,.int .i64 0,.int .i64 0,.int .i64 0,.int .u16 0,.bool false,.slice none 0 0,.string ⟨#[]⟩,.int .u8 0,.int .u8 0,.int .i64 0,.int .i64 0,.int .i64 0,.int .u16 0,.bool false,.slice none 0 0,.string ⟨#[]⟩,.int .u8 0,.int .u8 0,.int .i64 0,.int .i64 0,.int .i64 0,.int .u16 0,.bool false,.slice none 0 0,.string ⟨#[]⟩,.int .u8 0,.int .u8 0,.int .i64 0,.int .i64 0,.int .i64 0,.int .u16 0,.bool false,.slice none 0 0,.string ⟨#[]⟩,.int .u8 0,.int .u8 0,.int .i64 0,.int .i64 0,.int .i64 0,.int .u16 0,.bool false,.slice none 0 0,.string ⟨#[]⟩,.int .u8 0,.int .u8 0,.int .i64 0,.int .i64 0,.int .i64 0,.int .u16 0,.bool false,.slice none 0 0,.string ⟨#[]⟩,.int .u8 0,.int .u8 0,.int .i64 0,.int .i64 0,.int .i64 0,.int .u16 0,.bool false,.slice none 0 0,.string ⟨#[]⟩,.int .u8 0,.int .u8 0,.int .i64 0,.int .i64 0,.int .i64 0,.int .u16 0,.bool false,.slice none 0 0,.string ⟨#[]⟩,.int .u8 0,.int .u8 0,.int .i64 0,.int .i64 0,.int .i64 0,.int .u16 0,.bool false,.slice none 0 0,.string ⟨#[]⟩,.int .u8 0,.int .u8 0,.int .i64 0,.int .i64 0,.int .i64 0,.int .u16 0,.bool false,.slice none 0 0,.string ⟨#[]⟩,.int .u8 0,.int .u8 0,.int .i64 0,.int .i64 0,.int .i64 0,.int .u16 0,.bool false,.slice none 0 0,.string ⟨#[]⟩,.int .u8 0,.int .u8 0,.int .i64 0,.int .i64 0,.int .i64 0,.int .u16 0,.bool false,.slice none 0 0]⟩,
 some ⟨.array 9 9,9,144,[.string ⟨#[]⟩,.string ⟨#[]⟩,.string ⟨#[]⟩,.string ⟨#[]⟩,.string ⟨#[]⟩,.string ⟨#[]⟩,.string ⟨#[]⟩,.string ⟨#[]⟩,.string ⟨#[]⟩]⟩,
 some ⟨.array 5 101,20,200,[.int .u8 0,.string ⟨#[]⟩,.int .i64 0,.int .i64 0,.int .u8 0,.string ⟨#[]⟩,.int .i64 0,.int .i64 0,.int .u8 0,.string ⟨#[]⟩,.int .i64 0,.int .i64 0,.int .u8 0,.string ⟨#[]⟩,.int .i64 0,.int .i64 0,.int .u8 0,.string ⟨#[]⟩,.int .i64 0,.int .i64 0]⟩,
 none,
 some ⟨.struct [(0,4),(1,4),(2,3),(3,127),(579,128),(588,129)],608,5480,[.bool false,.bool false,.int .i64 0,.string ⟨#[]⟩,.int .u8 0,.int .u8 0,.int .i64 0,.int .i64 0,.int .i64 0,.int .u16 0,.bool false,.slice none 0 0,.string ⟨#[]⟩,.int .u8 0,.int .u8 0,.int .i64 0,.int .i64 0,.int .i64 0,.int .u16 0,.bool false,.slice none 0 0,.string ⟨#[]⟩,.int .u8 0,.int .u8 0,.int .i64 0,.int .i64 0,.int .i64 0,.int .u16 0,.bool false,.slice none 0 0,.string ⟨#[]⟩,.int .u8 0,.int .u8 0,.int .i64 0,.int .i64 0,.int .i64 0,.int .u16 0,.bool false,.slice none 0 0,.string ⟨#[]⟩,.int .u8 0,.int .u8 0,.int .i64 0,.int .i64 0,.int .i64 0,.int .u16 0,.bool false,.slice none 0 0,.string ⟨#[]⟩,.int .u8 0,.int .u8 0,.int .i64 0,.int .i64 0,.int .i64 0,.int .u16 0,.bool false,.slice none 0 0,.string ⟨#[]⟩,.int .u8 0,.int .u8 0,.int .i64 0,.int .i64 0,.int .i64 0,.int .u16 0,.bool false,.slice none 0 0,.string ⟨#[]⟩,.int .u8 0,.int .u8 0,.int .i64 0,.int .i64 0,.int .i64 0,.int .u16 0,.bool false,.slice none 0 0,.string ⟨#[]⟩,.int .u8 0,.int .u8 0,.int .i64 0,.int .i64 0,.int .i64 0,.int .u16 0,.bool false,.slice none 0 0,.string ⟨#[]⟩,.int .u8 0,.int .u8 0,.int .i64 0,.int .i64 0,.int .i64 0,.int .u16 0,.bool false,.slice none 0 0,.string ⟨#[]⟩,.int .u8 0,.int .u8 0,.int .i64 0,.int .i64 0,.int .i64 0,.int .u16 0,.bool false,.slice none 0 0,.string ⟨#[]⟩,.int .u8 0,.int .u8 0,.int .i64 0,.int .i64 0,.int .i64 0,.int .u16 0,.bool false,.slice none 0 0,.string ⟨#[]⟩,.int .u8 0,.int .u8 0,.int .i64 0,.int .i64 0,.int .i64 0,.int .u16 0,.bool false,.slice none 0 0,.string ⟨#[]⟩,.int .u8 0,.int .u8 0,.int .i64 0,.int .i64 0,.int .i64 0,.int .u16 0,.bool false,.slice none 0 0,.string ⟨#[]⟩,.int .u8 0,.int .u8 0,.int .i64 0,.int .i64 0,.int .i64 0,.int .u16 0,.bool false,.slice none 0 0,.string ⟨#[]⟩,.int .u8 0,.int .u8 0,.int .i64 0,.int .i64 0,.int .i64 0,.int .u16 0,.bool false,.slice none 0 0,.string ⟨#[]⟩,.int .u8 0,.int .u8 0,.int .i64 0,.int .i64 0,.int .i64 0,.int .u16 0,.bool false,.slice none 0 0,.string ⟨#[]⟩,.int .u8 0,.int .u8 0,.int .i64 0,.int .i64 0,.int .i64 0,.int .u16 0,.bool false,.slice none 0 0,.string ⟨#[]⟩,.int .u8 0,.int .u8 0,.int .i64 0,.int .i64 0,.int .i64 0,.int .u16 0,.bool false,.slice none 0 0,.string ⟨#[]⟩,.int .u8 0,.int .u8 0,.int .i64 0,.int .i64 0,.int .i64 0,.int .u16 0,.bool false,.slice none 0 0,.string ⟨#[]⟩,.int .u8 0,.int .u8 0,.int .i64 0,.int .i64 0,.int .i64 0,.int .u16 0,.bool false,.slice none 0 0,.string ⟨#[]⟩,.int .u8 0,.int .u8 0,.int .i64 0,.int .i64 0,.int .i64 0,.int .u16 0,.bool false,.slice none 0 0,.string ⟨#[]⟩,.int .u8 0,.int .u8 0,.int .i64 0,.int .i64 0,.int .i64 0,.int .u16 0,.bool false,.slice none 0 0,.string ⟨#[]⟩,.int .u8 0,.int .u8 0,.int .i64 0,.int .i64 0,.int .i64 0,.int .u16 0,.bool false,.slice none 0 0,.string ⟨#[]⟩,.int .u8 0,.int .u8 0,.int .i64 0,.int .i64 0,.int .i64 0,.int .u16 0,.bool false,.slice none 0 0,.string ⟨#[]⟩,.int .u8 0,.int .u8 0,.int .i64 0,.int .i64 0,.int .i64 0,.int .u16 0,.bool false,.slice none 0 0,.string ⟨#[]⟩,.int .u8 0,.int .u8 0,.int .i64 0,.int .i64 0,.int .i64 0,.int .u16 0,.bool false,.slice none 0 0,.string ⟨#[]⟩,.int .u8 0,.int .u8 0,.int .i64 0,.int .i64 0,.int .i64 0,.int .u16 0,.bool false,.slice none 0 0,.string ⟨#[]⟩,.int .u8 0,.int .u8 0,.int .i64 0,.int .i64 0,.int .i64 0,.int .u16 0,.bool false,.slice none 0 0,.string ⟨#[]⟩,.int .u8 0,.int .u8 0,.int .i64 0,.int .i64 0,.int .i64 0,.int .u16 0,.bool false,.slice none 0 0,.string ⟨#[]⟩,.int .u8 0,.int .u8 0,.int .i64 0,.int .i64 0,.int .i64 0,.int .u16 0,.bool false,.slice none 0 0,.string ⟨#[]⟩,.int .u8 0,.int .u8 0,.int .i64 0,.int .i64 0,.int .i64 0,.int .u16 0,.bool false,.slice none 0 0,.string ⟨#[]⟩,.int .u8 0,.int .u8 0,.int .i64 0,.int .i64 0,.int .i64 0,.int .u16 0,.bool false,.slice none 0 0,.string ⟨#[]⟩,.int .u8 0,.int .u8 0,.int .i64 0,.int .i64 0,.int .i64 0,.int .u16 0,.bool false,.slice none 0 0,.string ⟨#[]⟩,.int .u8 0,.int .u8 0,.int .i64 0,.int .i64 0,.int .i64 0,.int .u16 0,.bool false,.slice none 0 0,.string ⟨#[]⟩,.int .u8 0,.int .u8 0,.int .i64 0,.int .i64 0,.int .i64 0,.int .u16 0,.bool false,.slice none 0 0,.string ⟨#[]⟩,.int .u8 0,.int .u8 0,.int .i64 0,.int .i64 0,.int .i64 0,.int .u16 0,.bool false,.slice none 0 0,.string ⟨#[]⟩,.int .u8 0,.int .u8 0,.int .i64 0,.int .i64 0,.int .i64 0,.int .u16 0,.bool false,.slice none 0 0,.string ⟨#[]⟩,.int .u8 0,.int .u8 0,.int .i64 0,.int .i64 0,.int .i64 0,.int .u16 0,.bool false,.slice none 0 0,.string ⟨#[]⟩,.int .u8 0,.int .u8 0,.int .i64 0,.int .i64 0,.int .i64 0,.int .u16 0,.bool false,.slice none 0 0,.string ⟨#[]⟩,.int .u8 0,.int .u8 0,.int .i64 0,.int .i64 0,.int .i64 0,.int .u16 0,.bool false,.slice none 0 0,.string ⟨#[]⟩,.int .u8 0,.int .u8 0,.int .i64 0,.int .i64 0,.int .i64 0,.int .u16 0,.bool false,.slice none 0 0,.string ⟨#[]⟩,.int .u8 0,.int .u8 0,.int .i64 0,.int .i64 0,.int .i64 0,.int .u16 0,.bool false,.slice none 0 0,.string ⟨#[]⟩,.int .u8 0,.int .u8 0,.int .i64 0,.int .i64 0,.int .i64 0,.int .u16 0,.bool false,.slice none 0 0,.string ⟨#[]⟩,.int .u8 0,.int .u8 0,.int .i64 0,.int .i64 0,.int .i64 0,.int .u16 0,.bool false,.slice none 0 0,.string ⟨#[]⟩,.int .u8 0,.int .u8 0,.int .i64 0,.int .i64 0,.int .i64 0,.int .u16 0,.bool false,.slice none 0 0,.string ⟨#[]⟩,.int .u8 0,.int .u8 0,.int .i64 0,.int .i64 0,.int .i64 0,.int .u16 0,.bool false,.slice none 0 0,.string ⟨#[]⟩,.int .u8 0,.int .u8 0,.int .i64 0,.int .i64 0,.int .i64 0,.int .u16 0,.bool false,.slice none 0 0,.string ⟨#[]⟩,.int .u8 0,.int .u8 0,.int .i64 0,.int .i64 0,.int .i64 0,.int .u16 0,.bool false,.slice none 0 0,.string ⟨#[]⟩,.int .u8 0,.int .u8 0,.int .i64 0,.int .i64 0,.int .i64 0,.int .u16 0,.bool false,.slice none 0 0,.string ⟨#[]⟩,.int .u8 0,.int .u8 0,.int .i64 0,.int .i64 0,.int .i64 0,.int .u16 0,.bool false,.slice none 0 0,.string ⟨#[]⟩,.int .u8 0,.int .u8 0,.int .i64 0,.int .i64 0,.int .i64 0,.int .u16 0,.bool false,.slice none 0 0,.string ⟨#[]⟩,.int .u8 0,.int .u8 0,.int .i64 0,.int .i64 0,.int .i64 0,.int .u16 0,.bool false,.slice none 0 0,.string ⟨#[]⟩,.int .u8 0,.int .u8 0,.int .i64 0,.int .i64 0,.int .i64 0,.int .u16 0,.bool false,.slice none 0 0,.string ⟨#[]⟩,.int .u8 0,.int .u8 0,.int .i64 0,.int .i64 0,.int .i64 0,.int .u16 0,.bool false,.slice none 0 0,.string ⟨#[]⟩,.int .u8 0,.int .u8 0,.int .i64 0,.int .i64 0,.int .i64 0,.int .u16 0,.bool false,.slice none 0 0,.string ⟨#[]⟩,.int .u8 0,.int .u8 0,.int .i64 0,.int .i64 0,.int .i64 0,.int .u16 0,.bool false,.slice none 0 0,.string ⟨#[]⟩,.int .u8 0,.int .u8 0,.int .i64 0,.int .i64 0,.int .i64 0,.int .u16 0,.bool false,.slice none 0 0,.string ⟨#[]⟩,.int .u8 0,.int .u8 0,.int .i64 0,.int .i64 0,.int .i64 0,.int .u16 0,.bool false,.slice none 0 0,.string ⟨#[]⟩,.int .u8 0,.int .u8 0,.int .i64 0,.int .i64 0,.int .i64 0,.int .u16 0,.bool false,.slice none 0 0,.string ⟨#[]⟩,.int .u8 0,.int .u8 0,.int .i64 0,.int .i64 0,.int .i64 0,.int .u16 0,.bool false,.slice none 0 0,.string ⟨#[]⟩,.int .u8 0,.int .u8 0,.int .i64 0,.int .i64 0,.int .i64 0,.int .u16 0,.bool false,.slice none 0 0,.string ⟨#[]⟩,.int .u8 0,.int .u8 0,.int .i64 0,.int .i64 0,.int .i64 0,.int .u16 0,.bool false,.slice none 0 0,.string ⟨#[]⟩,.int .u8 0,.int .u8 0,.int .i64 0,.int .i64 0,.int .i64 0,.int .u16 0,.bool false,.slice none 0 0,.string ⟨#[]⟩,.string ⟨#[]⟩,.string ⟨#[]⟩,.string ⟨#[]⟩,.string ⟨#[]⟩,.string ⟨#[]⟩,.string ⟨#[]⟩,.string ⟨#[]⟩,.string ⟨#[]⟩,.int .u8 0,.string ⟨#[]⟩,.int .i64 0,.int .i64 0,.int .u8 0,.string ⟨#[]⟩,.int .i64 0,.int .i64 0,.int .u8 0,.string ⟨#[]⟩,.int .i64 0,.int .i64 0,.int .u8 0,.string ⟨#[]⟩,.int .i64 0,.int .i64 0,.int .u8 0,.string ⟨#[]⟩,.int .i64 0,.int .i64 0]⟩,
 none,
 some ⟨.struct [(0,4),(1,4),(2,22),(3,128),(12,129)],32,376,[.bool false,.bool false,.slice none 0 0,.string ⟨#[]⟩,.string ⟨#[]⟩,.string ⟨#[]⟩,.string ⟨#[]⟩,.string ⟨#[]⟩,.string ⟨#[]⟩,.string ⟨#[]⟩,.string ⟨#[]⟩,.string ⟨#[]⟩,.int .u8 0,.string ⟨#[]⟩,.int .i64 0,.int .i64 0,.int .u8 0,.string ⟨#[]⟩,.int .i64 0,.int .i64 0,.int .u8 0,.string ⟨#[]⟩,.int .i64 0,.int .i64 0,.int .u8 0,.string ⟨#[]⟩,.int .i64 0,.int .i64 0,.int .u8 0,.string ⟨#[]⟩,.int .i64 0,.int .i64 0]⟩,
 none,
 none,
 none,
 none,
 none,
 some ⟨.struct [(0,29),(1,26),(2,22),(3,27)],4,80,[.pointer none,.slice none 0 0,.slice none 0 0,.slice none 0 0]⟩,
 none,
 none,
 none,
 none,
 none,
 none,
 none,
 none,
 none,
 none,
 none,
 none,
 none,
 none,
 none,
 none,
 none,
 none,
 none,
 none,
 none,
 none,
 none,
 none,
 none,
 none,
 none,
 none,
 none,
 none,
 none,
 none,
 none,
 none,
 none,
 none,
 none,
 none,
 none,
 none,
 none,
 none,
 none,
 none,
 none,
 none,
 none,
 none,
 none,
 none,
 none,
 none,
 none,
 none,
 none,
 some ⟨.int .u64,1,8,[.int .u64 0]⟩,
 none,
 none,
 none,
 none,
 none,
 none,
 none,
 none,
 none,
 none,
 none,
 none,
 none,
 none,
 some ⟨.int .i64,1,8,[.int .i64 0]⟩,
 none,
 none,
 none,
 none,
 none,
 none,
 none,
 some ⟨.int .u32,1,4,[.int .u32 0]⟩,
 none,
 some ⟨.int .u64,1,8,[.int .u64 0]⟩,
 none,
 none,
 none,
 none,
 some ⟨.array 256 4,256,256,[.bool false,.bool false,.bool false,.bool false,.bool false,.bool false,.bool false,.bool false,.bool false,.bool false,.bool false,.bool false,.bool false,.bool false,.bool false,.bool false,.bool false,.bool false,.bool false,.bool false,.bool false,.bool false,.bool false,.bool false,.bool false,.bool false,.bool false,.bool false,.bool false,.bool false,.bool false,.bool false,.bool false,.bool false,.bool false,.bool false,.bool false,.bool false,.bool false,.bool false,.bool false,.bool false,.bool false,.bool false,.bool false,.bool false,.bool false,.bool false,.bool false,.bool false,.bool false,.bool false,.bool false,.bool false,.bool false,.bool false,.bool false,.bool false,.bool false,.bool false,.bool false,.bool false,.bool false,.bool false,.bool false,.bool false,.bool false,.bool false,.bool false,.bool false,.bool false,.bool false,.bool false,.bool false,.bool false,.bool false,.bool false,.bool false,.bool false,.bool false,.bool false,.bool false,.bool false,.bool false,.bool false,.bool false,.bool false,.bool false,.bool false,.bool false,.bool false,.bool false,.bool false,.bool false,.bool false,.bool false,.bool false,.bool false,.bool false,.bool false,.bool false,.bool false,.bool false,.bool false,.bool false,.bool false,.bool false,.bool false,.bool false,.bool false,.bool false,.bool false,.bool false,.bool false,.bool false,.bool false,.bool false,.bool false,.bool false,.bool false,.bool false,.bool false,.bool false,.bool false,.bool false,.bool false,.bool false,.bool false,.bool false,.bool false,.bool false,.bool false,.bool false,.bool false,.bool false,.bool false,.bool false,.bool false,.bool false,.bool false,.bool false,.bool false,.bool false,.bool false,.bool false,.bool false,.bool false,.bool false,.bool false,.bool false,.bool false,.bool false,.bool false,.bool false,.bool false,.bool false,.bool false,.bool false,.bool false,.bool false,.bool false,.bool false,.bool false,.bool false,.bool false,.bool false,.bool false,.bool false,.bool false,.bool false,.bool false,.bool false,.bool false,.bool false,.bool false,.bool false,.bool false,.bool false,.bool false,.bool false,.bool false,.bool false,.bool false,.bool false,.bool false,.bool false,.bool false,.bool false,.bool false,.bool false,.bool false,.bool false,.bool false,.bool false,.bool false,.bool false,.bool false,.bool false,.bool false,.bool false,.bool false,.bool false,.bool false,.bool false,.bool false,.bool false,.bool false,.bool false,.bool false,.bool false,.bool false,.bool false,.bool false,.bool false,.bool false,.bool false,.bool false,.bool false,.bool false,.bool false,.bool false,.bool false,.bool false,.bool false,.bool false,.bool false,.bool false,.bool false,.bool false,.bool false,.bool false,.bool false,.bool false,.bool false,.bool false,.bool false,.bool false,.bool false,.bool false,.bool false,.bool false,.bool false,.bool false,.bool false,.bool false,.bool false,.bool false,.bool false,.bool false,.bool false,.bool false,.bool false,.bool false,.bool false,.bool false,.bool false]⟩,
 none,
 none,
 none,
 some ⟨.pointer 225,1,8,[.pointer none]⟩,
 some ⟨.int .u64,1,8,[.int .u64 0]⟩,
 none,
 none,
 none,
 some ⟨.pointer 3,1,8,[.pointer none]⟩,
 none,
 none,
 none,
 none,
 none,
 some ⟨.pointer 230,1,8,[.pointer none]⟩,
 none,
 none,
 some ⟨.array 256 5,256,256,[.int .u8 0,.int .u8 0,.int .u8 0,.int .u8 0,.int .u8 0,.int .u8 0,.int .u8 0,.int .u8 0,.int .u8 0,.int .u8 0,.int .u8 0,.int .u8 0,.int .u8 0,.int .u8 0,.int .u8 0,.int .u8 0,.int .u8 0,.int .u8 0,.int .u8 0,.int .u8 0,.int .u8 0,.int .u8 0,.int .u8 0,.int .u8 0,.int .u8 0,.int .u8 0,.int .u8 0,.int .u8 0,.int .u8 0,.int .u8 0,.int .u8 0,.int .u8 0,.int .u8 0,.int .u8 0,.int .u8 0,.int .u8 0,.int .u8 0,.int .u8 0,.int .u8 0,.int .u8 0,.int .u8 0,.int .u8 0,.int .u8 0,.int .u8 0,.int .u8 0,.int .u8 0,.int .u8 0,.int .u8 0,.int .u8 0,.int .u8 0,.int .u8 0,.int .u8 0,.int .u8 0,.int .u8 0,.int .u8 0,.int .u8 0,.int .u8 0,.int .u8 0,.int .u8 0,.int .u8 0,.int .u8 0,.int .u8 0,.int .u8 0,.int .u8 0,.int .u8 0,.int .u8 0,.int .u8 0,.int .u8 0,.int .u8 0,.int .u8 0,.int .u8 0,.int .u8 0,.int .u8 0,.int .u8 0,.int .u8 0,.int .u8 0,.int .u8 0,.int .u8 0,.int .u8 0,.int .u8 0,.int .u8 0,.int .u8 0,.int .u8 0,.int .u8 0,.int .u8 0,.int .u8 0,.int .u8 0,.int .u8 0,.int .u8 0,.int .u8 0,.int .u8 0,.int .u8 0,.int .u8 0,.int .u8 0,.int .u8 0,.int .u8 0,.int .u8 0,.int .u8 0,.int .u8 0,.int .u8 0,.int .u8 0,.int .u8 0,.int .u8 0,.int .u8 0,.int .u8 0,.int .u8 0,.int .u8 0,.int .u8 0,.int .u8 0,.int .u8 0,.int .u8 0,.int .u8 0,.int .u8 0,.int .u8 0,.int .u8 0,.int .u8 0,.int .u8 0,.int .u8 0,.int .u8 0,.int .u8 0,.int .u8 0,.int .u8 0,.int .u8 0,.int .u8 0,.int .u8 0,.int .u8 0,.int .u8 0,.int .u8 0,.int .u8 0,.int .u8 0,.int .u8 0,.int .u8 0,.int .u8 0,.int .u8 0,.int .u8 0,.int .u8 0,.int .u8 0,.int .u8 0,.int .u8 0,.int .u8 0,.int .u8 0,.int .u8 0,.int .u8 0,.int .u8 0,.int .u8 0,.int .u8 0,.int .u8 0,.int .u8 0,.int .u8 0,.int .u8 0,.int .u8 0,.int .u8 0,.int .u8 0,.int .u8 0,.int .u8 0,.int .u8 0,.int .u8 0,.int .u8 0,.int .u8 0,.int .u8 0,.int .u8 0,.int .u8 0,.int .u8 0,.int .u8 0,.int .u8 0,.int .u8 0,.int .u8 0,.int .u8 0,.int .u8 0,.int .u8 0,.int .u8 0,.int .u8 0,.int .u8 0,.int .u8 0,.int .u8 0,.int .u8 0,.int .u8 0,.int .u8 0,.int .u8 0,.int .u8 0,.int .u8 0,.int .u8 0,.int .u8 0,.int .u8 0,.int .u8 0,.int .u8 0,.int .u8 0,.int .u8 0,.int .u8 0,.int .u8 0,.int .u8 0,.int .u8 0,.int .u8 0,.int .u8 0,.int .u8 0,.int .u8 0,.int .u8 0,.int .u8 0,.int .u8 0,.int .u8 0,.int .u8 0,.int .u8 0,.int .u8 0,.int .u8 0,.int .u8 0,.int .u8 0,.int .u8 0,.int .u8 0,.int .u8 0,.int .u8 0,.int .u8 0,.int .u8 0,.int .u8 0,.int .u8 0,.int .u8 0,.int .u8 0,.int .u8 0,.int .u8 0,.int .u8 0,.int .u8 0,.int .u8 0,.int .u8 0,.int .u8 0,.int .u8 0,.int .u8 0,.int .u8 0,.int .u8 0,.int .u8 0,.int .u8 0,.int .u8 0,.int .u8 0,.int .u8 0,.int .u8 0,.int .u8 0,.int .u8 0,.int .u8 0,.int .u8 0,.int .u8 0,.int .u8 0,.int .u8 0,.int .u8 0,.int .u8 0,.int .u8 0,.int .u8 0,.int .u8 0,.int .u8 0,.int .u8 0,.int .u8 0,.int .u8 0,.int .u8 0,.int .u8 0,.int .u8 0,.int .u8 0,.int .u8 0,.int .u8 0,.int .u8 0]⟩,
 none,
 some ⟨.struct [(0,5),(1,5)],2,2,[.int .u8 0,.int .u8 0]⟩,
 some ⟨.array 16 245,32,32,[.int .u8 0,.int .u8 0,.int .u8 0,.int .u8 0,.int .u8 0,.int .u8 0,.int .u8 0,.int .u8 0,.int .u8 0,.int .u8 0,.int .u8 0,.int .u8 0,.int .u8 0,.int .u8 0,.int .u8 0,.int .u8 0,.int .u8 0,.int .u8 0,.int .u8 0,.int .u8 0,.int .u8 0,.int .u8 0,.int .u8 0,.int .u8 0,.int .u8 0,.int .u8 0,.int .u8 0,.int .u8 0,.int .u8 0,.int .u8 0,.int .u8 0,.int .u8 0]⟩]
def Tryz.fns:List FuncId:=[3,4,5,6,7,8,9,10,11,12,13,14,15,16,17,18,19,20,21,22,23,24,25,26,27,28,29,30,31,32,33,34,35,36,37,38,39,40,41,42,43,44,45,46,47,48,49,50,51,52,53,54,55,56,57,58,59,60,61,62,63,64,65,66,67,68,69,70,71,72,73,74,75,76,77,78,79,80,81,82,83,84,85,86,87,88,89,90,91,92,93,94,95,96,97,98,99,100,101,102,103,104,105,106,107,108,109,110,111,112,113,114,115,116,117,118,119,120,121,122,123,124,125,126,127,128,129,130,131,132,133,134,135,136,137,138,139,140,141,142,143,144,145,146,147,148,149,150,151,152,153,154,155,156,157,158,159,160,161,162,163,164,165,166,167,168,169,170,171,172,173,174,175,176,177,178,179,180,181,182,183,184,185,186,187,188,189,190,191,192,193,194,195,196,197,198,199,200,201]
def Tryz.hint:FuncId->Hint:=fun f=>match f with
 |3=>(.seq .leaf (.seq .leaf (.seq .leaf (.seq .leaf (.seq .leaf (.seq .leaf (.seq .leaf (.seq .leaf (.seq .leaf (.seq .leaf (.seq .leaf (.seq (.seq .leaf (.sub none (.loop [1,3,9,10,15,19,20,21] .leaf))) (.seq (.seq .leaf (.sub none (.loop [1,3,9,10,15,19,20,22] .leaf))) (.seq .leaf (.seq .leaf (.seq (.seq .leaf (.sub none (.loop [1,9,10,15,19,20,24,25,26] .leaf))) (.seq .leaf (.seq .leaf (.seq .leaf (.seq (.seq .leaf (.sub none (.loop [8,10,15,19,20,25,27,28,29] .leaf))) (.seq (.seq .leaf (.sub none (.loop [8,15,25,28,30] .leaf))) .leaf)))))))))))))))))))))
 |5=>(.seq .leaf (.seq .leaf (.seq .leaf (.seq .leaf (.seq .leaf (.seq .leaf (.seq (.seq .leaf (.sub none (.loop [1,4,5,6,8,10] .leaf))) (.seq (.seq .leaf (.sub none (.loop [1,4,5,6,8,11] (.seq .leaf (.seq (.sub none (.seq .leaf (.seq .leaf (.seq .leaf (.seq .leaf (.seq .leaf (.seq .leaf (.seq .leaf (.seq (.seq .leaf (.sub none (.loop [1,5,6,8,11,12,13,15,16,18,19,20] .leaf))) .leaf))))))))) .leaf))))) .leaf))))))))
 |8=>(.seq .leaf (.seq .leaf (.seq (.seq .leaf (.sub none (.loop [0,1,5,6] (.seq .leaf (.seq (.sub none (.seq .leaf (.seq .leaf (.seq (.seq .leaf (.sub none (.loop [0,1,5,6,7,8] .leaf))) .leaf)))) .leaf))))) .leaf)))
 |10=>(.seq .leaf (.seq .leaf (.seq .leaf (.seq .leaf (.seq (.seq .leaf (.sub none (.loop [6,8,20] .leaf))) .leaf)))))
 |11=>(.seq .leaf (.seq .leaf (.seq (.seq .leaf (.sub none (.loop [0,1,4,5] .leaf))) .leaf)))
 |12=>(.seq .leaf (.seq .leaf (.seq (.seq .leaf (.sub none (.loop [0,1,4,5] .leaf))) .leaf)))
 |15=>(.seq .leaf (.seq .leaf (.seq (.seq .leaf (.sub none (.loop [1,2,3,4,5,6,7] .leaf))) (.seq (.seq .leaf (.sub none (.loop [1,2,3,4,5,6,8] .leaf))) .leaf))))
 |17=>(.seq .leaf (.seq .leaf (.seq .leaf (.seq .leaf (.seq .leaf (.seq (.seq .leaf (.sub none (.loop [8,10,32,33] .leaf))) .leaf))))))
 |18=>(.seq .leaf (.seq .leaf (.seq .leaf (.seq .leaf (.seq .leaf (.seq (.seq .leaf (.sub none (.loop [0,1,2,8,10,43] (.seq .leaf (.seq .leaf (.seq (.sub none (.seq .leaf (.seq .leaf (.sub none (.loop [0,1,2,8,10,11,43,50,51,52] .leaf))))) .leaf)))))) .leaf))))))
 |20=>(.seq .leaf (.sub none (.loop [0,2] .leaf)))
 |22=>(.seq .leaf (.seq .leaf (.seq .leaf (.seq .leaf (.seq (.seq .leaf (.sub none (.loop [0,1,2,8,10] .leaf))) .leaf)))))
 |23=>(.seq .leaf (.seq .leaf (.seq .leaf (.seq (.seq .leaf (.sub none (.loop [6,7,8,9] .leaf))) .leaf))))
 |24=>(.seq .leaf (.seq .leaf (.seq .leaf (.seq .leaf (.seq .leaf (.seq (.seq .leaf (.sub none (.loop [2,8,10,11] (.seq .leaf (.seq (.sub none (.seq .leaf (.sub none (.loop [2,8,10,11,12] .leaf)))) .leaf))))) .leaf))))))
 |25=>(.seq .leaf (.seq .leaf (.seq (.seq .leaf (.sub none (.loop [0,3,4] .leaf))) (.seq (.seq .leaf (.sub none (.loop [3,5] (.seq .leaf (.seq (.sub none (.seq .leaf (.sub none (.loop [3,5,6] .leaf)))) .leaf))))) (.seq (.seq .leaf (.sub none (.loop [2,3,7] (.seq .leaf (.seq (.sub none (.seq .leaf (.sub none (.loop [2,3,7,8] .leaf)))) .leaf))))) .leaf)))))
 |26=>(.seq .leaf (.seq .leaf (.seq (.seq .leaf (.sub none (.loop [0,3,4] .leaf))) (.seq (.seq .leaf (.sub none (.loop [3,5] (.seq .leaf (.seq (.sub none (.seq .leaf (.sub none (.loop [3,5,6] .leaf)))) .leaf))))) (.seq (.seq .leaf (.sub none (.loop [2,3,7] (.seq .leaf (.seq (.sub none (.seq .leaf (.sub none (.loop [2,3,7,8] .leaf)))) .leaf))))) .leaf)))))
 |28=>(.seq .leaf (.seq .leaf (.seq (.seq .leaf (.sub none (.loop [0,1,5,6] .leaf))) .leaf)))
 |31=>(.seq .leaf (.seq .leaf (.seq (.seq .leaf (.sub none (.loop [0,4,5,6,7,25,26] .leaf))) (.seq (.seq .leaf (.sub none (.loop [0,4,6,37,38] .leaf))) .leaf))))
 |32=>(.seq .leaf (.seq .leaf (.seq .leaf (.seq (.seq .leaf (.sub none (.loop [0,1,2,3,4,5] .leaf))) .leaf))))
 |37=>(.seq .leaf (.seq .leaf (.seq .leaf (.seq .leaf (.seq (.sub none (.loop [0,3,7] .leaf)) .leaf)))))
 |39=>(.seq .leaf (.seq .leaf (.seq .leaf (.seq .leaf (.seq .leaf (.seq .leaf (.seq .leaf (.seq .leaf (.seq .leaf (.seq (.seq .leaf (.sub none (.loop [0,3,6,7,8] .leaf))) .leaf))))))))))
 |40=>(.seq .leaf (.seq .leaf (.seq .leaf (.seq (.seq .leaf (.sub none (.loop [0,3,4,52,53] .leaf))) .leaf))))
 |41=>(.seq .leaf (.seq .leaf (.seq .leaf (.seq .leaf (.seq .leaf (.seq (.seq .leaf (.sub none (.loop [0,3,4,5] .leaf))) .leaf))))))
 |42=>(.seq .leaf (.seq .leaf (.seq (.seq .leaf (.sub none (.loop [0,2,21,22,23] (.seq .leaf (.seq .leaf (.seq (.sub none (.seq .leaf (.seq .leaf (.sub none (.loop [0,2,21,22,23,28,29,30] .leaf))))) .leaf)))))) .leaf)))
 |43=>(.seq .leaf (.seq .leaf (.seq .leaf (.seq (.seq .leaf (.sub none (.loop [0,2,3] (.seq .leaf (.seq (.sub none (.seq .leaf (.sub none (.loop [0,2,3,4] .leaf)))) .leaf))))) .leaf))))
 |49=>(.seq .leaf (.seq .leaf (.seq (.seq .leaf (.sub none (.loop [0,1,4,5] .leaf))) .leaf)))
 |50=>(.seq .leaf (.seq .leaf (.seq .leaf (.seq .leaf (.seq .leaf (.seq .leaf (.seq .leaf (.seq .leaf (.seq .leaf (.seq (.seq .leaf (.sub none (.loop [1,4,5,7,11] (.seq .leaf (.seq (.sub none (.seq .leaf (.sub none (.loop [1,4,5,7,11,12] .leaf)))) .leaf))))) .leaf))))))))))
 |51=>(.seq .leaf (.seq .leaf (.seq .leaf (.seq .leaf (.seq .leaf (.seq .leaf (.seq (.sub none (.loop [0,1,11,13,14] .leaf)) .leaf)))))))
 |52=>(.seq .leaf (.seq .leaf (.seq (.seq .leaf (.sub none (.loop [0,1,2,7,8] .leaf))) .leaf)))
 |53=>(.seq .leaf (.seq .leaf (.seq .leaf (.seq .leaf (.seq (.seq .leaf (.sub none (.loop [0,1,6,8,9] (.seq .leaf (.seq (.sub none (.seq .leaf (.seq .leaf (.sub none (.loop [0,1,6,8,9,11,13] .leaf))))) .leaf))))) .leaf)))))
 |61=>(.seq .leaf (.seq .leaf (.seq .leaf (.seq (.seq .leaf (.sub none (.loop [0,1,4,5,9,33,34,35] .leaf))) (.seq .leaf (.seq (.seq .leaf (.sub none (.loop [4,5,9,70,71,72] .leaf))) .leaf))))))
 |63=>(.seq .leaf (.seq .leaf (.seq .leaf (.seq .leaf (.seq .leaf (.seq .leaf (.seq (.sub none (.loop [11,13,15,16] .leaf)) .leaf)))))))
 |64=>(.seq .leaf (.seq .leaf (.seq (.seq .leaf (.sub none (.loop [0,2,7,13,14,15] .leaf))) .leaf)))
 |66=>(.seq .leaf (.seq .leaf (.seq (.seq .leaf (.sub none (.loop [1,2,13,14,15] .leaf))) .leaf)))
 |67=>(.seq .leaf (.seq (.seq .leaf (.sub none (.loop [0,1,4,9,10] .leaf))) .leaf))
 |72=>(.seq .leaf (.seq .leaf (.seq .leaf (.seq (.seq .leaf (.sub none (.loop [1,2,4] .leaf))) .leaf))))
 |73=>(.seq .leaf (.seq (.seq .leaf (.sub none (.loop [0,1,4,5] .leaf))) .leaf))
 |77=>(.seq .leaf (.seq .leaf (.seq (.seq .leaf (.sub none (.loop [2,19] .leaf))) .leaf)))
 |78=>(.seq .leaf (.seq .leaf (.seq (.seq .leaf (.sub none (.loop [0,2,3] .leaf))) .leaf)))
 |80=>(.seq .leaf (.seq .leaf (.seq .leaf (.seq (.seq .leaf (.sub none (.loop [0,2,4,6,7,8,49,50,51] .leaf))) (.seq .leaf (.seq (.seq .leaf (.sub none (.loop [4,6,7,8,15] .leaf))) .leaf))))))
 |82=>(.seq .leaf (.seq .leaf (.seq (.seq .leaf (.sub none (.loop [1,3,5,7,11,12,13] .leaf))) .leaf)))
 |83=>(.seq .leaf (.seq (.seq .leaf (.sub none (.loop [0,1,4,7,8] .leaf))) .leaf))
 |84=>(.seq .leaf (.seq .leaf (.seq (.seq .leaf (.sub none (.loop [1,5,7,16,17,18] .leaf))) .leaf)))
 |85=>(.seq .leaf (.seq .leaf (.seq (.seq .leaf (.sub none (.loop [0,1,4,5,6,7] .leaf))) .leaf)))
 |87=>(.seq .leaf (.seq .leaf (.seq (.seq .leaf (.sub none (.loop [0,1,2,3,9,10,11] (.seq .leaf (.seq (.sub none (.seq .leaf (.seq .leaf (.seq (.seq .leaf (.sub none (.loop [0,1,2,3,9,10,11,12,13] .leaf))) .leaf)))) .leaf))))) .leaf)))
 |88=>(.seq .leaf (.seq .leaf (.seq .leaf (.seq .leaf (.seq .leaf (.seq (.seq .leaf (.sub none (.loop [7,9,10,11,12] .leaf))) .leaf))))))
 |89=>(.seq .leaf (.seq .leaf (.seq (.seq .leaf (.sub none (.loop [0,4,5,6,7,8] .leaf))) (.seq (.seq .leaf (.sub none (.loop [0,4,5,6,9] .leaf))) .leaf))))
 |93=>(.seq .leaf (.seq .leaf (.seq .leaf (.seq (.seq .leaf (.sub none (.loop [0,3,4] .leaf))) .leaf))))
 |94=>(.seq .leaf (.seq .leaf (.seq .leaf (.seq (.seq .leaf (.sub none (.loop [0,3,4] .leaf))) .leaf))))
 |97=>(.seq .leaf (.sub none (.seq .leaf (.seq .leaf (.seq (.seq .leaf (.sub none (.loop [1,2,3,7,8,13,14,15] (.seq .leaf (.seq .leaf (.seq (.sub none (.seq .leaf (.seq .leaf (.seq (.seq .leaf (.sub none (.loop [1,2,3,7,8,9,10,13,14,15,32,33,34] .leaf))) .leaf)))) .leaf)))))) .leaf)))))
 |102=>(.seq .leaf (.seq .leaf (.seq (.seq .leaf (.sub none (.loop [0,2,3] .leaf))) .leaf)))
 |115=>(.seq .leaf (.seq .leaf (.seq .leaf (.seq (.seq .leaf (.sub none (.loop [0,1,2,3,9,10,11] (.seq .leaf (.seq (.sub none (.seq .leaf (.seq .leaf (.seq .leaf (.sub none (.loop [0,1,2,3,9,10,11,12,14] .leaf)))))) .leaf))))) .leaf))))
 |118=>(.seq .leaf (.seq .leaf (.seq .leaf (.seq (.seq .leaf (.sub none (.loop [0,1,2,7,9,10,11] .leaf))) .leaf))))
 |122=>(.seq .leaf (.seq .leaf (.seq (.seq .leaf (.sub none (.loop [1,2,3,7,13,14,15] (.seq .leaf (.seq .leaf (.seq (.sub none (.seq .leaf (.seq .leaf (.seq .leaf (.sub none (.loop [1,2,3,7,9,13,14,15,30,31,32] .leaf)))))) .leaf)))))) .leaf)))
 |144=>(.seq .leaf (.seq .leaf (.seq (.seq .leaf (.sub none (.loop [0,2,3] .leaf))) .leaf)))
 |145=>(.seq .leaf (.seq .leaf (.sub none (.loop [0,1,2,3,4,10,11] .leaf))))
 |150=>(.seq .leaf (.seq .leaf (.seq .leaf (.seq (.seq .leaf (.sub none (.loop [0,1,2,6,7,8] (.seq .leaf (.seq (.sub none (.seq .leaf (.seq .leaf (.seq .leaf (.seq .leaf (.seq .leaf (.seq .leaf (.seq .leaf (.sub none (.loop [0,1,2,6,7,8,9,12] .leaf)))))))))) .leaf))))) .leaf))))
 |151=>(.seq .leaf (.seq .leaf (.seq .leaf (.sub none (.loop [0,2,3,4] (.sub none (.seq .leaf (.seq (.seq .leaf (.sub none (.loop [0,3,4,5,6] .leaf))) .leaf))))))))
 |155=>(.seq .leaf (.seq .leaf (.seq (.seq .leaf (.sub none (.loop [0,1,4,5] .leaf))) .leaf)))
 |161=>(.seq .leaf (.seq .leaf (.seq (.seq .leaf (.sub none (.loop [0,1,4,12,13] .leaf))) .leaf)))
 |167=>(.seq .leaf (.sub none (.loop [0,1,2,3,8] (.seq .leaf (.seq (.sub none (.seq .leaf (.sub none (.loop [0,1,2,3,8,9] .leaf)))) .leaf)))))
 |168=>(.seq .leaf (.seq .leaf (.seq .leaf (.seq (.seq .leaf (.sub none (.loop [0,3,8,9,10,11] .leaf))) (.seq .leaf (.sub none (.loop [0,3,8,9,12] .leaf)))))))
 |169=>(.seq .leaf (.seq .leaf (.cond none (.seq .leaf (.seq .leaf (.seq .leaf (.sub none (.loop [0,1,8,9,10,11] .leaf))))) .leaf)))
 |171=>(.seq .leaf (.seq .leaf (.sub none (.loop [0,8,9] .leaf))))
 |172=>(.seq .leaf (.seq .leaf (.seq (.seq .leaf (.sub none (.loop [0,1,2,3,8,9,10] (.seq .leaf (.seq (.sub none (.seq (.sub none (.loop [0,1,2,3,9,10] .leaf)) (.seq .leaf (.seq .leaf (.seq .leaf (.seq (.seq .leaf (.cond none (.seq .leaf (.sub none (.loop [0,1,2,3,9,10,11] .leaf))) .leaf)) (.seq .leaf (.cond none (.seq .leaf (.sub none (.loop [0,1,2,3,9,10,12] .leaf))) .leaf)))))))) .leaf))))) .leaf)))
 |173=>(.seq .leaf (.seq .leaf (.seq .leaf (.seq (.sub none (.loop [0,1,4,11,12] (.sub none (.seq (.sub none (.loop [0,1,4,11,12] .leaf)) (.seq (.sub none (.loop [0,1,4,11,12] .leaf)) .leaf))))) .leaf))))
 |174=>(.seq .leaf (.seq .leaf (.seq .leaf (.seq (.sub none (.loop [0,1,4,12,13] .leaf)) (.seq (.sub none (.loop [0,1,4,12,13] .leaf)) (.seq .leaf (.seq .leaf (.seq .leaf (.seq .leaf (.seq (.sub none (.loop [0,1,4,12,13] (.sub none (.seq (.sub none (.loop [0,1,4,12,13] .leaf)) (.seq (.sub none (.loop [0,1,4,12,13] .leaf)) .leaf))))) .leaf))))))))))
 |180=>(.seq .leaf (.seq (.sub none (.loop [0,1] .leaf)) .leaf))
 |181=>(.seq .leaf (.seq (.sub none (.loop [0,1] .leaf)) .leaf))
 |182=>(.seq .leaf (.seq (.seq .leaf (.sub none (.loop [0,2,3,4] .leaf))) .leaf))
 |183=>(.seq .leaf (.seq (.sub none (.loop [0,1] .leaf)) .leaf))
 |184=>(.seq .leaf (.seq (.sub none (.loop [0,1] .leaf)) .leaf))
 |185=>(.seq .leaf (.seq (.sub none (.loop [0,1] .leaf)) .leaf))
 |186=>(.seq .leaf (.seq (.sub none (.loop [0,1] .leaf)) .leaf))
 |187=>(.seq .leaf (.sub none (.loop [0,2,3,4,10] .leaf)))
 |195=>(.seq .leaf (.seq .leaf (.seq .leaf (.seq .leaf (.seq .leaf (.seq .leaf (.seq .leaf (.seq (.seq .leaf (.sub none (.loop [0,4,5,6] .leaf))) .leaf))))))))
 |198=>.leaf
 |_=>.leaf
noncomputable def Tryz.env:Env:={ ty:=aio Tryz.tab,fn:=aip Tryz.prog Tryz.fns,hint:=Tryz.hint,ext:=fun _=>none }
theorem Tryz.ah1:Tryz.env.Ok Tryz.prog:=aiq (by kernel_rfl) (by kernel_rfl) (by kernel_rfl)
theorem Tryz.akt(k:Nat):lZ Tryz.prog (aFn Tryz.env k):=ajo Tryz.ah1 agD k
end Go.Proofs.YtijnknjopjmiiaaGreatDoor
end
section
namespace Go.Proofs.YtijnknjopjmiiaaGreatDoor
open Go Zq
namespace Zv
structure dG where
 Cards:Sl
 Marks:Sl
 Open:Bool
abbrev bY:Tag:=⟨dG,true,3,fun x=>[(.slice x.Cards.p x.Cards.len x.Cards.cap),(.slice x.Marks.p x.Marks.len x.Marks.cap),(.bool x.Open)],fun cs=>match cs with|[.slice c0p c0n c0k,.slice c1p c1n c1k,.bool c2]=>some (dG.mk (Sl.mk c0p c0n c0k) (Sl.mk c1p c1n c1k) c2)|_=>none,fun cs x h=>by
 split at h
 ·have h:=Option.some.inj h; subst h; rfl
 ·cases h⟩
structure bf where
 Card:Int
 Owner:Int
 Place:Int
 Stamp:Int
 Hurt:Int
 Marks:Int×Int×Int×Int
 Done:Int
 Fresh:Bool
abbrev aV:Tag:=⟨bf,true,11,fun x=>[(.int .i64 x.Card),(.int .i64 x.Owner),(.int .u8 x.Place),(.int .i64 x.Stamp),(.int .i64 x.Hurt),(.int .i64 x.Marks.1),(.int .i64 x.Marks.2.1),(.int .i64 x.Marks.2.2.1),(.int .i64 x.Marks.2.2.2),(.int .i64 x.Done),(.bool x.Fresh)],fun cs=>match cs with|[.int kc0 c0,.int kc1 c1,.int kc2 c2,.int kc3 c3,.int kc4 c4,.int kc5 c5,.int kc6 c6,.int kc7 c7,.int kc8 c8,.int kc9 c9,.bool c10]=>if kc0= .i64∧kc1= .i64∧kc2= .u8∧kc3= .i64∧kc4= .i64∧kc5= .i64∧kc6= .i64∧kc7= .i64∧kc8= .i64∧kc9= .i64 then some (bf.mk c0 c1 c2 c3 c4 (c5,c6,c7,c8) c9 c10)else none|_=>none,fun cs x h=>by
 split at h
 ·split at h
  ·rename_i e
   obtain⟨rfl,rfl,rfl,rfl,rfl,rfl,rfl,rfl,rfl,rfl⟩:=e
   have h:=Option.some.inj h; subst h; rfl
  ·cases h
 ·cases h⟩
structure aB where
 Holder:Int
 Suit:Int
 Traits:Int
 Power:Int
 Health:Int
abbrev aI:Tag:=⟨aB,true,5,fun x=>[(.int .i64 x.Holder),(.int .u8 x.Suit),(.int .u16 x.Traits),(.int .i64 x.Power),(.int .i64 x.Health)],fun cs=>match cs with|[.int kc0 c0,.int kc1 c1,.int kc2 c2,.int kc3 c3,.int kc4 c4]=>if kc0= .i64∧kc1= .u8∧kc2= .u16∧kc3= .i64∧kc4= .i64 then some (aB.mk c0 c1 c2 c3 c4)else none|_=>none,fun cs x h=>by
 split at h
 ·split at h
  ·rename_i e
   obtain⟨rfl,rfl,rfl,rfl,rfl⟩:=e
   have h:=Option.some.inj h; subst h; rfl
  ·cases h
 ·cases h⟩
structure aU where
 When:Int
 Verb:Int
 Whom:Int
 Count:Int
 Suit:Int
 Trait:Int
 Mark:Int
 Name:ByteArray
abbrev aQ:Tag:=⟨aU,true,8,fun x=>[(.int .u8 x.When),(.int .u8 x.Verb),(.int .u8 x.Whom),(.int .i64 x.Count),(.int .u8 x.Suit),(.int .u8 x.Trait),(.int .u8 x.Mark),(.string x.Name)],fun cs=>match cs with|[.int kc0 c0,.int kc1 c1,.int kc2 c2,.int kc3 c3,.int kc4 c4,.int kc5 c5,.int kc6 c6,.string c7]=>if kc0= .u8∧kc1= .u8∧kc2= .u8∧kc3= .i64∧kc4= .u8∧kc5= .u8∧kc6= .u8 then some (aU.mk c0 c1 c2 c3 c4 c5 c6 c7)else none|_=>none,fun cs x h=>by
 split at h
 ·split at h
  ·rename_i e
   obtain⟨rfl,rfl,rfl,rfl,rfl,rfl,rfl⟩:=e
   have h:=Option.some.inj h; subst h; rfl
  ·cases h
 ·cases h⟩
abbrev cO:Tag:=⟨Int×Int×Int×Int,true,4,fun x=>[(.int .i64 x.1),(.int .i64 x.2.1),(.int .i64 x.2.2.1),(.int .i64 x.2.2.2)],fun cs=>match cs with|[.int kc0 c0,.int kc1 c1,.int kc2 c2,.int kc3 c3]=>if kc0= .i64∧kc1= .i64∧kc2= .i64∧kc3= .i64 then some (c0,c1,c2,c3)else none|_=>none,fun cs x h=>by
 split at h
 ·split at h
  ·rename_i e
   obtain⟨rfl,rfl,rfl,rfl⟩:=e
   have h:=Option.some.inj h; subst h; rfl
  ·cases h
 ·cases h⟩
structure aF where
 Thing:Int
 Place:Int
 What:aU
abbrev ay:Tag:=⟨aF,true,10,fun x=>[(.int .i64 x.Thing),(.int .i64 x.Place),(.int .u8 x.What.When),(.int .u8 x.What.Verb),(.int .u8 x.What.Whom),(.int .i64 x.What.Count),(.int .u8 x.What.Suit),(.int .u8 x.What.Trait),(.int .u8 x.What.Mark),(.string x.What.Name)],fun cs=>match cs with|[.int kc0 c0,.int kc1 c1,.int kc2 c2,.int kc3 c3,.int kc4 c4,.int kc5 c5,.int kc6 c6,.int kc7 c7,.int kc8 c8,.string c9]=>if kc0= .i64∧kc1= .i64∧kc2= .u8∧kc3= .u8∧kc4= .u8∧kc5= .i64∧kc6= .u8∧kc7= .u8∧kc8= .u8 then some (aF.mk c0 c1 (aU.mk c2 c3 c4 c5 c6 c7 c8 c9))else none|_=>none,fun cs x h=>by
 split at h
 ·split at h
  ·rename_i e
   obtain⟨rfl,rfl,rfl,rfl,rfl,rfl,rfl,rfl,rfl⟩:=e
   have h:=Option.some.inj h; subst h; rfl
  ·cases h
 ·cases h⟩
structure aA where
 Name:ByteArray
 Suit:Int
 Kind:Int
 Cost:Int
 Power:Int
 Health:Int
 Traits:Int
 Token:Bool
 Parts:Sl
abbrev aG:Tag:=⟨aA,true,9,fun x=>[(.string x.Name),(.int .u8 x.Suit),(.int .u8 x.Kind),(.int .i64 x.Cost),(.int .i64 x.Power),(.int .i64 x.Health),(.int .u16 x.Traits),(.bool x.Token),(.slice x.Parts.p x.Parts.len x.Parts.cap)],fun cs=>match cs with|[.string c0,.int kc1 c1,.int kc2 c2,.int kc3 c3,.int kc4 c4,.int kc5 c5,.int kc6 c6,.bool c7,.slice c8p c8n c8k]=>if kc1= .u8∧kc2= .u8∧kc3= .i64∧kc4= .i64∧kc5= .i64∧kc6= .u16 then some (aA.mk c0 c1 c2 c3 c4 c5 c6 c7 (Sl.mk c8p c8n c8k))else none|_=>none,fun cs x h=>by
 split at h
 ·split at h
  ·rename_i e
   obtain⟨rfl,rfl,rfl,rfl,rfl,rfl⟩:=e
   have h:=Option.some.inj h; subst h; rfl
  ·cases h
 ·cases h⟩
structure au where
 Mark:Int
 Name:ByteArray
 Power:Int
 Health:Int
abbrev aT:Tag:=⟨au,true,4,fun x=>[(.int .u8 x.Mark),(.string x.Name),(.int .i64 x.Power),(.int .i64 x.Health)],fun cs=>match cs with|[.int kc0 c0,.string c1,.int kc2 c2,.int kc3 c3]=>if kc0= .u8∧kc2= .i64∧kc3= .i64 then some (au.mk c0 c1 c2 c3)else none|_=>none,fun cs x h=>by
 split at h
 ·split at h
  ·rename_i e
   obtain⟨rfl,rfl,rfl⟩:=e
   have h:=Option.some.inj h; subst h; rfl
  ·cases h
 ·cases h⟩
abbrev gu:Tag:=⟨au×au×au×au×au,true,20,fun x=>[(.int .u8 x.1.Mark),(.string x.1.Name),(.int .i64 x.1.Power),(.int .i64 x.1.Health),(.int .u8 x.2.1.Mark),(.string x.2.1.Name),(.int .i64 x.2.1.Power),(.int .i64 x.2.1.Health),(.int .u8 x.2.2.1.Mark),(.string x.2.2.1.Name),(.int .i64 x.2.2.1.Power),(.int .i64 x.2.2.1.Health),(.int .u8 x.2.2.2.1.Mark),(.string x.2.2.2.1.Name),(.int .i64 x.2.2.2.1.Power),(.int .i64 x.2.2.2.1.Health),(.int .u8 x.2.2.2.2.Mark),(.string x.2.2.2.2.Name),(.int .i64 x.2.2.2.2.Power),(.int .i64 x.2.2.2.2.Health)],fun cs=>match cs with|[.int kc0 c0,.string c1,.int kc2 c2,.int kc3 c3,.int kc4 c4,.string c5,.int kc6 c6,.int kc7 c7,.int kc8 c8,.string c9,.int kc10 c10,.int kc11 c11,.int kc12 c12,.string c13,.int kc14 c14,.int kc15 c15,.int kc16 c16,.string c17,.int kc18 c18,.int kc19 c19]=>if kc0= .u8∧kc2= .i64∧kc3= .i64∧kc4= .u8∧kc6= .i64∧kc7= .i64∧kc8= .u8∧kc10= .i64∧kc11= .i64∧kc12= .u8∧kc14= .i64∧kc15= .i64∧kc16= .u8∧kc18= .i64∧kc19= .i64 then some ((au.mk c0 c1 c2 c3),(au.mk c4 c5 c6 c7),(au.mk c8 c9 c10 c11),(au.mk c12 c13 c14 c15),(au.mk c16 c17 c18 c19))else none|_=>none,fun cs x h=>by
 split at h
 ·split at h
  ·rename_i e
   obtain⟨rfl,rfl,rfl,rfl,rfl,rfl,rfl,rfl,rfl,rfl,rfl,rfl,rfl,rfl,rfl⟩:=e
   have h:=Option.some.inj h; subst h; rfl
  ·cases h
 ·cases h⟩
structure aK where
 b:Option Addr
 things:Sl
 cards:Sl
 order:Sl
abbrev aJ:Tag:=⟨aK,true,4,fun x=>[(.pointer x.b),(.slice x.things.p x.things.len x.things.cap),(.slice x.cards.p x.cards.len x.cards.cap),(.slice x.order.p x.order.len x.order.cap)],fun cs=>match cs with|[.pointer c0,.slice c1p c1n c1k,.slice c2p c2n c2k,.slice c3p c3n c3k]=>some (aK.mk c0 (Sl.mk c1p c1n c1k) (Sl.mk c2p c2n c2k) (Sl.mk c3p c3n c3k))|_=>none,fun cs x h=>by
 split at h
 ·have h:=Option.some.inj h; subst h; rfl
 ·cases h⟩
structure zI where
 S:aF
 About:Sl
abbrev CQ:Tag:=⟨zI,true,11,fun x=>[(.int .i64 x.S.Thing),(.int .i64 x.S.Place),(.int .u8 x.S.What.When),(.int .u8 x.S.What.Verb),(.int .u8 x.S.What.Whom),(.int .i64 x.S.What.Count),(.int .u8 x.S.What.Suit),(.int .u8 x.S.What.Trait),(.int .u8 x.S.What.Mark),(.string x.S.What.Name),(.slice x.About.p x.About.len x.About.cap)],fun cs=>match cs with|[.int kc0 c0,.int kc1 c1,.int kc2 c2,.int kc3 c3,.int kc4 c4,.int kc5 c5,.int kc6 c6,.int kc7 c7,.int kc8 c8,.string c9,.slice c10p c10n c10k]=>if kc0= .i64∧kc1= .i64∧kc2= .u8∧kc3= .u8∧kc4= .u8∧kc5= .i64∧kc6= .u8∧kc7= .u8∧kc8= .u8 then some (zI.mk (aF.mk c0 c1 (aU.mk c2 c3 c4 c5 c6 c7 c8 c9)) (Sl.mk c10p c10n c10k))else none|_=>none,fun cs x h=>by
 split at h
 ·split at h
  ·rename_i e
   obtain⟨rfl,rfl,rfl,rfl,rfl,rfl,rfl,rfl,rfl⟩:=e
   have h:=Option.some.inj h; subst h; rfl
  ·cases h
 ·cases h⟩
structure Io where
 Made:Bool
 Shut:Bool
 List:Sl
 Names:ByteArray×ByteArray×ByteArray×ByteArray×ByteArray×ByteArray×ByteArray×ByteArray×ByteArray
 Marked:au×au×au×au×au
abbrev Px:Tag:=⟨Io,true,32,fun x=>[(.bool x.Made),(.bool x.Shut),(.slice x.List.p x.List.len x.List.cap),(.string x.Names.1),(.string x.Names.2.1),(.string x.Names.2.2.1),(.string x.Names.2.2.2.1),(.string x.Names.2.2.2.2.1),(.string x.Names.2.2.2.2.2.1),(.string x.Names.2.2.2.2.2.2.1),(.string x.Names.2.2.2.2.2.2.2.1),(.string x.Names.2.2.2.2.2.2.2.2),(.int .u8 x.Marked.1.Mark),(.string x.Marked.1.Name),(.int .i64 x.Marked.1.Power),(.int .i64 x.Marked.1.Health),(.int .u8 x.Marked.2.1.Mark),(.string x.Marked.2.1.Name),(.int .i64 x.Marked.2.1.Power),(.int .i64 x.Marked.2.1.Health),(.int .u8 x.Marked.2.2.1.Mark),(.string x.Marked.2.2.1.Name),(.int .i64 x.Marked.2.2.1.Power),(.int .i64 x.Marked.2.2.1.Health),(.int .u8 x.Marked.2.2.2.1.Mark),(.string x.Marked.2.2.2.1.Name),(.int .i64 x.Marked.2.2.2.1.Power),(.int .i64 x.Marked.2.2.2.1.Health),(.int .u8 x.Marked.2.2.2.2.Mark),(.string x.Marked.2.2.2.2.Name),(.int .i64 x.Marked.2.2.2.2.Power),(.int .i64 x.Marked.2.2.2.2.Health)],fun cs=>match cs with|[.bool c0,.bool c1,.slice c2p c2n c2k,.string c3,.string c4,.string c5,.string c6,.string c7,.string c8,.string c9,.string c10,.string c11,.int kc12 c12,.string c13,.int kc14 c14,.int kc15 c15,.int kc16 c16,.string c17,.int kc18 c18,.int kc19 c19,.int kc20 c20,.string c21,.int kc22 c22,.int kc23 c23,.int kc24 c24,.string c25,.int kc26 c26,.int kc27 c27,.int kc28 c28,.string c29,.int kc30 c30,.int kc31 c31]=>if kc12= .u8∧kc14= .i64∧kc15= .i64∧kc16= .u8∧kc18= .i64∧kc19= .i64∧kc20= .u8∧kc22= .i64∧kc23= .i64∧kc24= .u8∧kc26= .i64∧kc27= .i64∧kc28= .u8∧kc30= .i64∧kc31= .i64 then some (Io.mk c0 c1 (Sl.mk c2p c2n c2k) (c3,c4,c5,c6,c7,c8,c9,c10,c11) ((au.mk c12 c13 c14 c15),(au.mk c16 c17 c18 c19),(au.mk c20 c21 c22 c23),(au.mk c24 c25 c26 c27),(au.mk c28 c29 c30 c31)))else none|_=>none,fun cs x h=>by
 split at h
 ·split at h
  ·rename_i e
   obtain⟨rfl,rfl,rfl,rfl,rfl,rfl,rfl,rfl,rfl,rfl,rfl,rfl,rfl,rfl,rfl⟩:=e
   have h:=Option.some.inj h; subst h; rfl
  ·cases h
 ·cases h⟩
structure aS where
 lo:Int
 hi:Int
abbrev CS:Tag:=⟨aS,true,2,fun x=>[(.int .u8 x.lo),(.int .u8 x.hi)],fun cs=>match cs with|[.int kc0 c0,.int kc1 c1]=>if kc0= .u8∧kc1= .u8 then some (aS.mk c0 c1)else none|_=>none,fun cs x h=>by
 split at h
 ·split at h
  ·rename_i e
   obtain⟨rfl,rfl⟩:=e
   have h:=Option.some.inj h; subst h; rfl
  ·cases h
 ·cases h⟩
abbrev qN:Tag:=⟨aS×aS×aS×aS×aS×aS×aS×aS×aS×aS×aS×aS×aS×aS×aS×aS,true,32,fun x=>[(.int .u8 x.1.lo),(.int .u8 x.1.hi),(.int .u8 x.2.1.lo),(.int .u8 x.2.1.hi),(.int .u8 x.2.2.1.lo),(.int .u8 x.2.2.1.hi),(.int .u8 x.2.2.2.1.lo),(.int .u8 x.2.2.2.1.hi),(.int .u8 x.2.2.2.2.1.lo),(.int .u8 x.2.2.2.2.1.hi),(.int .u8 x.2.2.2.2.2.1.lo),(.int .u8 x.2.2.2.2.2.1.hi),(.int .u8 x.2.2.2.2.2.2.1.lo),(.int .u8 x.2.2.2.2.2.2.1.hi),(.int .u8 x.2.2.2.2.2.2.2.1.lo),(.int .u8 x.2.2.2.2.2.2.2.1.hi),(.int .u8 x.2.2.2.2.2.2.2.2.1.lo),(.int .u8 x.2.2.2.2.2.2.2.2.1.hi),(.int .u8 x.2.2.2.2.2.2.2.2.2.1.lo),(.int .u8 x.2.2.2.2.2.2.2.2.2.1.hi),(.int .u8 x.2.2.2.2.2.2.2.2.2.2.1.lo),(.int .u8 x.2.2.2.2.2.2.2.2.2.2.1.hi),(.int .u8 x.2.2.2.2.2.2.2.2.2.2.2.1.lo),(.int .u8 x.2.2.2.2.2.2.2.2.2.2.2.1.hi),(.int .u8 x.2.2.2.2.2.2.2.2.2.2.2.2.1.lo),(.int .u8 x.2.2.2.2.2.2.2.2.2.2.2.2.1.hi),(.int .u8 x.2.2.2.2.2.2.2.2.2.2.2.2.2.1.lo),(.int .u8 x.2.2.2.2.2.2.2.2.2.2.2.2.2.1.hi),(.int .u8 x.2.2.2.2.2.2.2.2.2.2.2.2.2.2.1.lo),(.int .u8 x.2.2.2.2.2.2.2.2.2.2.2.2.2.2.1.hi),(.int .u8 x.2.2.2.2.2.2.2.2.2.2.2.2.2.2.2.lo),(.int .u8 x.2.2.2.2.2.2.2.2.2.2.2.2.2.2.2.hi)],fun cs=>match cs with|[.int kc0 c0,.int kc1 c1,.int kc2 c2,.int kc3 c3,.int kc4 c4,.int kc5 c5,.int kc6 c6,.int kc7 c7,.int kc8 c8,.int kc9 c9,.int kc10 c10,.int kc11 c11,.int kc12 c12,.int kc13 c13,.int kc14 c14,.int kc15 c15,.int kc16 c16,.int kc17 c17,.int kc18 c18,.int kc19 c19,.int kc20 c20,.int kc21 c21,.int kc22 c22,.int kc23 c23,.int kc24 c24,.int kc25 c25,.int kc26 c26,.int kc27 c27,.int kc28 c28,.int kc29 c29,.int kc30 c30,.int kc31 c31]=>if kc0= .u8∧kc1= .u8∧kc2= .u8∧kc3= .u8∧kc4= .u8∧kc5= .u8∧kc6= .u8∧kc7= .u8∧kc8= .u8∧kc9= .u8∧kc10= .u8∧kc11= .u8∧kc12= .u8∧kc13= .u8∧kc14= .u8∧kc15= .u8∧kc16= .u8∧kc17= .u8∧kc18= .u8∧kc19= .u8∧kc20= .u8∧kc21= .u8∧kc22= .u8∧kc23= .u8∧kc24= .u8∧kc25= .u8∧kc26= .u8∧kc27= .u8∧kc28= .u8∧kc29= .u8∧kc30= .u8∧kc31= .u8 then some ((aS.mk c0 c1),(aS.mk c2 c3),(aS.mk c4 c5),(aS.mk c6 c7),(aS.mk c8 c9),(aS.mk c10 c11),(aS.mk c12 c13),(aS.mk c14 c15),(aS.mk c16 c17),(aS.mk c18 c19),(aS.mk c20 c21),(aS.mk c22 c23),(aS.mk c24 c25),(aS.mk c26 c27),(aS.mk c28 c29),(aS.mk c30 c31))else none|_=>none,fun cs x h=>by
 split at h
 ·split at h
  ·rename_i e
   obtain⟨rfl,rfl,rfl,rfl,rfl,rfl,rfl,rfl,rfl,rfl,rfl,rfl,rfl,rfl,rfl,rfl,rfl,rfl,rfl,rfl,rfl,rfl,rfl,rfl,rfl,rfl,rfl,rfl,rfl,rfl,rfl,rfl⟩:=e
   have h:=Option.some.inj h; subst h; rfl
  ·cases h
 ·cases h⟩
noncomputable abbrev P:Program:=Tryz.prog
noncomputable abbrev E:Env:=Tryz.env
def ah2:TypeId->Tag:=fun t=>match t with
 |3=>(aj .i64)
 |4=>ah
 |5=>(aj .u8)
 |9=>eH
 |20=>vX
 |21=>(aj .i32)
 |22=>aH
 |23=>aH
 |25=>bY
 |26=>aH
 |27=>aH
 |29=>fG
 |30=>aH
 |34=>(aj .i64)
 |37=>aH
 |42=>vX
 |43=>(aj .u8)
 |44=>cO
 |46=>aV
 |47=>(aj .u8)
 |49=>(aj .u16)
 |51=>aI
 |52=>(aj .u8)
 |53=>(aj .u8)
 |54=>(aj .u8)
 |55=>(aj .u8)
 |56=>(aj .u8)
 |58=>aQ
 |60=>ay
 |63=>fG
 |76=>aH
 |78=>aH
 |87=>vX
 |94=>(aj .u8)
 |95=>aH
 |97=>aG
 |101=>aT
 |110=>aH
 |114=>CQ
 |123=>vX
 |124=>vX
 |129=>gu
 |133=>Px
 |139=>aJ
 |167=>fG
 |195=>(aj .u64)
 |210=>(aj .i64)
 |218=>(aj .u32)
 |220=>(aj .u64)
 |229=>fG
 |230=>(aj .u64)
 |234=>fG
 |240=>fG
 |245=>CS
 |246=>qN
 |_=>vX
def ajw:FuncId->List Tag:=fun f=>match f with
 |3=>[ah]
 |4=>[ah]
 |5=>[ah]
 |6=>[ah]
 |7=>[fG,aH,ah]
 |8=>[aH]
 |9=>[aH,(aj .i64)]
 |10=>[aH,(aj .i64)]
 |11=>[ah]
 |12=>[ah]
 |13=>[(aj .i64)]
 |14=>[ah]
 |15=>[fG,fG,ah]
 |16=>[aH]
 |17=>[aH,(aj .i64)]
 |18=>[aH,(aj .i64)]
 |19=>[ah]
 |21=>[aH,(aj .i64)]
 |22=>[aH,(aj .i64)]
 |23=>[aH,(aj .i64)]
 |24=>[aH,(aj .i64)]
 |25=>[ah]
 |26=>[ah]
 |27=>[(aj .i64)]
 |28=>[ah]
 |29=>[aI]
 |30=>[aI,(aj .i64)]
 |31=>[aI,(aj .i64)]
 |32=>[fG,aH,ah]
 |33=>[aH]
 |34=>[vX,(aj .i64)]
 |35=>[fG]
 |36=>[fG]
 |37=>[(aj .i64)]
 |38=>[aG]
 |39=>[(aj .i64)]
 |40=>[(aj .i64)]
 |41=>[(aj .i64)]
 |42=>[(aj .i64)]
 |43=>[(aj .i64)]
 |44=>[ah]
 |45=>[ah]
 |46=>[aH,(aj .i64)]
 |47=>[ah]
 |48=>[aH,(aj .i64)]
 |49=>[ah]
 |50=>[aH,(aj .i64)]
 |51=>[aH,aH,(aj .i64)]
 |52=>[aH]
 |53=>[aH,(aj .i64)]
 |54=>[aI]
 |55=>[ay]
 |56=>[aG,(aj .i64)]
 |57=>[(aj .i64),(aj .i64)]
 |58=>[aT,ah]
 |59=>[(aj .i64)]
 |60=>[aV]
 |61=>[aH,(aj .i64)]
 |62=>[aH,aH]
 |63=>[aH,aH,(aj .i64)]
 |64=>[aH]
 |65=>[(aj .i64)]
 |66=>[(aj .i64)]
 |67=>[(aj .i64)]
 |68=>[ah]
 |69=>[aG]
 |70=>[aH]
 |71=>[ah]
 |72=>[(aj .i64)]
 |73=>[(aj .i64)]
 |74=>[ah]
 |75=>[aG]
 |76=>[ah]
 |77=>[ah]
 |78=>[ah]
 |79=>[ah]
 |80=>[aJ,(aj .i64)]
 |81=>[ah]
 |82=>[aH]
 |83=>[(aj .i64)]
 |84=>[aH]
 |85=>[aH,ah]
 |86=>[aH,(aj .i64)]
 |87=>[(aj .i64)]
 |88=>[aH]
 |89=>[aI,(aj .i64)]
 |90=>[aH,(aj .i64)]
 |91=>[aH,(aj .i64)]
 |92=>[aG,(aj .i64)]
 |93=>[(aj .i64)]
 |94=>[(aj .i64)]
 |95=>[aH,(aj .i64)]
 |96=>[aH]
 |97=>[(aj .i64)]
 |98=>[aH]
 |99=>[aH]
 |100=>[(aj .i64)]
 |101=>[(aj .i64)]
 |102=>[ah]
 |103=>[ah]
 |104=>[ah]
 |105=>[(aj .i64)]
 |106=>[ah]
 |108=>[(aj .i64)]
 |109=>[ah]
 |110=>[ah]
 |111=>[(aj .u16)]
 |112=>[(aj .u16)]
 |113=>[aI,(aj .i64)]
 |114=>[(aj .i64)]
 |115=>[aH]
 |116=>[ah]
 |117=>[ah]
 |118=>[aH]
 |119=>[aI]
 |120=>[aT,ah]
 |121=>[ah]
 |122=>[aH]
 |123=>[ah]
 |124=>[ah]
 |125=>[ah]
 |126=>[eH]
 |127=>[eH]
 |128=>[ah]
 |129=>[ah,ah,ah,ah,ah]
 |130=>[(aj .i64),(aj .i64),ah]
 |131=>[ah]
 |132=>[ah]
 |133=>[ah]
 |134=>[ah]
 |135=>[ah]
 |136=>[ah]
 |137=>[ah]
 |138=>[ah,ah,ah,ah,ah]
 |139=>[(aj .i64)]
 |140=>[(aj .i64)]
 |141=>[ah]
 |142=>[ah]
 |143=>[ah]
 |144=>[ah]
 |146=>[(aj .i64)]
 |147=>[ah]
 |148=>[(aj .u16)]
 |149=>[aG,(aj .i64)]
 |150=>[ah]
 |151=>[aH]
 |152=>[ah]
 |153=>[aG,(aj .i64)]
 |154=>[(aj .i64)]
 |155=>[ah]
 |156=>[ah]
 |157=>[(aj .u16)]
 |158=>[(aj .u16)]
 |159=>[ah]
 |160=>[(aj .i64)]
 |161=>[ah]
 |162=>[eH]
 |163=>[ah]
 |164=>[ah]
 |165=>[ah]
 |166=>[(aj .i64),(aj .i64)]
 |170=>[(aj .i64),(aj .i64)]
 |172=>[ah]
 |173=>[(aj .i64)]
 |174=>[(aj .i64),ah]
 |175=>[(aj .i64)]
 |176=>[(aj .i64)]
 |177=>[ah]
 |178=>[(aj .u16)]
 |179=>[ah]
 |180=>[eH]
 |181=>[eH]
 |183=>[eH]
 |184=>[eH]
 |185=>[eH]
 |186=>[eH]
 |188=>[(aj .u64)]
 |189=>[(aj .u64)]
 |190=>[(aj .i64)]
 |191=>[(aj .i64)]
 |192=>[ah]
 |193=>[(aj .i32),(aj .i64)]
 |194=>[ah]
 |195=>[(aj .i32),(aj .i64)]
 |196=>[(aj .i64),(aj .i64)]
 |197=>[(aj .i32),(aj .i64)]
 |198=>[(aj .i64)]
 |199=>[ah]
 |200=>[(aj .i64)]
 |201=>[ah]
 |_=>[]
def ajx:TypeId->Option Tag:=fun t=>match t with
 |_=>none
def aku:TypeId->List Tag:=fun t=>match t with
 |0=>[]
 |31=>[fG,aH,ah]
 |35=>[aH,(aj .i64)]
 |38=>[aH,(aj .i64)]
 |64=>[fG,fG,ah]
 |82=>[aI,(aj .i64)]
 |85=>[fG,aH,ah]
 |88=>[vX,(aj .i64)]
 |90=>[aH,aH]
 |103=>[aH,(aj .i64)]
 |107=>[aH,aH,(aj .i64)]
 |111=>[aH,(aj .i64)]
 |117=>[aG,(aj .i64)]
 |119=>[(aj .i64),(aj .i64)]
 |121=>[aT,ah]
 |140=>[aJ,(aj .i64)]
 |146=>[aH,ah]
 |183=>[ah,ah,ah,ah,ah]
 |185=>[(aj .i64),(aj .i64),ah]
 |207=>[(aj .i64),(aj .i64)]
 |211=>[(aj .i64),(aj .i64)]
 |215=>[(aj .i64),ah]
 |237=>[(aj .i32),(aj .i64)]
 |t=>[ah2 t]
noncomputable def C:l9:={ E:=E,P:=P,tag:=ah2,res:=ajw,lkp:=ajx,rt:=aku }
theorem hE:C.E.Ok C.P:=Tryz.ah1
abbrev nG:FuncId:=4
abbrev Fz:FuncId:=6
abbrev yV:FuncId:=9
abbrev nH:FuncId:=10
abbrev gQ:FuncId:=11
abbrev gB:FuncId:=12
abbrev wO:FuncId:=14
abbrev CU:FuncId:=15
abbrev oK:FuncId:=16
abbrev lK:FuncId:=17
abbrev zJ:FuncId:=18
abbrev oL:FuncId:=19
abbrev oM:FuncId:=20
abbrev Gf:FuncId:=21
abbrev jY:FuncId:=22
abbrev qj:FuncId:=23
abbrev vZ:FuncId:=24
abbrev kU:FuncId:=25
abbrev jZ:FuncId:=26
abbrev qO:FuncId:=30
abbrev tK:FuncId:=31
abbrev oN:FuncId:=33
abbrev qG:FuncId:=34
abbrev Gg:FuncId:=35
abbrev CV:FuncId:=36
abbrev oO:FuncId:=37
abbrev nI:FuncId:=38
abbrev nJ:FuncId:=39
abbrev oP:FuncId:=40
abbrev nK:FuncId:=41
abbrev oQ:FuncId:=42
abbrev nM:FuncId:=43
abbrev jg:FuncId:=44
abbrev gG:FuncId:=45
abbrev wP:FuncId:=46
abbrev iq:FuncId:=47
abbrev wQ:FuncId:=48
abbrev oU:FuncId:=49
abbrev ql:FuncId:=50
abbrev wo:FuncId:=51
abbrev tN:FuncId:=52
abbrev qm:FuncId:=53
abbrev fM:FuncId:=54
abbrev fD:FuncId:=55
abbrev sN:FuncId:=56
abbrev kQ:FuncId:=57
abbrev mD:FuncId:=58
abbrev tV:FuncId:=61
abbrev jI:FuncId:=62
abbrev qH:FuncId:=63
abbrev wR:FuncId:=64
abbrev jc:FuncId:=65
abbrev zK:FuncId:=66
abbrev iL:FuncId:=67
abbrev zL:FuncId:=68
abbrev wu:FuncId:=69
abbrev Bz:FuncId:=70
abbrev bV:FuncId:=71
abbrev wS:FuncId:=72
abbrev jh:FuncId:=73
abbrev wU:FuncId:=74
abbrev kR:FuncId:=75
abbrev qo:FuncId:=76
abbrev CW:FuncId:=77
abbrev zM:FuncId:=78
abbrev fO:FuncId:=79
abbrev iO:FuncId:=80
abbrev jU:FuncId:=81
abbrev fE:FuncId:=82
abbrev nN:FuncId:=83
abbrev gI:FuncId:=84
abbrev qP:FuncId:=85
abbrev lV:FuncId:=86
abbrev zN:FuncId:=87
abbrev lM:FuncId:=88
abbrev tX:FuncId:=89
abbrev wV:FuncId:=90
abbrev wW:FuncId:=91
abbrev tY:FuncId:=92
abbrev ku:FuncId:=93
abbrev kC:FuncId:=94
abbrev qQ:FuncId:=95
abbrev dh:FuncId:=96
abbrev mF:FuncId:=97
abbrev dJ:FuncId:=98
abbrev dO:FuncId:=99
abbrev CX:FuncId:=100
abbrev tZ:FuncId:=101
abbrev qR:FuncId:=102
abbrev gU:FuncId:=103
abbrev qp:FuncId:=104
abbrev wX:FuncId:=105
abbrev lN:FuncId:=106
abbrev iw:FuncId:=107
abbrev fH:FuncId:=108
abbrev wY:FuncId:=109
abbrev kV:FuncId:=110
abbrev zO:FuncId:=111
abbrev qU:FuncId:=112
abbrev qV:FuncId:=113
abbrev lQ:FuncId:=114
abbrev qW:FuncId:=115
abbrev qw:FuncId:=116
abbrev qX:FuncId:=117
abbrev jJ:FuncId:=118
abbrev zQ:FuncId:=119
abbrev kW:FuncId:=120
abbrev wz:FuncId:=121
abbrev jM:FuncId:=122
abbrev iW:FuncId:=123
abbrev jO:FuncId:=124
abbrev zS:FuncId:=125
abbrev CY:FuncId:=126
abbrev CZ:FuncId:=127
abbrev lS:FuncId:=128
abbrev wZ:FuncId:=129
abbrev qY:FuncId:=130
abbrev qZ:FuncId:=131
abbrev uf:FuncId:=132
abbrev kX:FuncId:=133
abbrev iP:FuncId:=134
abbrev iy:FuncId:=135
abbrev iQ:FuncId:=136
abbrev xg:FuncId:=137
abbrev zT:FuncId:=138
abbrev sO:FuncId:=139
abbrev xk:FuncId:=140
abbrev xq:FuncId:=141
abbrev ru:FuncId:=142
abbrev kD:FuncId:=143
abbrev zU:FuncId:=144
abbrev wB:FuncId:=147
abbrev qI:FuncId:=148
abbrev zV:FuncId:=149
abbrev oV:FuncId:=150
abbrev qx:FuncId:=151
abbrev wC:FuncId:=152
abbrev fJ:FuncId:=153
abbrev xu:FuncId:=154
abbrev zW:FuncId:=155
abbrev xw:FuncId:=156
abbrev zX:FuncId:=157
abbrev rC:FuncId:=158
abbrev zY:FuncId:=159
abbrev ug:FuncId:=160
abbrev ji:FuncId:=161
abbrev kE:FuncId:=162
abbrev jV:FuncId:=163
abbrev jW:FuncId:=164
abbrev uh:FuncId:=165
abbrev nO:FuncId:=166
abbrev Py:FuncId:=177
abbrev qJ:FuncId:=178
abbrev zZ:FuncId:=179
end Zv
end Go.Proofs.YtijnknjopjmiiaaGreatDoor
end
section
namespace Go.Proofs.YtijnknjopjmiiaaGreatDoor.Zq
theorem aiu(a b:UInt8):a<b∨a=b∨b<a:=by
 have h:a.toNat<b.toNat∨a.toNat=b.toNat∨b.toNat<a.toNat:=by omega
 rcases h with h|h|h
 ·exact .inl (UInt8.lt_iff_toNat_lt.2 h)
 ·exact .inr (.inl (UInt8.toNat_inj.1 h))
 ·exact .inr (.inr (UInt8.lt_iff_toNat_lt.2 h))
theorem ajy{a b c:UInt8}(h:a<b)(k:b<c):a<c:=UInt8.lt_iff_toNat_lt.2 (by have:=UInt8.lt_iff_toNat_lt.1 h; have:=UInt8.lt_iff_toNat_lt.1 k; omega)
theorem ah3:∀{x y z:List UInt8},Op.bytesLess x y=true->Op.bytesLess y z=true->Op.bytesLess x z=true
 |_,[],_,h,_=>by simp[Op.bytesLess]at h
 |_,_::_,[],_,k=>by simp[Op.bytesLess]at k
 |[],b::y,c::z,_,_=>rfl
 |a::x,b::y,c::z,h,k=>by
  simp only[Op.bytesLess,Bool.or_eq_true,Bool.and_eq_true,decide_eq_true_eq,beq_iff_eq]at h k ⊢
  rcases h with h|⟨rfl,h⟩
  ·rcases k with k|⟨rfl,k⟩
   ·exact .inl (ajy h k)
   ·exact .inl h
  ·rcases k with k|⟨rfl,k⟩
   ·exact .inl k
   ·exact .inr ⟨rfl,ah3 h k⟩
theorem aeI:∀{x y:List UInt8},x≠y->Op.bytesLess x y=false->Op.bytesLess y x=true
 |[],[],h,_=>absurd rfl h
 |[],_::_,_,k=>by simp[Op.bytesLess]at k
 |_::_,[],_,_=>rfl
 |a::x,b::y,h,k=>by
  simp only[Op.bytesLess,Bool.or_eq_false_iff,Bool.and_eq_false_iff,decide_eq_false_iff_not,beq_eq_false_iff_ne,ne_eq]at k
  simp only[Op.bytesLess,Bool.or_eq_true,Bool.and_eq_true,decide_eq_true_eq,beq_iff_eq]
  rcases aiu a b with q|q|q
  ·exact absurd q k.1
  ·subst q
   refine .inr ⟨rfl,aeI (fun e=>h (by rw[e])) ?_⟩
   rcases k.2 with e|e
   ·exact absurd rfl e
   ·exact e
  ·exact .inl q
section
variable{α:Type}(lt:α->α->Bool)
def insL(x:α)(l:List α):List α:=l.takeWhile (fun d=> !lt x d)++x::l.dropWhile (fun d=> !lt x d)
def aeJ(l:List α):Prop:=l.Pairwise fun a b=>lt a b=true
variable{lt}
theorem Aa{p:α->Bool}:∀(l:List α) (i:Nat),i≤l.length->(∀(j:Nat) (h:j<l.length),j<i->p l[j]=true)->(∀(h:i<l.length),p l[i]=false)->l.takeWhile p=l.take i∧l.dropWhile p=l.drop i
 |[],i,h,_,_=>by
  have:i=0:=by simpa using h
  subst this; exact⟨rfl,rfl⟩
 |a::l,0,_,_,h2=>by
  have:p a=false:=h2 (by simp)
  simp[this]
 |a::l,i+1,h,h1,h2=>by
  have ha:p a=true:=h1 0 (by simp) (by omega)
  obtain⟨e1,e2⟩:=Aa l i (by simpa using h) (fun j hj hji=>h1 (j+1) (by simpa using hj) (by omega)) (fun hi=>h2 (by simpa using hi))
  simp[ha,e1,e2]
theorem aeK(tr:∀{a b c:α},lt a b=true->lt b c=true->lt a c=true){x:α}{l:List α}(hs:aeJ lt l){i:Nat}(hi:i≤l.length)(h1:∀(j:Nat) (h:j<l.length),i≤j->lt x l[j]=true)(h2:∀(h:0<i),lt x (l[i-1]'(by omega))=false):insL lt x l=l.take i++x::l.drop i:=by
 unfold insL
 have k1:∀(j:Nat) (h:j<l.length),j<i->(!lt x l[j])=true:=fun j hj hji=>by
  have h3:=h2 (by omega)
  cases hb:lt x l[j]with
  |false=>rfl
  |true=>
   by_cases e:j=i-1
   ·subst e; rw[hb]at h3; cases h3
   ·have:=List.pairwise_iff_getElem.1 hs j (i-1) hj (by omega) (by omega)
    rw[tr hb this]at h3; cases h3
 have k2:∀(h:i<l.length),(!lt x l[i])=false:=fun h=>by rw[h1 i h (Nat.le_refl _)]; rfl
 obtain⟨e1,e2⟩:=Aa (p:=fun d=> !lt x d) l i hi k1 k2
 rw[e1,e2]
theorem Vo{x:α}{l:List α}{i:Nat}(hi:i≤l.length)(h1:∀(j:Nat) (h:j<l.length),j<i->lt x l[j]=false)(h2:∀(h:i<l.length),lt x l[i]=true):insL lt x l=l.take i++x::l.drop i:=by
 unfold insL
 obtain⟨e1,e2⟩:=Aa (p:=fun d=> !lt x d) l i hi (fun j hj hji=>by rw[h1 j hj hji]; rfl) (fun h=>by rw[h2 h]; rfl)
 rw[e1,e2]
theorem YX{x y:α}{l:List α}:y∈insL lt x l↔y=x∨y∈l:=by
 unfold insL
 rw[List.mem_append,List.mem_cons]
 constructor
 ·rintro(h|h|h)
  ·exact .inr ((List.takeWhile_sublist _).subset h)
  ·exact .inl h
  ·exact .inr ((List.dropWhile_sublist _).subset h)
 ·rintro(h|h)
  ·exact .inr (.inl h)
  ·rw[←List.takeWhile_append_dropWhile (p:=fun d=> !lt x d) (l:=l),List.mem_append]at h
   rcases h with h|h
   ·exact .inl h
   ·exact .inr (.inr h)
theorem YZ{x:α}{l:List α}:(insL lt x l).length=l.length+1:=by
 have:=congrArg List.length (List.takeWhile_append_dropWhile (p:=fun d=> !lt x d) (l:=l))
 rw[List.length_append]at this
 unfold insL
 rw[List.length_append,List.length_cons]; omega
theorem uj{p:α->Bool}:∀{l:List α} {y:α} {r:List α},l.dropWhile p=y::r->p y=false
 |[],_,_,h=>by simp at h
 |a::l,y,r,h=>by
  rw[List.dropWhile_cons]at h
  split at h
  ·exact uj h
  ·rename_i e; cases h; simpa using e
theorem FB{p:α->Bool}:∀{l:List α} {y:α},y∈l.takeWhile p->p y=true
 |[],_,h=>by simp at h
 |a::l,y,h=>by
  rw[List.takeWhile_cons]at h
  split at h
  ·rename_i e
   rcases List.mem_cons.1 h with rfl|h
   ·exact e
   ·exact FB h
  ·simp at h
theorem aeL(tr:∀{a b c:α},lt a b=true->lt b c=true->lt a c=true){x:α}{l:List α}(hs:aeJ lt l)(tot:∀y∈l,lt x y=false->lt y x=true):aeJ lt (insL lt x l):=by
 have hl:=List.takeWhile_append_dropWhile (p:=fun d=> !lt x d) (l:=l)
 have hs':=hs
 unfold aeJ at hs' ⊢
 rw[←hl,List.pairwise_append]at hs'
 obtain⟨s1,s2,s3⟩:=hs'
 have below:∀y∈l.takeWhile (fun d=> !lt x d),lt y x=true:=fun y hy=>tot y ((List.takeWhile_sublist _).subset hy) (by simpa using FB hy)
 have above:∀y∈l.dropWhile (fun d=> !lt x d),lt x y=true:=by
  cases hd:l.dropWhile (fun d=> !lt x d)with
  |nil=>intro y hy; cases hy
  |cons z r=>
   have hz:lt x z=true:=by simpa using uj hd
   rw[hd]at s2
   intro y hy
   rcases List.mem_cons.1 hy with rfl|hy
   ·exact hz
   ·exact tr hz ((List.pairwise_cons.1 s2).1 y hy)
 unfold insL
 rw[List.pairwise_append]
 refine⟨s1,List.pairwise_cons.2 ⟨above,s2⟩,fun a ha b hb=> ?_⟩
 rcases List.mem_cons.1 hb with rfl|hb
 ·exact below a ha
 ·exact s3 a ha b hb
end
end Go.Proofs.YtijnknjopjmiiaaGreatDoor.Zq
end
section
namespace Go.Proofs.YtijnknjopjmiiaaGreatDoor.Zq
open Zv
abbrev Pt:=aU
def LQ(b:UInt8):Bool:=b==45||(decide (97≤b)&&decide (b≤122))
def qK(s:ByteArray):Prop:=1≤s.data.toList.length∧s.data.toList.length≤20∧s.data.toList.head? ≠some 45∧s.data.toList.all LQ=true
def nP(v:Int):Int:=if 1≤v∧v≤9 then 1 else if 10≤v∧v≤15 then 2 else if 16≤v∧v≤19 then 3 else 0
def C9(w:Int):Int:=if 1≤w∧w≤4 then 1 else if w=5 then 2 else if w=6 then 3 else 0
def cU(v:Int):Prop:=v=1∨v=2∨v=3∨v=4∨v=5∨v=7∨v=9∨v=14∨v=15∨v=16∨v=19
def sU(v w:Int):Prop:=v=11∨w=9
def tU(v w:Int):Prop:=v=12∨v=13∨w=10
instance (v:Int):Decidable (cU v):=by unfold cU; infer_instance
instance (v w:Int):Decidable (sU v w):=by unfold sU; infer_instance
instance (v w:Int):Decidable (tU v w):=by unfold tU; infer_instance
def Eo(v:Int):Int:=if v=9∨v=15 then -99 else if v=5 then -9 else if v=14 then 0 else 1
def Dc(v:Int):Int:=if v=5 then 9 else 99
def wE(v x:Int):Prop:=if cU v then Eo v≤x∧x≤Dc v∧(v=14∨x≠0)else x=0
def inU(u:Prop)[Decidable u](x most:Int):Prop:=if u then 1≤x∧x≤most else x=0
def nR(p:Pt):Prop:=
 if nP p.Verb=1 then(if p.Whom=3 then p.When=1 else ¬((p.Whom=1∨p.Whom=2)∧(p.Verb=6∨p.Verb=8∨p.Verb=9)))
 else if nP p.Verb=2 then ¬(p.Whom=1∨p.Whom=2)∧p.Whom≠3
 else p.Whom≠3
open Classical in
noncomputable def Me(p:Pt):Int:=
 if p.When<1∨6<p.When∨p.Verb<1∨19<p.Verb∨p.Whom<1∨10<p.Whom then 2
 else if nP p.Verb≠C9 p.When∨p.Verb=11∧p.Whom=9 then 8
 else if ¬nR p then 13
 else if ¬wE p.Verb p.Count then 2
 else if ¬(inU (sU p.Verb p.Whom) p.Suit 6∧inU (tU p.Verb p.Whom) p.Trait 8∧inU (p.Verb=9) p.Mark 4)then 2
 else if(if p.Verb=7 then ¬qK p.Name else p.Name.data.toList≠[])then 4
 else 0
structure Cd where
 g:aA
 ps:List Pt
def bare(g:aA):aA:={ g with Parts:=⟨none,0,0⟩ }
open Classical in
noncomputable def Pz(k:Int):List Pt->Int
 |[]=>0
 |p::r=>if Me p≠0 then Me p else if k=2∧p.When≠1∨k=3∧p.When=4 then 8 else Pz k r
open Classical in
noncomputable def Ep(c:Cd):Int:=
 if ¬qK c.g.Name then 4
 else if ¬(1≤c.g.Suit∧c.g.Suit≤6)∨¬(1≤c.g.Kind∧c.g.Kind≤3)then 8
 else if ¬(0≤c.g.Cost∧c.g.Cost≤10)∨¬(0≤c.g.Power∧c.g.Power≤99)∨¬(0≤c.g.Health∧c.g.Health≤99)then 2
 else if c.g.Kind=1∧c.g.Health=0∨c.g.Kind≠1∧(c.g.Power≠0∨c.g.Health≠0)then 8
 else if ¬(c.g.Traits<256)∨c.g.Kind=2∧c.g.Token=true then 8
 else if 4<c.ps.length then 3
 else 0
noncomputable def BH(c:Cd):Int:=if Ep c=0 then Pz c.g.Kind c.ps else Ep c
theorem um{c:Cd}(h:Ep c=0):c.ps.length≤4:=by
 unfold Ep at h
 repeat' split at h
 all_goals first|omega|(exfalso; exact absurd h (by decide))
def Hl(c d:Cd):Bool:=decide (c.g.Suit<d.g.Suit)||(c.g.Suit==d.g.Suit&&Op.bytesLess c.g.Name.toList d.g.Name.toList)
theorem aeM{a b c:Cd}(h:Hl a b=true)(k:Hl b c=true):Hl a c=true:=by
 unfold Hl at*
 simp only[Bool.or_eq_true,Bool.and_eq_true,decide_eq_true_eq,beq_iff_eq]at*
 rcases h with h|⟨h1,h2⟩<;>rcases k with k|⟨k1,k2⟩
 ·exact .inl (by omega)
 ·exact .inl (by omega)
 ·exact .inl (by omega)
 ·exact .inr ⟨by omega,ah3 h2 k2⟩
theorem agI{a b:Cd}(hn:a.g.Name.toList≠b.g.Name.toList)(h:Hl a b=false):Hl b a=true:=by
 unfold Hl at*
 simp only[Bool.or_eq_true,Bool.and_eq_true,decide_eq_true_eq,beq_iff_eq,Bool.or_eq_false_iff,Bool.and_eq_false_iff,decide_eq_false_iff_not,beq_eq_false_iff_ne,ne_eq]at*
 by_cases e:a.g.Suit=b.g.Suit
 ·refine .inr ⟨e.symm,aeI hn ?_⟩
  rcases h.2 with q|q
  ·exact absurd e q
  ·exact q
 ·exact .inl (by omega)
def kY(B:List Cd)(s:ByteArray):Option Nat:=B.findIdx? fun d=>d.g.Name.toList==s.toList
open Classical in
noncomputable def Es(B:List Cd)(c:Cd):Int:=if BH c≠0 then BH c else if(kY B c.g.Name).isSome then 5 else if 64≤B.length then 14 else 0
open Classical in
noncomputable def Gh(B:List Cd)(c:Cd):List Cd:=if Es B c=0 then insL Hl c B else B
structure rD(B:List Cd):Prop where
 few:B.length≤64
 srt:aeJ Hl B
 ok:∀c∈B,BH c=0
theorem agJ{B:List Cd}(h:rD B)(c:Cd):rD (Gh B c):=by
 unfold Gh
 split
 ·rename_i e
  unfold Es at e
  split at e
  ·rename_i e2; exact absurd e e2
  ·rename_i e2
   split at e
   ·cases e
   ·rename_i e3
    split at e
    ·cases e
    ·rename_i e4
     have e2:BH c=0:=Classical.byContradiction e2
     refine⟨by rw[YZ]; omega,aeL (lt:=Hl) (fun h k=>aeM h k) h.srt fun y hy hl=>agI (fun en=> ?_) hl,fun d hd=> ?_⟩
     ·apply e3
      unfold kY
      rw[List.findIdx?_isSome,List.any_eq_true]
      exact⟨y,hy,by rw[en]; simp⟩
     ·rcases YX.1 hd with rfl|hd
      ·exact e2
      ·exact h.ok d hd
 ·exact h
open Classical in
noncomputable def Ip(ms:List au)(m:au):Int:=
 if m.Mark<1∨4<m.Mark∨m.Power< -9∨9<m.Power∨m.Health< -9∨9<m.Health then 2
 else if ¬qK m.Name then 4
 else if(∃x,ms[m.Mark.toNat]? =some x∧x.Mark≠0)∨(∃x∈ms,x.Name.toList=m.Name.toList)then 5
 else 0
open Classical in
noncomputable def MB(ms:List au)(m:au):List au:=if Ip ms m=0 then ms.set m.Mark.toNat m else ms
def BA(B:List Cd)(p:Pt):Int:=if p.Verb=7 then(match kY B p.Name with|none=>6|some i=>if(B[i]?.map fun c=>c.g.Kind)=some 2 then 8 else 0)else 0
def xA(B:List Cd):List Pt->Int
 |[]=>0
 |p::r=>if BA B p≠0 then BA B p else xA B r
def wF(B:List Cd):Int:=xA B (B.flatMap (·.ps))
end Go.Proofs.YtijnknjopjmiiaaGreatDoor.Zq
end
