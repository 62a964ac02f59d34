/- Part 3 of the proof of ViewPlain: what its row stands on (lemmas about the model, the evaluator, contracts of functions), put together and cut to what is used. -/
import Derived.Test.YtijnknjopjmiiaaGreatDoorKViewPlain2
import Derived.Shelf.Sort.Plain
import Derived.Shelf.Slices.In.SortNone
import Derived.Shelf.SlSortCmp.Whole1
import Derived.Shelf.SlSortCmp.NoneTotal
import Derived.Test.YtijnknjopjmiiaaGreatDoorProg
import Derived.Shelf.Strings.SlTrimAscii
import Derived.ChangeArms
import Derived.OpenShut
import Derived.SizedLaws
import Derived.KernelRfl
namespace Go.Proofs.YtijnknjopjmiiaaGreatDoor
def rg:Nat->Nat->List Nat->List Nat
 |_,0,l=>l
 |a,n+1,l=>a::rg (a+1) n l
end Go.Proofs.YtijnknjopjmiiaaGreatDoor
section
namespace Go.Proofs.YtijnknjopjmiiaaGreatDoor.Zq
open Go.Shelf Go.Proofs
def rG:Go.Shelf.Ren:=⟨fun|160=>162|232=>181|231=>180|227=>182|234=>184|233=>183|236=>186|235=>185|228=>192|271=>195|151=>194|197=>193|120=>199|152=>198|260=>197|137=>200|119=>201|224=>202|225=>203|217=>204|266=>205|n=>n,fun|9=>9|4=>4|3=>3|5=>5|117=>226|116=>225|0=>0|124=>229|21=>21|105=>237|46=>195|119=>243|139=>246|138=>245|n=>n,fun|3=>0|4=>1|n=>n⟩
theorem lays160:Go.Proofs.Lays.n160 Tryz.prog rG:={
 mixed:=by kernel_rfl
 f119:=Tryz.func201.trans (congrArg some (by kernel_rfl))
 f120:=Tryz.func199.trans (congrArg some (by kernel_rfl))
 f137:=Tryz.func200.trans (congrArg some (by kernel_rfl))
 f151:=Tryz.func194.trans (congrArg some (by kernel_rfl))
 f152:=Tryz.func198.trans (congrArg some (by kernel_rfl))
 f160:=Tryz.func162.trans (congrArg some (by kernel_rfl))
 f197:=Tryz.func193.trans (congrArg some (by kernel_rfl))
 f217:=Tryz.func204.trans (congrArg some (by kernel_rfl))
 f224:=Tryz.func202.trans (congrArg some (by kernel_rfl))
 f225:=Tryz.func203.trans (congrArg some (by kernel_rfl))
 f227:=Tryz.func182.trans (congrArg some (by kernel_rfl))
 f228:=Tryz.func192.trans (congrArg some (by kernel_rfl))
 f231:=Tryz.func180.trans (congrArg some (by kernel_rfl))
 f232:=Tryz.func181.trans (congrArg some (by kernel_rfl))
 f233:=Tryz.func183.trans (congrArg some (by kernel_rfl))
 f234:=Tryz.func184.trans (congrArg some (by kernel_rfl))
 f235:=Tryz.func185.trans (congrArg some (by kernel_rfl))
 f236:=Tryz.func186.trans (congrArg some (by kernel_rfl))
 f260:=Tryz.func197.trans (congrArg some (by kernel_rfl))
 f266:=Tryz.func205.trans (congrArg some (by kernel_rfl))
 f271:=Tryz.func195.trans (congrArg some (by kernel_rfl))
 t0:=Tryz.underlying0
 a0:=Tryz.isAgg0
 z0:=Tryz.sizeOf0
 v0:=Tryz.zeroValue0
 t3:=Tryz.underlying3
 a3:=Tryz.isAgg3
 z3:=Tryz.sizeOf3
 v3:=Tryz.zeroValue3
 t4:=Tryz.underlying4
 a4:=Tryz.isAgg4
 z4:=Tryz.sizeOf4
 v4:=Tryz.zeroValue4
 t5:=Tryz.underlying5
 a5:=Tryz.isAgg5
 z5:=Tryz.sizeOf5
 v5:=Tryz.zeroValue5
 t9:=Tryz.underlying9
 a9:=Tryz.isAgg9
 z9:=Tryz.sizeOf9
 v9:=Tryz.zeroValue9
 t21:=Tryz.underlying21
 a21:=Tryz.isAgg21
 z21:=Tryz.sizeOf21
 v21:=Tryz.zeroValue21
 t46:=Tryz.underlying195
 a46:=Tryz.isAgg195
 z46:=Tryz.sizeOf195
 v46:=Tryz.zeroValue195
 t105:=Tryz.underlying237
 a105:=Tryz.isAgg237
 z105:=Tryz.sizeOf237
 v105:=Tryz.zeroValue237
 t116:=Tryz.underlying225
 a116:=Tryz.isAgg225
 z116:=Tryz.sizeOf225
 t117:=Tryz.underlying226
 a117:=Tryz.isAgg226
 z117:=Tryz.sizeOf226
 v117:=Tryz.zeroValue226
 t119:=Tryz.underlying243
 a119:=Tryz.isAgg243
 z119:=Tryz.sizeOf243
 t124:=Tryz.underlying229
 a124:=Tryz.isAgg229
 z124:=Tryz.sizeOf229
 v124:=Tryz.zeroValue229
 t138:=Tryz.underlying245
 a138:=Tryz.isAgg245
 z138:=Tryz.sizeOf245
 v138:=Tryz.zeroValue245
 t139:=Tryz.underlying246
 a139:=Tryz.isAgg246
 z139:=Tryz.sizeOf246
 v139:=Tryz.zeroValue246
 g3:=by kernel_rfl
 g4:=by kernel_rfl }
def OT:Go.Shelf.Ren:=⟨fun|6=>107|15=>146|14=>145|28=>175|29=>176|20=>167|21=>168|22=>169|23=>170|24=>171|25=>172|26=>173|27=>174|46=>187|47=>188|48=>189|49=>190|50=>191|57=>196|n=>n,fun|22=>27|24=>3|25=>42|3=>3|39=>195|0=>0|53=>218|55=>220|4=>4|46=>211|45=>210|50=>215|5=>5|9=>9|66=>230|70=>234|76=>240|77=>207|n=>n,fun|n=>n⟩
theorem ada:Go.Proofs.SlLaysF.n6 Tryz.prog OT:={
 mixed:=by kernel_rfl
 f6:=⟨Tryz.f107.name,by decide,Tryz.func107.trans (congrArg some (by kernel_rfl))⟩
 f14:=⟨Tryz.f145.name,by decide,Tryz.func145.trans (congrArg some (by kernel_rfl))⟩
 f15:=Tryz.func146.trans (congrArg some (by kernel_rfl))
 f20:=⟨Tryz.f167.name,by decide,Tryz.func167.trans (congrArg some (by kernel_rfl))⟩
 f21:=⟨Tryz.f168.name,by decide,Tryz.func168.trans (congrArg some (by kernel_rfl))⟩
 f22:=⟨Tryz.f169.name,by decide,Tryz.func169.trans (congrArg some (by kernel_rfl))⟩
 f23:=⟨Tryz.f170.name,by decide,Tryz.func170.trans (congrArg some (by kernel_rfl))⟩
 f24:=⟨Tryz.f171.name,by decide,Tryz.func171.trans (congrArg some (by kernel_rfl))⟩
 f25:=⟨Tryz.f172.name,by decide,Tryz.func172.trans (congrArg some (by kernel_rfl))⟩
 f26:=⟨Tryz.f173.name,by decide,Tryz.func173.trans (congrArg some (by kernel_rfl))⟩
 f27:=⟨Tryz.f174.name,by decide,Tryz.func174.trans (congrArg some (by kernel_rfl))⟩
 f28:=Tryz.func175.trans (congrArg some (by kernel_rfl))
 f29:=Tryz.func176.trans (congrArg some (by kernel_rfl))
 f46:=⟨Tryz.f187.name,by decide,Tryz.func187.trans (congrArg some (by kernel_rfl))⟩
 f47:=Tryz.func188.trans (congrArg some (by kernel_rfl))
 f48:=Tryz.func189.trans (congrArg some (by kernel_rfl))
 f49:=⟨Tryz.f190.name,by decide,Tryz.func190.trans (congrArg some (by kernel_rfl))⟩
 f50:=⟨Tryz.f191.name,by decide,Tryz.func191.trans (congrArg some (by kernel_rfl))⟩
 f57:=⟨Tryz.f196.name,by decide,Tryz.func196.trans (congrArg some (by kernel_rfl))⟩
 t0:=Tryz.underlying0
 a0:=Tryz.isAgg0
 z0:=Tryz.sizeOf0
 v0:=Tryz.zeroValue0
 t3:=Tryz.underlying3
 a3:=Tryz.isAgg3
 z3:=Tryz.sizeOf3
 v3:=Tryz.zeroValue3
 t4:=Tryz.underlying4
 a4:=Tryz.isAgg4
 z4:=Tryz.sizeOf4
 v4:=Tryz.zeroValue4
 t5:=Tryz.underlying5
 a5:=Tryz.isAgg5
 z5:=Tryz.sizeOf5
 v5:=Tryz.zeroValue5
 t9:=Tryz.underlying9
 a9:=Tryz.isAgg9
 z9:=Tryz.sizeOf9
 v9:=Tryz.zeroValue9
 t22:=Tryz.underlying27
 a22:=Tryz.isAgg27
 z22:=Tryz.sizeOf27
 v22:=Tryz.zeroValue27
 a24:=Tryz.isAgg3
 z24:=Tryz.sizeOf3
 t25:=Tryz.underlying42
 a25:=Tryz.isAgg42
 z25:=Tryz.sizeOf42
 v25:=Tryz.zeroValue42
 t39:=Tryz.underlying195
 a39:=Tryz.isAgg195
 z39:=Tryz.sizeOf195
 v39:=Tryz.zeroValue195
 t45:=Tryz.underlying210
 a45:=Tryz.isAgg210
 z45:=Tryz.sizeOf210
 v45:=Tryz.zeroValue210
 t46:=Tryz.underlying211
 a46:=Tryz.isAgg211
 z46:=Tryz.sizeOf211
 v46:=Tryz.zeroValue211
 t50:=Tryz.underlying215
 a50:=Tryz.isAgg215
 z50:=Tryz.sizeOf215
 v50:=Tryz.zeroValue215
 t53:=Tryz.underlying218
 a53:=Tryz.isAgg218
 z53:=Tryz.sizeOf218
 v53:=Tryz.zeroValue218
 t55:=Tryz.underlying220
 a55:=Tryz.isAgg220
 z55:=Tryz.sizeOf220
 v55:=Tryz.zeroValue220
 t66:=Tryz.underlying230
 a66:=Tryz.isAgg230
 z66:=Tryz.sizeOf230
 v66:=Tryz.zeroValue230
 t70:=Tryz.underlying234
 a70:=Tryz.isAgg234
 z70:=Tryz.sizeOf234
 v70:=Tryz.zeroValue234
 t76:=Tryz.underlying240
 a76:=Tryz.isAgg240
 z76:=Tryz.sizeOf240
 v76:=Tryz.zeroValue240
 t77:=Tryz.underlying207
 a77:=Tryz.isAgg207
 z77:=Tryz.sizeOf207
 v77:=Tryz.zeroValue207 }
def VI:Go.Shelf.Ren:=⟨fun|6=>107|15=>146|14=>145|28=>175|29=>176|20=>167|21=>168|22=>169|23=>170|24=>171|25=>172|26=>173|27=>174|46=>187|47=>188|48=>189|49=>190|50=>191|57=>196|n=>n,fun|22=>27|24=>3|25=>42|3=>3|39=>195|0=>0|53=>218|55=>220|4=>4|46=>211|45=>210|50=>215|5=>5|9=>9|66=>230|70=>234|76=>240|77=>207|n=>n,fun|n=>n⟩
theorem adE:Go.Proofs.SlLaysF0.n6 Tryz.prog VI:={
 mixed:=by kernel_rfl
 f6:=⟨Tryz.f107.name,by decide,Tryz.func107.trans (congrArg some (by kernel_rfl))⟩
 f14:=⟨Tryz.f145.name,by decide,Tryz.func145.trans (congrArg some (by kernel_rfl))⟩
 f15:=Tryz.func146.trans (congrArg some (by kernel_rfl))
 f20:=⟨Tryz.f167.name,by decide,Tryz.func167.trans (congrArg some (by kernel_rfl))⟩
 f21:=⟨Tryz.f168.name,by decide,Tryz.func168.trans (congrArg some (by kernel_rfl))⟩
 f22:=⟨Tryz.f169.name,by decide,Tryz.func169.trans (congrArg some (by kernel_rfl))⟩
 f23:=⟨Tryz.f170.name,by decide,Tryz.func170.trans (congrArg some (by kernel_rfl))⟩
 f24:=⟨Tryz.f171.name,by decide,Tryz.func171.trans (congrArg some (by kernel_rfl))⟩
 f25:=⟨Tryz.f172.name,by decide,Tryz.func172.trans (congrArg some (by kernel_rfl))⟩
 f26:=⟨Tryz.f173.name,by decide,Tryz.func173.trans (congrArg some (by kernel_rfl))⟩
 f27:=⟨Tryz.f174.name,by decide,Tryz.func174.trans (congrArg some (by kernel_rfl))⟩
 f28:=Tryz.func175.trans (congrArg some (by kernel_rfl))
 f29:=Tryz.func176.trans (congrArg some (by kernel_rfl))
 f46:=⟨Tryz.f187.name,by decide,Tryz.func187.trans (congrArg some (by kernel_rfl))⟩
 f47:=Tryz.func188.trans (congrArg some (by kernel_rfl))
 f48:=Tryz.func189.trans (congrArg some (by kernel_rfl))
 f49:=⟨Tryz.f190.name,by decide,Tryz.func190.trans (congrArg some (by kernel_rfl))⟩
 f50:=⟨Tryz.f191.name,by decide,Tryz.func191.trans (congrArg some (by kernel_rfl))⟩
 f57:=⟨Tryz.f196.name,by decide,Tryz.func196.trans (congrArg some (by kernel_rfl))⟩
 t0:=Tryz.underlying0
 a0:=Tryz.isAgg0
 z0:=Tryz.sizeOf0
 v0:=Tryz.zeroValue0
 t3:=Tryz.underlying3
 a3:=Tryz.isAgg3
 z3:=Tryz.sizeOf3
 v3:=Tryz.zeroValue3
 t4:=Tryz.underlying4
 a4:=Tryz.isAgg4
 z4:=Tryz.sizeOf4
 v4:=Tryz.zeroValue4
 t5:=Tryz.underlying5
 a5:=Tryz.isAgg5
 z5:=Tryz.sizeOf5
 v5:=Tryz.zeroValue5
 t9:=Tryz.underlying9
 a9:=Tryz.isAgg9
 z9:=Tryz.sizeOf9
 v9:=Tryz.zeroValue9
 t22:=Tryz.underlying27
 a22:=Tryz.isAgg27
 z22:=Tryz.sizeOf27
 v22:=Tryz.zeroValue27
 t25:=Tryz.underlying42
 a25:=Tryz.isAgg42
 z25:=Tryz.sizeOf42
 v25:=Tryz.zeroValue42
 t39:=Tryz.underlying195
 a39:=Tryz.isAgg195
 z39:=Tryz.sizeOf195
 v39:=Tryz.zeroValue195
 t45:=Tryz.underlying210
 a45:=Tryz.isAgg210
 z45:=Tryz.sizeOf210
 v45:=Tryz.zeroValue210
 t46:=Tryz.underlying211
 a46:=Tryz.isAgg211
 z46:=Tryz.sizeOf211
 v46:=Tryz.zeroValue211
 t50:=Tryz.underlying215
 a50:=Tryz.isAgg215
 z50:=Tryz.sizeOf215
 v50:=Tryz.zeroValue215
 t53:=Tryz.underlying218
 a53:=Tryz.isAgg218
 z53:=Tryz.sizeOf218
 v53:=Tryz.zeroValue218
 t55:=Tryz.underlying220
 a55:=Tryz.isAgg220
 z55:=Tryz.sizeOf220
 v55:=Tryz.zeroValue220
 t66:=Tryz.underlying230
 a66:=Tryz.isAgg230
 z66:=Tryz.sizeOf230
 v66:=Tryz.zeroValue230
 t70:=Tryz.underlying234
 a70:=Tryz.isAgg234
 z70:=Tryz.sizeOf234
 v70:=Tryz.zeroValue234
 t76:=Tryz.underlying240
 a76:=Tryz.isAgg240
 z76:=Tryz.sizeOf240
 v76:=Tryz.zeroValue240
 t77:=Tryz.underlying207
 a77:=Tryz.isAgg207
 z77:=Tryz.sizeOf207
 v77:=Tryz.zeroValue207 }
open Go.RowKit Go.Lib Go.Sort in
theorem slices_SortFunc_none{α:Type}[Inhabited α](p:Option Addr)(cap:Nat)(fv:Value)(w:World):
  Calls Tryz.prog 107 #[.slice p 0 cap,fv] w fun e w'=>e= .returned (.tuple #[])∧w'=w:=AnyF.slices_SortFunc_none adE p cap fv w
end Go.Proofs.YtijnknjopjmiiaaGreatDoor.Zq
end
section
namespace Go.Proofs.YtijnknjopjmiiaaGreatDoor.Zq
variable{P:Program}{M:Mp}{H:Heap}{w:World}
def xP(P:Program)(H:Heap):Nat->TypeId->List Value->Prop
 |0,_,_=>False
 |d+1,t,cs=>cs.length=P.cellsOf t∧
  match P.underlying t with
  |some .bool=>∃b,cs=[.bool b]
  |some (.int k)=>∃n,cs=[.int k n]∧(Lit.int k n).wf=true
  |some .string=>∃s:ByteArray,cs=[.string s]∧s.size≤maxLen
  |some (.slice e)=>cs=[.slice none 0 0]∨(∃b off,cs=[.slice (some ⟨b,off,some 0⟩) 0 0])∨
    ∃b len cap,∃acss:List (List Value),cs=[.slice (some ⟨b,0,none⟩) len cap]∧len≤cap∧cap≤maxLen∧acss.length=cap∧0<cap∧H[b]? =some (.row acss.flatten (P.cellsOf e) false true true)∧∀a∈acss,xP P H d e a
  |some (.struct fs)=>∃acss:List (List Value),acss.length=fs.size∧cs=acss.flatten∧∀(i:Nat) (f:Field) (a:List Value),fs[i]? =some f->acss[i]? =some a->xP P H d f.type a
  |some (.array n e)=>∃acss:List (List Value),acss.length=n∧cs=acss.flatten∧∀a∈acss,xP P H d e a
  |_=>False
theorem xP.len{d:Nat}{t:TypeId}{cs:List Value}(h:xP P H d t cs):cs.length=P.cellsOf t:=by
 cases d with
 |zero=>exact h.elim
 |succ d=>exact h.1
theorem xP.app{K:Heap}:∀{d:Nat} {t:TypeId} {cs:List Value},xP P H d t cs->xP P (H++K) d t cs
 |0,_,_,h=>h.elim
 |d+1,t,cs,h=>by
  simp only[xP]at h ⊢
  refine⟨h.1,?_⟩
  have h:=h.2
  split at h
  ·exact h
  ·exact h
  ·exact h
  ·rcases h with h|h|⟨b,len,cap,acss,h1,h2,h3,h4,h5,h6,h7⟩
   ·exact .inl h
   ·exact .inr (.inl h)
   ·exact .inr (.inr ⟨b,len,cap,acss,h1,h2,h3,h4,h5,by rw[List.getElem?_append_left (List.getElem?_eq_some_iff.1 h6).1]; exact h6,fun a ha=>(h7 a ha).app⟩)
  ·obtain⟨acss,h1,h2,h3⟩:=h
   exact⟨acss,h1,h2,fun i f a hf ha=>(h3 i f a hf ha).app⟩
  ·obtain⟨acss,h1,h2,h3⟩:=h
   exact⟨acss,h1,h2,fun a ha=>(h3 a ha).app⟩
  ·exact h
def Jy(P:Program):List Field->Nat->Nat->Bool
 |[],o,n=>o==n
 |f::r,o,n=>f.offset==o&&Jy P r (o+P.cellsOf f.type) n
def okD(P:Program):Nat->TypeId->Bool
 |0,_=>false
 |d+1,t=>
  match P.underlying t with
  |some .bool|some (.int _)|some .string=>P.cellsOf t==1
  |some (.slice e)=>P.cellsOf t==1&&decide (0<P.cellsOf e)&&okD P d e
  |some (.struct fs)=>Jy P fs.toList 0 (P.cellsOf t)&&fs.toList.all fun f=>okD P d f.type
  |some (.array n e)=>n*P.cellsOf e==P.cellsOf t&&okD P d e
  |_=>false
def VJ(H:Heap):Prop:=∀b,¬aY H b
theorem VJ.app{H K:Heap}(h:VJ H)(k:∀x∈K,∃c sz l,x= .row c sz false true l):VJ (H++K):=by
 intro b hb
 unfold aY at hb
 by_cases hl:b<H.length
 ·rw[List.getElem?_append_left hl]at hb
  exact h b (by unfold aY; exact hb)
 ·rw[List.getElem?_append_right (by omega)]at hb
  cases hq:K[b-H.length]? with
  |none=>rw[hq]at hb; exact hb
  |some x=>
   obtain⟨c,sz,l,rfl⟩:=k x (List.mem_of_getElem? hq)
   rw[hq]at hb; simp at hb
structure Adds(M:Mp)(H:Heap)(w:World)(N:Mp)(K:Heap):Prop where
 hr:HR (M++N) (H++K) w
 ro:∀x∈K,∃c sz l,x= .row c sz false true l
theorem Adds.refl(h:HR M H w):Adds M H w [] []:=⟨by simpa using h,fun x hx=>by simp at hx⟩
theorem Adds.trans{N N':Mp}{K K':Heap}(h:Adds M H w N K)(k:Adds (M++N) (H++K) w N' K'):Adds M H w (N++N') (K++K'):=
 ⟨by simpa[List.append_assoc]using k.hr,fun x hx=>by rcases List.mem_append.1 hx with h1|h1; exact h.ro x h1; exact k.ro x h1⟩
theorem addRow(h:HR M H w)(hro:VJ H){cells us:List Value}{sz b o:Nat}(hc:∃c t fz,w.heap[b]? =some (.cells c t fz)∧o+us.length≤c.size∧(c.toList.drop o).take us.length=us)(hv:VL M cells us):
  ∃e:jg,e.blk=b∧e.base=o∧e.opn=false∧Adds M H w [some e] [.row cells sz false true true]:=by
 obtain⟨c,t,fz,hw,hle,htk⟩:=hc
 refine⟨⟨b,o,false,cells.length,sz,c.size⟩,rfl,rfl,rfl,⟨?_,fun x hx=>by simp at hx; exact⟨_,_,_,hx⟩⟩⟩
 have hx:=Ext.app M [some (⟨b,o,false,cells.length,sz,c.size⟩:jg)]
 have hlen:=h.len
 have hro':VJ (H++[.row cells sz false true true]):=hro.app fun x hx=>by simp at hx; exact⟨_,_,_,hx⟩
 refine⟨by simp[hlen],fun q e k hq hk=> ?_,fun q q' e e' _ _ _ hwr _=>absurd hwr (hro' q)⟩
 by_cases hl:q<M.length
 ·rw[List.getElem?_append_left hl]at hq
  rw[List.getElem?_append_left (by omega)]at hk
  exact(h.blk q e k hq hk).mono hx
 ·have e0:q=M.length:=by
   have:=(List.getElem?_eq_some_iff.1 hq).1
   simp at this; omega
  subst e0
  rw[List.getElem?_append_right (Nat.le_refl _)]at hq
  rw[hlen,List.getElem?_append_right (Nat.le_refl _)]at hk
  simp at hq hk; subst hq; subst hk
  exact⟨rfl,rfl,rfl,fun _=>⟨c,t,fz,hw,rfl,by have:=hv.1; simp; omega,by
   have e:(c.toList.drop o).take cells.length=us:=by rw[hv.1]; exact htk
   simp only
   rw[e]; exact hv.mono hx,fun hf=>by simp at hf⟩⟩
theorem pieces{P:Program}:∀{l:List Field} {o n:Nat} {cs:List Value},Jy P l o n=true->cs.length=n->o≤n∧((l.map fun f=>(cs.drop f.offset).take (P.cellsOf f.type)).flatten=cs.drop o)
 |[],o,n,cs,h,hl=>by
  simp[Jy]at h; subst h
  exact⟨Nat.le_refl _,by simp[hl]⟩
 |f::r,o,n,cs,h,hl=>by
  simp only[Jy,Bool.and_eq_true,beq_iff_eq]at h
  obtain⟨h1,h2⟩:=h
  obtain⟨h3,h4⟩:=pieces h2 hl
  refine⟨by omega,?_⟩
  simp only[List.map_cons,List.flatten_cons,h4,h1]
  rw[←List.drop_drop]
  exact List.take_append_drop _ _
theorem PZ:∀(n sz:Nat) (cs:List Value),cs.length=n*sz->((List.range n).map fun i=>(cs.drop (i*sz)).take sz).flatten=cs
 |0,sz,cs,h=>by simp at h; simp[h]
 |n+1,sz,cs,h=>by
  rw[List.range_succ,List.map_append,List.flatten_append]
  have hl:(cs.take (n*sz)).length=n*sz:=by simp; rw[h,Nat.add_mul]; omega
  have:=PZ n sz (cs.take (n*sz)) hl
  have e:((List.range n).map fun i=>(cs.drop (i*sz)).take sz)=(List.range n).map fun i=>((cs.take (n*sz)).drop (i*sz)).take sz:=by
   apply List.map_congr_left
   intro i hi
   have hi:i<n:=by simpa using hi
   rw[List.drop_take,List.take_take]
   congr 1
   have:(i+1)*sz≤n*sz:=Nat.mul_le_mul_right _ hi
   rw[Nat.add_mul]at this
   omega
  rw[e,this]
  simp only[List.map_cons,List.map_nil,List.flatten_cons,List.flatten_nil,List.append_nil]
  rw[List.take_of_length_le (l:=cs.drop (n*sz)) (by simp; rw[h,Nat.add_mul]; omega)]
  exact List.take_append_drop _ _
section
variable{HH:Type}{enc:TypeId×Value->HH}{base:Nat}{spare:Nat->Bool}{held:Bool}
theorem Iu(M:Mp){v:Value}(h:qY v=true):VL M [v] [v]:=VL.cons (VR.qY h) (VL.nil M)
end
end Go.Proofs.YtijnknjopjmiiaaGreatDoor.Zq
end
section
namespace Go.Proofs.YtijnknjopjmiiaaGreatDoor.Zq
section
variable{Pr:Program}{H:Heap}
inductive Sh where
 |b
 |i (k:IntKind)
 |s
 |sl
def Vh:List Sh->List Value->Prop
 |[],cs=>cs=[]
 | .b::r,cs=>∃x t,cs= .bool x::t∧Vh r t
 | .i k::r,cs=>∃x t,cs= .int k x::t∧Vh r t
 | .s::r,cs=>∃x t,cs= .string x::t∧Vh r t
 | .sl::r,cs=>∃(x:Sl) (t:List Value),cs=x.v::t∧Vh r t
theorem Vh.app:∀{a b:List Sh} {x y:List Value},Vh a x->Vh b y->Vh (a++b) (x++y)
 |[],b,x,y,h,k=>by
  have h:x=[]:=h
  subst h; exact k
 | .b::r,b,x,y,h,k=>by obtain⟨q,t,rfl,h⟩:=h; exact⟨q,t++y,rfl,Vh.app h k⟩
 | .i _::r,b,x,y,h,k=>by obtain⟨q,t,rfl,h⟩:=h; exact⟨q,t++y,rfl,Vh.app h k⟩
 | .s::r,b,x,y,h,k=>by obtain⟨q,t,rfl,h⟩:=h; exact⟨q,t++y,rfl,Vh.app h k⟩
 | .sl::r,b,x,y,h,k=>by obtain⟨q,t,rfl,h⟩:=h; exact⟨q,t++y,rfl,Vh.app h k⟩
def Ye:List (Option (List Sh))->Option (List Sh)
 |[]=>some []
 |x::r=>match x,Ye r with|some a,some b=>some (a++b)|_,_=>none
def Y4(P:Program):Nat->TypeId->Option (List Sh)
 |0,_=>none
 |d+1,t=>
  match P.underlying t with
  |some .bool=>some [.b]
  |some (.int k)=>some [.i k]
  |some .string=>some [.s]
  |some (.slice _)=>some [.sl]
  |some (.struct fs)=>Ye (fs.toList.map fun f=>Y4 P d f.type)
  |some (.array n e)=>Ye ((List.range n).map fun _=>Y4 P d e)
  |_=>none
theorem P5:∀(l:List (Option (List Sh))) (acss:List (List Value)) (ss:List Sh),acss.length=l.length->(∀(i:Nat) o a,l[i]? =some o->acss[i]? =some a->∀s,o=some s->Vh s a)->Ye l=some ss->Vh ss acss.flatten
 |[],[],ss,_,_,h=>by simp[Ye]at h; subst h; rfl
 |o::l,a::acss,ss,hl,hp,h=>by
  simp only[Ye]at h
  split at h
  ·rename_i x y hy
   cases h
   rw[List.flatten_cons]
   exact Vh.app (hp 0 _ a rfl rfl x rfl) (P5 l acss y (by simpa using hl) (fun i o a h1 h2=>hp (i+1) o a (by simpa using h1) (by simpa using h2)) hy)
  ·cases h
 |[],_::_,_,h,_,_=>by simp at h
 |_::_,[],_,h,_,_=>by simp at h
theorem xP.Y4:∀{d:Nat} {t:TypeId} {cs:List Value} {ss:List Sh},xP Pr H d t cs->Zq.Y4 Pr d t=some ss->Vh ss cs
 |0,_,_,_,h,_=>h.elim
 |d+1,t,cs,ss,h,hs=>by
  simp only[xP]at h
  simp only[Zq.Y4]at hs
  obtain⟨_,h⟩:=h
  split at h
  ·rename_i ht
   rw[ht]at hs; cases hs
   obtain⟨b,rfl⟩:=h
   exact⟨b,[],rfl,rfl⟩
  ·rename_i ht
   rw[ht]at hs; cases hs
   obtain⟨b,rfl,_⟩:=h
   exact⟨b,[],rfl,rfl⟩
  ·rename_i ht
   rw[ht]at hs; cases hs
   obtain⟨b,rfl,_⟩:=h
   exact⟨b,[],rfl,rfl⟩
  ·rename_i ht
   rw[ht]at hs; cases hs
   rcases h with rfl|⟨b,off,rfl⟩|⟨b,len,cap,acss,rfl,_⟩
   ·exact⟨⟨none,0,0⟩,[],rfl,rfl⟩
   ·exact⟨⟨some ⟨b,off,some 0⟩,0,0⟩,[],rfl,rfl⟩
   ·exact⟨⟨some ⟨b,0,none⟩,len,cap⟩,[],rfl,rfl⟩
  ·rename_i fs ht
   rw[ht]at hs
   obtain⟨acss,hl,rfl,hp⟩:=h
   refine P5 _ acss ss (by simp[hl]) (fun i o a h1 h2 s hs=> ?_) hs
   simp only[List.getElem?_map,Option.map_eq_some_iff]at h1
   obtain⟨f,h3,h4⟩:=h1
   exact xP.Y4 (hp i f a (by simpa using h3) h2) (h4.trans hs)
  ·rename_i n e ht
   rw[ht]at hs
   obtain⟨acss,hl,rfl,hp⟩:=h
   refine P5 _ acss ss (by simp[hl]) (fun i o a h1 h2 s hs=> ?_) hs
   simp only[List.getElem?_map,Option.map_eq_some_iff]at h1
   obtain⟨f,h3,h4⟩:=h1
   exact xP.Y4 (hp a (List.mem_of_getElem? h2)) (h4.trans hs)
  ·exact h.elim
end
section
variable{P:Program}
theorem VJ.nil:VJ []:=fun b hb=>by unfold aY at hb; simp at hb
theorem CALL.law{M:Mp}{H:Heap}{w:World}{g:FuncId}{args args':List Value}(h:CALL P [ah] g args H fun x _=>x.1=true)(hr:HR M H w)(hv:VL M args args')(hn:VJ H):
  Calls P g args'.toArray w fun e w'=>e= .returned (.bool true)∧RowKit.Below w.heap.size w w':=by
 refine EV.law (EV.mono h ?_) hr hv hn
 rintro v H' ⟨x,rfl,hx⟩
 show Value.bool x.1=_
 rw[hx]
theorem VJ.adds{M N:Mp}{H K:Heap}{w:World}(h:VJ H)(a:Adds M H w N K):VJ (H++K):=h.app a.ro
end
end Go.Proofs.YtijnknjopjmiiaaGreatDoor.Zq
end
section
namespace Go.Proofs.YtijnknjopjmiiaaGreatDoor.Zq
section
section
variable{Pr:Program}{H:Heap}
theorem Bh:∀(acss:List (List Value)) (i:Nat) (a:List Value),acss[i]? =some a->(acss.flatten.drop ((acss.take i).map List.length).sum).take a.length=a
 |[],i,a,h=>by simp at h
 |x::r,0,a,h=>by simp at h; subst h; simp
 |x::r,i+1,a,h=>by
  have:=Bh r i a (by simpa using h)
  simp only[List.flatten_cons,List.take_succ_cons,List.map_cons,List.sum_cons]
  rw[←List.drop_drop,List.drop_left]; exact this
theorem Xo{d:Nat}{fs:List Field}:∀{acss:List (List Value)} (i:Nat),(∀(j:Nat) (f:Field) (a:List Value),fs[j]? =some f->acss[j]? =some a->xP Pr H d f.type a)->acss.length=fs.length->((acss.take i).map List.length).sum=((fs.take i).map fun f=>Pr.cellsOf f.type).sum:=by
 induction fs with
 |nil=>intro acss i _ hl; have:acss=[]:=List.length_eq_zero_iff.1 hl; subst this; simp
 |cons f r ih=>
  intro acss i hp hl
  cases acss with
  |nil=>simp at hl
  |cons a q=>
   cases i with
   |zero=>rfl
   |succ i=>
    simp only[List.take_succ_cons,List.map_cons,List.sum_cons]
    rw[(hp 0 f a rfl rfl).len,ih i (fun j g b h1 h2=>hp (j+1) g b (by simpa using h1) (by simpa using h2)) (by simpa using hl)]
theorem xP.fld{d:Nat}{t:TypeId}{cs:List Value}{fs:Array Field}(ht:Pr.underlying t=some (.struct fs)){i off:Nat}{f:Field}(hf:fs[i]? =some f)(hoff:((fs.toList.take i).map fun f=>Pr.cellsOf f.type).sum=off)(h:xP Pr H (d+1) t cs):
  xP Pr H d f.type ((cs.drop off).take (Pr.cellsOf f.type)):=by
 simp only[xP,ht]at h
 obtain⟨_,acss,hl,rfl,hp⟩:=h
 have hi:i<fs.size:=(Array.getElem?_eq_some_iff.1 hf).1
 have ha:acss[i]? =some acss[i]:=List.getElem?_eq_getElem (by omega)
 have hw:=hp i f _ hf ha
 have:=Bh acss i _ ha
 rw[Xo (Pr:=Pr) (H:=H) (d:=d) (fs:=fs.toList) i (fun j f a h1 h2=>hp j f a (by simpa using h1) h2) (by simpa using hl),hoff,hw.len]at this
 rw[this]; exact hw
theorem Sl.ZN{s u:Sl}(h:s.v=u.v):s=u:=by
 cases s; cases u
 simp only[Sl.v,Value.slice.injEq]at h
 obtain⟨rfl,rfl,rfl⟩:=h; rfl
end
end
section
variable{B:Nat}{P:Program}{M:Mp}{H:Heap}{w:World}
def fJ(B:Nat)(P:Program)(H:Heap):Nat->TypeId->List Value->Prop
 |0,_,_=>False
 |d+1,t,cs=>cs.length=P.cellsOf t∧
  match P.underlying t with
  |some .bool=>∃b,cs=[.bool b]
  |some (.int k)=>∃n,cs=[.int k n]∧(Lit.int k n).wf=true
  |some .string=>∃s:ByteArray,cs=[.string s]∧s.size≤maxLen
  |some (.slice e)=>cs=[.slice none 0 0]∨(∃b off,cs=[.slice (some ⟨b,off,some 0⟩) 0 0])∨
    ∃b len cap,∃acss:List (List Value),cs=[.slice (some ⟨b,0,none⟩) len cap]∧len≤cap∧cap≤maxLen∧len≤B∧acss.length=cap∧0<cap∧H[b]? =some (.row acss.flatten (P.cellsOf e) false true true)∧∀a∈acss,fJ B P H d e a
  |some (.struct fs)=>∃acss:List (List Value),acss.length=fs.size∧cs=acss.flatten∧∀(i:Nat) (f:Field) (a:List Value),fs[i]? =some f->acss[i]? =some a->fJ B P H d f.type a
  |some (.array n e)=>∃acss:List (List Value),acss.length=n∧cs=acss.flatten∧∀a∈acss,fJ B P H d e a
  |_=>False
theorem fJ.len{d:Nat}{t:TypeId}{cs:List Value}(h:fJ B P H d t cs):cs.length=P.cellsOf t:=by
 cases d with
 |zero=>exact h.elim
 |succ d=>exact h.1
theorem fJ.app{K:Heap}:∀{d:Nat} {t:TypeId} {cs:List Value},fJ B P H d t cs->fJ B P (H++K) d t cs
 |0,_,_,h=>h.elim
 |d+1,t,cs,h=>by
  simp only[fJ]at h ⊢
  refine⟨h.1,?_⟩
  have h:=h.2
  split at h
  ·exact h
  ·exact h
  ·exact h
  ·rcases h with h|h|⟨b,len,cap,acss,h1,h2,h3,hB,h4,h5,h6,h7⟩
   ·exact .inl h
   ·exact .inr (.inl h)
   ·exact .inr (.inr ⟨b,len,cap,acss,h1,h2,h3,hB,h4,h5,by rw[List.getElem?_append_left (List.getElem?_eq_some_iff.1 h6).1]; exact h6,fun a ha=>(h7 a ha).app⟩)
  ·obtain⟨acss,h1,h2,h3⟩:=h
   exact⟨acss,h1,h2,fun i f a hf ha=>(h3 i f a hf ha).app⟩
  ·obtain⟨acss,h1,h2,h3⟩:=h
   exact⟨acss,h1,h2,fun a ha=>(h3 a ha).app⟩
  ·exact h
section
variable{HH:Type}{S:DataW HH->Prop}{enc:TypeId×Value->HH}{base:Nat}{spare:Nat->Bool}{held:Bool}
def adb(B:Nat)(S:DataW HH->Prop)(P:Program)(w:World)(enc:TypeId×Value->HH)(base:Nat)(spare:Nat->Bool)(held:Bool)(d:Nat)(t:TypeId):Prop:=
 ∀(fuel:Nat) (cs:List Value) (x:DataW HH×List MemPlace) (M:Mp) (H:Heap),DataW.trod enc P w base spare held fuel t cs=some x->S x.1->HR M H w->VJ H→
  ∃N K acs,Adds M H w N K∧VL (M++N) acs cs∧fJ B P (H++K) d t acs
theorem P6{d:Nat}:∀(l:List (TypeId×List Value)) (M:Mp) (H:Heap),(∀p∈l,adb B S P w enc base spare held d p.1)->(∀p∈l,∃fuel x,DataW.trod enc P w base spare held fuel p.1 p.2=some x∧S x.1)->HR M H w->VJ H→
  ∃N K acss,Adds M H w N K∧acss.length=l.length∧VL (M++N) (List.flatten acss) (l.map (·.2)).flatten∧∀(i:Nat) (p:TypeId×List Value) (a:List Value),l[i]? =some p->acss[i]? =some a->fJ B P (H++K) d p.1 a
 |[],M,H,_,_,h,_=>⟨[],[],[],.refl h,rfl,by simpa using VL.nil _,fun i p a hi=>by simp at hi⟩
 |p::l,M,H,ho,hr,h,hro=>by
  obtain⟨fuel,x,hx,hs⟩:=hr p (by simp)
  obtain⟨N,K,acs,h1,h2,h3⟩:=ho p (by simp) fuel p.2 x M H hx hs h hro
  obtain⟨N',K',acss,g1,g2,g3,g4⟩:=P6 l (M++N) (H++K) (fun q hq=>ho q (by simp[hq])) (fun q hq=>hr q (by simp[hq])) h1.hr (hro.app h1.ro)
  refine⟨N++N',K++K',acs::acss,h1.trans g1,by simp[g2],?_,fun i q a hi ha=> ?_⟩
  ·simp only[List.map_cons,List.flatten_cons]
   rw[←List.append_assoc]
   exact(h2.mono (Ext.app _ _)).append g3
  ·cases i with
   |zero=>simp at hi ha; subst hi; subst ha; rw[←List.append_assoc]; exact h3.app
   |succ i=>rw[←List.append_assoc]; exact g4 i q a (by simpa using hi) (by simpa using ha)
theorem Tv(hS1:∀e r,S (.slice e r)->e.length≤B∧∀d∈e++r,S d)(hS2:∀l,S (.agg l)->∀d∈l,S d):∀(d:Nat) (t:TypeId),okD P d t=true->adb B S P w enc base (fun _=>true) held d t
 |0,t,h=>by simp[okD]at h
 |d+1,t,h=>by
  intro fuel cs x M H hx hs hr hro
  unfold okD at h
  split at h
  ·rename_i ht
   obtain⟨b,rfl,_⟩:=DataW.trod_bool ht hx
   exact⟨[],[],_,.refl hr,Iu _ rfl,by simp only[fJ,ht]; exact⟨by simpa using(by simpa using h:P.cellsOf t=1).symm,b,rfl⟩⟩
  ·rename_i k ht
   obtain⟨n,rfl,_,hw⟩:=DataW.trod_int ht hx
   exact⟨[],[],_,.refl hr,Iu _ rfl,by simp only[fJ,ht]; exact⟨by simpa using(by simpa using h:P.cellsOf t=1).symm,n,rfl,hw⟩⟩
  ·rename_i ht
   obtain⟨s,rfl,_,hs⟩:=DataW.trod_string ht hx
   exact⟨[],[],_,.refl hr,Iu _ rfl,by simp only[fJ,ht]; exact⟨by simpa using(by simpa using h:P.cellsOf t=1).symm,s,rfl,hs⟩⟩
  ·rename_i e ht
   simp only[Bool.and_eq_true,beq_iff_eq,decide_eq_true_eq]at h
   obtain⟨⟨hc1,hc0⟩,hok⟩:=h
   rcases DataW.trod_slice ht hx with⟨rfl,_⟩|⟨a,len,cap,elems,rest,n,_,rfl,hxe,hb,hl,hm,hlen,hel,hsp,_⟩
   ·exact⟨[],[],_,.refl hr,Iu _ rfl,by simp[fJ,ht,hc1]⟩
   ·obtain⟨hrl,hre⟩:=hsp rfl
    rw[hxe]at hs
    obtain⟨hsl,hsm⟩:=hS1 _ _ hs
    rw[List.length_map,hlen]at hsl
    by_cases hcap:cap=0
    ·subst hcap
     have:len=0:=by omega
     subst this
     exact⟨[],[],[.slice (some ⟨0,0,some 0⟩) 0 0],.refl hr,VL.cons .sliceE (VL.nil _),by simp only[fJ,ht]; exact⟨by simp[hc1],.inr (.inl ⟨0,0,rfl⟩)⟩⟩
    ·have hall:∀i,i<cap->∃ci y,w.cells? base (a.add (i*P.cellsOf e)) (P.cellsOf e)=some ci∧DataW.trod enc P w base (fun _=>true) held n e ci=some y∧S y.1:=by
      intro i hi
      by_cases h':i<len
      ·have:=hel i h'
       rw[List.getElem?_eq_getElem (by omega),Option.bind_eq_some_iff]at this
       obtain⟨ci,q1,q2⟩:=this
       exact⟨ci,_,q1,q2,hsm _ (List.mem_append_left _ (List.mem_map.2 ⟨_,List.getElem_mem _,rfl⟩))⟩
      ·have:=hre (i-len) (by omega)
       rw[show len+(i-len)=i by omega,List.getElem?_eq_getElem (by omega),Option.bind_eq_some_iff]at this
       obtain⟨ci,q1,q2⟩:=this
       exact⟨ci,_,q1,q2,hsm _ (List.mem_append_right _ (List.mem_map.2 ⟨_,List.getElem_mem _,rfl⟩))⟩
     have hspot:a.spot=none:=by
      obtain⟨ci,y,q1,_⟩:=hall 0 (by omega)
      obtain⟨_,q3,q4⟩:=World.cells?_some q1
      have:=q4 0 hc0
      rw[List.getElem?_eq_getElem (by omega)]at this
      simp only[Nat.zero_mul]at this
      unfold World.cell? at this
      simp only[Addr.add,if_true]at this
      split at this
      ·split at this
       ·simp at this
       ·rename_i hns; simpa using hns
      ·simp at this
     obtain⟨bl,of,sp⟩:=a
     simp only at hspot; subst hspot
     obtain⟨c,ct,fz,hw⟩:∃c ct fz,w.heap[bl]? =some (.cells c ct fz):=by
      obtain⟨ci,y,q1,_⟩:=hall 0 (by omega)
      obtain⟨_,q3,q4⟩:=World.cells?_some q1
      have:=q4 0 hc0
      rw[List.getElem?_eq_getElem (by omega)]at this
      simp only[Nat.zero_mul]at this
      unfold World.cell? at this
      simp only[Addr.add,if_true]at this
      split at this
      ·rename_i c ct fz hw; exact⟨c,ct,fz,hw⟩
      ·simp at this
     have hci:∀i,i<cap->w.cells? base ((⟨bl,of,none⟩:Addr).add (i*P.cellsOf e)) (P.cellsOf e)=some ((c.toList.drop (of+i*P.cellsOf e)).take (P.cellsOf e))∧of+i*P.cellsOf e+P.cellsOf e≤c.size:=by
      intro i hi
      obtain⟨ci,y,q1,_⟩:=hall i hi
      obtain⟨_,q3,q4⟩:=World.cells?_some q1
      have hj:∀j,j<P.cellsOf e->c.toList[of+i*P.cellsOf e+j]? =ci[j]? :=by
       intro j hj
       have:=q4 j hj
       rw[Addr.add_lit,Addr.add_lit]at this
       unfold World.cell? at this
       simp only[hw]at this
       simpa using this
      have hsz:of+i*P.cellsOf e+P.cellsOf e≤c.size:=by
       have:=hj (P.cellsOf e-1) (by omega)
       rw[List.getElem?_eq_getElem (l:=ci) (by omega)]at this
       have:=(List.getElem?_eq_some_iff.1 this).1
       simp at this; omega
      refine⟨?_,hsz⟩
      rw[q1]; congr 1
      apply List.ext_getElem?
      intro j
      rw[List.getElem?_take,List.getElem?_drop]
      by_cases hjl:j<P.cellsOf e
      ·rw[if_pos hjl,hj j hjl]
      ·rw[if_neg hjl,List.getElem?_eq_none (by omega)]
     let us:=(c.toList.drop of).take (cap*P.cellsOf e)
     have hul:us.length=cap*P.cellsOf e:=by
      have:=(hci (cap-1) (by omega)).2
      have h2:(cap-1)*P.cellsOf e+P.cellsOf e=cap*P.cellsOf e:=by rw[←Nat.succ_mul]; congr 1; omega
      simp[us]; omega
     let l:=(List.range cap).map fun i=>(e,(us.drop (i*P.cellsOf e)).take (P.cellsOf e))
     have hpc:∀i,i<cap->(us.drop (i*P.cellsOf e)).take (P.cellsOf e)=(c.toList.drop (of+i*P.cellsOf e)).take (P.cellsOf e):=by
      intro i hi
      simp only[us]
      rw[List.drop_take,List.take_take,List.drop_drop]
      congr 1
      have:(i+1)*P.cellsOf e≤cap*P.cellsOf e:=Nat.mul_le_mul_right _ hi
      rw[Nat.add_mul]at this
      omega
     obtain⟨N,K,acss,g1,g2,g3,g4⟩:=P6 (d:=d) l M H (fun p hp=>by
       obtain⟨i,_,rfl⟩:=List.mem_map.1 hp
       exact Tv hS1 hS2 d e hok) (fun p hp=>by
       obtain⟨i,hi,rfl⟩:=List.mem_map.1 hp
       have hi:i<cap:=by simpa using hi
       obtain⟨ci,y,q1,q2,q3⟩:=hall i hi
       rw[(hci i hi).1]at q1
       have q1:=Option.some.inj q1
       refine⟨n,y,?_,q3⟩
       simp only
       rw[hpc i hi,q1]; exact q2) hr hro
     have hfl:(l.map (·.2)).flatten=us:=by
      simp only[l,List.map_map]
      exact PZ cap _ us hul
     rw[hfl]at g3
     obtain⟨en,k1,k2,k3,k4⟩:=addRow (sz:=P.cellsOf e) (b:=bl) (o:=of) g1.hr (hro.app g1.ro) ⟨c,ct,fz,hw,by
      have:=(hci (cap-1) (by omega)).2
      have h2:(cap-1)*P.cellsOf e+P.cellsOf e=cap*P.cellsOf e:=by rw[←Nat.succ_mul]; congr 1; omega
      rw[hul]; omega,by rw[hul]⟩ g3
     refine⟨N++[some en],K++[.row acss.flatten (P.cellsOf e) false true true],[.slice (some ⟨(H++K).length,0,none⟩) len cap],g1.trans k4,?_,?_⟩
     ·refine VL.cons ?_ (VL.nil _)
      have hget:(M++(N++[some en]))[(H++K).length]? =some (some en):=by
       have:=g1.hr.len
       rw[←List.append_assoc,←this]; simp
      have:=VR.slice (M:=M++(N++[some en])) (off:=0) (len:=len) (cap:=cap) (c:=cap) hget (.inl rfl)
      rw[k1,k2]at this
      exact this
     ·simp only[fJ,ht]
      refine⟨by simp[hc1],.inr (.inr ⟨_,len,cap,acss,rfl,hl,hm,hsl,by rw[g2]; simp[l],by omega,?_,fun x hxm=> ?_⟩)⟩
      ·rw[←List.append_assoc]; simp
      ·obtain⟨i,hi⟩:=List.mem_iff_getElem?.1 hxm
       have hil:i<cap:=by have:=(List.getElem?_eq_some_iff.1 hi).1; rw[g2]at this; simpa[l]using this
       have:=g4 i (e,(us.drop (i*P.cellsOf e)).take (P.cellsOf e)) x (by simp[l,hil]) hi
       rw[←List.append_assoc]; exact this.app
  ·rename_i fs ht
   simp only[Bool.and_eq_true,List.all_eq_true]at h
   obtain⟨hct,hok⟩:=h
   obtain⟨xs,n,_,hxe,hl,hxl,hxs⟩:=DataW.trod_struct ht hx
   rw[hxe]at hs
   have hsm:=hS2 _ hs
   obtain⟨_,hfl⟩:=pieces hct hl
   obtain⟨N,K,acss,g1,g2,g3,g4⟩:=P6 (d:=d) (fs.toList.map fun f=>(f.type,(cs.drop f.offset).take (P.cellsOf f.type))) M H (fun p hp=>by
     obtain⟨f,hf,rfl⟩:=List.mem_map.1 hp
     exact Tv hS1 hS2 d f.type (hok f hf)) (fun p hp=>by
     obtain⟨f,hf,rfl⟩:=List.mem_map.1 hp
     obtain⟨i,hi⟩:=List.mem_iff_getElem?.1 hf
     have hi':fs[i]? =some f:=by simpa using hi
     have hil:i<xs.length:=by rw[hxl]; exact(Array.getElem?_eq_some_iff.1 hi').1
     exact⟨n,xs[i],by rw[hxs i f hi',List.getElem?_eq_getElem hil],hsm _ (List.mem_map.2 ⟨_,List.getElem_mem _,rfl⟩)⟩) hr hro
   refine⟨N,K,acss.flatten,g1,?_,?_⟩
   ·have e:((fs.toList.map fun f=>(f.type,(cs.drop f.offset).take (P.cellsOf f.type))).map (·.2)).flatten=cs:=by
     rw[List.map_map]
     have:=hfl
     rw[List.drop_zero]at this
     exact this
    rw[e]at g3; exact g3
   ·simp only[fJ,ht]
    refine⟨?_,acss,by rw[g2]; simp,rfl,fun i f a hf ha=>g4 i _ a (by simp only[List.getElem?_map]; rw[show fs.toList[i]? =some f by simpa using hf]; rfl) ha⟩
    have:=g3.1
    rw[this,List.map_map,←hl]
    have e:=hfl
    rw[List.drop_zero]at e
    exact congrArg List.length e
  ·rename_i m e ht
   simp only[Bool.and_eq_true,beq_iff_eq]at h
   obtain⟨hct,hok⟩:=h
   obtain⟨xs,n,_,hxe,hl,hxl,hxs⟩:=DataW.trod_array ht hx
   rw[hxe]at hs
   have hsm:=hS2 _ hs
   have hfl:=PZ m (P.cellsOf e) cs (by rw[hl,hct])
   obtain⟨N,K,acss,g1,g2,g3,g4⟩:=P6 (d:=d) ((List.range m).map fun i=>(e,(cs.drop (i*P.cellsOf e)).take (P.cellsOf e))) M H (fun p hp=>by
     obtain⟨i,hi,rfl⟩:=List.mem_map.1 hp
     exact Tv hS1 hS2 d e hok) (fun p hp=>by
     obtain⟨i,hi,rfl⟩:=List.mem_map.1 hp
     have hi:i<m:=by simpa using hi
     exact⟨n,xs[i]'(by omega),by simp only; rw[hxs i hi,List.getElem?_eq_getElem (by omega)],hsm _ (List.mem_map.2 ⟨_,List.getElem_mem _,rfl⟩)⟩) hr hro
   have e1:(((List.range m).map fun i=>(e,(cs.drop (i*P.cellsOf e)).take (P.cellsOf e))).map (·.2)).flatten=cs:=by rw[List.map_map]; exact hfl
   rw[e1]at g3
   refine⟨N,K,acss.flatten,g1,g3,?_⟩
   simp only[fJ,ht]
   refine⟨by rw[g3.1,hl],acss,by rw[g2]; simp,rfl,fun a ha=> ?_⟩
   obtain⟨i,hi⟩:=List.mem_iff_getElem?.1 ha
   have him:i<m:=by have:=(List.getElem?_eq_some_iff.1 hi).1; rw[g2]at this; simpa using this
   exact g4 i (e,(cs.drop (i*P.cellsOf e)).take (P.cellsOf e)) a (by simp[him]) hi
  ·simp at h
end
theorem fJ.wt:∀{d:Nat} {t:TypeId} {cs:List Value},fJ B P H d t cs->xP P H d t cs
 |0,_,_,h=>h.elim
 |d+1,t,cs,h=>by
  simp only[fJ]at h
  simp only[xP]
  refine⟨h.1,?_⟩
  have h:=h.2
  split at h
  ·rename_i ht; (try simp only[ht]); exact h
  ·rename_i ht; (try simp only[ht]); exact h
  ·rename_i ht; (try simp only[ht]); exact h
  ·rename_i ht
   (try simp only[ht])
   rcases h with h|h|⟨b,len,cap,acss,h1,h2,h3,hB,h4,h5,h6,h7⟩
   ·exact .inl h
   ·exact .inr (.inl h)
   ·exact .inr (.inr ⟨b,len,cap,acss,h1,h2,h3,h4,h5,h6,fun a ha=>(h7 a ha).wt⟩)
  ·rename_i ht
   (try simp only[ht])
   obtain⟨acss,h1,h2,h3⟩:=h
   exact⟨acss,h1,h2,fun i f a hf ha=>(h3 i f a hf ha).wt⟩
  ·rename_i ht
   (try simp only[ht])
   obtain⟨acss,h1,h2,h3⟩:=h
   exact⟨acss,h1,h2,fun a ha=>(h3 a ha).wt⟩
  ·exact h.elim
theorem ZO{d:Nat}{fs:List Field}:∀{acss:List (List Value)} (i:Nat),(∀(j:Nat) (f:Field) (a:List Value),fs[j]? =some f->acss[j]? =some a->fJ B P H d f.type a)->acss.length=fs.length->((acss.take i).map List.length).sum=((fs.take i).map fun f=>P.cellsOf f.type).sum:=
 fun i h hl=>Xo i (fun j f a h1 h2=>(h j f a h1 h2).wt) hl
theorem fJ.fld{d:Nat}{t:TypeId}{cs:List Value}{fs:Array Field}(ht:P.underlying t=some (.struct fs)){i off:Nat}{f:Field}(hf:fs[i]? =some f)(hoff:((fs.toList.take i).map fun f=>P.cellsOf f.type).sum=off)(h:fJ B P H (d+1) t cs):
  fJ B P H d f.type ((cs.drop off).take (P.cellsOf f.type)):=by
 simp only[fJ,ht]at h
 obtain⟨_,acss,hl,rfl,hp⟩:=h
 have hi:i<fs.size:=(Array.getElem?_eq_some_iff.1 hf).1
 have ha:acss[i]? =some acss[i]:=List.getElem?_eq_getElem (by omega)
 have hw:=hp i f _ hf ha
 have:=Bh acss i _ ha
 rw[ZO (P:=P) (H:=H) (d:=d) (fs:=fs.toList) i (fun j f a h1 h2=>hp j f a (by simpa using h1) h2) (by simpa using hl),hoff,hw.len]at this
 rw[this]; exact hw
end
def Bj:Value->Prop
 | .int k n=>(Lit.int k n).wf=true
 | .string s=>s.size≤maxLen
 |_=>True
theorem xP.Tz{P:Program}{H:Heap}:∀{d:Nat} {t:TypeId} {cs:List Value},xP P H d t cs->∀v∈cs,Bj v
 |0,_,_,h=>h.elim
 |d+1,t,cs,h=>by
  simp only[xP]at h
  obtain⟨_,h⟩:=h
  intro v hv
  split at h
  ·obtain⟨b,rfl⟩:=h
   simp at hv; subst hv; trivial
  ·obtain⟨b,rfl,q⟩:=h
   simp at hv; subst hv; exact q
  ·obtain⟨b,rfl,q⟩:=h
   simp at hv; subst hv; exact q
  ·rcases h with rfl|⟨b,off,rfl⟩|⟨b,len,cap,acss,rfl,_⟩<;>(simp at hv; subst hv; trivial)
  ·obtain⟨acss,hl,rfl,hp⟩:=h
   obtain⟨a,ha,hva⟩:=List.mem_flatten.1 hv
   obtain⟨i,hi⟩:=List.mem_iff_getElem?.1 ha
   have hil:=(List.getElem?_eq_some_iff.1 hi).1
   exact xP.Tz (hp i _ a (Array.getElem?_eq_getElem (by omega)) hi) v hva
  ·obtain⟨acss,hl,rfl,hp⟩:=h
   obtain⟨a,ha,hva⟩:=List.mem_flatten.1 hv
   exact xP.Tz (hp a ha) v hva
  ·exact h.elim
end Go.Proofs.YtijnknjopjmiiaaGreatDoor.Zq
end
section
namespace Go.Proofs.YtijnknjopjmiiaaGreatDoor
open Go Zq
def Tryz.tab:List (Option TI):=[
 none,
 none,
 none,
 some ⟨.int .i64,1,8,[.int .i64 0]⟩,
 some ⟨.bool,1,1,[.bool false]⟩,
 some ⟨.int .u8,1,1,[.int .u8 0]⟩,
 none,
 none,
 none,
 some ⟨.string,1,16,[.string ⟨#[]⟩]⟩,
 none,
 none,
 none,
 none,
 none,
 none,
 none,
 none,
 none,
 none,
 none,
 some ⟨.int .i32,1,4,[.int .i32 0]⟩,
 some ⟨.slice 97,1,24,[.slice none 0 0]⟩,
 some ⟨.slice 101,1,24,[.slice none 0 0]⟩,
 none,
 some ⟨.struct [(0,22),(1,23),(2,4)],3,56,[.slice none 0 0,.slice none 0 0,.bool false]⟩,
 some ⟨.slice 46,1,24,[.slice none 0 0]⟩,
 some ⟨.slice 3,1,24,[.slice none 0 0]⟩,
 none,
 some ⟨.pointer 131,1,8,[.pointer none]⟩,
 some ⟨.slice 51,1,24,[.slice none 0 0]⟩,
 none,
 none,
 none,
 some ⟨.int .i64,1,8,[.int .i64 0]⟩,
 none,
 none,
 some ⟨.slice 60,1,24,[.slice none 0 0]⟩,
 none,
 none,
 none,
 none,
 some ⟨.func,1,8,[.nilFunc]⟩,
 some ⟨.int .u8,1,1,[.int .u8 0]⟩,
 some ⟨.array 4 3,4,32,[.int .i64 0,.int .i64 0,.int .i64 0,.int .i64 0]⟩,
 none,
 some ⟨.struct [(0,3),(1,3),(2,43),(3,3),(4,3),(5,44),(9,3),(10,4)],11,88,[.int .i64 0,.int .i64 0,.int .u8 0,.int .i64 0,.int .i64 0,.int .i64 0,.int .i64 0,.int .i64 0,.int .i64 0,.int .i64 0,.bool false]⟩,
 some ⟨.int .u8,1,1,[.int .u8 0]⟩,
 none,
 some ⟨.int .u16,1,2,[.int .u16 0]⟩,
 none,
 some ⟨.struct [(0,3),(1,47),(2,49),(3,3),(4,3)],5,32,[.int .i64 0,.int .u8 0,.int .u16 0,.int .i64 0,.int .i64 0]⟩,
 some ⟨.int .u8,1,1,[.int .u8 0]⟩,
 some ⟨.int .u8,1,1,[.int .u8 0]⟩,
 some ⟨.int .u8,1,1,[.int .u8 0]⟩,
 some ⟨.int .u8,1,1,[.int .u8 0]⟩,
 some ⟨.int .u8,1,1,[.int .u8 0]⟩,
 none,
 some ⟨.struct [(0,52),(1,53),(2,54),(3,3),(4,47),(5,55),(6,56),(7,9)],8,40,[.int .u8 0,.int .u8 0,.int .u8 0,.int .i64 0,.int .u8 0,.int .u8 0,.int .u8 0,.string ⟨#[]⟩]⟩,
 none,
 some ⟨.struct [(0,3),(1,3),(2,58)],10,56,[.int .i64 0,.int .i64 0,.int .u8 0,.int .u8 0,.int .u8 0,.int .i64 0,.int .u8 0,.int .u8 0,.int .u8 0,.string ⟨#[]⟩]⟩,
 none,
 none,
 some ⟨.pointer 133,1,8,[.pointer none]⟩,
 none,
 none,
 none,
 none,
 none,
 none,
 none,
 none,
 none,
 none,
 none,
 none,
 some ⟨.slice 30,1,24,[.slice none 0 0]⟩,
 none,
 some ⟨.slice 37,1,24,[.slice none 0 0]⟩,
 none,
 none,
 none,
 none,
 none,
 none,
 none,
 none,
 some ⟨.func,1,8,[.nilFunc]⟩,
 none,
 none,
 none,
 none,
 none,
 none,
 some ⟨.int .u8,1,1,[.int .u8 0]⟩,
 some ⟨.slice 58,1,24,[.slice none 0 0]⟩,
 none,
 some ⟨.struct [(0,9),(1,47),(2,94),(3,3),(4,3),(5,3),(6,49),(7,4),(8,95)],9,80,[.string ⟨#[]⟩,.int .u8 0,.int .u8 0,.int .i64 0,.int .i64 0,.int .i64 0,.int .u16 0,.bool false,.slice none 0 0]⟩,
 none,
 none,
 none,
 some ⟨.struct [(0,56),(1,9),(2,3),(3,3)],4,40,[.int .u8 0,.string ⟨#[]⟩,.int .i64 0,.int .i64 0]⟩,
 none,
 none,
 none,
 none,
 none,
 none,
 none,
 none,
 some ⟨.slice 114,1,24,[.slice none 0 0]⟩,
 none,
 none,
 none,
 some ⟨.struct [(0,60),(10,27)],11,80,[.int .i64 0,.int .i64 0,.int .u8 0,.int .u8 0,.int .u8 0,.int .i64 0,.int .u8 0,.int .u8 0,.int .u8 0,.string ⟨#[]⟩,.slice none 0 0]⟩,
 none,
 none,
 none,
 none,
 none,
 none,
 none,
 none,
 some ⟨.func,1,8,[.nilFunc]⟩,
 none,
 none,
 none,
 some ⟨.array 64 97,576,5120,[.string ⟨#[]⟩,.int .u8 0,.int .u8 0,.int .i64 0,.int .i64 0,.int .i64 0,.int .u16 0,.bool false,.slice none 0 0,.string ⟨#[]⟩,.int .u8 0,.int .u8 0,.int .i64 0,.int .i64 0,.int .i64 0,.int .u16 0,.bool false,.slice none 0 0,.string ⟨#[]⟩,.int .u8 0,.int .u8 0,.int .i64 0,.int .i64 0,.int .i64 0,.int .u16 0,.bool false,.slice none 0 0,.string ⟨#[]⟩,.int .u8 0,.int .u8 0,.int .i64 0,.int .i64 0,.int .i64 0,.int .u16 0,.bool false,.slice none 0 0,.string ⟨#[]⟩,.int .u8 0,.int .u8 0,.int .i64 0,.int .i64 0,.int .i64 0,.int .u16 0,.bool false,.slice none 0 0,.string ⟨#[]⟩,.int .u8 0,.int .u8 0,.int .i64 0,.int .i64 0,.int .i64 0,.int .u16 0,.bool false,.slice none 0 0,.string ⟨#[]⟩,.int .u8 0,.int .u8 0,.int .i64 0,.int .i64 0,.int .i64 0,.int .u16 0,.bool false,.slice none 0 0,.string ⟨#[]⟩,.int .u8 0,.int .u8 0,.int .i64 0,.int .i64 0,.int .i64 0,.int .u16 0,.bool false,.slice none 0 0,.string ⟨#[]⟩,.int .u8 0,.int .u8 0,.int .i64 0,.int .i64 0,.int .i64 0,.int .u16 0,.bool false,.slice none 0 0,.string ⟨#[]⟩,.int .u8 0,.int .u8 0,.int .i64 0,.int .i64 0,.int .i64 0,.int .u16 0,.bool false,.slice none 0 0,.string ⟨#[]⟩,.int .u8 0,.int .u8 0,.int .i64 0,.int .i64 0,.int .i64 0,.int .u16 0,.bool false,.slice none 0 0,.string ⟨#[]⟩,.int .u8 0,.int .u8 0,.int .i64 0,.int .i64 0,.int .i64 0,.int .u16 0,.bool false,.slice none 0 0,.string ⟨#[]⟩,.int .u8 0,.int .u8 0,.int .i64 0,.int .i64 0,.int .i64 0,.int .u16 0,.bool false,.slice none 0 0,.string ⟨#[]⟩,.int .u8 0,.int .u8 0,.int .i64 0,.int .i64 0,.int .i64 0,.int .u16 0,.bool false,.slice none 0 0,.string ⟨#[]⟩,.int .u8 0,.int .u8 0,.int .i64 0,.int .i64 0,.int .i64 0,.int .u16 0,.bool false,.slice none 0 0,.string ⟨#[]⟩,.int .u8 0,.int .u8 0,.int .i64 0,.int .i64 0,.int .i64 0,.int .u16 0,.bool false,.slice none 0 0,.string ⟨#[]⟩,.int .u8 0,.int .u8 0,.int .i64 0,.int .i64 0,.int .i64 0,.int .u16 0,.bool false,.slice none 0 0,.string ⟨#[]⟩,.int .u8 0,.int .u8 0,.int .i64 0,.int .i64 0,.int .i64 0,.int .u16 0,.bool false,.slice none 0 0,.string ⟨#[]⟩,.int .u8 0,.int .u8 0,.int .i64 0,.int .i64 0,.int .i64 0,.int .u16 0,.bool false,.slice none 0 0,.string ⟨#[]⟩,.int .u8 0,.int .u8 0,.int .i64 0,.int .i64 0,.int .i64 0,.int .u16 0,.bool false,.slice none 0 0,.string ⟨#[]⟩,.int .u8 0,.int .u8 0,.int .i64 0,.int .i64 0,.int .i64 0,.int .u16 0,.bool false,.slice none 0 0,.string ⟨#[]⟩,.int .u8 0,.int .u8 0,.int .i64 0,.int .i64 0,.int .i64 0,.int .u16 0,.bool false,.slice none 0 0,.string ⟨#[]⟩,.int .u8 0,.int .u8 0,.int .i64 0,.int .i64 0,.int .i64 0,.int .u16 0,.bool false,.slice none 0 0,.string ⟨#[]⟩,.int .u8 0,.int .u8 0,.int .i64 0,.int .i64 0,.int .i64 0,.int .u16 0,.bool false,.slice none 0 0,.string ⟨#[]⟩,.int .u8 0,.int .u8 0,.int .i64 0,.int .i64 0,.int .i64 0,.int .u16 0,.bool false,.slice none 0 0,.string ⟨#[]⟩,.int .u8 0,.int .u8 0,.int .i64 0,.int .i64 0,.int .i64 0,.int .u16 0,.bool false,.slice none 0 0,.string ⟨#[]⟩,.int .u8 0,.int .u8 0,.int .i64 0,.int .i64 0,.int .i64 0,.int .u16 0,.bool false,.slice none 0 0,.string ⟨#[]⟩,.int .u8 0,.int .u8 0,.int .i64 0,.int .i64 0,.int .i64 0,.int .u16 0,.bool false,.slice none 0 0,.string ⟨#[]⟩,.int .u8 0,.int .u8 0,.int .i64 0,.int .i64 0,.int .i64 0,.int .u16 0,.bool false,.slice none 0 0,.string ⟨#[]⟩,.int .u8 0,.int .u8 0,.int .i64 0,.int .i64 0,.int .i64 0,.int .u16 0,.bool false,.slice none 0 0,.string ⟨#[]⟩,.int .u8 0,.int .u8 0,.int .i64 0,.int .i64 0,.int .i64 0,.int .u16 0,.bool false,.slice none 0 0,.string ⟨#[]⟩,.int .u8 0,.int .u8 0,.int .i64 0,.int .i64 0,.int .i64 0,.int .u16 0,.bool false,.slice none 0 0,.string ⟨#[]⟩,.int .u8 0,.int .u8 0,.int .i64 0,.int .i64 0,.int .i64 0,.int .u16 0,.bool false,.slice none 0 0,.string ⟨#[]⟩,.int .u8 0,.int .u8 0,.int .i64 0,.int .i64 0,.int .i64 0,.int .u16 0,.bool false,.slice none 0 0,.string ⟨#[]⟩,.int .u8 0,.int .u8 0,.int .i64 0,.int .i64 0,.int .i64 0,.int .u16 0,.bool false,.slice none 0 0,.string ⟨#[]⟩,.int .u8 0,.int .u8 0,.int .i64 0,.int .i64 0,.int .i64 0,.int .u16 0,.bool false,.slice none 0 0,.string ⟨#[]⟩,.int .u8 0,.int .u8 0,.int .i64 0,.int .i64 0,.int .i64 0,.int .u16 0,.bool false,.slice none 0 0,.string ⟨#[]⟩,.int .u8 0,.int .u8 0,.int .i64 0,.int .i64 0,.int .i64 0,.int .u16 0,.bool false,.slice none 0 0,.string ⟨#[]⟩,.int .u8 0,.int .u8 0,.int .i64 0,.int .i64 0,.int .i64 0,.int .u16 0,.bool false,.slice none 0 0,.string ⟨#[]⟩,.int .u8 0,.int .u8 0,.int .i64 0,.int .i64 0,.int .i64 0,.int .u16 0,.bool false,.slice none 0 0,.string ⟨#[]⟩,.int .u8 0,.int .u8 0,.int .i64 0,.int .i64 0,.int .i64 0,.int .u16 0,.bool false,.slice none 0 0,.string ⟨#[]⟩,.int .u8 0,.int .u8 0,.int .i64 0,.int .i64 0,.int .i64 0,.int .u16 0,.bool false,.slice none 0 0,.string ⟨#[]⟩,.int .u8 0,.int .u8 0,.int .i64 0,.int .i64 0,.int .i64 0,.int .u16 0,.bool false,.slice none 0 0,.string ⟨#[]⟩,.int .u8 0,.int .u8 0,.int .i64 0,.int .i64 0,.int .i64 0,.int .u16 0,.bool false,.slice none 0 0,.string ⟨#[]⟩,.int .u8 0,.int .u8 0,.int .i64 0,.int .i64 0,.int .i64 0,.int .u16 0,.bool false,.slice none 0 0,.string ⟨#[]⟩,.int .u8 0,.int .u8 0,.int .i64 0,.int .i64 0,.int .i64 0,.int .u16 0,.bool false,.slice none 0 0,.string ⟨#[]⟩,.int .u8 0,.int .u8 0,.int .i64 0,.int .i64 0,.int .i64 0,.int .u16 0,.bool false,.slice none 0 0,.string ⟨#[]⟩,.int .u8 0,.int .u8 0,.int .i64 0,.int .i64 0,.int .i64 0,.int .u16 0,.bool false,.slice none 0 0,.string ⟨#[]⟩,.int .u8 0,.int .u8 0,.int .i64 0,.int .i64 0,.int .i64 0,.int .u16 0,.bool false,.slice none 0 0,.string ⟨#[]⟩,.int .u8 0,.int .u8 0,.int .i64 0,.int .i64 0,.int .i64 0,.int .u16 0,.bool false,.slice none 0 0,.string ⟨#[]⟩,.int .u8 0,.int .u8 0,.int .i64 0,.int .i64 0,.int .i64 0,.int .u16 0,.bool false,.slice none 0 0,.string ⟨#[]⟩,.int .u8 0,.int .u8 0,.int .i64 0,.int .i64 0,.int .i64 0,.int .u16 0,.bool false,.slice none 0 0,.string ⟨#[]⟩,.int .u8 0,.int .u8 0,.int .i64 0,.int .i64 0,.int .i64 0,.int .u16 0,.bool false,.slice none 0 0,.string ⟨#[]⟩,.int .u8 0,.int .u8 0,.int .i64 0,.int .i64 0,.int .i64 0,.int .u16 0,.bool false,.slice none 0 0,.string ⟨#[]⟩,.int .u8 0,.int .u8 0,.int .i64 0,.int .i64 0,.int .i64 0,.int .u16 0,.bool false,.slice none 0 0,.string ⟨#[]⟩,.int .u8 0,.int .u8 0,.int .i64 0,.int .i64 0,.int .i64 0,.int .u16 0,.bool false,.slice none 0 0,.string ⟨#[]⟩,.int .u8 0,.int .u8 0,.int .i64 0,.int .i64 0,.int .i64 0,.int .u16 0,.bool false,.slice none 0 0,.string ⟨#[]⟩,.int .u8 0,.int .u8 0,.int .i64 0,.int .i64 0,.int .i64 0,.int .u16 0,.bool false,.slice none 0 0,.string ⟨#[]⟩,.int .u8 0,.int .u8 0,.int .i64 0,.int .i64 0,.int .i64 0,.int .u16 0,.bool false,.slice none 0 0,.string ⟨#[]⟩,.int .u8 0,.int .u8 0,.int .i64 0,.int .i64 0,.int .i64 0,.int .u16 0,.bool false,.slice none 0 0,.string ⟨#[]⟩,.int .u8 0,.int .u8 0,.int .i64 0,.int .i64 0,.int .i64 0,.int .u16 0,.bool false,.slice none 0 0,.string ⟨#[]⟩,.int .u8 0,.int .u8 0,.int .i64 0,.int .i64 0,.int .i64 0,.int .u16 0,.bool false,.slice none 0 0,.string ⟨#[]⟩,.int .u8 0,.int .u8 0,.int .i64 0,.int .i64 0,.int .i64 0,.int .u16 0,.bool false,.slice none 0 0,.string ⟨#[]⟩,.int .u8 0,.int .u8 0,.int .i64 0,.int .i64 0,.int .i64 0,.int .u16 0,.bool false,.slice none 0 0]⟩,
 some ⟨.array 9 9,9,144,[.string ⟨#[]⟩,.string ⟨#[]⟩,.string ⟨#[]⟩,.string ⟨#[]⟩,.string ⟨#[]⟩,.string ⟨#[]⟩,.string ⟨#[]⟩,.string ⟨#[]⟩,.string ⟨#[]⟩]⟩,
 some ⟨.array 5 101,20,200,[.int .u8 0,.string ⟨#[]⟩,.int .i64 0,.int .i64 0,.int .u8 0,.string ⟨#[]⟩,.int .i64 0,.int .i64 0,.int .u8 0,.string ⟨#[]⟩,.int .i64 0,.int .i64 0,.int .u8 0,.string ⟨#[]⟩,.int .i64 0,.int .i64 0,.int .u8 0,.string ⟨#[]⟩,.int .i64 0,.int .i64 0]⟩,
 none,
 some ⟨.struct [(0,4),(1,4),(2,3),(3,127),(579,128),(588,129)],608,5480,[.bool false,.bool false,.int .i64 0,.string ⟨#[]⟩,.int .u8 0,.int .u8 0,.int .i64 0,.int .i64 0,.int .i64 0,.int .u16 0,.bool false,.slice none 0 0,.string ⟨#[]⟩,.int .u8 0,.int .u8 0,.int .i64 0,.int .i64 0,.int .i64 0,.int .u16 0,.bool false,.slice none 0 0,.string ⟨#[]⟩,.int .u8 0,.int .u8 0,.int .i64 0,.int .i64 0,.int .i64 0,.int .u16 0,.bool false,.slice none 0 0,.string ⟨#[]⟩,.int .u8 0,.int .u8 0,.int .i64 0,.int .i64 0,.int .i64 0,.int .u16 0,.bool false,.slice none 0 0,.string ⟨#[]⟩,.int .u8 0,.int .u8 0,.int .i64 0,.int .i64 0,.int .i64 0,.int .u16 0,.bool false,.slice none 0 0,.string ⟨#[]⟩,.int .u8 0,.int .u8 0,.int .i64 0,.int .i64 0,.int .i64 0,.int .u16 0,.bool false,.slice none 0 0,.string ⟨#[]⟩,.int .u8 0,.int .u8 0,.int .i64 0,.int .i64 0,.int .i64 0,.int .u16 0,.bool false,.slice none 0 0,.string ⟨#[]⟩,.int .u8 0,.int .u8 0,.int .i64 0,.int .i64 0,.int .i64 0,.int .u16 0,.bool false,.slice none 0 0,.string ⟨#[]⟩,.int .u8 0,.int .u8 0,.int .i64 0,.int .i64 0,.int .i64 0,.int .u16 0,.bool false,.slice none 0 0,.string ⟨#[]⟩,.int .u8 0,.int .u8 0,.int .i64 0,.int .i64 0,.int .i64 0,.int .u16 0,.bool false,.slice none 0 0,.string ⟨#[]⟩,.int .u8 0,.int .u8 0,.int .i64 0,.int .i64 0,.int .i64 0,.int .u16 0,.bool false,.slice none 0 0,.string ⟨#[]⟩,.int .u8 0,.int .u8 0,.int .i64 0,.int .i64 0,.int .i64 0,.int .u16 0,.bool false,.slice none 0 0,.string ⟨#[]⟩,.int .u8 0,.int .u8 0,.int .i64 0,.int .i64 0,.int .i64 0,.int .u16 0,.bool false,.slice none 0 0,.string ⟨#[]⟩,.int .u8 0,.int .u8 0,.int .i64 0,.int .i64 0,.int .i64 0,.int .u16 0,.bool false,.slice none 0 0,.string ⟨#[]⟩,.int .u8 0,.int .u8 0,.int .i64 0,.int .i64 0,.int .i64 0,.int .u16 0,.bool false,.slice none 0 0,.string ⟨#[]⟩,.int .u8 0,.int .u8 0,.int .i64 0,.int .i64 0,.int .i64 0,.int .u16 0,.bool false,.slice none 0 0,.string ⟨#[]⟩,.int .u8 0,.int .u8 0,.int .i64 0,.int .i64 0,.int .i64 0,.int .u16 0,.bool false,.slice none 0 0,.string ⟨#[]⟩,.int .u8 0,.int .u8 0,.int .i64 0,.int .i64 0,.int .i64 0,.int .u16 0,.bool false,.slice none 0 0,.string ⟨#[]⟩,.int .u8 0,.int .u8 0,.int .i64 0,.int .i64 0,.int .i64 0,.int .u16 0,.bool false,.slice none 0 0,.string ⟨#[]⟩,.int .u8 0,.int .u8 0,.int .i64 0,.int .i64 0,.int .i64 0,.int .u16 0,.bool false,.slice none 0 0,.string ⟨#[]⟩,.int .u8 0,.int .u8 0,.int .i64 0,.int .i64 0,.int .i64 0,.int .u16 0,.bool false,.slice none 0 0,.string ⟨#[]⟩,.int .u8 0,.int .u8 0,.int .i64 0,.int .i64 0,.int .i64 0,.int .u16 0,.bool false,.slice none 0 0,.string ⟨#[]⟩,.int .u8 0,.int .u8 0,.int .i64 0,.int .i64 0,.int .i64 0,.int .u16 0,.bool false,.slice none 0 0,.string ⟨#[]⟩,.int .u8 0,.int .u8 0,.int .i64 0,.int .i64 0,.int .i64 0,.int .u16 0,.bool false,.slice none 0 0,.string ⟨#[]⟩,.int .u8 0,.int .u8 0,.int .i64 0,.int .i64 0,.int .i64 0,.int .u16 0,.bool false,.slice none 0 0,.string ⟨#[]⟩,.int .u8 0,.int .u8 0,.int .i64 0,.int .i64 0,.int .i64 0,.int .u16 0,.bool false,.slice none 0 0,.string ⟨#[]⟩,.int .u8 0,.int .u8 0,.int .i64 0,.int .i64 0,.int .i64 0,.int .u16 0,.bool false,.slice none 0 0,.string ⟨#[]⟩,.int .u8 0,.int .u8 0,.int .i64 0,.int .i64 0,.int .i64 0,.int .u16 0,.bool false,.slice none 0 0,.string ⟨#[]⟩,.int .u8 0,.int .u8 0,.int .i64 0,.int .i64 0,.int .i64 0,.int .u16 0,.bool false,.slice none 0 0,.string ⟨#[]⟩,.int .u8 0,.int .u8 0,.int .i64 0,.int .i64 0,.int .i64 0,.int .u16 0,.bool false,.slice none 0 0,.string ⟨#[]⟩,.int .u8 0,.int .u8 0,.int .i64 0,.int .i64 0,.int .i64 0,.int .u16 0,.bool false,.slice none 0 0,.string ⟨#[]⟩,.int .u8 0,.int .u8 0,.int .i64 0,.int .i64 0,.int .i64 0,.int .u16 0,.bool false,.slice none 0 0,.string ⟨#[]⟩,.int .u8 0,.int .u8 0,.int .i64 0,.int .i64 0,.int .i64 0,.int .u16 0,.bool false,.slice none 0 0,.string ⟨#[]⟩,.int .u8 0,.int .u8 0,.int .i64 0,.int .i64 0,.int .i64 0,.int .u16 0,.bool false,.slice none 0 0,.string ⟨#[]⟩,.int .u8 0,.int .u8 0,.int .i64 0,.int .i64 0,.int .i64 0,.int .u16 0,.bool false,.slice none 0 0,.string ⟨#[]⟩,.int .u8 0,.int .u8 0,.int .i64 0,.int .i64 0,.int .i64 0,.int .u16 0,.bool false,.slice none 0 0,.string ⟨#[]⟩,.int .u8 0,.int .u8 0,.int .i64 0,.int .i64 0,.int .i64 0,.int .u16 0,.bool false,.slice none 0 0,.string ⟨#[]⟩,.int .u8 0,.int .u8 0,.int .i64 0,.int .i64 0,.int .i64 0,.int .u16 0,.bool false,.slice none 0 0,.string ⟨#[]⟩,.int .u8 0,.int .u8 0,.int .i64 0,.int .i64 0,.int .i64 0,.int .u16 0,.bool false,.slice none 0 0,.string ⟨#[]⟩,.int .u8 0,.int .u8 0,.int .i64 0,.int .i64 0,.int .i64 0,.int .u16 0,.bool false,.slice none 0 0,.string ⟨#[]⟩,.int .u8 0,.int .u8 0,.int .i64 0,.int .i64 0,.int .i64 0,.int .u16 0,.bool false,.slice none 0 0,.string ⟨#[]⟩,.int .u8 0,.int .u8 0,.int .i64 0,.int .i64 0,.int .i64 0,.int .u16 0,.bool false,.slice none 0 0,.string ⟨#[]⟩,.int .u8 0,.int .u8 0,.int .i64 0,.int .i64 0,.int .i64 0,.int .u16 0,.bool false,.slice none 0 0,.string ⟨#[]⟩,.int .u8 0,.int .u8 0,.int .i64 0,.int .i64 0,.int .i64 0,.int .u16 0,.bool false,.slice none 0 0,.string ⟨#[]⟩,.int .u8 0,.int .u8 0,.int .i64 0,.int .i64 0,.int .i64 0,.int .u16 0,.bool false,.slice none 0 0,.string ⟨#[]⟩,.int .u8 0,.int .u8 0,.int .i64 0,.int .i64 0,.int .i64 0,.int .u16 0,.bool false,.slice none 0 0,.string ⟨#[]⟩,.int .u8 0,.int .u8 0,.int .i64 0,.int .i64 0,.int .i64 0,.int .u16 0,.bool false,.slice none 0 0,.string ⟨#[]⟩,.int .u8 0,.int .u8 0,.int .i64 0,.int .i64 0,.int .i64 0,.int .u16 0,.bool false,.slice none 0 0,.string ⟨#[]⟩,.int .u8 0,.int .u8 0,.int .i64 0,.int .i64 0,.int .i64 0,.int .u16 0,.bool false,.slice none 0 0,.string ⟨#[]⟩,.int .u8 0,.int .u8 0,.int .i64 0,.int .i64 0,.int .i64 0,.int .u16 0,.bool false,.slice none 0 0,.string ⟨#[]⟩,.int .u8 0,.int .u8 0,.int .i64 0,.int .i64 0,.int .i64 0,.int .u16 0,.bool false,.slice none 0 0,.string ⟨#[]⟩,.int .u8 0,.int .u8 0,.int .i64 0,.int .i64 0,.int .i64 0,.int .u16 0,.bool false,.slice none 0 0,.string ⟨#[]⟩,.int .u8 0,.int .u8 0,.int .i64 0,.int .i64 0,.int .i64 0,.int .u16 0,.bool false,.slice none 0 0,.string ⟨#[]⟩,.int .u8 0,.int .u8 0,.int .i64 0,.int .i64 0,.int .i64 0,.int .u16 0,.bool false,.slice none 0 0,.string ⟨#[]⟩,.int .u8 0,.int .u8 0,.int .i64 0,.int .i64 0,.int .i64 0,.int .u16 0,.bool false,.slice none 0 0,.string ⟨#[]⟩,.int .u8 0,.int .u8 0,.int .i64 0,.int .i64 0,.int .i64 0,.int .u16 0,.bool false,.slice none 0 0,.string ⟨#[]⟩,.int .u8 0,.int .u8 0,.int .i64 0,.int .i64 0,.int .i64 0,.int .u16 0,.bool false,.slice none 0 0,.string ⟨#[]⟩,.int .u8 0,.int .u8 0,.int .i64 0,.int .i64 0,.int .i64 0,.int .u16 0,.bool false,.slice none 0 0,.string ⟨#[]⟩,.int .u8 0,.int .u8 0,.int .i64 0,.int .i64 0,.int .i64 0,.int .u16 0,.bool false,.slice none 0 0,.string ⟨#[]⟩,.int .u8 0,.int .u8 0,.int .i64 0,.int .i64 0,.int .i64 0,.int .u16 0,.bool false,.slice none 0 0,.string ⟨#[]⟩,.int .u8 0,.int .u8 0,.int .i64 0,.int .i64 0,.int .i64 0,.int .u16 0,.bool false,.slice none 0 0,.string ⟨#[]⟩,.int .u8 0,.int .u8 0,.int .i64 0,.int .i64 0,.int .i64 0,.int .u16 0,.bool false,.slice none 0 0,.string ⟨#[]⟩,.int .u8 0,.int .u8 0,.int .i64 0,.int .i64 0,.int .i64 0,.int .u16 0,.bool false,.slice none 0 0,.string ⟨#[]⟩,.int .u8 0,.int .u8 0,.int .i64 0,.int .i64 0,.int .i64 0,.int .u16 0,.bool false,.slice none 0 0,.string ⟨#[]⟩,.string ⟨#[]⟩,.string ⟨#[]⟩,.string ⟨#[]⟩,.string ⟨#[]⟩,.string ⟨#[]⟩,.string ⟨#[]⟩,.string ⟨#[]⟩,.string ⟨#[]⟩,.int .u8 0,.string ⟨#[]⟩,.int .i64 0,.int .i64 0,.int .u8 0,.string ⟨#[]⟩,.int .i64 0,.int .i64 0,.int .u8 0,.string ⟨#[]⟩,.int .i64 0,.int .i64 0,.int .u8 0,.string ⟨#[]⟩,.int .i64 0,.int .i64 0,.int .u8 0,.string ⟨#[]⟩,.int .i64 0,.int .i64 0]⟩,
 none,
 some ⟨.struct [(0,4),(1,4),(2,22),(3,128),(12,129)],32,376,[.bool false,.bool false,.slice none 0 0,.string ⟨#[]⟩,.string ⟨#[]⟩,.string ⟨#[]⟩,.string ⟨#[]⟩,.string ⟨#[]⟩,.string ⟨#[]⟩,.string ⟨#[]⟩,.string ⟨#[]⟩,.string ⟨#[]⟩,.int .u8 0,.string ⟨#[]⟩,.int .i64 0,.int .i64 0,.int .u8 0,.string ⟨#[]⟩,.int .i64 0,.int .i64 0,.int .u8 0,.string ⟨#[]⟩,.int .i64 0,.int .i64 0,.int .u8 0,.string ⟨#[]⟩,.int .i64 0,.int .i64 0,.int .u8 0,.string ⟨#[]⟩,.int .i64 0,.int .i64 0]⟩,
 none,
 none,
 none,
 none,
 none,
 some ⟨.struct [(0,29),(1,26),(2,22),(3,27)],4,80,[.pointer none,.slice none 0 0,.slice none 0 0,.slice none 0 0]⟩,
 none,
 none,
 none,
 none,
 none,
 none,
 none,
 none,
 none,
 none,
 none,
 none,
 none,
 none,
 none,
 none,
 none,
 none,
 none,
 none,
 none,
 none,
 none,
 none,
 none,
 none,
 none,
 none,
 none,
 none,
 none,
 none,
 none,
 none,
 none,
 none,
 none,
 none,
 none,
 none,
 none,
 none,
 none,
 none,
 none,
 none,
 none,
 none,
 none,
 none,
 none,
 none,
 none,
 none,
 none,
 some ⟨.int .u64,1,8,[.int .u64 0]⟩,
 none,
 none,
 none,
 none,
 none,
 none,
 none,
 none,
 none,
 none,
 none,
 none,
 none,
 none,
 some ⟨.int .i64,1,8,[.int .i64 0]⟩,
 none,
 none,
 none,
 none,
 none,
 none,
 none,
 some ⟨.int .u32,1,4,[.int .u32 0]⟩,
 none,
 some ⟨.int .u64,1,8,[.int .u64 0]⟩,
 none,
 none,
 none,
 none,
 some ⟨.array 256 4,256,256,[.bool false,.bool false,.bool false,.bool false,.bool false,.bool false,.bool false,.bool false,.bool false,.bool false,.bool false,.bool false,.bool false,.bool false,.bool false,.bool false,.bool false,.bool false,.bool false,.bool false,.bool false,.bool false,.bool false,.bool false,.bool false,.bool false,.bool false,.bool false,.bool false,.bool false,.bool false,.bool false,.bool false,.bool false,.bool false,.bool false,.bool false,.bool false,.bool false,.bool false,.bool false,.bool false,.bool false,.bool false,.bool false,.bool false,.bool false,.bool false,.bool false,.bool false,.bool false,.bool false,.bool false,.bool false,.bool false,.bool false,.bool false,.bool false,.bool false,.bool false,.bool false,.bool false,.bool false,.bool false,.bool false,.bool false,.bool false,.bool false,.bool false,.bool false,.bool false,.bool false,.bool false,.bool false,.bool false,.bool false,.bool false,.bool false,.bool false,.bool false,.bool false,.bool false,.bool false,.bool false,.bool false,.bool false,.bool false,.bool false,.bool false,.bool false,.bool false,.bool false,.bool false,.bool false,.bool false,.bool false,.bool false,.bool false,.bool false,.bool false,.bool false,.bool false,.bool false,.bool false,.bool false,.bool false,.bool false,.bool false,.bool false,.bool false,.bool false,.bool false,.bool false,.bool false,.bool false,.bool false,.bool false,.bool false,.bool false,.bool false,.bool false,.bool false,.bool false,.bool false,.bool false,.bool false,.bool false,.bool false,.bool false,.bool false,.bool false,.bool false,.bool false,.bool false,.bool false,.bool false,.bool false,.bool false,.bool false,.bool false,.bool false,.bool false,.bool false,.bool false,.bool false,.bool false,.bool false,.bool false,.bool false,.bool false,.bool false,.bool false,.bool false,.bool false,.bool false,.bool false,.bool false,.bool false,.bool false,.bool false,.bool false,.bool false,.bool false,.bool false,.bool false,.bool false,.bool false,.bool false,.bool false,.bool false,.bool false,.bool false,.bool false,.bool false,.bool false,.bool false,.bool false,.bool false,.bool false,.bool false,.bool false,.bool false,.bool false,.bool false,.bool false,.bool false,.bool false,.bool false,.bool false,.bool false,.bool false,.bool false,.bool false,.bool false,.bool false,.bool false,.bool false,.bool false,.bool false,.bool false,.bool false,.bool false,.bool false,.bool false,.bool false,.bool false,.bool false,.bool false,.bool false,.bool false,.bool false,.bool false,.bool false,.bool false,.bool false,.bool false,.bool false,.bool false,.bool false,.bool false,.bool false,.bool false,.bool false,.bool false,.bool false,.bool false,.bool false,.bool false,.bool false,.bool false,.bool false,.bool false,.bool false,.bool false,.bool false,.bool false,.bool false,.bool false,.bool false,.bool false,.bool false,.bool false,.bool false,.bool false,.bool false,.bool false,.bool false,.bool false,.bool false,.bool false,.bool false,.bool false,.bool false,.bool false,.bool false,.bool false]⟩,
 none,
 none,
 none,
 some ⟨.pointer 225,1,8,[.pointer none]⟩,
 some ⟨.int .u64,1,8,[.int .u64 0]⟩,
 none,
 none,
 none,
 some ⟨.pointer 3,1,8,[.pointer none]⟩,
 none,
 none,
 none,
 none,
 none,
 some ⟨.pointer 230,1,8,[.pointer none]⟩,
 none,
 none,
 some ⟨.array 256 5,256,256,[.int .u8 0,.int .u8 0,.int .u8 0,.int .u8 0,.int .u8 0,.int .u8 0,.int .u8 0,.int .u8 0,.int .u8 0,.int .u8 0,.int .u8 0,.int .u8 0,.int .u8 0,.int .u8 0,.int .u8 0,.int .u8 0,.int .u8 0,.int .u8 0,.int .u8 0,.int .u8 0,.int .u8 0,.int .u8 0,.int .u8 0,.int .u8 0,.int .u8 0,.int .u8 0,.int .u8 0,.int .u8 0,.int .u8 0,.int .u8 0,.int .u8 0,.int .u8 0,.int .u8 0,.int .u8 0,.int .u8 0,.int .u8 0,.int .u8 0,.int .u8 0,.int .u8 0,.int .u8 0,.int .u8 0,.int .u8 0,.int .u8 0,.int .u8 0,.int .u8 0,.int .u8 0,.int .u8 0,.int .u8 0,.int .u8 0,.int .u8 0,.int .u8 0,.int .u8 0,.int .u8 0,.int .u8 0,.int .u8 0,.int .u8 0,.int .u8 0,.int .u8 0,.int .u8 0,.int .u8 0,.int .u8 0,.int .u8 0,.int .u8 0,.int .u8 0,.int .u8 0,.int .u8 0,.int .u8 0,.int .u8 0,.int .u8 0,.int .u8 0,.int .u8 0,.int .u8 0,.int .u8 0,.int .u8 0,.int .u8 0,.int .u8 0,.int .u8 0,.int .u8 0,.int .u8 0,.int .u8 0,.int .u8 0,.int .u8 0,.int .u8 0,.int .u8 0,.int .u8 0,.int .u8 0,.int .u8 0,.int .u8 0,.int .u8 0,.int .u8 0,.int .u8 0,.int .u8 0,.int .u8 0,.int .u8 0,.int .u8 0,.int .u8 0,.int .u8 0,.int .u8 0,.int .u8 0,.int .u8 0,.int .u8 0,.int .u8 0,.int .u8 0,.int .u8 0,.int .u8 0,.int .u8 0,.int .u8 0,.int .u8 0,.int .u8 0,.int .u8 0,.int .u8 0,.int .u8 0,.int .u8 0,.int .u8 0,.int .u8 0,.int .u8 0,.int .u8 0,.int .u8 0,.int .u8 0,.int .u8 0,.int .u8 0,.int .u8 0,.int .u8 0,.int .u8 0,.int .u8 0,.int .u8 0,.int .u8 0,.int .u8 0,.int .u8 0,.int .u8 0,.int .u8 0,.int .u8 0,.int .u8 0,.int .u8 0,.int .u8 0,.int .u8 0,.int .u8 0,.int .u8 0,.int .u8 0,.int .u8 0,.int .u8 0,.int .u8 0,.int .u8 0,.int .u8 0,.int .u8 0,.int .u8 0,.int .u8 0,.int .u8 0,.int .u8 0,.int .u8 0,.int .u8 0,.int .u8 0,.int .u8 0,.int .u8 0,.int .u8 0,.int .u8 0,.int .u8 0,.int .u8 0,.int .u8 0,.int .u8 0,.int .u8 0,.int .u8 0,.int .u8 0,.int .u8 0,.int .u8 0,.int .u8 0,.int .u8 0,.int .u8 0,.int .u8 0,.int .u8 0,.int .u8 0,.int .u8 0,.int .u8 0,.int .u8 0,.int .u8 0,.int .u8 0,.int .u8 0,.int .u8 0,.int .u8 0,.int .u8 0,.int .u8 0,.int .u8 0,.int .u8 0,.int .u8 0,.int .u8 0,.int .u8 0,.int .u8 0,.int .u8 0,.int .u8 0,.int .u8 0,.int .u8 0,.int .u8 0,.int .u8 0,.int .u8 0,.int .u8 0,.int .u8 0,.int .u8 0,.int .u8 0,.int .u8 0,.int .u8 0,.int .u8 0,.int .u8 0,.int .u8 0,.int .u8 0,.int .u8 0,.int .u8 0,.int .u8 0,.int .u8 0,.int .u8 0,.int .u8 0,.int .u8 0,.int .u8 0,.int .u8 0,.int .u8 0,.int .u8 0,.int .u8 0,.int .u8 0,.int .u8 0,.int .u8 0,.int .u8 0,.int .u8 0,.int .u8 0,.int .u8 0,.int .u8 0,.int .u8 0,.int .u8 0,.int .u8 0,.int .u8 0,.int .u8 0,.int .u8 0,.int .u8 0,.int .u8 0,.int .u8 0,.int .u8 0,.int .u8 0,.int .u8 0,.int .u8 0,.int .u8 0,.int .u8 0,.int .u8 0,.int .u8 0,.int .u8 0,.int .u8 0,.int .u8 0,.int .u8 0,.int .u8 0,.int .u8 0,.int .u8 0,.int .u8 0,.int .u8 0,.int .u8 0,.int .u8 0,.int .u8 0,.int .u8 0,.int .u8 0,.int .u8 0]⟩,
 none,
 some ⟨.struct [(0,5),(1,5)],2,2,[.int .u8 0,.int .u8 0]⟩,
 some ⟨.array 16 245,32,32,[.int .u8 0,.int .u8 0,.int .u8 0,.int .u8 0,.int .u8 0,.int .u8 0,.int .u8 0,.int .u8 0,.int .u8 0,.int .u8 0,.int .u8 0,.int .u8 0,.int .u8 0,.int .u8 0,.int .u8 0,.int .u8 0,.int .u8 0,.int .u8 0,.int .u8 0,.int .u8 0,.int .u8 0,.int .u8 0,.int .u8 0,.int .u8 0,.int .u8 0,.int .u8 0,.int .u8 0,.int .u8 0,.int .u8 0,.int .u8 0,.int .u8 0,.int .u8 0]⟩]
def Tryz.fns:List FuncId:=[3,4,5,6,7,8,9,10,11,12,13,14,15,16,17,18,19,20,21,22,23,24,25,26,27,28,29,30,31,32,33,34,35,36,37,38,39,40,41,42,43,44,45,46,47,48,49,50,51,52,53,54,55,56,57,58,59,60,61,62,63,64,65,66,67,68,69,70,71,72,73,74,75,76,77,78,79,80,81,82,83,84,85,86,87,88,89,90,91,92,93,94,95,96,97,98,99,100,101,102,103,104,105,106,107,108,109,110,111,112,113,114,115,116,117,118,119,120,121,122,123,124,125,126,127,128,129,130,131,132,133,134,135,136,137,138,139,140,141,142,143,144,145,146,147,148,149,150,151,152,153,154,155,156,157,158,159,160,161,162,163,164,165,166,167,168,169,170,171,172,173,174,175,176,177,178,179,180,181,182,183,184,185,186,187,188,189,190,191,192,193,194,195,196,197,198,199,200,201]
def Tryz.hint:FuncId->Hint:=fun f=>match f with
 |3=>(.seq .leaf (.seq .leaf (.seq .leaf (.seq .leaf (.seq .leaf (.seq .leaf (.seq .leaf (.seq .leaf (.seq .leaf (.seq .leaf (.seq .leaf (.seq (.seq .leaf (.sub none (.loop [1,3,9,10,15,19,20,21] .leaf))) (.seq (.seq .leaf (.sub none (.loop [1,3,9,10,15,19,20,22] .leaf))) (.seq .leaf (.seq .leaf (.seq (.seq .leaf (.sub none (.loop [1,9,10,15,19,20,24,25,26] .leaf))) (.seq .leaf (.seq .leaf (.seq .leaf (.seq (.seq .leaf (.sub none (.loop [8,10,15,19,20,25,27,28,29] .leaf))) (.seq (.seq .leaf (.sub none (.loop [8,15,25,28,30] .leaf))) .leaf)))))))))))))))))))))
 |5=>(.seq .leaf (.seq .leaf (.seq .leaf (.seq .leaf (.seq .leaf (.seq .leaf (.seq (.seq .leaf (.sub none (.loop [1,4,5,6,8,10] .leaf))) (.seq (.seq .leaf (.sub none (.loop [1,4,5,6,8,11] (.seq .leaf (.seq (.sub none (.seq .leaf (.seq .leaf (.seq .leaf (.seq .leaf (.seq .leaf (.seq .leaf (.seq .leaf (.seq (.seq .leaf (.sub none (.loop [1,5,6,8,11,12,13,15,16,18,19,20] .leaf))) .leaf))))))))) .leaf))))) .leaf))))))))
 |8=>(.seq .leaf (.seq .leaf (.seq (.seq .leaf (.sub none (.loop [0,1,5,6] (.seq .leaf (.seq (.sub none (.seq .leaf (.seq .leaf (.seq (.seq .leaf (.sub none (.loop [0,1,5,6,7,8] .leaf))) .leaf)))) .leaf))))) .leaf)))
 |10=>(.seq .leaf (.seq .leaf (.seq .leaf (.seq .leaf (.seq (.seq .leaf (.sub none (.loop [6,8,20] .leaf))) .leaf)))))
 |11=>(.seq .leaf (.seq .leaf (.seq (.seq .leaf (.sub none (.loop [0,1,4,5] .leaf))) .leaf)))
 |12=>(.seq .leaf (.seq .leaf (.seq (.seq .leaf (.sub none (.loop [0,1,4,5] .leaf))) .leaf)))
 |15=>(.seq .leaf (.seq .leaf (.seq (.seq .leaf (.sub none (.loop [1,2,3,4,5,6,7] .leaf))) (.seq (.seq .leaf (.sub none (.loop [1,2,3,4,5,6,8] .leaf))) .leaf))))
 |17=>(.seq .leaf (.seq .leaf (.seq .leaf (.seq .leaf (.seq .leaf (.seq (.seq .leaf (.sub none (.loop [8,10,32,33] .leaf))) .leaf))))))
 |18=>(.seq .leaf (.seq .leaf (.seq .leaf (.seq .leaf (.seq .leaf (.seq (.seq .leaf (.sub none (.loop [0,1,2,8,10,43] (.seq .leaf (.seq .leaf (.seq (.sub none (.seq .leaf (.seq .leaf (.sub none (.loop [0,1,2,8,10,11,43,50,51,52] .leaf))))) .leaf)))))) .leaf))))))
 |20=>(.seq .leaf (.sub none (.loop [0,2] .leaf)))
 |22=>(.seq .leaf (.seq .leaf (.seq .leaf (.seq .leaf (.seq (.seq .leaf (.sub none (.loop [0,1,2,8,10] .leaf))) .leaf)))))
 |23=>(.seq .leaf (.seq .leaf (.seq .leaf (.seq (.seq .leaf (.sub none (.loop [6,7,8,9] .leaf))) .leaf))))
 |24=>(.seq .leaf (.seq .leaf (.seq .leaf (.seq .leaf (.seq .leaf (.seq (.seq .leaf (.sub none (.loop [2,8,10,11] (.seq .leaf (.seq (.sub none (.seq .leaf (.sub none (.loop [2,8,10,11,12] .leaf)))) .leaf))))) .leaf))))))
 |25=>(.seq .leaf (.seq .leaf (.seq (.seq .leaf (.sub none (.loop [0,3,4] .leaf))) (.seq (.seq .leaf (.sub none (.loop [3,5] (.seq .leaf (.seq (.sub none (.seq .leaf (.sub none (.loop [3,5,6] .leaf)))) .leaf))))) (.seq (.seq .leaf (.sub none (.loop [2,3,7] (.seq .leaf (.seq (.sub none (.seq .leaf (.sub none (.loop [2,3,7,8] .leaf)))) .leaf))))) .leaf)))))
 |26=>(.seq .leaf (.seq .leaf (.seq (.seq .leaf (.sub none (.loop [0,3,4] .leaf))) (.seq (.seq .leaf (.sub none (.loop [3,5] (.seq .leaf (.seq (.sub none (.seq .leaf (.sub none (.loop [3,5,6] .leaf)))) .leaf))))) (.seq (.seq .leaf (.sub none (.loop [2,3,7] (.seq .leaf (.seq (.sub none (.seq .leaf (.sub none (.loop [2,3,7,8] .leaf)))) .leaf))))) .leaf)))))
 |28=>(.seq .leaf (.seq .leaf (.seq (.seq .leaf (.sub none (.loop [0,1,5,6] .leaf))) .leaf)))
 |31=>(.seq .leaf (.seq .leaf (.seq (.seq .leaf (.sub none (.loop [0,4,5,6,7,25,26] .leaf))) (.seq (.seq .leaf (.sub none (.loop [0,4,6,37,38] .leaf))) .leaf))))
 |32=>(.seq .leaf (.seq .leaf (.seq .leaf (.seq (.seq .leaf (.sub none (.loop [0,1,2,3,4,5] .leaf))) .leaf))))
 |37=>(.seq .leaf (.seq .leaf (.seq .leaf (.seq .leaf (.seq (.sub none (.loop [0,3,7] .leaf)) .leaf)))))
 |39=>(.seq .leaf (.seq .leaf (.seq .leaf (.seq .leaf (.seq .leaf (.seq .leaf (.seq .leaf (.seq .leaf (.seq .leaf (.seq (.seq .leaf (.sub none (.loop [0,3,6,7,8] .leaf))) .leaf))))))))))
 |40=>(.seq .leaf (.seq .leaf (.seq .leaf (.seq (.seq .leaf (.sub none (.loop [0,3,4,52,53] .leaf))) .leaf))))
 |41=>(.seq .leaf (.seq .leaf (.seq .leaf (.seq .leaf (.seq .leaf (.seq (.seq .leaf (.sub none (.loop [0,3,4,5] .leaf))) .leaf))))))
 |42=>(.seq .leaf (.seq .leaf (.seq (.seq .leaf (.sub none (.loop [0,2,21,22,23] (.seq .leaf (.seq .leaf (.seq (.sub none (.seq .leaf (.seq .leaf (.sub none (.loop [0,2,21,22,23,28,29,30] .leaf))))) .leaf)))))) .leaf)))
 |43=>(.seq .leaf (.seq .leaf (.seq .leaf (.seq (.seq .leaf (.sub none (.loop [0,2,3] (.seq .leaf (.seq (.sub none (.seq .leaf (.sub none (.loop [0,2,3,4] .leaf)))) .leaf))))) .leaf))))
 |49=>(.seq .leaf (.seq .leaf (.seq (.seq .leaf (.sub none (.loop [0,1,4,5] .leaf))) .leaf)))
 |50=>(.seq .leaf (.seq .leaf (.seq .leaf (.seq .leaf (.seq .leaf (.seq .leaf (.seq .leaf (.seq .leaf (.seq .leaf (.seq (.seq .leaf (.sub none (.loop [1,4,5,7,11] (.seq .leaf (.seq (.sub none (.seq .leaf (.sub none (.loop [1,4,5,7,11,12] .leaf)))) .leaf))))) .leaf))))))))))
 |51=>(.seq .leaf (.seq .leaf (.seq .leaf (.seq .leaf (.seq .leaf (.seq .leaf (.seq (.sub none (.loop [0,1,11,13,14] .leaf)) .leaf)))))))
 |52=>(.seq .leaf (.seq .leaf (.seq (.seq .leaf (.sub none (.loop [0,1,2,7,8] .leaf))) .leaf)))
 |53=>(.seq .leaf (.seq .leaf (.seq .leaf (.seq .leaf (.seq (.seq .leaf (.sub none (.loop [0,1,6,8,9] (.seq .leaf (.seq (.sub none (.seq .leaf (.seq .leaf (.sub none (.loop [0,1,6,8,9,11,13] .leaf))))) .leaf))))) .leaf)))))
 |61=>(.seq .leaf (.seq .leaf (.seq .leaf (.seq (.seq .leaf (.sub none (.loop [0,1,4,5,9,33,34,35] .leaf))) (.seq .leaf (.seq (.seq .leaf (.sub none (.loop [4,5,9,70,71,72] .leaf))) .leaf))))))
 |63=>(.seq .leaf (.seq .leaf (.seq .leaf (.seq .leaf (.seq .leaf (.seq .leaf (.seq (.sub none (.loop [11,13,15,16] .leaf)) .leaf)))))))
 |64=>(.seq .leaf (.seq .leaf (.seq (.seq .leaf (.sub none (.loop [0,2,7,13,14,15] .leaf))) .leaf)))
 |66=>(.seq .leaf (.seq .leaf (.seq (.seq .leaf (.sub none (.loop [1,2,13,14,15] .leaf))) .leaf)))
 |67=>(.seq .leaf (.seq (.seq .leaf (.sub none (.loop [0,1,4,9,10] .leaf))) .leaf))
 |72=>(.seq .leaf (.seq .leaf (.seq .leaf (.seq (.seq .leaf (.sub none (.loop [1,2,4] .leaf))) .leaf))))
 |73=>(.seq .leaf (.seq (.seq .leaf (.sub none (.loop [0,1,4,5] .leaf))) .leaf))
 |77=>(.seq .leaf (.seq .leaf (.seq (.seq .leaf (.sub none (.loop [2,19] .leaf))) .leaf)))
 |78=>(.seq .leaf (.seq .leaf (.seq (.seq .leaf (.sub none (.loop [0,2,3] .leaf))) .leaf)))
 |80=>(.seq .leaf (.seq .leaf (.seq .leaf (.seq (.seq .leaf (.sub none (.loop [0,2,4,6,7,8,49,50,51] .leaf))) (.seq .leaf (.seq (.seq .leaf (.sub none (.loop [4,6,7,8,15] .leaf))) .leaf))))))
 |82=>(.seq .leaf (.seq .leaf (.seq (.seq .leaf (.sub none (.loop [1,3,5,7,11,12,13] .leaf))) .leaf)))
 |83=>(.seq .leaf (.seq (.seq .leaf (.sub none (.loop [0,1,4,7,8] .leaf))) .leaf))
 |84=>(.seq .leaf (.seq .leaf (.seq (.seq .leaf (.sub none (.loop [1,5,7,16,17,18] .leaf))) .leaf)))
 |85=>(.seq .leaf (.seq .leaf (.seq (.seq .leaf (.sub none (.loop [0,1,4,5,6,7] .leaf))) .leaf)))
 |87=>(.seq .leaf (.seq .leaf (.seq (.seq .leaf (.sub none (.loop [0,1,2,3,9,10,11] (.seq .leaf (.seq (.sub none (.seq .leaf (.seq .leaf (.seq (.seq .leaf (.sub none (.loop [0,1,2,3,9,10,11,12,13] .leaf))) .leaf)))) .leaf))))) .leaf)))
 |88=>(.seq .leaf (.seq .leaf (.seq .leaf (.seq .leaf (.seq .leaf (.seq (.seq .leaf (.sub none (.loop [7,9,10,11,12] .leaf))) .leaf))))))
 |89=>(.seq .leaf (.seq .leaf (.seq (.seq .leaf (.sub none (.loop [0,4,5,6,7,8] .leaf))) (.seq (.seq .leaf (.sub none (.loop [0,4,5,6,9] .leaf))) .leaf))))
 |93=>(.seq .leaf (.seq .leaf (.seq .leaf (.seq (.seq .leaf (.sub none (.loop [0,3,4] .leaf))) .leaf))))
 |94=>(.seq .leaf (.seq .leaf (.seq .leaf (.seq (.seq .leaf (.sub none (.loop [0,3,4] .leaf))) .leaf))))
 |97=>(.seq .leaf (.sub none (.seq .leaf (.seq .leaf (.seq (.seq .leaf (.sub none (.loop [1,2,3,7,8,13,14,15] (.seq .leaf (.seq .leaf (.seq (.sub none (.seq .leaf (.seq .leaf (.seq (.seq .leaf (.sub none (.loop [1,2,3,7,8,9,10,13,14,15,32,33,34] .leaf))) .leaf)))) .leaf)))))) .leaf)))))
 |102=>(.seq .leaf (.seq .leaf (.seq (.seq .leaf (.sub none (.loop [0,2,3] .leaf))) .leaf)))
 |115=>(.seq .leaf (.seq .leaf (.seq .leaf (.seq (.seq .leaf (.sub none (.loop [0,1,2,3,9,10,11] (.seq .leaf (.seq (.sub none (.seq .leaf (.seq .leaf (.seq .leaf (.sub none (.loop [0,1,2,3,9,10,11,12,14] .leaf)))))) .leaf))))) .leaf))))
 |118=>(.seq .leaf (.seq .leaf (.seq .leaf (.seq (.seq .leaf (.sub none (.loop [0,1,2,7,9,10,11] .leaf))) .leaf))))
 |122=>(.seq .leaf (.seq .leaf (.seq (.seq .leaf (.sub none (.loop [1,2,3,7,13,14,15] (.seq .leaf (.seq .leaf (.seq (.sub none (.seq .leaf (.seq .leaf (.seq .leaf (.sub none (.loop [1,2,3,7,9,13,14,15,30,31,32] .leaf)))))) .leaf)))))) .leaf)))
 |144=>(.seq .leaf (.seq .leaf (.seq (.seq .leaf (.sub none (.loop [0,2,3] .leaf))) .leaf)))
 |145=>(.seq .leaf (.seq .leaf (.sub none (.loop [0,1,2,3,4,10,11] .leaf))))
 |150=>(.seq .leaf (.seq .leaf (.seq .leaf (.seq (.seq .leaf (.sub none (.loop [0,1,2,6,7,8] (.seq .leaf (.seq (.sub none (.seq .leaf (.seq .leaf (.seq .leaf (.seq .leaf (.seq .leaf (.seq .leaf (.seq .leaf (.sub none (.loop [0,1,2,6,7,8,9,12] .leaf)))))))))) .leaf))))) .leaf))))
 |151=>(.seq .leaf (.seq .leaf (.seq .leaf (.sub none (.loop [0,2,3,4] (.sub none (.seq .leaf (.seq (.seq .leaf (.sub none (.loop [0,3,4,5,6] .leaf))) .leaf))))))))
 |155=>(.seq .leaf (.seq .leaf (.seq (.seq .leaf (.sub none (.loop [0,1,4,5] .leaf))) .leaf)))
 |161=>(.seq .leaf (.seq .leaf (.seq (.seq .leaf (.sub none (.loop [0,1,4,12,13] .leaf))) .leaf)))
 |167=>(.seq .leaf (.sub none (.loop [0,1,2,3,8] (.seq .leaf (.seq (.sub none (.seq .leaf (.sub none (.loop [0,1,2,3,8,9] .leaf)))) .leaf)))))
 |168=>(.seq .leaf (.seq .leaf (.seq .leaf (.seq (.seq .leaf (.sub none (.loop [0,3,8,9,10,11] .leaf))) (.seq .leaf (.sub none (.loop [0,3,8,9,12] .leaf)))))))
 |169=>(.seq .leaf (.seq .leaf (.cond none (.seq .leaf (.seq .leaf (.seq .leaf (.sub none (.loop [0,1,8,9,10,11] .leaf))))) .leaf)))
 |171=>(.seq .leaf (.seq .leaf (.sub none (.loop [0,8,9] .leaf))))
 |172=>(.seq .leaf (.seq .leaf (.seq (.seq .leaf (.sub none (.loop [0,1,2,3,8,9,10] (.seq .leaf (.seq (.sub none (.seq (.sub none (.loop [0,1,2,3,9,10] .leaf)) (.seq .leaf (.seq .leaf (.seq .leaf (.seq (.seq .leaf (.cond none (.seq .leaf (.sub none (.loop [0,1,2,3,9,10,11] .leaf))) .leaf)) (.seq .leaf (.cond none (.seq .leaf (.sub none (.loop [0,1,2,3,9,10,12] .leaf))) .leaf)))))))) .leaf))))) .leaf)))
 |173=>(.seq .leaf (.seq .leaf (.seq .leaf (.seq (.sub none (.loop [0,1,4,11,12] (.sub none (.seq (.sub none (.loop [0,1,4,11,12] .leaf)) (.seq (.sub none (.loop [0,1,4,11,12] .leaf)) .leaf))))) .leaf))))
 |174=>(.seq .leaf (.seq .leaf (.seq .leaf (.seq (.sub none (.loop [0,1,4,12,13] .leaf)) (.seq (.sub none (.loop [0,1,4,12,13] .leaf)) (.seq .leaf (.seq .leaf (.seq .leaf (.seq .leaf (.seq (.sub none (.loop [0,1,4,12,13] (.sub none (.seq (.sub none (.loop [0,1,4,12,13] .leaf)) (.seq (.sub none (.loop [0,1,4,12,13] .leaf)) .leaf))))) .leaf))))))))))
 |180=>(.seq .leaf (.seq (.sub none (.loop [0,1] .leaf)) .leaf))
 |181=>(.seq .leaf (.seq (.sub none (.loop [0,1] .leaf)) .leaf))
 |182=>(.seq .leaf (.seq (.seq .leaf (.sub none (.loop [0,2,3,4] .leaf))) .leaf))
 |183=>(.seq .leaf (.seq (.sub none (.loop [0,1] .leaf)) .leaf))
 |184=>(.seq .leaf (.seq (.sub none (.loop [0,1] .leaf)) .leaf))
 |185=>(.seq .leaf (.seq (.sub none (.loop [0,1] .leaf)) .leaf))
 |186=>(.seq .leaf (.seq (.sub none (.loop [0,1] .leaf)) .leaf))
 |187=>(.seq .leaf (.sub none (.loop [0,2,3,4,10] .leaf)))
 |195=>(.seq .leaf (.seq .leaf (.seq .leaf (.seq .leaf (.seq .leaf (.seq .leaf (.seq .leaf (.seq (.seq .leaf (.sub none (.loop [0,4,5,6] .leaf))) .leaf))))))))
 |198=>.leaf
 |_=>.leaf
noncomputable def Tryz.env:Env:={ ty:=adB Tryz.tab,fn:=adC Tryz.prog Tryz.fns,hint:=Tryz.hint,ext:=fun _=>none }
theorem Tryz.ade:Tryz.env.Ok Tryz.prog:=adD (by kernel_rfl) (by kernel_rfl) (by kernel_rfl)
theorem Tryz.afj(k:Nat):kM Tryz.prog (aFn Tryz.env k):=aes Tryz.ade abM k
end Go.Proofs.YtijnknjopjmiiaaGreatDoor
end
section
namespace Go.Proofs.YtijnknjopjmiiaaGreatDoor
open Go Zq
namespace Zv
structure bM where
 Cards:Sl
 Marks:Sl
 Open:Bool
abbrev bn:Tag:=⟨bM,true,3,fun x=>[(.slice x.Cards.p x.Cards.len x.Cards.cap),(.slice x.Marks.p x.Marks.len x.Marks.cap),(.bool x.Open)],fun cs=>match cs with|[.slice c0p c0n c0k,.slice c1p c1n c1k,.bool c2]=>some (bM.mk (Sl.mk c0p c0n c0k) (Sl.mk c1p c1n c1k) c2)|_=>none,fun cs x h=>by
 split at h
 ·have h:=Option.some.inj h; subst h; rfl
 ·cases h⟩
structure bT where
 Card:Int
 Owner:Int
 Place:Int
 Stamp:Int
 Hurt:Int
 Marks:Int×Int×Int×Int
 Done:Int
 Fresh:Bool
abbrev aW:Tag:=⟨bT,true,11,fun x=>[(.int .i64 x.Card),(.int .i64 x.Owner),(.int .u8 x.Place),(.int .i64 x.Stamp),(.int .i64 x.Hurt),(.int .i64 x.Marks.1),(.int .i64 x.Marks.2.1),(.int .i64 x.Marks.2.2.1),(.int .i64 x.Marks.2.2.2),(.int .i64 x.Done),(.bool x.Fresh)],fun cs=>match cs with|[.int kc0 c0,.int kc1 c1,.int kc2 c2,.int kc3 c3,.int kc4 c4,.int kc5 c5,.int kc6 c6,.int kc7 c7,.int kc8 c8,.int kc9 c9,.bool c10]=>if kc0= .i64∧kc1= .i64∧kc2= .u8∧kc3= .i64∧kc4= .i64∧kc5= .i64∧kc6= .i64∧kc7= .i64∧kc8= .i64∧kc9= .i64 then some (bT.mk c0 c1 c2 c3 c4 (c5,c6,c7,c8) c9 c10)else none|_=>none,fun cs x h=>by
 split at h
 ·split at h
  ·rename_i e
   obtain⟨rfl,rfl,rfl,rfl,rfl,rfl,rfl,rfl,rfl,rfl⟩:=e
   have h:=Option.some.inj h; subst h; rfl
  ·cases h
 ·cases h⟩
structure aG where
 Holder:Int
 Suit:Int
 Traits:Int
 Power:Int
 Health:Int
abbrev aJ:Tag:=⟨aG,true,5,fun x=>[(.int .i64 x.Holder),(.int .u8 x.Suit),(.int .u16 x.Traits),(.int .i64 x.Power),(.int .i64 x.Health)],fun cs=>match cs with|[.int kc0 c0,.int kc1 c1,.int kc2 c2,.int kc3 c3,.int kc4 c4]=>if kc0= .i64∧kc1= .u8∧kc2= .u16∧kc3= .i64∧kc4= .i64 then some (aG.mk c0 c1 c2 c3 c4)else none|_=>none,fun cs x h=>by
 split at h
 ·split at h
  ·rename_i e
   obtain⟨rfl,rfl,rfl,rfl,rfl⟩:=e
   have h:=Option.some.inj h; subst h; rfl
  ·cases h
 ·cases h⟩
structure aV where
 When:Int
 Verb:Int
 Whom:Int
 Count:Int
 Suit:Int
 Trait:Int
 Mark:Int
 Name:ByteArray
abbrev aP:Tag:=⟨aV,true,8,fun x=>[(.int .u8 x.When),(.int .u8 x.Verb),(.int .u8 x.Whom),(.int .i64 x.Count),(.int .u8 x.Suit),(.int .u8 x.Trait),(.int .u8 x.Mark),(.string x.Name)],fun cs=>match cs with|[.int kc0 c0,.int kc1 c1,.int kc2 c2,.int kc3 c3,.int kc4 c4,.int kc5 c5,.int kc6 c6,.string c7]=>if kc0= .u8∧kc1= .u8∧kc2= .u8∧kc3= .i64∧kc4= .u8∧kc5= .u8∧kc6= .u8 then some (aV.mk c0 c1 c2 c3 c4 c5 c6 c7)else none|_=>none,fun cs x h=>by
 split at h
 ·split at h
  ·rename_i e
   obtain⟨rfl,rfl,rfl,rfl,rfl,rfl,rfl⟩:=e
   have h:=Option.some.inj h; subst h; rfl
  ·cases h
 ·cases h⟩
abbrev eG:Tag:=⟨Int×Int×Int×Int,true,4,fun x=>[(.int .i64 x.1),(.int .i64 x.2.1),(.int .i64 x.2.2.1),(.int .i64 x.2.2.2)],fun cs=>match cs with|[.int kc0 c0,.int kc1 c1,.int kc2 c2,.int kc3 c3]=>if kc0= .i64∧kc1= .i64∧kc2= .i64∧kc3= .i64 then some (c0,c1,c2,c3)else none|_=>none,fun cs x h=>by
 split at h
 ·split at h
  ·rename_i e
   obtain⟨rfl,rfl,rfl,rfl⟩:=e
   have h:=Option.some.inj h; subst h; rfl
  ·cases h
 ·cases h⟩
structure aN where
 Thing:Int
 Place:Int
 What:aV
abbrev aF:Tag:=⟨aN,true,10,fun x=>[(.int .i64 x.Thing),(.int .i64 x.Place),(.int .u8 x.What.When),(.int .u8 x.What.Verb),(.int .u8 x.What.Whom),(.int .i64 x.What.Count),(.int .u8 x.What.Suit),(.int .u8 x.What.Trait),(.int .u8 x.What.Mark),(.string x.What.Name)],fun cs=>match cs with|[.int kc0 c0,.int kc1 c1,.int kc2 c2,.int kc3 c3,.int kc4 c4,.int kc5 c5,.int kc6 c6,.int kc7 c7,.int kc8 c8,.string c9]=>if kc0= .i64∧kc1= .i64∧kc2= .u8∧kc3= .u8∧kc4= .u8∧kc5= .i64∧kc6= .u8∧kc7= .u8∧kc8= .u8 then some (aN.mk c0 c1 (aV.mk c2 c3 c4 c5 c6 c7 c8 c9))else none|_=>none,fun cs x h=>by
 split at h
 ·split at h
  ·rename_i e
   obtain⟨rfl,rfl,rfl,rfl,rfl,rfl,rfl,rfl,rfl⟩:=e
   have h:=Option.some.inj h; subst h; rfl
  ·cases h
 ·cases h⟩
structure ay where
 Name:ByteArray
 Suit:Int
 Kind:Int
 Cost:Int
 Power:Int
 Health:Int
 Traits:Int
 Token:Bool
 Parts:Sl
abbrev aA:Tag:=⟨ay,true,9,fun x=>[(.string x.Name),(.int .u8 x.Suit),(.int .u8 x.Kind),(.int .i64 x.Cost),(.int .i64 x.Power),(.int .i64 x.Health),(.int .u16 x.Traits),(.bool x.Token),(.slice x.Parts.p x.Parts.len x.Parts.cap)],fun cs=>match cs with|[.string c0,.int kc1 c1,.int kc2 c2,.int kc3 c3,.int kc4 c4,.int kc5 c5,.int kc6 c6,.bool c7,.slice c8p c8n c8k]=>if kc1= .u8∧kc2= .u8∧kc3= .i64∧kc4= .i64∧kc5= .i64∧kc6= .u16 then some (ay.mk c0 c1 c2 c3 c4 c5 c6 c7 (Sl.mk c8p c8n c8k))else none|_=>none,fun cs x h=>by
 split at h
 ·split at h
  ·rename_i e
   obtain⟨rfl,rfl,rfl,rfl,rfl,rfl⟩:=e
   have h:=Option.some.inj h; subst h; rfl
  ·cases h
 ·cases h⟩
structure ak where
 Mark:Int
 Name:ByteArray
 Power:Int
 Health:Int
abbrev aT:Tag:=⟨ak,true,4,fun x=>[(.int .u8 x.Mark),(.string x.Name),(.int .i64 x.Power),(.int .i64 x.Health)],fun cs=>match cs with|[.int kc0 c0,.string c1,.int kc2 c2,.int kc3 c3]=>if kc0= .u8∧kc2= .i64∧kc3= .i64 then some (ak.mk c0 c1 c2 c3)else none|_=>none,fun cs x h=>by
 split at h
 ·split at h
  ·rename_i e
   obtain⟨rfl,rfl,rfl⟩:=e
   have h:=Option.some.inj h; subst h; rfl
  ·cases h
 ·cases h⟩
abbrev fC:Tag:=⟨ak×ak×ak×ak×ak,true,20,fun x=>[(.int .u8 x.1.Mark),(.string x.1.Name),(.int .i64 x.1.Power),(.int .i64 x.1.Health),(.int .u8 x.2.1.Mark),(.string x.2.1.Name),(.int .i64 x.2.1.Power),(.int .i64 x.2.1.Health),(.int .u8 x.2.2.1.Mark),(.string x.2.2.1.Name),(.int .i64 x.2.2.1.Power),(.int .i64 x.2.2.1.Health),(.int .u8 x.2.2.2.1.Mark),(.string x.2.2.2.1.Name),(.int .i64 x.2.2.2.1.Power),(.int .i64 x.2.2.2.1.Health),(.int .u8 x.2.2.2.2.Mark),(.string x.2.2.2.2.Name),(.int .i64 x.2.2.2.2.Power),(.int .i64 x.2.2.2.2.Health)],fun cs=>match cs with|[.int kc0 c0,.string c1,.int kc2 c2,.int kc3 c3,.int kc4 c4,.string c5,.int kc6 c6,.int kc7 c7,.int kc8 c8,.string c9,.int kc10 c10,.int kc11 c11,.int kc12 c12,.string c13,.int kc14 c14,.int kc15 c15,.int kc16 c16,.string c17,.int kc18 c18,.int kc19 c19]=>if kc0= .u8∧kc2= .i64∧kc3= .i64∧kc4= .u8∧kc6= .i64∧kc7= .i64∧kc8= .u8∧kc10= .i64∧kc11= .i64∧kc12= .u8∧kc14= .i64∧kc15= .i64∧kc16= .u8∧kc18= .i64∧kc19= .i64 then some ((ak.mk c0 c1 c2 c3),(ak.mk c4 c5 c6 c7),(ak.mk c8 c9 c10 c11),(ak.mk c12 c13 c14 c15),(ak.mk c16 c17 c18 c19))else none|_=>none,fun cs x h=>by
 split at h
 ·split at h
  ·rename_i e
   obtain⟨rfl,rfl,rfl,rfl,rfl,rfl,rfl,rfl,rfl,rfl,rfl,rfl,rfl,rfl,rfl⟩:=e
   have h:=Option.some.inj h; subst h; rfl
  ·cases h
 ·cases h⟩
structure aH where
 b:Option Addr
 things:Sl
 cards:Sl
 order:Sl
abbrev aC:Tag:=⟨aH,true,4,fun x=>[(.pointer x.b),(.slice x.things.p x.things.len x.things.cap),(.slice x.cards.p x.cards.len x.cards.cap),(.slice x.order.p x.order.len x.order.cap)],fun cs=>match cs with|[.pointer c0,.slice c1p c1n c1k,.slice c2p c2n c2k,.slice c3p c3n c3k]=>some (aH.mk c0 (Sl.mk c1p c1n c1k) (Sl.mk c2p c2n c2k) (Sl.mk c3p c3n c3k))|_=>none,fun cs x h=>by
 split at h
 ·have h:=Option.some.inj h; subst h; rfl
 ·cases h⟩
structure Dp where
 S:aN
 About:Sl
abbrev Jz:Tag:=⟨Dp,true,11,fun x=>[(.int .i64 x.S.Thing),(.int .i64 x.S.Place),(.int .u8 x.S.What.When),(.int .u8 x.S.What.Verb),(.int .u8 x.S.What.Whom),(.int .i64 x.S.What.Count),(.int .u8 x.S.What.Suit),(.int .u8 x.S.What.Trait),(.int .u8 x.S.What.Mark),(.string x.S.What.Name),(.slice x.About.p x.About.len x.About.cap)],fun cs=>match cs with|[.int kc0 c0,.int kc1 c1,.int kc2 c2,.int kc3 c3,.int kc4 c4,.int kc5 c5,.int kc6 c6,.int kc7 c7,.int kc8 c8,.string c9,.slice c10p c10n c10k]=>if kc0= .i64∧kc1= .i64∧kc2= .u8∧kc3= .u8∧kc4= .u8∧kc5= .i64∧kc6= .u8∧kc7= .u8∧kc8= .u8 then some (Dp.mk (aN.mk c0 c1 (aV.mk c2 c3 c4 c5 c6 c7 c8 c9)) (Sl.mk c10p c10n c10k))else none|_=>none,fun cs x h=>by
 split at h
 ·split at h
  ·rename_i e
   obtain⟨rfl,rfl,rfl,rfl,rfl,rfl,rfl,rfl,rfl⟩:=e
   have h:=Option.some.inj h; subst h; rfl
  ·cases h
 ·cases h⟩
structure Dq where
 Made:Bool
 Shut:Bool
 List:Sl
 Names:ByteArray×ByteArray×ByteArray×ByteArray×ByteArray×ByteArray×ByteArray×ByteArray×ByteArray
 Marked:ak×ak×ak×ak×ak
abbrev JA:Tag:=⟨Dq,true,32,fun x=>[(.bool x.Made),(.bool x.Shut),(.slice x.List.p x.List.len x.List.cap),(.string x.Names.1),(.string x.Names.2.1),(.string x.Names.2.2.1),(.string x.Names.2.2.2.1),(.string x.Names.2.2.2.2.1),(.string x.Names.2.2.2.2.2.1),(.string x.Names.2.2.2.2.2.2.1),(.string x.Names.2.2.2.2.2.2.2.1),(.string x.Names.2.2.2.2.2.2.2.2),(.int .u8 x.Marked.1.Mark),(.string x.Marked.1.Name),(.int .i64 x.Marked.1.Power),(.int .i64 x.Marked.1.Health),(.int .u8 x.Marked.2.1.Mark),(.string x.Marked.2.1.Name),(.int .i64 x.Marked.2.1.Power),(.int .i64 x.Marked.2.1.Health),(.int .u8 x.Marked.2.2.1.Mark),(.string x.Marked.2.2.1.Name),(.int .i64 x.Marked.2.2.1.Power),(.int .i64 x.Marked.2.2.1.Health),(.int .u8 x.Marked.2.2.2.1.Mark),(.string x.Marked.2.2.2.1.Name),(.int .i64 x.Marked.2.2.2.1.Power),(.int .i64 x.Marked.2.2.2.1.Health),(.int .u8 x.Marked.2.2.2.2.Mark),(.string x.Marked.2.2.2.2.Name),(.int .i64 x.Marked.2.2.2.2.Power),(.int .i64 x.Marked.2.2.2.2.Health)],fun cs=>match cs with|[.bool c0,.bool c1,.slice c2p c2n c2k,.string c3,.string c4,.string c5,.string c6,.string c7,.string c8,.string c9,.string c10,.string c11,.int kc12 c12,.string c13,.int kc14 c14,.int kc15 c15,.int kc16 c16,.string c17,.int kc18 c18,.int kc19 c19,.int kc20 c20,.string c21,.int kc22 c22,.int kc23 c23,.int kc24 c24,.string c25,.int kc26 c26,.int kc27 c27,.int kc28 c28,.string c29,.int kc30 c30,.int kc31 c31]=>if kc12= .u8∧kc14= .i64∧kc15= .i64∧kc16= .u8∧kc18= .i64∧kc19= .i64∧kc20= .u8∧kc22= .i64∧kc23= .i64∧kc24= .u8∧kc26= .i64∧kc27= .i64∧kc28= .u8∧kc30= .i64∧kc31= .i64 then some (Dq.mk c0 c1 (Sl.mk c2p c2n c2k) (c3,c4,c5,c6,c7,c8,c9,c10,c11) ((ak.mk c12 c13 c14 c15),(ak.mk c16 c17 c18 c19),(ak.mk c20 c21 c22 c23),(ak.mk c24 c25 c26 c27),(ak.mk c28 c29 c30 c31)))else none|_=>none,fun cs x h=>by
 split at h
 ·split at h
  ·rename_i e
   obtain⟨rfl,rfl,rfl,rfl,rfl,rfl,rfl,rfl,rfl,rfl,rfl,rfl,rfl,rfl,rfl⟩:=e
   have h:=Option.some.inj h; subst h; rfl
  ·cases h
 ·cases h⟩
structure aI where
 lo:Int
 hi:Int
abbrev yA:Tag:=⟨aI,true,2,fun x=>[(.int .u8 x.lo),(.int .u8 x.hi)],fun cs=>match cs with|[.int kc0 c0,.int kc1 c1]=>if kc0= .u8∧kc1= .u8 then some (aI.mk c0 c1)else none|_=>none,fun cs x h=>by
 split at h
 ·split at h
  ·rename_i e
   obtain⟨rfl,rfl⟩:=e
   have h:=Option.some.inj h; subst h; rfl
  ·cases h
 ·cases h⟩
abbrev oh:Tag:=⟨aI×aI×aI×aI×aI×aI×aI×aI×aI×aI×aI×aI×aI×aI×aI×aI,true,32,fun x=>[(.int .u8 x.1.lo),(.int .u8 x.1.hi),(.int .u8 x.2.1.lo),(.int .u8 x.2.1.hi),(.int .u8 x.2.2.1.lo),(.int .u8 x.2.2.1.hi),(.int .u8 x.2.2.2.1.lo),(.int .u8 x.2.2.2.1.hi),(.int .u8 x.2.2.2.2.1.lo),(.int .u8 x.2.2.2.2.1.hi),(.int .u8 x.2.2.2.2.2.1.lo),(.int .u8 x.2.2.2.2.2.1.hi),(.int .u8 x.2.2.2.2.2.2.1.lo),(.int .u8 x.2.2.2.2.2.2.1.hi),(.int .u8 x.2.2.2.2.2.2.2.1.lo),(.int .u8 x.2.2.2.2.2.2.2.1.hi),(.int .u8 x.2.2.2.2.2.2.2.2.1.lo),(.int .u8 x.2.2.2.2.2.2.2.2.1.hi),(.int .u8 x.2.2.2.2.2.2.2.2.2.1.lo),(.int .u8 x.2.2.2.2.2.2.2.2.2.1.hi),(.int .u8 x.2.2.2.2.2.2.2.2.2.2.1.lo),(.int .u8 x.2.2.2.2.2.2.2.2.2.2.1.hi),(.int .u8 x.2.2.2.2.2.2.2.2.2.2.2.1.lo),(.int .u8 x.2.2.2.2.2.2.2.2.2.2.2.1.hi),(.int .u8 x.2.2.2.2.2.2.2.2.2.2.2.2.1.lo),(.int .u8 x.2.2.2.2.2.2.2.2.2.2.2.2.1.hi),(.int .u8 x.2.2.2.2.2.2.2.2.2.2.2.2.2.1.lo),(.int .u8 x.2.2.2.2.2.2.2.2.2.2.2.2.2.1.hi),(.int .u8 x.2.2.2.2.2.2.2.2.2.2.2.2.2.2.1.lo),(.int .u8 x.2.2.2.2.2.2.2.2.2.2.2.2.2.2.1.hi),(.int .u8 x.2.2.2.2.2.2.2.2.2.2.2.2.2.2.2.lo),(.int .u8 x.2.2.2.2.2.2.2.2.2.2.2.2.2.2.2.hi)],fun cs=>match cs with|[.int kc0 c0,.int kc1 c1,.int kc2 c2,.int kc3 c3,.int kc4 c4,.int kc5 c5,.int kc6 c6,.int kc7 c7,.int kc8 c8,.int kc9 c9,.int kc10 c10,.int kc11 c11,.int kc12 c12,.int kc13 c13,.int kc14 c14,.int kc15 c15,.int kc16 c16,.int kc17 c17,.int kc18 c18,.int kc19 c19,.int kc20 c20,.int kc21 c21,.int kc22 c22,.int kc23 c23,.int kc24 c24,.int kc25 c25,.int kc26 c26,.int kc27 c27,.int kc28 c28,.int kc29 c29,.int kc30 c30,.int kc31 c31]=>if kc0= .u8∧kc1= .u8∧kc2= .u8∧kc3= .u8∧kc4= .u8∧kc5= .u8∧kc6= .u8∧kc7= .u8∧kc8= .u8∧kc9= .u8∧kc10= .u8∧kc11= .u8∧kc12= .u8∧kc13= .u8∧kc14= .u8∧kc15= .u8∧kc16= .u8∧kc17= .u8∧kc18= .u8∧kc19= .u8∧kc20= .u8∧kc21= .u8∧kc22= .u8∧kc23= .u8∧kc24= .u8∧kc25= .u8∧kc26= .u8∧kc27= .u8∧kc28= .u8∧kc29= .u8∧kc30= .u8∧kc31= .u8 then some ((aI.mk c0 c1),(aI.mk c2 c3),(aI.mk c4 c5),(aI.mk c6 c7),(aI.mk c8 c9),(aI.mk c10 c11),(aI.mk c12 c13),(aI.mk c14 c15),(aI.mk c16 c17),(aI.mk c18 c19),(aI.mk c20 c21),(aI.mk c22 c23),(aI.mk c24 c25),(aI.mk c26 c27),(aI.mk c28 c29),(aI.mk c30 c31))else none|_=>none,fun cs x h=>by
 split at h
 ·split at h
  ·rename_i e
   obtain⟨rfl,rfl,rfl,rfl,rfl,rfl,rfl,rfl,rfl,rfl,rfl,rfl,rfl,rfl,rfl,rfl,rfl,rfl,rfl,rfl,rfl,rfl,rfl,rfl,rfl,rfl,rfl,rfl,rfl,rfl,rfl,rfl⟩:=e
   have h:=Option.some.inj h; subst h; rfl
  ·cases h
 ·cases h⟩
noncomputable abbrev P:Program:=Tryz.prog
noncomputable abbrev E:Env:=Tryz.env
def adf:TypeId->Tag:=fun t=>match t with
 |3=>(au .i64)
 |4=>ah
 |5=>(au .u8)
 |9=>dH
 |20=>rF
 |21=>(au .i32)
 |22=>aK
 |23=>aK
 |25=>bn
 |26=>aK
 |27=>aK
 |29=>dK
 |30=>aK
 |34=>(au .i64)
 |37=>aK
 |42=>rF
 |43=>(au .u8)
 |44=>eG
 |46=>aW
 |47=>(au .u8)
 |49=>(au .u16)
 |51=>aJ
 |52=>(au .u8)
 |53=>(au .u8)
 |54=>(au .u8)
 |55=>(au .u8)
 |56=>(au .u8)
 |58=>aP
 |60=>aF
 |63=>dK
 |76=>aK
 |78=>aK
 |87=>rF
 |94=>(au .u8)
 |95=>aK
 |97=>aA
 |101=>aT
 |110=>aK
 |114=>Jz
 |123=>rF
 |124=>rF
 |129=>fC
 |133=>JA
 |139=>aC
 |167=>dK
 |195=>(au .u64)
 |210=>(au .i64)
 |218=>(au .u32)
 |220=>(au .u64)
 |229=>dK
 |230=>(au .u64)
 |234=>dK
 |240=>dK
 |245=>yA
 |246=>oh
 |_=>rF
def aeB:FuncId->List Tag:=fun f=>match f with
 |3=>[ah]
 |4=>[ah]
 |5=>[ah]
 |6=>[ah]
 |7=>[dK,aK,ah]
 |8=>[aK]
 |9=>[aK,(au .i64)]
 |10=>[aK,(au .i64)]
 |11=>[ah]
 |12=>[ah]
 |13=>[(au .i64)]
 |14=>[ah]
 |15=>[dK,dK,ah]
 |16=>[aK]
 |17=>[aK,(au .i64)]
 |18=>[aK,(au .i64)]
 |19=>[ah]
 |21=>[aK,(au .i64)]
 |22=>[aK,(au .i64)]
 |23=>[aK,(au .i64)]
 |24=>[aK,(au .i64)]
 |25=>[ah]
 |26=>[ah]
 |27=>[(au .i64)]
 |28=>[ah]
 |29=>[aJ]
 |30=>[aJ,(au .i64)]
 |31=>[aJ,(au .i64)]
 |32=>[dK,aK,ah]
 |33=>[aK]
 |34=>[rF,(au .i64)]
 |35=>[dK]
 |36=>[dK]
 |37=>[(au .i64)]
 |38=>[aA]
 |39=>[(au .i64)]
 |40=>[(au .i64)]
 |41=>[(au .i64)]
 |42=>[(au .i64)]
 |43=>[(au .i64)]
 |44=>[ah]
 |45=>[ah]
 |46=>[aK,(au .i64)]
 |47=>[ah]
 |48=>[aK,(au .i64)]
 |49=>[ah]
 |50=>[aK,(au .i64)]
 |51=>[aK,aK,(au .i64)]
 |52=>[aK]
 |53=>[aK,(au .i64)]
 |54=>[aJ]
 |55=>[aF]
 |56=>[aA,(au .i64)]
 |57=>[(au .i64),(au .i64)]
 |58=>[aT,ah]
 |59=>[(au .i64)]
 |60=>[aW]
 |61=>[aK,(au .i64)]
 |62=>[aK,aK]
 |63=>[aK,aK,(au .i64)]
 |64=>[aK]
 |65=>[(au .i64)]
 |66=>[(au .i64)]
 |67=>[(au .i64)]
 |68=>[ah]
 |69=>[aA]
 |70=>[aK]
 |71=>[ah]
 |72=>[(au .i64)]
 |73=>[(au .i64)]
 |74=>[ah]
 |75=>[aA]
 |76=>[ah]
 |77=>[ah]
 |78=>[ah]
 |79=>[ah]
 |80=>[aC,(au .i64)]
 |81=>[ah]
 |82=>[aK]
 |83=>[(au .i64)]
 |84=>[aK]
 |85=>[aK,ah]
 |86=>[aK,(au .i64)]
 |87=>[(au .i64)]
 |88=>[aK]
 |89=>[aJ,(au .i64)]
 |90=>[aK,(au .i64)]
 |91=>[aK,(au .i64)]
 |92=>[aA,(au .i64)]
 |93=>[(au .i64)]
 |94=>[(au .i64)]
 |95=>[aK,(au .i64)]
 |96=>[aK]
 |97=>[(au .i64)]
 |98=>[aK]
 |99=>[aK]
 |100=>[(au .i64)]
 |101=>[(au .i64)]
 |102=>[ah]
 |103=>[ah]
 |104=>[ah]
 |105=>[(au .i64)]
 |106=>[ah]
 |108=>[(au .i64)]
 |109=>[ah]
 |110=>[ah]
 |111=>[(au .u16)]
 |112=>[(au .u16)]
 |113=>[aJ,(au .i64)]
 |114=>[(au .i64)]
 |115=>[aK]
 |116=>[ah]
 |117=>[ah]
 |118=>[aK]
 |119=>[aJ]
 |120=>[aT,ah]
 |121=>[ah]
 |122=>[aK]
 |123=>[ah]
 |124=>[ah]
 |125=>[ah]
 |126=>[dH]
 |127=>[dH]
 |128=>[ah]
 |129=>[ah,ah,ah,ah,ah]
 |130=>[(au .i64),(au .i64),ah]
 |131=>[ah]
 |132=>[ah]
 |133=>[ah]
 |134=>[ah]
 |135=>[ah]
 |136=>[ah]
 |137=>[ah]
 |138=>[ah,ah,ah,ah,ah]
 |139=>[(au .i64)]
 |140=>[(au .i64)]
 |141=>[ah]
 |142=>[ah]
 |143=>[ah]
 |144=>[ah]
 |146=>[(au .i64)]
 |147=>[ah]
 |148=>[(au .u16)]
 |149=>[aA,(au .i64)]
 |150=>[ah]
 |151=>[aK]
 |152=>[ah]
 |153=>[aA,(au .i64)]
 |154=>[(au .i64)]
 |155=>[ah]
 |156=>[ah]
 |157=>[(au .u16)]
 |158=>[(au .u16)]
 |159=>[ah]
 |160=>[(au .i64)]
 |161=>[ah]
 |162=>[dH]
 |163=>[ah]
 |164=>[ah]
 |165=>[ah]
 |166=>[(au .i64),(au .i64)]
 |170=>[(au .i64),(au .i64)]
 |172=>[ah]
 |173=>[(au .i64)]
 |174=>[(au .i64),ah]
 |175=>[(au .i64)]
 |176=>[(au .i64)]
 |177=>[ah]
 |178=>[(au .u16)]
 |179=>[ah]
 |180=>[dH]
 |181=>[dH]
 |183=>[dH]
 |184=>[dH]
 |185=>[dH]
 |186=>[dH]
 |188=>[(au .u64)]
 |189=>[(au .u64)]
 |190=>[(au .i64)]
 |191=>[(au .i64)]
 |192=>[ah]
 |193=>[(au .i32),(au .i64)]
 |194=>[ah]
 |195=>[(au .i32),(au .i64)]
 |196=>[(au .i64),(au .i64)]
 |197=>[(au .i32),(au .i64)]
 |198=>[(au .i64)]
 |199=>[ah]
 |200=>[(au .i64)]
 |201=>[ah]
 |_=>[]
def aeC:TypeId->Option Tag:=fun t=>match t with
 |_=>none
def afk:TypeId->List Tag:=fun t=>match t with
 |0=>[]
 |31=>[dK,aK,ah]
 |35=>[aK,(au .i64)]
 |38=>[aK,(au .i64)]
 |64=>[dK,dK,ah]
 |82=>[aJ,(au .i64)]
 |85=>[dK,aK,ah]
 |88=>[rF,(au .i64)]
 |90=>[aK,aK]
 |103=>[aK,(au .i64)]
 |107=>[aK,aK,(au .i64)]
 |111=>[aK,(au .i64)]
 |117=>[aA,(au .i64)]
 |119=>[(au .i64),(au .i64)]
 |121=>[aT,ah]
 |140=>[aC,(au .i64)]
 |146=>[aK,ah]
 |183=>[ah,ah,ah,ah,ah]
 |185=>[(au .i64),(au .i64),ah]
 |207=>[(au .i64),(au .i64)]
 |211=>[(au .i64),(au .i64)]
 |215=>[(au .i64),ah]
 |237=>[(au .i32),(au .i64)]
 |t=>[adf t]
noncomputable def C:kN:={ E:=E,P:=P,tag:=adf,res:=aeB,lkp:=aeC,rt:=afk }
theorem hE:C.E.Ok C.P:=Tryz.ade
abbrev lD:FuncId:=5
abbrev Au:FuncId:=6
abbrev rZ:FuncId:=7
abbrev EY:FuncId:=9
abbrev vT:FuncId:=10
abbrev su:FuncId:=14
abbrev yB:FuncId:=15
abbrev sD:FuncId:=17
abbrev Bo:FuncId:=18
abbrev nM:FuncId:=27
abbrev sF:FuncId:=28
abbrev sG:FuncId:=29
abbrev iW:FuncId:=30
abbrev jC:FuncId:=31
abbrev nR:FuncId:=34
abbrev Bq:FuncId:=35
abbrev yC:FuncId:=36
abbrev mQ:FuncId:=37
abbrev lF:FuncId:=38
abbrev lG:FuncId:=39
abbrev mV:FuncId:=40
abbrev lH:FuncId:=41
abbrev mW:FuncId:=42
abbrev lI:FuncId:=43
abbrev iL:FuncId:=44
abbrev jU:FuncId:=45
abbrev sH:FuncId:=46
abbrev fZ:FuncId:=47
abbrev sJ:FuncId:=48
abbrev pz:FuncId:=56
abbrev jR:FuncId:=57
abbrev kQ:FuncId:=58
abbrev qg:FuncId:=61
abbrev jf:FuncId:=62
abbrev nS:FuncId:=63
abbrev sK:FuncId:=64
abbrev iI:FuncId:=65
abbrev vU:FuncId:=66
abbrev gX:FuncId:=67
abbrev vV:FuncId:=68
abbrev rH:FuncId:=69
abbrev xq:FuncId:=70
abbrev fD:FuncId:=71
abbrev sN:FuncId:=72
abbrev iM:FuncId:=73
abbrev sO:FuncId:=74
abbrev lJ:FuncId:=75
abbrev nN:FuncId:=76
abbrev yD:FuncId:=77
abbrev vW:FuncId:=78
abbrev eH:FuncId:=79
abbrev gY:FuncId:=80
abbrev jv:FuncId:=81
abbrev dU:FuncId:=82
abbrev lK:FuncId:=83
abbrev fG:FuncId:=84
abbrev qh:FuncId:=92
abbrev jD:FuncId:=93
abbrev jE:FuncId:=94
abbrev ou:FuncId:=95
abbrev bU:FuncId:=96
abbrev kR:FuncId:=97
abbrev cu:FuncId:=98
abbrev dh:FuncId:=99
abbrev yE:FuncId:=100
abbrev qj:FuncId:=101
abbrev oz:FuncId:=102
abbrev fP:FuncId:=103
abbrev sQ:FuncId:=104
abbrev sS:FuncId:=105
abbrev kH:FuncId:=106
abbrev gq:FuncId:=107
abbrev dW:FuncId:=108
abbrev sV:FuncId:=109
abbrev jV:FuncId:=110
abbrev vX:FuncId:=111
abbrev oC:FuncId:=112
abbrev jh:FuncId:=122
abbrev iF:FuncId:=123
abbrev ji:FuncId:=124
abbrev vY:FuncId:=125
abbrev yF:FuncId:=126
abbrev yG:FuncId:=127
abbrev kJ:FuncId:=128
abbrev sW:FuncId:=129
abbrev oD:FuncId:=130
abbrev oG:FuncId:=131
abbrev ql:FuncId:=132
abbrev jW:FuncId:=133
abbrev gZ:FuncId:=134
abbrev gu:FuncId:=135
abbrev iq:FuncId:=136
abbrev sZ:FuncId:=137
abbrev vZ:FuncId:=138
abbrev pF:FuncId:=139
abbrev tq:FuncId:=140
abbrev tu:FuncId:=141
abbrev oH:FuncId:=142
abbrev jF:FuncId:=143
abbrev wo:FuncId:=144
abbrev rJ:FuncId:=147
abbrev nT:FuncId:=148
abbrev qm:FuncId:=160
abbrev iO:FuncId:=161
abbrev jG:FuncId:=162
abbrev jw:FuncId:=163
abbrev jA:FuncId:=164
abbrev qo:FuncId:=165
abbrev lM:FuncId:=166
abbrev JB:FuncId:=177
end Zv
end Go.Proofs.YtijnknjopjmiiaaGreatDoor
end
section
namespace Go.Proofs.YtijnknjopjmiiaaGreatDoor.Zq
theorem adF(a b:UInt8):a<b∨a=b∨b<a:=by
 have h:a.toNat<b.toNat∨a.toNat=b.toNat∨b.toNat<a.toNat:=by omega
 rcases h with h|h|h
 ·exact .inl (UInt8.lt_iff_toNat_lt.2 h)
 ·exact .inr (.inl (UInt8.toNat_inj.1 h))
 ·exact .inr (.inr (UInt8.lt_iff_toNat_lt.2 h))
theorem aeD{a b c:UInt8}(h:a<b)(k:b<c):a<c:=UInt8.lt_iff_toNat_lt.2 (by have:=UInt8.lt_iff_toNat_lt.1 h; have:=UInt8.lt_iff_toNat_lt.1 k; omega)
theorem adg:∀{x y z:List UInt8},Op.bytesLess x y=true->Op.bytesLess y z=true->Op.bytesLess x z=true
 |_,[],_,h,_=>by simp[Op.bytesLess]at h
 |_,_::_,[],_,k=>by simp[Op.bytesLess]at k
 |[],b::y,c::z,_,_=>rfl
 |a::x,b::y,c::z,h,k=>by
  simp only[Op.bytesLess,Bool.or_eq_true,Bool.and_eq_true,decide_eq_true_eq,beq_iff_eq]at h k ⊢
  rcases h with h|⟨rfl,h⟩
  ·rcases k with k|⟨rfl,k⟩
   ·exact .inl (aeD h k)
   ·exact .inl h
  ·rcases k with k|⟨rfl,k⟩
   ·exact .inl k
   ·exact .inr ⟨rfl,adg h k⟩
theorem ZP:∀{x y:List UInt8},x≠y->Op.bytesLess x y=false->Op.bytesLess y x=true
 |[],[],h,_=>absurd rfl h
 |[],_::_,_,k=>by simp[Op.bytesLess]at k
 |_::_,[],_,_=>rfl
 |a::x,b::y,h,k=>by
  simp only[Op.bytesLess,Bool.or_eq_false_iff,Bool.and_eq_false_iff,decide_eq_false_iff_not,beq_eq_false_iff_ne,ne_eq]at k
  simp only[Op.bytesLess,Bool.or_eq_true,Bool.and_eq_true,decide_eq_true_eq,beq_iff_eq]
  rcases adF a b with q|q|q
  ·exact absurd q k.1
  ·subst q
   refine .inr ⟨rfl,ZP (fun e=>h (by rw[e])) ?_⟩
   rcases k.2 with e|e
   ·exact absurd rfl e
   ·exact e
  ·exact .inl q
section
variable{α:Type}(lt:α->α->Bool)
def insL(x:α)(l:List α):List α:=l.takeWhile (fun d=> !lt x d)++x::l.dropWhile (fun d=> !lt x d)
def ZQ(l:List α):Prop:=l.Pairwise fun a b=>lt a b=true
variable{lt}
theorem wu{p:α->Bool}:∀(l:List α) (i:Nat),i≤l.length->(∀(j:Nat) (h:j<l.length),j<i->p l[j]=true)->(∀(h:i<l.length),p l[i]=false)->l.takeWhile p=l.take i∧l.dropWhile p=l.drop i
 |[],i,h,_,_=>by
  have:i=0:=by simpa using h
  subst this; exact⟨rfl,rfl⟩
 |a::l,0,_,_,h2=>by
  have:p a=false:=h2 (by simp)
  simp[this]
 |a::l,i+1,h,h1,h2=>by
  have ha:p a=true:=h1 0 (by simp) (by omega)
  obtain⟨e1,e2⟩:=wu l i (by simpa using h) (fun j hj hji=>h1 (j+1) (by simpa using hj) (by omega)) (fun hi=>h2 (by simpa using hi))
  simp[ha,e1,e2]
theorem ZR(tr:∀{a b c:α},lt a b=true->lt b c=true->lt a c=true){x:α}{l:List α}(hs:ZQ lt l){i:Nat}(hi:i≤l.length)(h1:∀(j:Nat) (h:j<l.length),i≤j->lt x l[j]=true)(h2:∀(h:0<i),lt x (l[i-1]'(by omega))=false):insL lt x l=l.take i++x::l.drop i:=by
 unfold insL
 have k1:∀(j:Nat) (h:j<l.length),j<i->(!lt x l[j])=true:=fun j hj hji=>by
  have h3:=h2 (by omega)
  cases hb:lt x l[j]with
  |false=>rfl
  |true=>
   by_cases e:j=i-1
   ·subst e; rw[hb]at h3; cases h3
   ·have:=List.pairwise_iff_getElem.1 hs j (i-1) hj (by omega) (by omega)
    rw[tr hb this]at h3; cases h3
 have k2:∀(h:i<l.length),(!lt x l[i])=false:=fun h=>by rw[h1 i h (Nat.le_refl _)]; rfl
 obtain⟨e1,e2⟩:=wu (p:=fun d=> !lt x d) l i hi k1 k2
 rw[e1,e2]
theorem OU{x:α}{l:List α}{i:Nat}(hi:i≤l.length)(h1:∀(j:Nat) (h:j<l.length),j<i->lt x l[j]=false)(h2:∀(h:i<l.length),lt x l[i]=true):insL lt x l=l.take i++x::l.drop i:=by
 unfold insL
 obtain⟨e1,e2⟩:=wu (p:=fun d=> !lt x d) l i hi (fun j hj hji=>by rw[h1 j hj hji]; rfl) (fun h=>by rw[h2 h]; rfl)
 rw[e1,e2]
theorem TA{x y:α}{l:List α}:y∈insL lt x l↔y=x∨y∈l:=by
 unfold insL
 rw[List.mem_append,List.mem_cons]
 constructor
 ·rintro(h|h|h)
  ·exact .inr ((List.takeWhile_sublist _).subset h)
  ·exact .inl h
  ·exact .inr ((List.dropWhile_sublist _).subset h)
 ·rintro(h|h)
  ·exact .inr (.inl h)
  ·rw[←List.takeWhile_append_dropWhile (p:=fun d=> !lt x d) (l:=l),List.mem_append]at h
   rcases h with h|h
   ·exact .inl h
   ·exact .inr (.inr h)
theorem TB{x:α}{l:List α}:(insL lt x l).length=l.length+1:=by
 have:=congrArg List.length (List.takeWhile_append_dropWhile (p:=fun d=> !lt x d) (l:=l))
 rw[List.length_append]at this
 unfold insL
 rw[List.length_append,List.length_cons]; omega
theorem qp{p:α->Bool}:∀{l:List α} {y:α} {r:List α},l.dropWhile p=y::r->p y=false
 |[],_,_,h=>by simp at h
 |a::l,y,r,h=>by
  rw[List.dropWhile_cons]at h
  split at h
  ·exact qp h
  ·rename_i e; cases h; simpa using e
theorem Aw{p:α->Bool}:∀{l:List α} {y:α},y∈l.takeWhile p->p y=true
 |[],_,h=>by simp at h
 |a::l,y,h=>by
  rw[List.takeWhile_cons]at h
  split at h
  ·rename_i e
   rcases List.mem_cons.1 h with rfl|h
   ·exact e
   ·exact Aw h
  ·simp at h
theorem ZT(tr:∀{a b c:α},lt a b=true->lt b c=true->lt a c=true){x:α}{l:List α}(hs:ZQ lt l)(tot:∀y∈l,lt x y=false->lt y x=true):ZQ lt (insL lt x l):=by
 have hl:=List.takeWhile_append_dropWhile (p:=fun d=> !lt x d) (l:=l)
 have hs':=hs
 unfold ZQ at hs' ⊢
 rw[←hl,List.pairwise_append]at hs'
 obtain⟨s1,s2,s3⟩:=hs'
 have below:∀y∈l.takeWhile (fun d=> !lt x d),lt y x=true:=fun y hy=>tot y ((List.takeWhile_sublist _).subset hy) (by simpa using Aw hy)
 have above:∀y∈l.dropWhile (fun d=> !lt x d),lt x y=true:=by
  cases hd:l.dropWhile (fun d=> !lt x d)with
  |nil=>intro y hy; cases hy
  |cons z r=>
   have hz:lt x z=true:=by simpa using qp hd
   rw[hd]at s2
   intro y hy
   rcases List.mem_cons.1 hy with rfl|hy
   ·exact hz
   ·exact tr hz ((List.pairwise_cons.1 s2).1 y hy)
 unfold insL
 rw[List.pairwise_append]
 refine⟨s1,List.pairwise_cons.2 ⟨above,s2⟩,fun a ha b hb=> ?_⟩
 rcases List.mem_cons.1 hb with rfl|hb
 ·exact below a ha
 ·exact s3 a ha b hb
end
end Go.Proofs.YtijnknjopjmiiaaGreatDoor.Zq
end
section
namespace Go.Proofs.YtijnknjopjmiiaaGreatDoor.Zq
open Zv
abbrev Pt:=aV
def Gw(b:UInt8):Bool:=b==45||(decide (97≤b)&&decide (b≤122))
def nU(s:ByteArray):Prop:=1≤s.data.toList.length∧s.data.toList.length≤20∧s.data.toList.head? ≠some 45∧s.data.toList.all Gw=true
def lN(v:Int):Int:=if 1≤v∧v≤9 then 1 else if 10≤v∧v≤15 then 2 else if 16≤v∧v≤19 then 3 else 0
def yH(w:Int):Int:=if 1≤w∧w≤4 then 1 else if w=5 then 2 else if w=6 then 3 else 0
def cU(v:Int):Prop:=v=1∨v=2∨v=3∨v=4∨v=5∨v=7∨v=9∨v=14∨v=15∨v=16∨v=19
def sU(v w:Int):Prop:=v=11∨w=9
def tU(v w:Int):Prop:=v=12∨v=13∨w=10
instance (v:Int):Decidable (cU v):=by unfold cU; infer_instance
instance (v w:Int):Decidable (sU v w):=by unfold sU; infer_instance
instance (v w:Int):Decidable (tU v w):=by unfold tU; infer_instance
def zM(v:Int):Int:=if v=9∨v=15 then -99 else if v=5 then -9 else if v=14 then 0 else 1
def yI(v:Int):Int:=if v=5 then 9 else 99
def rM(v x:Int):Prop:=if cU v then zM v≤x∧x≤yI v∧(v=14∨x≠0)else x=0
def inU(u:Prop)[Decidable u](x most:Int):Prop:=if u then 1≤x∧x≤most else x=0
def lQ(p:Pt):Prop:=
 if lN p.Verb=1 then(if p.Whom=3 then p.When=1 else ¬((p.Whom=1∨p.Whom=2)∧(p.Verb=6∨p.Verb=8∨p.Verb=9)))
 else if lN p.Verb=2 then ¬(p.Whom=1∨p.Whom=2)∧p.Whom≠3
 else p.Whom≠3
open Classical in
noncomputable def GU(p:Pt):Int:=
 if p.When<1∨6<p.When∨p.Verb<1∨19<p.Verb∨p.Whom<1∨10<p.Whom then 2
 else if lN p.Verb≠yH p.When∨p.Verb=11∧p.Whom=9 then 8
 else if ¬lQ p then 13
 else if ¬rM p.Verb p.Count then 2
 else if ¬(inU (sU p.Verb p.Whom) p.Suit 6∧inU (tU p.Verb p.Whom) p.Trait 8∧inU (p.Verb=9) p.Mark 4)then 2
 else if(if p.Verb=7 then ¬nU p.Name else p.Name.data.toList≠[])then 4
 else 0
structure Cd where
 g:ay
 ps:List Pt
def bare(g:ay):ay:={ g with Parts:=⟨none,0,0⟩ }
open Classical in
noncomputable def JC(k:Int):List Pt->Int
 |[]=>0
 |p::r=>if GU p≠0 then GU p else if k=2∧p.When≠1∨k=3∧p.When=4 then 8 else JC k r
open Classical in
noncomputable def zN(c:Cd):Int:=
 if ¬nU c.g.Name then 4
 else if ¬(1≤c.g.Suit∧c.g.Suit≤6)∨¬(1≤c.g.Kind∧c.g.Kind≤3)then 8
 else if ¬(0≤c.g.Cost∧c.g.Cost≤10)∨¬(0≤c.g.Power∧c.g.Power≤99)∨¬(0≤c.g.Health∧c.g.Health≤99)then 2
 else if c.g.Kind=1∧c.g.Health=0∨c.g.Kind≠1∧(c.g.Power≠0∨c.g.Health≠0)then 8
 else if ¬(c.g.Traits<256)∨c.g.Kind=2∧c.g.Token=true then 8
 else if 4<c.ps.length then 3
 else 0
noncomputable def xE(c:Cd):Int:=if zN c=0 then JC c.g.Kind c.ps else zN c
theorem qw{c:Cd}(h:zN c=0):c.ps.length≤4:=by
 unfold zN at h
 repeat' split at h
 all_goals first|omega|(exfalso; exact absurd h (by decide))
def CP(c d:Cd):Bool:=decide (c.g.Suit<d.g.Suit)||(c.g.Suit==d.g.Suit&&Op.bytesLess c.g.Name.toList d.g.Name.toList)
theorem ZU{a b c:Cd}(h:CP a b=true)(k:CP b c=true):CP a c=true:=by
 unfold CP at*
 simp only[Bool.or_eq_true,Bool.and_eq_true,decide_eq_true_eq,beq_iff_eq]at*
 rcases h with h|⟨h1,h2⟩<;>rcases k with k|⟨k1,k2⟩
 ·exact .inl (by omega)
 ·exact .inl (by omega)
 ·exact .inl (by omega)
 ·exact .inr ⟨by omega,adg h2 k2⟩
theorem abR{a b:Cd}(hn:a.g.Name.toList≠b.g.Name.toList)(h:CP a b=false):CP b a=true:=by
 unfold CP at*
 simp only[Bool.or_eq_true,Bool.and_eq_true,decide_eq_true_eq,beq_iff_eq,Bool.or_eq_false_iff,Bool.and_eq_false_iff,decide_eq_false_iff_not,beq_eq_false_iff_ne,ne_eq]at*
 by_cases e:a.g.Suit=b.g.Suit
 ·refine .inr ⟨e.symm,ZP hn ?_⟩
  rcases h.2 with q|q
  ·exact absurd e q
  ·exact q
 ·exact .inl (by omega)
def jX(B:List Cd)(s:ByteArray):Option Nat:=B.findIdx? fun d=>d.g.Name.toList==s.toList
open Classical in
noncomputable def zO(B:List Cd)(c:Cd):Int:=if xE c≠0 then xE c else if(jX B c.g.Name).isSome then 5 else if 64≤B.length then 14 else 0
open Classical in
noncomputable def Bv(B:List Cd)(c:Cd):List Cd:=if zO B c=0 then insL CP c B else B
structure Dt(B:List Cd):Prop where
 few:B.length≤64
 srt:ZQ CP B
 ok:∀c∈B,xE c=0
theorem abS{B:List Cd}(h:Dt B)(c:Cd):Dt (Bv B c):=by
 unfold Bv
 split
 ·rename_i e
  unfold zO at e
  split at e
  ·rename_i e2; exact absurd e e2
  ·rename_i e2
   split at e
   ·cases e
   ·rename_i e3
    split at e
    ·cases e
    ·rename_i e4
     have e2:xE c=0:=Classical.byContradiction e2
     refine⟨by rw[TB]; omega,ZT (lt:=CP) (fun h k=>ZU h k) h.srt fun y hy hl=>abR (fun en=> ?_) hl,fun d hd=> ?_⟩
     ·apply e3
      unfold jX
      rw[List.findIdx?_isSome,List.any_eq_true]
      exact⟨y,hy,by rw[en]; simp⟩
     ·rcases TA.1 hd with rfl|hd
      ·exact e2
      ·exact h.ok d hd
 ·exact h
open Classical in
noncomputable def Du(ms:List ak)(m:ak):Int:=
 if m.Mark<1∨4<m.Mark∨m.Power< -9∨9<m.Power∨m.Health< -9∨9<m.Health then 2
 else if ¬nU m.Name then 4
 else if(∃x,ms[m.Mark.toNat]? =some x∧x.Mark≠0)∨(∃x∈ms,x.Name.toList=m.Name.toList)then 5
 else 0
open Classical in
noncomputable def GV(ms:List ak)(m:ak):List ak:=if Du ms m=0 then ms.set m.Mark.toNat m else ms
def xu(B:List Cd)(p:Pt):Int:=if p.Verb=7 then(match jX B p.Name with|none=>6|some i=>if(B[i]?.map fun c=>c.g.Kind)=some 2 then 8 else 0)else 0
def tC(B:List Cd):List Pt->Int
 |[]=>0
 |p::r=>if xu B p≠0 then xu B p else tC B r
def rO(B:List Cd):Int:=tC B (B.flatMap (·.ps))
end Go.Proofs.YtijnknjopjmiiaaGreatDoor.Zq
end
section
namespace Go.Proofs.YtijnknjopjmiiaaGreatDoor
open Go Zq
namespace Zv
set_option maxRecDepth 100000
set_option linter.unusedVariables false
def lS(a0:bM)(a1:Sl)(H:Heap)(Q:Bool×Unit->Heap->Prop):Prop:=
CALL P [ah] Au [] H fun(x1:Bool×Unit) H1=>
aO (!x1.1) (
Q (false,()) H1) (
CALL P [dK,aK,ah] rZ [(bn.enc a0),a1.v] H1 fun(x2:(Option Addr)×Sl×Bool×Unit) H2=>
aO (!x2.2.2.1) (
Q (true,()) H2) (
CALL P [aK,(au .i64)] vT [(.pointer x2.1),a1.v] H2 fun(x3:Sl×Int×Unit) H3=>
aO (x3.2.1 !=0) (
Q (false,()) H3) (
JOIN (fun(j4:(Unit)×(Unit)->Heap->Prop)=>
LOOP (fun(r6:(Int×Unit)×(Unit)->Heap->Prop) (s7:(Int×Unit)×(Unit)) H5=>
aO (decide (s7.1.1<(x3.1.len:Int))) (
dR x3.1.p x3.1.len (IntKind.wrap .i64 (s7.1.1-1)) 10 fun b8 o9=>
LD (au .u8) H5 b8 (o9+2+1) fun(x10:Int)=>
dR x3.1.p x3.1.len s7.1.1 10 fun b11 o12=>
LD (au .u8) H5 b11 (o12+2+1) fun(x13:Int)=>
CALL P [(au .i64)] nM [(.int .u8 x10)] H5 fun(x14:Int×Unit) H6=>
LD (au .u8) H6 b11 (o12+2+1) fun(x15:Int)=>
xB ((au .u8).enc x15=(.int .u8 x13)) (
CALL P [(au .i64)] nM [(.int .u8 x13)] H6 fun(x16:Int×Unit) H7=>
aO (decide (x14.1>x16.1)) (
Q (false,()) H7) (
r6 ((IntKind.wrap .i64 (s7.1.1+1),()),(())) H7))) (
j4 ((()),(())) H5)) ((1,()),(())) H3) fun(y5:(Unit)×(Unit)) H4=>
JOIN (fun(j17:(Unit)×(Unit)->Heap->Prop)=>
LOOP (fun(r19:(Int×Unit)×(Unit)->Heap->Prop) (s20:(Int×Unit)×(Unit)) H9=>
aO (decide (s20.1.1≤(a1.len:Int))) (
JOIN (fun(j21:(Unit)×(Unit)->Heap->Prop)=>
dR a1.p a1.len (IntKind.wrap .i64 (s20.1.1-1)) 11 fun b23 o24=>
LD aW H9 b23 o24 fun(x25:bT)=>
CALL P [aK,(au .i64)] Bo [(.pointer x2.1),a1.v,(.int .i64 s20.1.1)] H9 fun(x26:Sl×Int×Unit) H11=>
aO (x25.Place !=4) (
JOIN (fun(j27:(Bool×Unit)×(Unit)->Heap->Prop)=>
aO (x26.2.1 !=6) (
j27 ((true,()),(())) H11) (
dR x2.2.1.p x2.2.1.len (IntKind.wrap .i64 (s20.1.1-1)) 5 fun b29 o30=>
LD aJ H11 b29 o30 fun(x31:aG)=>
j27 ((!((x31.Holder==0)&&((x31.Suit==0)&&((x31.Traits==0)&&((x31.Power==0)&&((x31.Health==0)&&true))))),()),(())) H11)) fun(y28:(Bool×Unit)×(Unit)) H12=>
aO y28.1.1 (
Q (false,()) H12) (
j21 ((()),(())) H12)) (
JOIN (fun(j32:(Bool×Unit)×(Unit)->Heap->Prop)=>
aO (x26.2.1 !=0) (
j32 ((true,()),(())) H11) (
CALL P [ah] sF [x26.1.v,x3.1.v] H11 fun(x34:Bool×Unit) H14=>
j32 ((!x34.1,()),(())) H14)) fun(y33:(Bool×Unit)×(Unit)) H13=>
aO y33.1.1 (
Q (false,()) H13) (
CALL P [aJ] sG [(.pointer x2.1),(aW.enc x25)] H13 fun(x35:aG×Unit) H15=>
CALL P [aJ,(au .i64)] iW [(.pointer x2.1),(aW.enc x25)] H15 fun(x36:aG×Int×Unit) H16=>
JOIN (fun(j37:(Int×Bool×Unit)×(Unit)->Heap->Prop)=>
LOOP (fun(r39:(Int×Bool×Int×Unit)×(Unit)->Heap->Prop) (s40:(Int×Bool×Int×Unit)×(Unit)) H18=>
aO (decide (s40.1.2.2.1<(x26.1.len:Int))) (
JOIN (fun(j41:(Bool×Unit)×(Unit)->Heap->Prop)=>
aO s40.1.2.1 (
dR x26.1.p x26.1.len s40.1.2.2.1 10 fun b43 o44=>
LD (au .u8) H18 b43 (o44+2+1) fun(x45:Int)=>
j41 ((x45==15,()),(())) H18) (
j41 ((false,()),(())) H18)) fun(y42:(Bool×Unit)×(Unit)) H19=>
dR x26.1.p x26.1.len s40.1.2.2.1 10 fun b46 o47=>
LD (au .i64) H19 b46 (o47+2+3) fun(x48:Int)=>
r39 ((IntKind.wrap .i64 (s40.1.1+x48),y42.1.1,IntKind.wrap .i64 (s40.1.2.2.1+1),()),(())) H19) (
j37 ((s40.1.1,s40.1.2.1,()),(())) H18)) ((0,true,0,()),(())) H16) fun(y38:(Int×Bool×Unit)×(Unit)) H17=>
JOIN (fun(j49:(Bool×Unit)×(Unit)->Heap->Prop)=>
aO ((x26.1.len:Int)==0) (
dR x2.2.1.p x2.2.1.len (IntKind.wrap .i64 (s20.1.1-1)) 5 fun b51 o52=>
LD aJ H17 b51 o52 fun(x53:aG)=>
j49 ((!((x53.Holder==x35.1.Holder)&&((x53.Suit==x35.1.Suit)&&((x53.Traits==x35.1.Traits)&&((x53.Power==x35.1.Power)&&((x53.Health==x35.1.Health)&&true))))),()),(())) H17) (
j49 ((false,()),(())) H17)) fun(y50:(Bool×Unit)×(Unit)) H20=>
aO y50.1.1 (
Q (false,()) H20) (
JOIN (fun(j54:(Bool×Unit)×(Unit)->Heap->Prop)=>
aO y38.1.2.1 (
j54 ((decide ((x26.1.len:Int)>0),()),(())) H20) (
j54 ((false,()),(())) H20)) fun(y55:(Bool×Unit)×(Unit)) H21=>
JOIN (fun(j56:(Unit)×(aG×aG×Unit)->Heap->Prop)=>
aO y55.1.1 (
CALL P [aJ,(au .i64)] jC [(.pointer x2.1),(aJ.enc (aG.mk x36.1.Holder x36.1.Suit x36.1.Traits (IntKind.wrap .i64 (x36.1.Power+y38.1.1)) (IntKind.wrap .i64 (x36.1.Health+y38.1.1)))),(eG.enc x25.Marks)] H21 fun(x58:aG×Int×Unit) H23=>
dR x2.2.1.p x2.2.1.len (IntKind.wrap .i64 (s20.1.1-1)) 5 fun b59 o60=>
LD aJ H23 b59 o60 fun(x61:aG)=>
aO (!((x61.Holder==x58.1.Holder)&&((x61.Suit==x58.1.Suit)&&((x61.Traits==x58.1.Traits)&&((x61.Power==x58.1.Power)&&((x61.Health==x58.1.Health)&&true)))))) (
Q (false,()) H23) (
j56 ((()),(x58.1,(aG.mk x36.1.Holder x36.1.Suit x36.1.Traits (IntKind.wrap .i64 (x36.1.Power+y38.1.1)) (IntKind.wrap .i64 (x36.1.Health+y38.1.1))),())) H23)) (
j56 ((()),(x35.1,x36.1,())) H21)) fun(y57:(Unit)×(aG×aG×Unit)) H22=>
j21 ((()),(())) H22)))) fun(y22:(Unit)×(Unit)) H10=>
r19 ((IntKind.wrap .i64 (s20.1.1+1),()),(())) H10) (
j17 ((()),(())) H9)) ((1,()),(())) H4) fun(y18:(Unit)×(Unit)) H8=>
Q (true,()) H8)))
def Dv:dJ:=(.seq .leaf (.seq .leaf (.seq .leaf (.seq .leaf (.seq .leaf (.seq .leaf (.seq (.seq .leaf (.blk (some ⟨[],[],(rg 4 1 (rg 10 1 (rg 40 22 [])))⟩) (.loop ⟨[(10,(au .i64))],[],(rg 4 1 (rg 40 22 []))⟩ .leaf))) (.seq (.seq .leaf (.blk (some ⟨[],[],(rg 4 1 (rg 11 10 (rg 62 116 [])))⟩) (.loop ⟨[(11,(au .i64))],[],(rg 4 1 (rg 12 9 (rg 62 116 [])))⟩ (.seq .leaf (.seq (.blk (some ⟨[],[],(rg 4 1 (rg 12 9 (rg 68 110 [])))⟩) (.seq .leaf (.seq .leaf (.seq (.seq .leaf (.cond none (.seq (.seq (.reg ⟨[(93,ah)],[],(rg 83 10 [])⟩) .leaf) .leaf) .leaf)) (.seq (.seq (.reg ⟨[(101,ah)],[],(rg 94 7 [])⟩) .leaf) (.seq .leaf (.seq .leaf (.seq .leaf (.seq (.seq .leaf (.blk (some ⟨[(18,(au .i64)),(19,ah)],[],(rg 20 1 (rg 111 24 []))⟩) (.loop ⟨[(18,(au .i64)),(19,ah),(20,(au .i64))],[],(rg 111 24 [])⟩ (.seq .leaf (.seq (.blk none (.seq (.reg ⟨[(19,ah)],[],(rg 117 10 [])⟩) .leaf)) .leaf))))) (.seq (.seq (.reg ⟨[(146,ah)],[],(rg 135 11 [])⟩) .leaf) (.seq (.reg ⟨[(152,ah)],[],(rg 147 5 [])⟩) (.cond (some ⟨[],[(2,aJ),(3,aJ)],(rg 4 1 (rg 153 25 []))⟩) .leaf .leaf)))))))))))) .leaf))))) .leaf))))))))
theorem Dw(a0:bM)(a1:Sl)(H:Heap)(Q:Bool×Unit->Heap->Prop):lS a0 a1 H Q=eP C [2,12,15,16] Tryz.f5.ntmps Tryz.f5.results.toList [ah] (aQ Tryz.f5) Dv [(bn.enc a0),a1.v] H Q:=by kernel_rfl
theorem Dx{a0:bM}{a1:Sl}{H:Heap}{Q:Bool×Unit->Heap->Prop}(h:lS a0 a1 H Q):CALL P [ah] lD [(bn.enc a0),a1.v] H Q:=aB hE Tryz.func5 rfl (by kernel_rfl) (Dw a0 a1 H Q) h
def tH(a0:bM)(a1:Sl)(H:Heap)(Q:(Option Addr)×Sl×Bool×Unit->Heap->Prop):Prop:=
JOIN (fun(j1:(Bool×Unit)×(Unit)->Heap->Prop)=>
CALL P [ah] su [(bn.enc a0),a1.v] H fun(x3:Bool×Unit) H2=>
aO x3.1 (
j1 ((true,()),(())) H2) (
j1 ((decide ((a1.len:Int)>60),()),(())) H2)) fun(y2:(Bool×Unit)×(Unit)) H1=>
aO y2.1.1 (
Q (none,(Sl.mk none 0 0),false,()) H1) (
CALL P [dK,dK,ah] yB [(bn.enc a0)] H1 fun(x4:(Option Addr)×(Option Addr)×Bool×Unit) H3=>
CALL P [aK,(au .i64)] EY [(.pointer x4.1),a1.v] H3 fun(x5:Sl×Int×Unit) H4=>
Q (x4.1,x5.1,x5.2.1==0,()) H4)
def LX:dJ:=(.seq .leaf (.seq (.seq (.reg ⟨[(19,ah)],[],(rg 12 7 [])⟩) .leaf) .leaf))
theorem LY(a0:bM)(a1:Sl)(H:Heap)(Q:(Option Addr)×Sl×Bool×Unit->Heap->Prop):tH a0 a1 H Q=eP C [2] Tryz.f7.ntmps Tryz.f7.results.toList [dK,aK,ah] (aQ Tryz.f7) LX [(bn.enc a0),a1.v] H Q:=by kernel_rfl
theorem LZ{a0:bM}{a1:Sl}{H:Heap}{Q:(Option Addr)×Sl×Bool×Unit->Heap->Prop}(h:tH a0 a1 H Q):CALL P [dK,aK,ah] rZ [(bn.enc a0),a1.v] H Q:=aB hE Tryz.func7 rfl (by kernel_rfl) (LY a0 a1 H Q) h
def EZ(a0:Option Addr)(a1:Sl)(H:Heap)(Q:Sl×Int×Unit->Heap->Prop):Prop:=
CALL P [aK,(au .i64)] sD [(.pointer a0),a1.v,(.int .i64 6)] H fun(x1:Sl×Int×Unit) H1=>
Q (x1.1,x1.2.1,()) H1
def Yf:dJ:=.leaf
theorem Yg(a0:Option Addr)(a1:Sl)(H:Heap)(Q:Sl×Int×Unit->Heap->Prop):EZ a0 a1 H Q=eP C [] Tryz.f9.ntmps Tryz.f9.results.toList [aK,(au .i64)] (aQ Tryz.f9) Yf [(.pointer a0),a1.v] H Q:=by kernel_rfl
theorem Yh{a0:Option Addr}{a1:Sl}{H:Heap}{Q:Sl×Int×Unit->Heap->Prop}(h:EZ a0 a1 H Q):CALL P [aK,(au .i64)] EY [(.pointer a0),a1.v] H Q:=aB hE Tryz.func9 rfl (by kernel_rfl) (Yg a0 a1 H Q) h
def wz(a0:Option Addr)(a1:Sl)(H:Heap)(Q:Sl×Int×Unit->Heap->Prop):Prop:=
CALL P [rF,(au .i64)] nR [(.pointer a0),a1.v] H fun(x1:Value×Int×Unit) H1=>
aO (x1.2.1 !=0) (
Q ((Sl.mk none 0 0),x1.2.1,()) H1) (
JOIN (fun(j2:(Sl×Unit)×(Unit)->Heap->Prop)=>
LOOP (fun(r4:(Sl×Int×Unit)×(Unit)->Heap->Prop) (s5:(Sl×Int×Unit)×(Unit)) H3=>
aO (decide (s5.1.2.1<5)) (
SB P [aK,aK] x1.1 [] H3 fun(x6:Sl×Sl×Unit) H4=>
Gs aK (lenV s5.1.1.v+(oZ x6.2.1.v).getD 0) (dS E [37,37] s5.1.1.v x6.2.1.v H4) fun(x7:Sl) H5=>
r4 ((x7,IntKind.wrap .i64 (s5.1.2.1+1),()),(())) H5) (
j2 ((s5.1.1,()),(())) H3)) (((Sl.mk none 0 0),0,()),(())) H1) fun(y3:(Sl×Unit)×(Unit)) H2=>
Q (y3.1.1,0,()) H2)
def P7:dJ:=(.seq .leaf (.seq .leaf (.seq .leaf (.seq .leaf (.seq (.seq .leaf (.blk (some ⟨[(8,aK)],[],(rg 9 2 (rg 20 11 []))⟩) (.loop ⟨[(8,aK),(20,(au .i64))],[],(rg 9 2 (rg 21 10 []))⟩ .leaf))) .leaf)))))
theorem P8(a0:Option Addr)(a1:Sl)(H:Heap)(Q:Sl×Int×Unit->Heap->Prop):wz a0 a1 H Q=eP C [] Tryz.f10.ntmps Tryz.f10.results.toList [aK,(au .i64)] (aQ Tryz.f10) P7 [(.pointer a0),a1.v] H Q:=by kernel_rfl
theorem P9{a0:Option Addr}{a1:Sl}{H:Heap}{Q:Sl×Int×Unit->Heap->Prop}(h:wz a0 a1 H Q):CALL P [aK,(au .i64)] vT [(.pointer a0),a1.v] H Q:=aB hE Tryz.func10 rfl (by kernel_rfl) (P8 a0 a1 H Q) h
def tJ(a0:bM)(a1:Sl)(H:Heap)(Q:Bool×Unit->Heap->Prop):Prop:=
JOIN (fun(j1:(Bool×Unit)×(Unit)->Heap->Prop)=>
aO (decide ((a0.Cards.len:Int)>70)) (
j1 ((true,()),(())) H) (
aO (decide ((a0.Marks.len:Int)>40)) (
j1 ((true,()),(())) H) (
aO (decide ((a1.len:Int)>60)) (
j1 ((decide ((a1.len:Int)≤2048),()),(())) H) (
j1 ((false,()),(())) H)))) fun(y2:(Bool×Unit)×(Unit)) H1=>
Q (y2.1.1,()) H1
def L6:dJ:=(.seq .leaf (.seq (.reg ⟨[(4,ah)],[],(rg 5 20 [])⟩) .leaf))
theorem L8(a0:bM)(a1:Sl)(H:Heap)(Q:Bool×Unit->Heap->Prop):tJ a0 a1 H Q=eP C [2] Tryz.f14.ntmps Tryz.f14.results.toList [ah] (aQ Tryz.f14) L6 [(bn.enc a0),a1.v] H Q:=by kernel_rfl
theorem L9{a0:bM}{a1:Sl}{H:Heap}{Q:Bool×Unit->Heap->Prop}(h:tJ a0 a1 H Q):CALL P [ah] su [(bn.enc a0),a1.v] H Q:=aB hE Tryz.func14 rfl (by kernel_rfl) (L8 a0 a1 H Q) h
def yJ(a0:bM)(H:Heap)(Q:(Option Addr)×(Option Addr)×Bool×Unit->Heap->Prop):Prop:=
CALL P [dK] Bq [] H fun(x1:(Option Addr)×Unit) H1=>
CALL P [dK] yC [] H1 fun(x2:(Option Addr)×Unit) H2=>
JOIN (fun(j3:(Unit)×(Unit)->Heap->Prop)=>
LOOP (fun(r5:(Int×Unit)×(Unit)->Heap->Prop) (s6:(Int×Unit)×(Unit)) H4=>
aO (decide (s6.1.1<(a0.Cards.len:Int))) (
dR a0.Cards.p a0.Cards.len s6.1.1 9 fun b7 o8=>
LD aA H4 b7 o8 fun(x9:ay)=>
dR a0.Cards.p a0.Cards.len s6.1.1 9 fun b10 o11=>
LD aA H4 b10 o11 fun(x12:ay)=>
CALL P [aA] lF [(aA.enc x9)] H4 fun(x13:ay×Unit) H5=>
xB ((some (.slice a0.Cards.p a0.Cards.len a0.Cards.cap):Option Value)=some (.slice a0.Cards.p a0.Cards.len a0.Cards.cap)) (
LD aA H5 b10 o11 fun(x14:ay)=>
xB (aA.enc x14=(aA.enc x12)) (
CALL P [(au .i64)] mQ [(.pointer x1.1),(aA.enc x13.1)] H5 fun(x15:Int×Unit) H6=>
xB ((some (.slice a0.Cards.p a0.Cards.len a0.Cards.cap):Option Value)=some (.slice a0.Cards.p a0.Cards.len a0.Cards.cap)) (
LD aA H6 b10 o11 fun(x16:ay)=>
xB (aA.enc x16=(aA.enc x12)) (
CALL P [aA] lF [(aA.enc x12)] H6 fun(x17:ay×Unit) H7=>
CALL P [(au .i64)] lG [(.pointer x2.1),(aA.enc x17.1)] H7 fun(x18:Int×Unit) H8=>
aO (x15.1 !=x18.1) (
Q (x1.1,x2.1,false,()) H8) (
r5 ((IntKind.wrap .i64 (s6.1.1+1),()),(())) H8)))))) (
j3 ((()),(())) H4)) ((0,()),(())) H2) fun(y4:(Unit)×(Unit)) H3=>
JOIN (fun(j19:(Unit)×(Unit)->Heap->Prop)=>
LOOP (fun(r21:(Int×Unit)×(Unit)->Heap->Prop) (s22:(Int×Unit)×(Unit)) H10=>
aO (decide (s22.1.1<(a0.Marks.len:Int))) (
dR a0.Marks.p a0.Marks.len s22.1.1 4 fun b23 o24=>
LD aT H10 b23 o24 fun(x25:ak)=>
dR a0.Marks.p a0.Marks.len s22.1.1 4 fun b26 o27=>
LD aT H10 b26 o27 fun(x28:ak)=>
CALL P [(au .i64)] mV [(.pointer x1.1),(aT.enc x25)] H10 fun(x29:Int×Unit) H11=>
xB ((some (.slice a0.Marks.p a0.Marks.len a0.Marks.cap):Option Value)=some (.slice a0.Marks.p a0.Marks.len a0.Marks.cap)) (
LD aT H11 b26 o27 fun(x30:ak)=>
xB (aT.enc x30=(aT.enc x28)) (
CALL P [(au .i64)] lH [(.pointer x2.1),(aT.enc x28)] H11 fun(x31:Int×Unit) H12=>
aO (x29.1 !=x31.1) (
Q (x1.1,x2.1,false,()) H12) (
r21 ((IntKind.wrap .i64 (s22.1.1+1),()),(())) H12)))) (
j19 ((()),(())) H10)) ((0,()),(())) H3) fun(y20:(Unit)×(Unit)) H9=>
JOIN (fun(j32:(Bool×Unit)×(Unit)->Heap->Prop)=>
aO (!a0.Open) (
CALL P [(au .i64)] mW [(.pointer x1.1)] H9 fun(x34:Int×Unit) H14=>
CALL P [(au .i64)] lI [(.pointer x2.1)] H14 fun(x35:Int×Unit) H15=>
j32 ((x34.1 !=x35.1,()),(())) H15) (
j32 ((false,()),(())) H9)) fun(y33:(Bool×Unit)×(Unit)) H13=>
aO y33.1.1 (
Q (x1.1,x2.1,false,()) H13) (
CALL P [ah] iL [(.pointer x1.1)] H13 fun(x36:Bool×Unit) H16=>
CALL P [ah] jU [(.pointer x2.1)] H16 fun(x37:Bool×Unit) H17=>
Q (x1.1,x2.1,(x36.1==x37.1),()) H17)
def TD:dJ:=(.seq .leaf (.seq .leaf (.seq (.seq .leaf (.blk (some ⟨[],[],(rg 2 3 (rg 7 1 (rg 11 26 [])))⟩) (.loop ⟨[(7,(au .i64))],[],(rg 2 3 (rg 11 26 []))⟩ .leaf))) (.seq (.seq .leaf (.blk (some ⟨[],[],(rg 2 3 (rg 8 1 (rg 37 24 [])))⟩) (.loop ⟨[(8,(au .i64))],[],(rg 2 3 (rg 37 24 []))⟩ .leaf))) (.seq (.seq (.reg ⟨[(70,ah)],[],(rg 61 9 [])⟩) .leaf) .leaf)))))
theorem TG(a0:bM)(H:Heap)(Q:(Option Addr)×(Option Addr)×Bool×Unit->Heap->Prop):yJ a0 H Q=eP C [1] Tryz.f15.ntmps Tryz.f15.results.toList [dK,dK,ah] (aQ Tryz.f15) TD [(bn.enc a0)] H Q:=by kernel_rfl
theorem TJ{a0:bM}{H:Heap}{Q:(Option Addr)×(Option Addr)×Bool×Unit->Heap->Prop}(h:yJ a0 H Q):CALL P [dK,dK,ah] yB [(bn.enc a0)] H Q:=aB hE Tryz.func15 rfl (by kernel_rfl) (TG a0 H Q) h
def tK(a0:Option Addr)(a1:Sl)(a2:Int)(H:Heap)(Q:Sl×Int×Unit->Heap->Prop):Prop:=
CALL P [rF,(au .i64)] nR [(.pointer a0),a1.v] H fun(x1:Value×Int×Unit) H1=>
aO (x1.2.1 !=0) (
Q ((Sl.mk none 0 0),x1.2.1,()) H1) (
JOIN (fun(j2:(Bool×Unit)×(Unit)->Heap->Prop)=>
aO (decide (a2<0)) (
j2 ((true,()),(())) H1) (
j2 ((decide (a2>6),()),(())) H1)) fun(y3:(Bool×Unit)×(Unit)) H2=>
aO y3.1.1 (
Q ((Sl.mk none 0 0),2,()) H2) (
SB P [aK,aK] x1.1 [] H2 fun(x4:Sl×Sl×Unit) H3=>
JOIN (fun(j5:(Sl×Unit)×(Unit)->Heap->Prop)=>
LOOP (fun(r7:(Sl×Int×Unit)×(Unit)->Heap->Prop) (s8:(Sl×Int×Unit)×(Unit)) H5=>
aO (decide (s8.1.2.1<a2)) (
SB P [aK,aK] x1.1 [] H5 fun(x9:Sl×Sl×Unit) H6=>
r7 ((x9.1,IntKind.wrap .i64 (s8.1.2.1+1),()),(())) H6) (
j5 ((s8.1.1,()),(())) H5)) ((x4.1,0,()),(())) H3) fun(y6:(Sl×Unit)×(Unit)) H4=>
NEW H4 [] 5 fun H7=>
Gs aK (lenV ((Sl.mk (some ⟨H4.length,0,none⟩) 0 0)).v+(oZ y6.1.1.v).getD 0) (dS E [30,30] ((Sl.mk (some ⟨H4.length,0,none⟩) 0 0)).v y6.1.1.v H7) fun(x10:Sl) H8=>
Q (x10,0,()) H8))
def Mc:dJ:=(.seq .leaf (.seq .leaf (.seq .leaf (.seq (.seq (.reg ⟨[(26,ah)],[],(rg 21 5 [])⟩) .leaf) (.seq .leaf (.seq (.seq .leaf (.blk (some ⟨[(10,aK)],[],(rg 33 8 [])⟩) (.loop ⟨[(10,aK),(33,(au .i64))],[],(rg 34 7 [])⟩ .leaf))) .leaf))))))
theorem Md(a0:Option Addr)(a1:Sl)(a2:Int)(H:Heap)(Q:Sl×Int×Unit->Heap->Prop):tK a0 a1 a2 H Q=eP C [] Tryz.f17.ntmps Tryz.f17.results.toList [aK,(au .i64)] (aQ Tryz.f17) Mc [(.pointer a0),a1.v,(.int .i64 a2)] H Q:=by kernel_rfl
theorem Me{a0:Option Addr}{a1:Sl}{a2:Int}{H:Heap}{Q:Sl×Int×Unit->Heap->Prop}(h:tK a0 a1 a2 H Q):CALL P [aK,(au .i64)] sD [(.pointer a0),a1.v,(.int .i64 a2)] H Q:=aB hE Tryz.func17 rfl (by kernel_rfl) (Md a0 a1 a2 H Q) h
def Bz(a0:Option Addr)(a1:Sl)(a2:Int)(H:Heap)(Q:Sl×Int×Unit->Heap->Prop):Prop:=
CALL P [rF,(au .i64)] nR [(.pointer a0),a1.v] H fun(x1:Value×Int×Unit) H1=>
aO (x1.2.1 !=0) (
Q ((Sl.mk none 0 0),x1.2.1,()) H1) (
JOIN (fun(j2:(Bool×Unit)×(Unit)->Heap->Prop)=>
aO (decide (a2<1)) (
j2 ((true,()),(())) H1) (
aO (decide (a2>(a1.len:Int))) (
j2 ((true,()),(())) H1) (
dR a1.p a1.len (IntKind.wrap .i64 (a2-1)) 11 fun b4 o5=>
LD (au .u8) H1 b4 (o5+2) fun(x6:Int)=>
j2 ((x6 !=4,()),(())) H1))) fun(y3:(Bool×Unit)×(Unit)) H2=>
aO y3.1.1 (
Q ((Sl.mk none 0 0),6,()) H2) (
JOIN (fun(j7:(Sl×Unit)×(Unit)->Heap->Prop)=>
LOOP (fun(r9:(Sl×Int×Unit)×(Unit)->Heap->Prop) (s10:(Sl×Int×Unit)×(Unit)) H4=>
aO (decide (s10.1.2.1<5)) (
JOIN (fun(j11:(Sl×Unit)×(Unit)->Heap->Prop)=>
SB P [aK,aK] x1.1 [] H4 fun(x13:Sl×Sl×Unit) H6=>
JOIN (fun(j14:(Sl×Unit)×(Unit)->Heap->Prop)=>
LOOP (fun(r16:(Sl×Sl×Int×Unit)×(Unit)->Heap->Prop) (s17:(Sl×Sl×Int×Unit)×(Unit)) H8=>
aO (decide (s17.1.2.2.1<(x13.2.1.len:Int))) (
dR x13.2.1.p x13.2.1.len s17.1.2.2.1 10 fun b18 o19=>
LD aF H8 b18 o19 fun(x20:aN)=>
CALL P [aK,(au .i64)] sH [(.pointer a0),a1.v,s17.1.2.1.v,(aF.enc x20)] H8 fun(x21:Sl×Int×Unit) H9=>
CALL P [ah] fZ [x21.1.v,(.int .i64 a2)] H9 fun(x22:Bool×Unit) H10=>
JOIN (fun(j23:(Sl×Unit)×(Unit)->Heap->Prop)=>
aO x22.1 (
Gs aK (lenV s17.1.1.v+1) (fA E [37,37] s17.1.1.v 1 (aF.cells x20) H10) fun(x25:Sl) H12=>
j23 ((x25,()),(())) H12) (
j23 ((s17.1.1,()),(())) H10)) fun(y24:(Sl×Unit)×(Unit)) H11=>
CALL P [aK,(au .i64)] sJ [(.pointer a0),a1.v,s17.1.2.1.v,(aF.enc x20)] H11 fun(x26:Sl×Int×Unit) H13=>
r16 ((y24.1.1,x26.1,IntKind.wrap .i64 (s17.1.2.2.1+1),()),(())) H13) (
j14 ((s17.1.1,()),(())) H8)) ((s10.1.1,x13.1,0,()),(())) H6) fun(y15:(Sl×Unit)×(Unit)) H7=>
j11 ((y15.1.1,()),(())) H7) fun(y12:(Sl×Unit)×(Unit)) H5=>
r9 ((y12.1.1,IntKind.wrap .i64 (s10.1.2.1+1),()),(())) H5) (
j7 ((s10.1.1,()),(())) H4)) (((Sl.mk none 0 0),0,()),(())) H2) fun(y8:(Sl×Unit)×(Unit)) H3=>
Q (y8.1.1,0,()) H3))
def VK:dJ:=(.seq .leaf (.seq .leaf (.seq .leaf (.seq (.seq (.reg ⟨[(42,ah)],[],(rg 26 16 [])⟩) .leaf) (.seq .leaf (.seq (.seq .leaf (.blk (some ⟨[(10,aK)],[],(rg 11 2 (rg 14 3 (rg 43 38 [])))⟩) (.loop ⟨[(10,aK),(43,(au .i64))],[],(rg 11 2 (rg 14 3 (rg 44 37 [])))⟩ (.seq .leaf (.seq .leaf (.seq (.blk (some ⟨[(10,aK)],[],(rg 11 2 (rg 14 3 (rg 45 35 [])))⟩) (.seq .leaf (.seq .leaf (.blk (some ⟨[(10,aK)],[],(rg 11 1 (rg 14 3 (rg 52 28 [])))⟩) (.loop ⟨[(10,aK),(11,aK),(52,(au .i64))],[],(rg 14 3 (rg 53 27 []))⟩ (.seq .leaf (.seq .leaf (.seq (.blk none (.seq .leaf (.seq .leaf (.seq (.seq .leaf (.cond (some ⟨[(10,aK)],[],[67,68,69,70]⟩) .leaf .leaf)) .leaf)))) .leaf)))))))) .leaf)))))) .leaf))))))
theorem VN(a0:Option Addr)(a1:Sl)(a2:Int)(H:Heap)(Q:Sl×Int×Unit->Heap->Prop):Bz a0 a1 a2 H Q=eP C [14,69] Tryz.f18.ntmps Tryz.f18.results.toList [aK,(au .i64)] (aQ Tryz.f18) VK [(.pointer a0),a1.v,(.int .i64 a2)] H Q:=by kernel_rfl
theorem VO{a0:Option Addr}{a1:Sl}{a2:Int}{H:Heap}{Q:Sl×Int×Unit->Heap->Prop}(h:Bz a0 a1 a2 H Q):CALL P [aK,(au .i64)] Bo [(.pointer a0),a1.v,(.int .i64 a2)] H Q:=aB hE Tryz.func18 rfl (by kernel_rfl) (VN a0 a1 a2 H Q) h
def tN(a0:Int)(H:Heap)(Q:Int×Unit->Heap->Prop):Prop:=
aO (a0==10) (
Q (1,()) H) (
aO (a0==11) (
Q (2,()) H) (
JOIN (fun(j1:(Bool×Unit)×(Unit)->Heap->Prop)=>
aO (a0==12) (
j1 ((a0==12,()),(())) H) (
j1 ((a0==13,()),(())) H)) fun(y2:(Bool×Unit)×(Unit)) H1=>
aO y2.1.1 (
Q (3,()) H1) (
aO (a0==14) (
Q (4,()) H1) (
Q (5,()) H1))))
def MB:dJ:=(.seq .leaf (.seq (.seq .leaf (.blk none (.seq .leaf (.cond none .leaf (.seq .leaf (.cond none .leaf (.seq (.seq .leaf (.cond (some ⟨[(8,ah)],[],[10]⟩) .leaf .leaf)) .leaf))))))) .leaf))
theorem MC(a0:Int)(H:Heap)(Q:Int×Unit->Heap->Prop):tN a0 H Q=eP C [] Tryz.f27.ntmps Tryz.f27.results.toList [(au .i64)] (aQ Tryz.f27) MB [(.int .u8 a0)] H Q:=by kernel_rfl
theorem MF{a0:Int}{H:Heap}{Q:Int×Unit->Heap->Prop}(h:tN a0 H Q):CALL P [(au .i64)] nM [(.int .u8 a0)] H Q:=aB hE Tryz.func27 rfl (by kernel_rfl) (MC a0 H Q) h
def tV(a0:Sl)(a1:Sl)(H:Heap)(Q:Bool×Unit->Heap->Prop):Prop:=
JOIN (fun(j1:(Int×Unit)×(Unit)->Heap->Prop)=>
LOOP (fun(r3:(Int×Int×Unit)×(Unit)->Heap->Prop) (s4:(Int×Int×Unit)×(Unit)) H2=>
JOIN (fun(j5:(Bool×Unit)×(Unit)->Heap->Prop)=>
aO (decide (s4.1.2.1<(a1.len:Int))) (
j5 ((decide (s4.1.1<(a0.len:Int)),()),(())) H2) (
j5 ((false,()),(())) H2)) fun(y6:(Bool×Unit)×(Unit)) H3=>
aO y6.1.1 (
dR a1.p a1.len s4.1.2.1 10 fun b7 o8=>
LD aF H3 b7 o8 fun(x9:aN)=>
dR a0.p a0.len s4.1.1 10 fun b10 o11=>
LD aF H3 b10 o11 fun(x12:aN)=>
JOIN (fun(j13:(Int×Unit)×(Unit)->Heap->Prop)=>
aO ((x9.Thing==x12.Thing)&&((x9.Place==x12.Place)&&(((x9.What.When==x12.What.When)&&((x9.What.Verb==x12.What.Verb)&&((x9.What.Whom==x12.What.Whom)&&((x9.What.Count==x12.What.Count)&&((x9.What.Suit==x12.What.Suit)&&((x9.What.Trait==x12.What.Trait)&&((x9.What.Mark==x12.What.Mark)&&((x9.What.Name.toList==x12.What.Name.toList)&&true))))))))&&true))) (
j13 ((IntKind.wrap .i64 (s4.1.1+1),()),(())) H3) (
j13 ((s4.1.1,()),(())) H3)) fun(y14:(Int×Unit)×(Unit)) H4=>
r3 ((y14.1.1,IntKind.wrap .i64 (s4.1.2.1+1),()),(())) H4) (
j1 ((s4.1.1,()),(())) H3)) ((0,0,()),(())) H) fun(y2:(Int×Unit)×(Unit)) H1=>
Q (y2.1.1==(a0.len:Int),()) H1
def MG:dJ:=(.seq .leaf (.seq .leaf (.seq (.seq .leaf (.blk (some ⟨[(5,(au .i64))],[],(rg 6 24 [])⟩) (.loop ⟨[(5,(au .i64)),(6,(au .i64))],[],(rg 7 23 [])⟩ (.seq (.seq (.reg ⟨[(16,ah)],[],(rg 7 9 [])⟩) .leaf) (.seq (.blk none (.seq .leaf (.cond (some ⟨[(5,(au .i64))],[],[28,29]⟩) .leaf .leaf))) .leaf))))) .leaf)))
theorem MH(a0:Sl)(a1:Sl)(H:Heap)(Q:Bool×Unit->Heap->Prop):tV a0 a1 H Q=eP C [] Tryz.f28.ntmps Tryz.f28.results.toList [ah] (aQ Tryz.f28) MG [a0.v,a1.v] H Q:=by kernel_rfl
theorem MI{a0:Sl}{a1:Sl}{H:Heap}{Q:Bool×Unit->Heap->Prop}(h:tV a0 a1 H Q):CALL P [ah] sF [a0.v,a1.v] H Q:=aB hE Tryz.func28 rfl (by kernel_rfl) (MH a0 a1 H Q) h
def tX(a0:Option Addr)(a1:bT)(H:Heap)(Q:aG×Unit->Heap->Prop):Prop:=
CALL P [aJ,(au .i64)] iW [(.pointer a0),(aW.enc a1)] H fun(x1:aG×Int×Unit) H1=>
CALL P [aJ,(au .i64)] jC [(.pointer a0),(aJ.enc x1.1),(eG.enc a1.Marks)] H1 fun(x2:aG×Int×Unit) H2=>
Q (x2.1,()) H2
def MJ:dJ:=.leaf
theorem MK(a0:Option Addr)(a1:bT)(H:Heap)(Q:aG×Unit->Heap->Prop):tX a0 a1 H Q=eP C [3,4,5] Tryz.f29.ntmps Tryz.f29.results.toList [aJ] (aQ Tryz.f29) MJ [(.pointer a0),(aW.enc a1)] H Q:=by kernel_rfl
theorem MN{a0:Option Addr}{a1:bT}{H:Heap}{Q:aG×Unit->Heap->Prop}(h:tX a0 a1 H Q):CALL P [aJ] sG [(.pointer a0),(aW.enc a1)] H Q:=aB hE Tryz.func29 rfl (by kernel_rfl) (MK a0 a1 H Q) h
def oI(a0:Option Addr)(a1:bT)(H:Heap)(Q:aG×Int×Unit->Heap->Prop):Prop:=
CALL P [aA,(au .i64)] pz [(.pointer a0),(aW.enc a1)] H fun(x1:ay×Int×Unit) H1=>
aO (x1.2.1 !=0) (
Q ((aG.mk 0 0 0 0 0),x1.2.1,()) H1) (
JOIN (fun(j2:(Bool×Unit)×(Unit)->Heap->Prop)=>
aO (a1.Owner !=0) (
j2 ((a1.Owner !=1,()),(())) H1) (
j2 ((false,()),(())) H1)) fun(y3:(Bool×Unit)×(Unit)) H2=>
aO y3.1.1 (
Q ((aG.mk 0 0 0 0 0),2,()) H2) (
Q ((aG.mk a1.Owner x1.1.Suit x1.1.Traits x1.1.Power x1.1.Health),0,()) H2))
def GX:dJ:=(.seq .leaf (.seq .leaf (.seq (.blk none (.seq .leaf (.cond none .leaf (.seq (.reg ⟨[(19,ah)],[],(rg 20 8 [])⟩) .leaf)))) .leaf)))
theorem GY(a0:Option Addr)(a1:bT)(H:Heap)(Q:aG×Int×Unit->Heap->Prop):oI a0 a1 H Q=eP C [3,4,6] Tryz.f30.ntmps Tryz.f30.results.toList [aJ,(au .i64)] (aQ Tryz.f30) GX [(.pointer a0),(aW.enc a1)] H Q:=by kernel_rfl
theorem GZ{a0:Option Addr}{a1:bT}{H:Heap}{Q:aG×Int×Unit->Heap->Prop}(h:oI a0 a1 H Q):CALL P [aJ,(au .i64)] iW [(.pointer a0),(aW.enc a1)] H Q:=aB hE Tryz.func30 rfl (by kernel_rfl) (GY a0 a1 H Q) h
def qx(a0:Option Addr)(a1:aG)(a2:Int×Int×Int×Int)(H:Heap)(Q:aG×Int×Unit->Heap->Prop):Prop:=
CALL P [(au .i64),(au .i64)] jR [(.pointer a0),(.string (ByteArray.mk #[]))] H fun(x1:Int×Int×Unit) H1=>
aO (x1.2.1==1) (
Q ((aG.mk 0 0 0 0 0),x1.2.1,()) H1) (
JOIN (fun(j2:(Unit)×(aG×Unit)->Heap->Prop)=>
LOOP (fun(r4:(Int×Unit)×(aG×Unit)->Heap->Prop) (s5:(Int×Unit)×(aG×Unit)) H3=>
aO (decide (s5.1.1<4)) (
dX (au .i64) (dF E 44 (.agg #[(.int .i64 a2.1),(.int .i64 a2.2.1),(.int .i64 a2.2.2.1),(.int .i64 a2.2.2.2)]) (.int .i64 s5.1.1)) fun(x6:Int)=>
JOIN (fun(j7:(Bool×Unit)×(Unit)->Heap->Prop)=>
aO (decide (x6<0)) (
j7 ((true,()),(())) H3) (
j7 ((decide (x6>99),()),(())) H3)) fun(y8:(Bool×Unit)×(Unit)) H4=>
aO y8.1.1 (
Q ((aG.mk 0 0 0 0 0),2,()) H4) (
r4 ((IntKind.wrap .i64 (s5.1.1+1),()),(s5.2.1,())) H4)) (
j2 ((()),(s5.2.1,())) H3)) ((0,()),((aG.mk 0 0 0 0 0),())) H1) fun(y3:(Unit)×(aG×Unit)) H2=>
JOIN (fun(j9:(Unit)×(aG×Unit)->Heap->Prop)=>
LOOP (fun(r11:(Int×Unit)×(aG×Unit)->Heap->Prop) (s12:(Int×Unit)×(aG×Unit)) H6=>
aO (decide (s12.1.1<4)) (
dX (au .i64) (dF E 44 (.agg #[(.int .i64 a2.1),(.int .i64 a2.2.1),(.int .i64 a2.2.2.1),(.int .i64 a2.2.2.2)]) (.int .i64 s12.1.1)) fun(x13:Int)=>
CALL P [aT,ah] kQ [(.pointer a0),(.int .u8 (IntKind.wrap .u8 (IntKind.wrap .i64 (s12.1.1+1))))] H6 fun(x14:ak×Bool×Unit) H7=>
JOIN (fun(j15:(Unit)×(aG×Unit)->Heap->Prop)=>
aO x14.2.1 (
j15 ((()),((aG.mk s12.2.1.Holder s12.2.1.Suit s12.2.1.Traits (IntKind.wrap .i64 (s12.2.1.Power+(IntKind.wrap .i64 (x13*x14.1.Power)))) (IntKind.wrap .i64 (s12.2.1.Health+(IntKind.wrap .i64 (x13*x14.1.Health))))),())) H7) (
j15 ((()),(s12.2.1,())) H7)) fun(y16:(Unit)×(aG×Unit)) H8=>
r11 ((IntKind.wrap .i64 (s12.1.1+1),()),(y16.2.1,())) H8) (
j9 ((()),(s12.2.1,())) H6)) ((0,()),(a1,())) H2) fun(y10:(Unit)×(aG×Unit)) H5=>
Q ((aG.mk y10.2.1.Holder y10.2.1.Suit y10.2.1.Traits (if 0>y10.2.1.Power then 0 else y10.2.1.Power) y10.2.1.Health),0,()) H5)
def JE:dJ:=(.seq .leaf (.seq .leaf (.seq (.seq .leaf (.blk (some ⟨[],[(2,aJ)],(rg 7 1 (rg 11 1 (rg 26 11 [])))⟩) (.loop ⟨[(26,(au .i64))],[(2,aJ)],(rg 7 1 (rg 11 1 (rg 27 10 [])))⟩ (.seq .leaf (.seq .leaf (.seq (.blk none (.seq .leaf (.seq (.reg ⟨[(34,ah)],[],(rg 29 5 [])⟩) .leaf))) .leaf)))))) (.seq (.seq .leaf (.blk (some ⟨[],[(0,aJ)],(rg 12 4 (rg 38 30 []))⟩) (.loop ⟨[(38,(au .i64))],[(0,aJ)],(rg 12 4 (rg 39 29 []))⟩ (.seq .leaf (.seq .leaf (.seq (.blk none (.seq .leaf (.seq .leaf (.seq .leaf (.cond (some ⟨[],[(0,aJ)],(rg 51 16 [])⟩) .leaf .leaf))))) .leaf)))))) .leaf))))
theorem JF(a0:Option Addr)(a1:aG)(a2:Int×Int×Int×Int)(H:Heap)(Q:aG×Int×Unit->Heap->Prop):qx a0 a1 a2 H Q=eP C [4,5,6,14] Tryz.f31.ntmps Tryz.f31.results.toList [aJ,(au .i64)] (aQ Tryz.f31) JE [(.pointer a0),(aJ.enc a1),(eG.enc a2)] H Q:=by kernel_rfl
theorem JG{a0:Option Addr}{a1:aG}{a2:Int×Int×Int×Int}{H:Heap}{Q:aG×Int×Unit->Heap->Prop}(h:qx a0 a1 a2 H Q):CALL P [aJ,(au .i64)] jC [(.pointer a0),(aJ.enc a1),(eG.enc a2)] H Q:=aB hE Tryz.func31 rfl (by kernel_rfl) (JF a0 a1 a2 H Q) h
def yK(a0:Option Addr)(a1:Sl)(H:Heap)(Q:Value×Int×Unit->Heap->Prop):Prop:=
NEW H [(.pointer a0)] 1 fun H1=>
NEW H1 [(.slice a1.p a1.len a1.cap)] 1 fun H2=>
LD dK H2 H.length 0 fun(x1:Option Addr)=>
LD aK H2 H1.length 0 fun(x2:Sl)=>
CALL P [aK,(au .i64)] qg [(.pointer x1),x2.v] H2 fun(x3:Sl×Int×Unit) H3=>
NEW H3 [(.slice none 0 0)] 1 fun H4=>
ST H4 H3.length 0 [(.slice x3.1.p x3.1.len x3.1.cap)] fun H5=>
NEW H5 [(.int .i64 0)] 1 fun H6=>
ST H6 H5.length 0 [(.int .i64 0)] fun H7=>
Q ((.func (.func jf) #[] #[(.pointer (some ⟨H5.length,0,none⟩)),(.pointer (some ⟨H3.length,0,none⟩)),(.pointer (some ⟨H.length,0,none⟩)),(.pointer (some ⟨H1.length,0,none⟩))]),x3.2.1,()) H7
def TL:dJ:=.leaf
theorem TN(a0:Option Addr)(a1:Sl)(H:Heap)(Q:Value×Int×Unit->Heap->Prop):yK a0 a1 H Q=eP C [] Tryz.f34.ntmps Tryz.f34.results.toList [rF,(au .i64)] (aQ Tryz.f34) TL [(.pointer a0),a1.v] H Q:=by kernel_rfl
theorem TQ{a0:Option Addr}{a1:Sl}{H:Heap}{Q:Value×Int×Unit->Heap->Prop}(h:yK a0 a1 H Q):CALL P [rF,(au .i64)] nR [(.pointer a0),a1.v] H Q:=aB hE Tryz.func34 rfl (by kernel_rfl) (TN a0 a1 H Q) h
def BA(H:Heap)(Q:(Option Addr)×Unit->Heap->Prop):Prop:=
NEW H [(.bool true),(.bool false),(.int .i64 0),(.string (ByteArray.mk #[])),(.int .u8 0),(.int .u8 0),(.int .i64 0),(.int .i64 0),(.int .i64 0),(.int .u16 0),(.bool false),(.slice none 0 0),(.string (ByteArray.mk #[])),(.int .u8 0),(.int .u8 0),(.int .i64 0),(.int .i64 0),(.int .i64 0),(.int .u16 0),(.bool false),(.slice none 0 0),(.string (ByteArray.mk #[])),(.int .u8 0),(.int .u8 0),(.int .i64 0),(.int .i64 0),(.int .i64 0),(.int .u16 0),(.bool false),(.slice none 0 0),(.string (ByteArray.mk #[])),(.int .u8 0),(.int .u8 0),(.int .i64 0),(.int .i64 0),(.int .i64 0),(.int .u16 0),(.bool false),(.slice none 0 0),(.string (ByteArray.mk #[])),(.int .u8 0),(.int .u8 0),(.int .i64 0),(.int .i64 0),(.int .i64 0),(.int .u16 0),(.bool false),(.slice none 0 0),(.string (ByteArray.mk #[])),(.int .u8 0),(.int .u8 0),(.int .i64 0),(.int .i64 0),(.int .i64 0),(.int .u16 0),(.bool false),(.slice none 0 0),(.string (ByteArray.mk #[])),(.int .u8 0),(.int .u8 0),(.int .i64 0),(.int .i64 0),(.int .i64 0),(.int .u16 0),(.bool false),(.slice none 0 0),(.string (ByteArray.mk #[])),(.int .u8 0),(.int .u8 0),(.int .i64 0),(.int .i64 0),(.int .i64 0),(.int .u16 0),(.bool false),(.slice none 0 0),(.string (ByteArray.mk #[])),(.int .u8 0),(.int .u8 0),(.int .i64 0),(.int .i64 0),(.int .i64 0),(.int .u16 0),(.bool false),(.slice none 0 0),(.string (ByteArray.mk #[])),(.int .u8 0),(.int .u8 0),(.int .i64 0),(.int .i64 0),(.int .i64 0),(.int .u16 0),(.bool false),(.slice none 0 0),(.string (ByteArray.mk #[])),(.int .u8 0),(.int .u8 0),(.int .i64 0),(.int .i64 0),(.int .i64 0),(.int .u16 0),(.bool false),(.slice none 0 0),(.string (ByteArray.mk #[])),(.int .u8 0),(.int .u8 0),(.int .i64 0),(.int .i64 0),(.int .i64 0),(.int .u16 0),(.bool false),(.slice none 0 0),(.string (ByteArray.mk #[])),(.int .u8 0),(.int .u8 0),(.int .i64 0),(.int .i64 0),(.int .i64 0),(.int .u16 0),(.bool false),(.slice none 0 0),(.string (ByteArray.mk #[])),(.int .u8 0),(.int .u8 0),(.int .i64 0),(.int .i64 0),(.int .i64 0),(.int .u16 0),(.bool false),(.slice none 0 0),(.string (ByteArray.mk #[])),(.int .u8 0),(.int .u8 0),(.int .i64 0),(.int .i64 0),(.int .i64 0),(.int .u16 0),(.bool false),(.slice none 0 0),(.string (ByteArray.mk #[])),(.int .u8 0),(.int .u8 0),(.int .i64 0),(.int .i64 0),(.int .i64 0),(.int .u16 0),(.bool false),(.slice none 0 0),(.string (ByteArray.mk #[])),(.int .u8 0),(.int .u8 0),(.int .i64 0),(.int .i64 0),(.int .i64 0),(.int .u16 0),(.bool false),(.slice none 0 0),(.string (ByteArray.mk #[])),(.int .u8 0),(.int .u8 0),(.int .i64 0),(.int .i64 0),(.int .i64 0),(.int .u16 0),(.bool false),(.slice none 0 0),(.string (ByteArray.mk #[])),(.int .u8 0),(.int .u8 0),(.int .i64 0),(.int .i64 0),(.int .i64 0),(.int .u16 0),(.bool false),(.slice none 0 0),(.string (ByteArray.mk #[])),(.int .u8 0),(.int .u8 0),(.int .i64 0),(.int .i64 0),(.int .i64 0),(.int .u16 0),(.bool false),(.slice none 0 0),(.string (ByteArray.mk #[])),(.int .u8 0),(.int .u8 0),(.int .i64 0),(.int .i64 0),(.int .i64 0),(.int .u16 0),(.bool false),(.slice none 0 0),(.string (ByteArray.mk #[])),(.int .u8 0),(.int .u8 0),(.int .i64 0),(.int .i64 0),(.int .i64 0),(.int .u16 0),(.bool false),(.slice none 0 0),(.string (ByteArray.mk #[])),(.int .u8 0),(.int .u8 0),(.int .i64 0),(.int .i64 0),(.int .i64 0),(.int .u16 0),(.bool false),(.slice none 0 0),(.string (ByteArray.mk #[])),(.int .u8 0),(.int .u8 0),(.int .i64 0),(.int .i64 0),(.int .i64 0),(.int .u16 0),(.bool false),(.slice none 0 0),(.string (ByteArray.mk #[])),(.int .u8 0),(.int .u8 0),(.int .i64 0),(.int .i64 0),(.int .i64 0),(.int .u16 0),(.bool false),(.slice none 0 0),(.string (ByteArray.mk #[])),(.int .u8 0),(.int .u8 0),(.int .i64 0),(.int .i64 0),(.int .i64 0),(.int .u16 0),(.bool false),(.slice none 0 0),(.string (ByteArray.mk #[])),(.int .u8 0),(.int .u8 0),(.int .i64 0),(.int .i64 0),(.int .i64 0),(.int .u16 0),(.bool false),(.slice none 0 0),(.string (ByteArray.mk #[])),(.int .u8 0),(.int .u8 0),(.int .i64 0),(.int .i64 0),(.int .i64 0),(.int .u16 0),(.bool false),(.slice none 0 0),(.string (ByteArray.mk #[])),(.int .u8 0),(.int .u8 0),(.int .i64 0),(.int .i64 0),(.int .i64 0),(.int .u16 0),(.bool false),(.slice none 0 0),(.string (ByteArray.mk #[])),(.int .u8 0),(.int .u8 0),(.int .i64 0),(.int .i64 0),(.int .i64 0),(.int .u16 0),(.bool false),(.slice none 0 0),(.string (ByteArray.mk #[])),(.int .u8 0),(.int .u8 0),(.int .i64 0),(.int .i64 0),(.int .i64 0),(.int .u16 0),(.bool false),(.slice none 0 0),(.string (ByteArray.mk #[])),(.int .u8 0),(.int .u8 0),(.int .i64 0),(.int .i64 0),(.int .i64 0),(.int .u16 0),(.bool false),(.slice none 0 0),(.string (ByteArray.mk #[])),(.int .u8 0),(.int .u8 0),(.int .i64 0),(.int .i64 0),(.int .i64 0),(.int .u16 0),(.bool false),(.slice none 0 0),(.string (ByteArray.mk #[])),(.int .u8 0),(.int .u8 0),(.int .i64 0),(.int .i64 0),(.int .i64 0),(.int .u16 0),(.bool false),(.slice none 0 0),(.string (ByteArray.mk #[])),(.int .u8 0),(.int .u8 0),(.int .i64 0),(.int .i64 0),(.int .i64 0),(.int .u16 0),(.bool false),(.slice none 0 0),(.string (ByteArray.mk #[])),(.int .u8 0),(.int .u8 0),(.int .i64 0),(.int .i64 0),(.int .i64 0),(.int .u16 0),(.bool false),(.slice none 0 0),(.string (ByteArray.mk #[])),(.int .u8 0),(.int .u8 0),(.int .i64 0),(.int .i64 0),(.int .i64 0),(.int .u16 0),(.bool false),(.slice none 0 0),(.string (ByteArray.mk #[])),(.int .u8 0),(.int .u8 0),(.int .i64 0),(.int .i64 0),(.int .i64 0),(.int .u16 0),(.bool false),(.slice none 0 0),(.string (ByteArray.mk #[])),(.int .u8 0),(.int .u8 0),(.int .i64 0),(.int .i64 0),(.int .i64 0),(.int .u16 0),(.bool false),(.slice none 0 0),(.string (ByteArray.mk #[])),(.int .u8 0),(.int .u8 0),(.int .i64 0),(.int .i64 0),(.int .i64 0),(.int .u16 0),(.bool false),(.slice none 0 0),(.string (ByteArray.mk #[])),(.int .u8 0),(.int .u8 0),(.int .i64 0),(.int .i64 0),(.int .i64 0),(.int .u16 0),(.bool false),(.slice none 0 0),(.string (ByteArray.mk #[])),(.int .u8 0),(.int .u8 0),(.int .i64 0),(.int .i64 0),(.int .i64 0),(.int .u16 0),(.bool false),(.slice none 0 0),(.string (ByteArray.mk #[])),(.int .u8 0),(.int .u8 0),(.int .i64 0),(.int .i64 0),(.int .i64 0),(.int .u16 0),(.bool false),(.slice none 0 0),(.string (ByteArray.mk #[])),(.int .u8 0),(.int .u8 0),(.int .i64 0),(.int .i64 0),(.int .i64 0),(.int .u16 0),(.bool false),(.slice none 0 0),(.string (ByteArray.mk #[])),(.int .u8 0),(.int .u8 0),(.int .i64 0),(.int .i64 0),(.int .i64 0),(.int .u16 0),(.bool false),(.slice none 0 0),(.string (ByteArray.mk #[])),(.int .u8 0),(.int .u8 0),(.int .i64 0),(.int .i64 0),(.int .i64 0),(.int .u16 0),(.bool false),(.slice none 0 0),(.string (ByteArray.mk #[])),(.int .u8 0),(.int .u8 0),(.int .i64 0),(.int .i64 0),(.int .i64 0),(.int .u16 0),(.bool false),(.slice none 0 0),(.string (ByteArray.mk #[])),(.int .u8 0),(.int .u8 0),(.int .i64 0),(.int .i64 0),(.int .i64 0),(.int .u16 0),(.bool false),(.slice none 0 0),(.string (ByteArray.mk #[])),(.int .u8 0),(.int .u8 0),(.int .i64 0),(.int .i64 0),(.int .i64 0),(.int .u16 0),(.bool false),(.slice none 0 0),(.string (ByteArray.mk #[])),(.int .u8 0),(.int .u8 0),(.int .i64 0),(.int .i64 0),(.int .i64 0),(.int .u16 0),(.bool false),(.slice none 0 0),(.string (ByteArray.mk #[])),(.int .u8 0),(.int .u8 0),(.int .i64 0),(.int .i64 0),(.int .i64 0),(.int .u16 0),(.bool false),(.slice none 0 0),(.string (ByteArray.mk #[])),(.int .u8 0),(.int .u8 0),(.int .i64 0),(.int .i64 0),(.int .i64 0),(.int .u16 0),(.bool false),(.slice none 0 0),(.string (ByteArray.mk #[])),(.int .u8 0),(.int .u8 0),(.int .i64 0),(.int .i64 0),(.int .i64 0),(.int .u16 0),(.bool false),(.slice none 0 0),(.string (ByteArray.mk #[])),(.int .u8 0),(.int .u8 0),(.int .i64 0),(.int .i64 0),(.int .i64 0),(.int .u16 0),(.bool false),(.slice none 0 0),(.string (ByteArray.mk #[])),(.int .u8 0),(.int .u8 0),(.int .i64 0),(.int .i64 0),(.int .i64 0),(.int .u16 0),(.bool false),(.slice none 0 0),(.string (ByteArray.mk #[])),(.int .u8 0),(.int .u8 0),(.int .i64 0),(.int .i64 0),(.int .i64 0),(.int .u16 0),(.bool false),(.slice none 0 0),(.string (ByteArray.mk #[])),(.int .u8 0),(.int .u8 0),(.int .i64 0),(.int .i64 0),(.int .i64 0),(.int .u16 0),(.bool false),(.slice none 0 0),(.string (ByteArray.mk #[])),(.int .u8 0),(.int .u8 0),(.int .i64 0),(.int .i64 0),(.int .i64 0),(.int .u16 0),(.bool false),(.slice none 0 0),(.string (ByteArray.mk #[])),(.int .u8 0),(.int .u8 0),(.int .i64 0),(.int .i64 0),(.int .i64 0),(.int .u16 0),(.bool false),(.slice none 0 0),(.string (ByteArray.mk #[])),(.int .u8 0),(.int .u8 0),(.int .i64 0),(.int .i64 0),(.int .i64 0),(.int .u16 0),(.bool false),(.slice none 0 0),(.string (ByteArray.mk #[])),(.int .u8 0),(.int .u8 0),(.int .i64 0),(.int .i64 0),(.int .i64 0),(.int .u16 0),(.bool false),(.slice none 0 0),(.string (ByteArray.mk #[])),(.int .u8 0),(.int .u8 0),(.int .i64 0),(.int .i64 0),(.int .i64 0),(.int .u16 0),(.bool false),(.slice none 0 0),(.string (ByteArray.mk #[])),(.int .u8 0),(.int .u8 0),(.int .i64 0),(.int .i64 0),(.int .i64 0),(.int .u16 0),(.bool false),(.slice none 0 0),(.string (ByteArray.mk #[])),(.int .u8 0),(.int .u8 0),(.int .i64 0),(.int .i64 0),(.int .i64 0),(.int .u16 0),(.bool false),(.slice none 0 0),(.string (ByteArray.mk #[])),(.string (ByteArray.mk #[])),(.string (ByteArray.mk #[])),(.string (ByteArray.mk #[])),(.string (ByteArray.mk #[])),(.string (ByteArray.mk #[])),(.string (ByteArray.mk #[])),(.string (ByteArray.mk #[])),(.string (ByteArray.mk #[])),(.int .u8 0),(.string (ByteArray.mk #[])),(.int .i64 0),(.int .i64 0),(.int .u8 0),(.string (ByteArray.mk #[])),(.int .i64 0),(.int .i64 0),(.int .u8 0),(.string (ByteArray.mk #[])),(.int .i64 0),(.int .i64 0),(.int .u8 0),(.string (ByteArray.mk #[])),(.int .i64 0),(.int .i64 0),(.int .u8 0),(.string (ByteArray.mk #[])),(.int .i64 0),(.int .i64 0)] 608 fun H1=>
Q ((some ⟨H.length,0,none⟩),()) H1
def VP:dJ:=.leaf
theorem VQ(H:Heap)(Q:(Option Addr)×Unit->Heap->Prop):BA H Q=eP C [] Tryz.f35.ntmps Tryz.f35.results.toList [dK] (aQ Tryz.f35) VP [] H Q:=by kernel_rfl
theorem VT{H:Heap}{Q:(Option Addr)×Unit->Heap->Prop}(h:BA H Q):CALL P [dK] Bq [] H Q:=aB hE Tryz.func35 rfl (by kernel_rfl) (VQ H Q) h
def yL(H:Heap)(Q:(Option Addr)×Unit->Heap->Prop):Prop:=
NEW H [(.bool true),(.bool false),(.slice none 0 0),(.string (ByteArray.mk #[])),(.string (ByteArray.mk #[])),(.string (ByteArray.mk #[])),(.string (ByteArray.mk #[])),(.string (ByteArray.mk #[])),(.string (ByteArray.mk #[])),(.string (ByteArray.mk #[])),(.string (ByteArray.mk #[])),(.string (ByteArray.mk #[])),(.int .u8 0),(.string (ByteArray.mk #[])),(.int .i64 0),(.int .i64 0),(.int .u8 0),(.string (ByteArray.mk #[])),(.int .i64 0),(.int .i64 0),(.int .u8 0),(.string (ByteArray.mk #[])),(.int .i64 0),(.int .i64 0),(.int .u8 0),(.string (ByteArray.mk #[])),(.int .i64 0),(.int .i64 0),(.int .u8 0),(.string (ByteArray.mk #[])),(.int .i64 0),(.int .i64 0)] 32 fun H1=>
Q ((some ⟨H.length,0,none⟩),()) H1
def TR:dJ:=.leaf
theorem TS(H:Heap)(Q:(Option Addr)×Unit->Heap->Prop):yL H Q=eP C [] Tryz.f36.ntmps Tryz.f36.results.toList [dK] (aQ Tryz.f36) TR [] H Q:=by kernel_rfl
theorem TT{H:Heap}{Q:(Option Addr)×Unit->Heap->Prop}(h:yL H Q):CALL P [dK] yC [] H Q:=aB hE Tryz.func36 rfl (by kernel_rfl) (TS H Q) h
def mX(a0:Option Addr)(a1:ay)(H:Heap)(Q:Int×Unit->Heap->Prop):Prop:=
CALL P [(au .i64)] iI [(.pointer a0)] H fun(x1:Int×Unit) H1=>
aO (x1.1 !=0) (
Q (x1.1,()) H1) (
CALL P [(au .i64)] vU [(aA.enc a1)] H1 fun(x2:Int×Unit) H2=>
aO (x2.1 !=0) (
Q (x2.1,()) H2) (
CALL P [(au .i64)] gX [(.pointer a0),(.string a1.Name)] H2 fun(x3:Int×Unit) H3=>
aO (decide (x3.1≥0)) (
Q (5,()) H3) (
NIL a0 fun b4 o5=>
LD (au .i64) H3 b4 (o5+2) fun(x6:Int)=>
aO (decide (x6≥64)) (
Q (14,()) H3) (
NIL a0 fun b7 o8=>
LD (au .i64) H3 b7 (o8+2) fun(x9:Int)=>
JOIN (fun(j10:(Int×Unit)×(Unit)->Heap->Prop)=>
LOOP (fun(r12:(Int×Unit)×(Unit)->Heap->Prop) (s13:(Int×Unit)×(Unit)) H5=>
JOIN (fun(j14:(Bool×Unit)×(Unit)->Heap->Prop)=>
aO (decide (s13.1.1>0)) (
NIL a0 fun b16 o17=>
yh 64 (IntKind.wrap .i64 (s13.1.1-1)) (
LD aA H5 b16 (o17+3+(IntKind.wrap .i64 (s13.1.1-1)).toNat*9) fun(x18:ay)=>
CALL P [ah] vV [(aA.enc a1),(aA.enc x18)] H5 fun(x19:Bool×Unit) H7=>
j14 ((x19.1,()),(())) H7)) (
j14 ((false,()),(())) H5)) fun(y15:(Bool×Unit)×(Unit)) H6=>
aO y15.1.1 (
NIL a0 fun b20 o21=>
yh 64 (IntKind.wrap .i64 (s13.1.1-1)) (
LD aA H6 b20 (o21+3+(IntKind.wrap .i64 (s13.1.1-1)).toNat*9) fun(x22:ay)=>
NIL a0 fun b23 o24=>
yh 64 s13.1.1 (
ST H6 b23 (o24+3+s13.1.1.toNat*9) (aA.cells x22) fun H8=>
r12 ((IntKind.wrap .i64 (s13.1.1-1),()),(())) H8))) (
j10 ((s13.1.1,()),(())) H6)) ((x9,()),(())) H3) fun(y11:(Int×Unit)×(Unit)) H4=>
NIL a0 fun b25 o26=>
CALL P [aA] rH [(aA.enc a1)] H4 fun(x27:ay×Unit) H9=>
yh 64 y11.1.1 (
ST H9 b25 (o26+3+y11.1.1.toNat*9) (aA.cells x27.1) fun H10=>
NIL a0 fun b28 o29=>
LD (au .i64) H10 b28 (o29+2) fun(x30:Int)=>
NIL a0 fun b31 o32=>
ST H10 b31 (o32+2) [(.int .i64 (IntKind.wrap .i64 (x30+1)))] fun H11=>
Q (0,()) H11)))))
def E5:dJ:=(.seq .leaf (.seq .leaf (.seq .leaf (.seq .leaf (.seq (.blk (some ⟨[(7,(au .i64))],[],(rg 35 27 [])⟩) (.loop ⟨[(7,(au .i64))],[],(rg 35 27 [])⟩ (.seq (.seq (.reg ⟨[(47,ah)],[],(rg 35 12 [])⟩) .leaf) .leaf))) .leaf)))))
theorem E8(a0:Option Addr)(a1:ay)(H:Heap)(Q:Int×Unit->Heap->Prop):mX a0 a1 H Q=eP C [3] Tryz.f37.ntmps Tryz.f37.results.toList [(au .i64)] (aQ Tryz.f37) E5 [(.pointer a0),(aA.enc a1)] H Q:=by kernel_rfl
theorem Fa{a0:Option Addr}{a1:ay}{H:Heap}{Q:Int×Unit->Heap->Prop}(h:mX a0 a1 H Q):CALL P [(au .i64)] mQ [(.pointer a0),(aA.enc a1)] H Q:=aB hE Tryz.func37 rfl (by kernel_rfl) (E8 a0 a1 H Q) h
def qy(a0:ay)(H:Heap)(Q:ay×Unit->Heap->Prop):Prop:=
CALL P [aK] xq [a0.Parts.v] H fun(x1:Sl×Unit) H1=>
Q ((ay.mk a0.Name a0.Suit a0.Kind a0.Cost a0.Power a0.Health a0.Traits a0.Token x1.1),()) H1
def JH:dJ:=.leaf
theorem JI(a0:ay)(H:Heap)(Q:ay×Unit->Heap->Prop):qy a0 H Q=eP C [1,2] Tryz.f38.ntmps Tryz.f38.results.toList [aA] (aQ Tryz.f38) JH [(aA.enc a0)] H Q:=by kernel_rfl
theorem JK{a0:ay}{H:Heap}{Q:ay×Unit->Heap->Prop}(h:qy a0 H Q):CALL P [aA] lF [(aA.enc a0)] H Q:=aB hE Tryz.func38 rfl (by kernel_rfl) (JI a0 H Q) h
def lT(a0:Option Addr)(a1:ay)(H:Heap)(Q:Int×Unit->Heap->Prop):Prop:=
CALL P [ah] fD [(.pointer a0)] H fun(x1:Bool×Unit) H1=>
aO x1.1 (
Q (1,()) H1) (
NIL a0 fun b2 o3=>
LD ah H1 b2 (o3+1) fun(x4:Bool)=>
aO x4 (
Q (7,()) H1) (
CALL P [(au .i64)] sN [(aA.enc a1)] H1 fun(x5:Int×Unit) H2=>
aO (x5.1 !=0) (
Q (x5.1,()) H2) (
CALL P [(au .i64)] iM [(.pointer a0),(.string a1.Name)] H2 fun(x6:Int×Unit) H3=>
aO (decide (x6.1≥0)) (
Q (5,()) H3) (
NIL a0 fun b7 o8=>
LD aK H3 b7 (o8+2) fun(x9:Sl)=>
aO (decide ((x9.len:Int)≥64)) (
Q (14,()) H3) (
JOIN (fun(j10:(Sl×Bool×Unit)×(Unit)->Heap->Prop)=>
LOOP (fun(r12:(Sl×Bool×Int×Unit)×(Unit)->Heap->Prop) (s13:(Sl×Bool×Int×Unit)×(Unit)) H5=>
NIL a0 fun b14 o15=>
LD aK H5 b14 (o15+2) fun(x16:Sl)=>
aO (decide (s13.1.2.2.1<(x16.len:Int))) (
JOIN (fun(j17:(Bool×Unit)×(Unit)->Heap->Prop)=>
aO (!s13.1.2.1) (
NIL a0 fun b19 o20=>
LD aK H5 b19 (o20+2) fun(x21:Sl)=>
dR x21.p x21.len s13.1.2.2.1 9 fun b22 o23=>
LD aA H5 b22 o23 fun(x24:ay)=>
CALL P [ah] sO [(aA.enc a1),(aA.enc x24)] H5 fun(x25:Bool×Unit) H7=>
j17 ((x25.1,()),(())) H7) (
j17 ((false,()),(())) H5)) fun(y18:(Bool×Unit)×(Unit)) H6=>
JOIN (fun(j26:(Sl×Bool×Unit)×(Unit)->Heap->Prop)=>
aO y18.1.1 (
CALL P [aA] lJ [(aA.enc a1)] H6 fun(x28:ay×Unit) H9=>
Gs aK (lenV s13.1.1.v+1) (fA E [22,22] s13.1.1.v 1 (aA.cells x28.1) H9) fun(x29:Sl) H10=>
j26 ((x29,true,()),(())) H10) (
j26 ((s13.1.1,s13.1.2.1,()),(())) H6)) fun(y27:(Sl×Bool×Unit)×(Unit)) H8=>
NIL a0 fun b30 o31=>
LD aK H8 b30 (o31+2) fun(x32:Sl)=>
dR x32.p x32.len s13.1.2.2.1 9 fun b33 o34=>
LD aA H8 b33 o34 fun(x35:ay)=>
Gs aK (lenV y27.1.1.v+1) (fA E [22,22] y27.1.1.v 1 (aA.cells x35) H8) fun(x36:Sl) H11=>
r12 ((x36,y27.1.2.1,IntKind.wrap .i64 (s13.1.2.2.1+1),()),(())) H11) (
j10 ((s13.1.1,s13.1.2.1,()),(())) H5)) (((Sl.mk none 0 0),false,0,()),(())) H3) fun(y11:(Sl×Bool×Unit)×(Unit)) H4=>
JOIN (fun(j37:(Sl×Unit)×(Unit)->Heap->Prop)=>
aO (!y11.1.2.1) (
CALL P [aA] lJ [(aA.enc a1)] H4 fun(x39:ay×Unit) H13=>
Gs aK (lenV y11.1.1.v+1) (fA E [22,22] y11.1.1.v 1 (aA.cells x39.1) H13) fun(x40:Sl) H14=>
j37 ((x40,()),(())) H14) (
j37 ((y11.1.1,()),(())) H4)) fun(y38:(Sl×Unit)×(Unit)) H12=>
NIL a0 fun b41 o42=>
ST H12 b41 (o42+2) [(.slice y38.1.1.p y38.1.1.len y38.1.1.cap)] fun H15=>
Q (0,()) H15)))))
def Dy:dJ:=(.seq .leaf (.seq .leaf (.seq .leaf (.seq .leaf (.seq .leaf (.seq .leaf (.seq .leaf (.seq .leaf (.seq .leaf (.seq (.seq .leaf (.blk (some ⟨[(6,aK),(7,ah)],[],(rg 8 1 (rg 31 37 []))⟩) (.loop ⟨[(6,aK),(7,ah),(8,(au .i64))],[],(rg 31 37 [])⟩ (.seq .leaf (.seq (.blk none (.seq (.seq (.reg ⟨[(52,ah)],[],(rg 40 12 [])⟩) (.cond (some ⟨[(6,aK),(7,ah)],[],(rg 53 5 [])⟩) .leaf .leaf)) .leaf)) .leaf))))) (.seq (.seq .leaf (.cond (some ⟨[(6,aK)],[],(rg 70 5 [])⟩) .leaf .leaf)) .leaf)))))))))))
theorem Dz(a0:Option Addr)(a1:ay)(H:Heap)(Q:Int×Unit->Heap->Prop):lT a0 a1 H Q=eP C [3,56,66,73] Tryz.f39.ntmps Tryz.f39.results.toList [(au .i64)] (aQ Tryz.f39) Dy [(.pointer a0),(aA.enc a1)] H Q:=by kernel_rfl
theorem DC{a0:Option Addr}{a1:ay}{H:Heap}{Q:Int×Unit->Heap->Prop}(h:lT a0 a1 H Q):CALL P [(au .i64)] lG [(.pointer a0),(aA.enc a1)] H Q:=aB hE Tryz.func39 rfl (by kernel_rfl) (Dz a0 a1 H Q) h
def mY(a0:Option Addr)(a1:ak)(H:Heap)(Q:Int×Unit->Heap->Prop):Prop:=
CALL P [(au .i64)] iI [(.pointer a0)] H fun(x1:Int×Unit) H1=>
aO (x1.1 !=0) (
Q (x1.1,()) H1) (
JOIN (fun(j2:(Bool×Unit)×(Unit)->Heap->Prop)=>
aO (decide (a1.Mark<1)) (
j2 ((true,()),(())) H1) (
aO (decide (a1.Mark>4)) (
j2 ((true,()),(())) H1) (
CALL P [ah] nN [(.int .i64 a1.Power)] H1 fun(x4:Bool×Unit) H3=>
aO (!x4.1) (
j2 ((true,()),(())) H3) (
CALL P [ah] nN [(.int .i64 a1.Health)] H3 fun(x5:Bool×Unit) H4=>
j2 ((!x5.1,()),(())) H4)))) fun(y3:(Bool×Unit)×(Unit)) H2=>
aO y3.1.1 (
Q (2,()) H2) (
CALL P [ah] yD [(.string a1.Name)] H2 fun(x6:Bool×Unit) H5=>
aO (!x6.1) (
Q (4,()) H5) (
NIL a0 fun b7 o8=>
yh 5 a1.Mark (
LD (au .u8) H5 b7 (o8+588+a1.Mark.toNat*4+0) fun(x9:Int)=>
aO (x9 !=0) (
Q (5,()) H5) (
NIL a0 fun b10 o11=>
LD fC H5 b10 (o11+588) fun(x12:ak×ak×ak×ak×ak)=>
JOIN (fun(j13:(Unit)×(Unit)->Heap->Prop)=>
LOOP (fun(r15:(Int×Unit)×(Unit)->Heap->Prop) (s16:(Int×Unit)×(Unit)) H7=>
aO (decide (s16.1.1<5)) (
dX aT (dF E 129 (.agg #[(.int .u8 x12.1.Mark),(.string x12.1.Name),(.int .i64 x12.1.Power),(.int .i64 x12.1.Health),(.int .u8 x12.2.1.Mark),(.string x12.2.1.Name),(.int .i64 x12.2.1.Power),(.int .i64 x12.2.1.Health),(.int .u8 x12.2.2.1.Mark),(.string x12.2.2.1.Name),(.int .i64 x12.2.2.1.Power),(.int .i64 x12.2.2.1.Health),(.int .u8 x12.2.2.2.1.Mark),(.string x12.2.2.2.1.Name),(.int .i64 x12.2.2.2.1.Power),(.int .i64 x12.2.2.2.1.Health),(.int .u8 x12.2.2.2.2.Mark),(.string x12.2.2.2.2.Name),(.int .i64 x12.2.2.2.2.Power),(.int .i64 x12.2.2.2.2.Health)]) (.int .i64 s16.1.1)) fun(x17:ak)=>
aO (x17.Name.toList==a1.Name.toList) (
Q (5,()) H7) (
r15 ((IntKind.wrap .i64 (s16.1.1+1),()),(())) H7)) (
j13 ((()),(())) H7)) ((0,()),(())) H5) fun(y14:(Unit)×(Unit)) H6=>
NIL a0 fun b18 o19=>
yh 5 a1.Mark (
ST H6 b18 (o19+588+a1.Mark.toNat*4) (aT.cells a1) fun H8=>
Q (0,()) H8))))))
def Fb:dJ:=(.seq .leaf (.seq .leaf (.seq (.blk none (.seq (.reg ⟨[(13,ah)],[],(rg 14 20 [])⟩) .leaf)) (.seq (.seq .leaf (.blk (some ⟨[],[],(rg 4 1 (rg 7 1 (rg 53 9 [])))⟩) (.loop ⟨[(53,(au .i64))],[],(rg 4 1 (rg 7 1 (rg 54 8 [])))⟩ .leaf))) .leaf))))
theorem Fe(a0:Option Addr)(a1:ak)(H:Heap)(Q:Int×Unit->Heap->Prop):mY a0 a1 H Q=eP C [3,7] Tryz.f40.ntmps Tryz.f40.results.toList [(au .i64)] (aQ Tryz.f40) Fb [(.pointer a0),(aT.enc a1)] H Q:=by kernel_rfl
theorem Fg{a0:Option Addr}{a1:ak}{H:Heap}{Q:Int×Unit->Heap->Prop}(h:mY a0 a1 H Q):CALL P [(au .i64)] mV [(.pointer a0),(aT.enc a1)] H Q:=aB hE Tryz.func40 rfl (by kernel_rfl) (Fe a0 a1 H Q) h
def lU(a0:Option Addr)(a1:ak)(H:Heap)(Q:Int×Unit->Heap->Prop):Prop:=
CALL P [ah] fD [(.pointer a0)] H fun(x1:Bool×Unit) H1=>
aO x1.1 (
Q (1,()) H1) (
NIL a0 fun b2 o3=>
LD ah H1 b2 (o3+1) fun(x4:Bool)=>
aO x4 (
Q (7,()) H1) (
JOIN (fun(j5:(Bool×Unit)×(Unit)->Heap->Prop)=>
aO (decide (a1.Mark<1)) (
j5 ((true,()),(())) H1) (
aO (decide (a1.Mark>4)) (
j5 ((true,()),(())) H1) (
aO (decide (a1.Power<(-9))) (
j5 ((true,()),(())) H1) (
aO (decide (a1.Power>9)) (
j5 ((true,()),(())) H1) (
aO (decide (a1.Health<(-9))) (
j5 ((true,()),(())) H1) (
j5 ((decide (a1.Health>9),()),(())) H1)))))) fun(y6:(Bool×Unit)×(Unit)) H2=>
aO y6.1.1 (
Q (2,()) H2) (
CALL P [ah] vW [(.string a1.Name)] H2 fun(x7:Bool×Unit) H3=>
aO (!x7.1) (
Q (4,()) H3) (
JOIN (fun(j8:(Unit)×(Unit)->Heap->Prop)=>
LOOP (fun(r10:(Int×Unit)×(Unit)->Heap->Prop) (s11:(Int×Unit)×(Unit)) H5=>
aO (decide (s11.1.1≤4)) (
JOIN (fun(j12:(Bool×Unit)×(Unit)->Heap->Prop)=>
aO ((IntKind.wrap .u8 s11.1.1)==a1.Mark) (
NIL a0 fun b14 o15=>
yh 5 s11.1.1 (
LD (au .u8) H5 b14 (o15+12+s11.1.1.toNat*4+0) fun(x16:Int)=>
aO (x16 !=0) (
j12 ((true,()),(())) H5) (
NIL a0 fun b17 o18=>
yh 5 s11.1.1 (
LD dH H5 b17 (o18+12+s11.1.1.toNat*4+1) fun(x19:ByteArray)=>
j12 ((x19.toList==a1.Name.toList,()),(())) H5)))) (
NIL a0 fun b20 o21=>
yh 5 s11.1.1 (
LD dH H5 b20 (o21+12+s11.1.1.toNat*4+1) fun(x22:ByteArray)=>
j12 ((x22.toList==a1.Name.toList,()),(())) H5))) fun(y13:(Bool×Unit)×(Unit)) H6=>
aO y13.1.1 (
Q (5,()) H6) (
r10 ((IntKind.wrap .i64 (s11.1.1+1),()),(())) H6)) (
j8 ((()),(())) H5)) ((1,()),(())) H3) fun(y9:(Unit)×(Unit)) H4=>
NIL a0 fun b23 o24=>
yh 5 a1.Mark (
ST H4 b23 (o24+12+a1.Mark.toNat*4) (aT.cells a1) fun H7=>
Q (0,()) H7)))))
def DF:dJ:=(.seq .leaf (.seq .leaf (.seq .leaf (.seq (.seq (.reg ⟨[(39,ah)],[],(rg 12 27 [])⟩) .leaf) (.seq .leaf (.seq (.seq .leaf (.blk (some ⟨[],[],(rg 4 2 (rg 44 31 []))⟩) (.loop ⟨[(5,(au .i64))],[],(rg 4 1 (rg 44 31 []))⟩ (.seq .leaf (.seq (.blk none (.seq (.reg ⟨[(74,ah)],[],(rg 48 26 [])⟩) .leaf)) .leaf))))) .leaf))))))
theorem DI(a0:Option Addr)(a1:ak)(H:Heap)(Q:Int×Unit->Heap->Prop):lU a0 a1 H Q=eP C [3] Tryz.f41.ntmps Tryz.f41.results.toList [(au .i64)] (aQ Tryz.f41) DF [(.pointer a0),(aT.enc a1)] H Q:=by kernel_rfl
theorem DJ{a0:Option Addr}{a1:ak}{H:Heap}{Q:Int×Unit->Heap->Prop}(h:lU a0 a1 H Q):CALL P [(au .i64)] lH [(.pointer a0),(aT.enc a1)] H Q:=aB hE Tryz.func41 rfl (by kernel_rfl) (DI a0 a1 H Q) h
end Zv
end Go.Proofs.YtijnknjopjmiiaaGreatDoor
end
