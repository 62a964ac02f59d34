/- Part 0 of the proof of ViewTable: what its row stands on (lemmas about the model, the evaluator, contracts of functions), put together and cut to what is used. -/
import GoSem.Step
import Derived.CallsIn
import Derived.Laws.CopyRow
import Derived.Laws.World
import Derived.Laws.Entries
import Derived.Laws.MakeOwn
import Derived.Lib.LaidTab
import Derived.Laws.StructEq
import Derived.Laws.Bits
import Derived.OrdersIn
section
namespace Go.Proofs.YtijnknjopjmiiaaGreatDoor.Zq
inductive TK where
 |bool|int (k:IntKind)|string
 |pointer (e:TypeId)|slice (e:TypeId)|array (n:Nat) (e:TypeId)
 |map (k e:TypeId)
 |struct (fs:List (Nat×TypeId))
 |func|iface|other
 deriving Inhabited
structure TI where
 k:TK
 size:Nat
 bytes:Nat
 zero:List Value
 deriving Inhabited
structure dK where
 n:Nat
 l:List (Nat×Option Value)
 deriving Inhabited
def look:List (Nat×Option Value)->Nat->Option Value
 |[],_=>none
 |(i,v)::r,t=>if i=t then v else look r t
def dK.get(fr:dK)(t:Nat):Option Value:=look fr.l t
def dK.put(fr:dK)(t:Nat)(v:Value):dK:={ fr with l:=(t,some v)::fr.l }
def dK.dU(fr:dK)(d:Option Nat)(v:Value):dK:=
 match d with
 |some t=>fr.put t v
 |none=>fr
inductive Hint where
 |leaf
 |seq (a b:Hint)
 |cond (j:Option (List Nat)) (a b:Hint)
 |sub (j:Option (List Nat)) (a:Hint)
 |loop (live:List Nat) (a:Hint)
 deriving Inhabited
def Hint.a:Hint->Hint
 | .seq a _| .cond _ a _| .sub _ a| .loop _ a=>a
 | .leaf=>.leaf
def Hint.b:Hint->Hint
 | .seq _ b| .cond _ _ b=>b
 |_=>.leaf
def Hint.j:Hint->Option (List Nat)
 | .cond j _ _| .sub j _=>j
 | .loop j _=>some j
 |_=>none
inductive Ex where
 |normal
 |exit (id:Nat)
 |ret
 deriving DecidableEq,Inhabited
inductive gI where
 |row (cells:List Value) (sz:Nat) (opn ro live:Bool)
 |map (es:List MapEntry) (clock:Nat)
 |iter (s:ByteArray) (pos:Nat)
 |loop (st:LoopState) (pend:Option Ex) (fr:dK) (ps:List Nat) (asg body:Code) (hb:Hint)
 deriving Inhabited
abbrev Heap:=List gI
inductive Tgt where
 |fn (f:FuncId)
 |round (l:Nat)
abbrev iU:=Tgt->List Value->Heap->Option (Value×Heap)
structure Env where
 ty:TypeId->Option TI
 fn:FuncId->Option Func
 hint:FuncId->Hint
 ext:FuncId->Option (List Value->Heap->Option (Value×Heap))
def cell1:Value->Bool
 | .agg _| .tuple _=>false
 |_=>true
def rM:Value->Bool
 | .bool _| .int _ _| .string _| .pointer none| .slice none 0 0| .map none| .nilFunc| .nilIface=>true
 |_=>false
def flat:Value->Bool
 | .agg cs=>cs.toList.all rM
 | .tuple cs=>cs.toList.all rM
 |v=>rM v
def nS(fr:dK):Operand->Option Value
 | .tmp t=>fr.get t
 | .const v=>if flat v then some v else none
 | .global _=>none
 | .func f=>some (.func (.func f) #[] #[])
def GX(fr:dK):List Operand->Option (List Value)
 |[]=>some []
 |x::r=>(nS fr x).bind fun v=>(GX fr r).bind fun vs=>some (v::vs)
def rd(H:Heap)(b off n:Nat):Option (List Value):=
 match H[b]? with
 |some (.row c _ _ _ true)=>if off+n≤c.length then some ((c.drop off).take n)else none
 |_=>none
def patch(l:List Value)(off:Nat)(vs:List Value):List Value:=l.take off++vs++l.drop (off+vs.length)
def wr(H:Heap)(b off:Nat)(vs:List Value):Option Heap:=
 match H[b]? with
 |some (.row c sz o false true)=>
  if off+vs.length≤c.length then(if vs.all cell1 then some (H.set b (.row (patch c off vs) sz o false true))else none)else none
 |_=>none
def mk(H:Heap)(cells:List Value)(sz:Nat)(opn:Bool):Heap:=H++[.row cells sz opn false true]
def mO:TK->Bool
 | .struct _| .array _ _=>true
 |_=>false
def gJ(k:TK)(cs:List Value):Option Value:=
 if mO k then some (.agg cs.toArray)else
 match cs with
 |[v]=>some v
 |_=>none
def Gj(E:Env)(t:TypeId)(addr:Value)(H:Heap):Option Value:=
 match addr with
 | .pointer (some ⟨b,off,none⟩)=>(E.ty t).bind fun ti=>(rd H b off ti.size).bind fun cs=>gJ ti.k cs
 |_=>none
def EF(E:Env)(t:TypeId)(addr v:Value)(H:Heap):Option Heap:=
 match addr with
 | .pointer (some ⟨b,off,none⟩)=>(E.ty t).bind fun ti=>if v.cells.toList.length=ti.size then wr H b off v.cells.toList else none
 |_=>none
def vG(E:Env)(t:TypeId)(H:Heap):Option (Value×Heap):=
 (E.ty t).bind fun ti=>some (.pointer (some ⟨H.length,0,none⟩),mk H ti.zero ti.size false)
def YO(v:Value)(H:Heap):Option (Value×Heap):=
 some (.pointer (some ⟨H.length,0,none⟩),mk H v.cells.toList v.cells.toList.length false)
def Gl(place:Nat->Option (Nat×Nat)):List Value->List (Nat×Value)->Option (List Value)
 |cs,[]=>some cs
 |cs,(i,v)::r=>
  match place i with
  |none=>none
  |some (off,size)=>
   if v.cells.toList.length=size then(if off+size≤cs.length then Gl place (patch cs off v.cells.toList) r else none)else none
def qc(fr:dK):List (Nat×Operand)->Option (List (Nat×Value))
 |[]=>some []
 |(i,x)::r=>(nS fr x).bind fun v=>(qc fr r).bind fun vs=>some ((i,v)::vs)
def xW(E:Env)(fs:List (Nat×TypeId))(i:Nat):Option (Nat×Nat):=
 match fs[i]? with
 |some (off,t)=>(E.ty t).bind fun ti=>some (off,ti.size)
 |none=>none
def EG(E:Env)(t:TypeId)(parts:List (Nat×Value)):Option Value:=
 (E.ty t).bind fun ti=>
  match ti.k with
  | .struct fs=>(Gl (xW E fs) ti.zero parts).bind fun cs=>some (.agg cs.toArray)
  | .array _ e=>(E.ty e).bind fun te=>(Gl (fun i=>some (i*te.size,te.size)) ti.zero parts).bind fun cs=>some (.agg cs.toArray)
  |_=>none
def rep(n:Nat)(z:List Value):List Value:=
 match n with
 |0=>[]
 |n+1=>z++rep n z
def eX(E:Env)(t:TypeId)(len:Nat)(parts:List (Nat×Value))(H:Heap):Option (Value×Heap):=
 (E.ty t).bind fun ti=>
  match ti.k with
  | .slice e=>(E.ty e).bind fun te=>
   if len*te.size≤16777216 then
    (Gl (fun i=>some (i*te.size,te.size)) (rep len te.zero) parts).bind fun cs=>some (.slice (some ⟨H.length,0,none⟩) len len,mk H cs te.size false)
   else none
  |_=>none
def dR(E:Env)(t:TypeId)(len cap:Value)(H:Heap):Option (Value×Heap):=
 match len,cap with
 | .int _ l,.int _ c=>
  (E.ty t).bind fun ti=>
   match ti.k with
   | .slice e=>(E.ty e).bind fun te=>
    if 0≤l∧l≤c∧te.bytes*c≤281474976710656∧c≤9223372036854775807 then
     some (.slice (some ⟨H.length,0,none⟩) l.toNat c.toNat,mk H (rep c.toNat te.zero) te.size false)
    else none
   |_=>none
 |_,_=>none
def mP(E:Env)(t:TypeId)(x:Value)(i:Nat):Option Value:=
 match x with
 | .pointer (some ⟨b,off,none⟩)=>
  (E.ty t).bind fun ti=>
   match ti.k with
   | .struct fs=>
    match fs[i]? with
    |some (o,ft)=>(E.ty ft).bind fun te=>if te.size=0 then none else some (.pointer (some ⟨b,off+o,none⟩))
    |none=>none
   |_=>none
 |_=>none
def xu(E:Env)(t:TypeId)(cs:List Value)(off:Nat):Option Value:=
 (E.ty t).bind fun ti=>if off+ti.size≤cs.length then gJ ti.k ((cs.drop off).take ti.size)else none
def EH(E:Env)(t:TypeId)(x:Value)(i:Nat):Option Value:=
 match x with
 | .agg cs=>
  (E.ty t).bind fun ti=>
   match ti.k with
   | .struct fs=>
    match fs[i]? with
    |some (o,ft)=>xu E ft cs.toList o
    |none=>none
   |_=>none
 |_=>none
def kH(E:Env)(t:TypeId)(x i:Value):Option Value:=
 match i with
 | .int _ n=>
  (E.ty t).bind fun ti=>
   match ti.k,x with
   | .array len e,.pointer (some ⟨b,off,none⟩)=>(E.ty e).bind fun te=>
    if 0≤n∧n<len then some (.pointer (some ⟨b,off+n.toNat*te.size,none⟩))else none
   | .slice e,.slice (some ⟨b,off,none⟩) len _=>(E.ty e).bind fun te=>
    if 0≤n∧n<len then some (.pointer (some ⟨b,off+n.toNat*te.size,none⟩))else none
   |_,_=>none
 |_=>none
def dF(E:Env)(t:TypeId)(x i:Value):Option Value:=
 match i with
 | .int _ n=>
  (E.ty t).bind fun ti=>
   match ti.k,x with
   | .array len e,.agg cs=>(E.ty e).bind fun te=>if 0≤n∧n<len then xu E e cs.toList (n.toNat*te.size)else none
   | .string,.string s=>if 0≤n then(match s[n.toNat]? with|some c=>some (.int .u8 c.toNat)|none=>none)else none
   |_,_=>none
 |_=>none
def exact(H:Heap)(b off cap:Nat):Bool:=
 match H[b]? with
 |some (.row c sz opn _ _)=> !opn||decide (off+cap*sz<c.length)
 |_=>false
def Rq(H:Heap)(b size:Nat):Bool:=
 match H[b]? with
 |some (.row _ sz _ _ _)=>decide (sz=size)
 |_=>false
def dn:Option Value->Nat->Option Nat
 |none,d=>some d
 |some (.int _ n),_=>if 0≤n then some n.toNat else none
 |some _,_=>none
def IJ(fr:dK):Option Operand->Option (Option Value)
 |none=>some none
 |some x=>(nS fr x).bind fun v=>some (some v)
def dS(E:Env)(t:TypeId)(x:Value)(lo hi mx:Option Value)(H:Heap):Option Value:=
 if mx.isSome&&hi.isNone then none else
 (E.ty t).bind fun ti=>
  match ti.k,x with
  | .array n e,.pointer (some ⟨b,off,none⟩)=>(E.ty e).bind fun te=>
   (dn mx n).bind fun m=>(dn hi n).bind fun h=>(dn lo 0).bind fun l=>
    if m≤n∧h≤m∧l≤h then some (.slice (some ⟨b,if m=l then off else off+l*te.size,none⟩) (h-l) (m-l))else none
  | .slice e,.slice (some ⟨b,off,none⟩) len cap=>(E.ty e).bind fun te=>
   (dn mx cap).bind fun m=>(dn hi len).bind fun h=>(dn lo 0).bind fun l=>
    if m≤cap∧h≤m∧l≤h then
     (if mx.isSome∨exact H b off cap=true then
      some (.slice (some ⟨b,if m=l then off else off+l*te.size,none⟩) (h-l) (m-l))
     else if Rq H b te.size then
      (if l<m then some (.slice (some ⟨b,off+l*te.size,none⟩) (h-l) (m-l))
      else some (.slice (some ⟨b,off,some 0⟩) 0 0))
     else none)
    else none
  | .slice e,.slice none 0 0=>(E.ty e).bind fun _=>
   (dn mx 0).bind fun m=>(dn hi 0).bind fun h=>(dn lo 0).bind fun l=>if m≤0∧h≤m∧l≤h then some (.slice none 0 0)else none
  | .slice e,.slice (some ⟨b,off,some 0⟩) 0 0=>(E.ty e).bind fun _=>
   if mx.isSome then none else
   (dn hi 0).bind fun h=>(dn lo 0).bind fun l=>if h≤0∧l≤h then some (.slice (some ⟨b,off,some 0⟩) 0 0)else none
  | .string,.string s=>
   if mx.isSome then none else
   (dn hi s.size).bind fun h=>(dn lo 0).bind fun l=>if h≤s.size∧l≤h then some (.string (s.extract l h))else none
  |_,_=>none
def pU(E:Env)(t:TypeId)(x:Value)(H:Heap):Option Value:=
 (E.ty t).bind fun ti=>
  match ti.k,x with
  | .string,.string s=>some (.int .i64 s.size)
  | .array n _,_=>some (.int .i64 n)
  | .slice _,.slice _ n _=>some (.int .i64 n)
  | .map _ _,.map none=>some (.int .i64 0)
  | .map _ _,.map (some r)=>
   match H[r]? with
   |some (.map es _)=>some (.int .i64 es.length)
   |_=>none
  |_,_=>none
def XI(E:Env)(t:TypeId)(x:Value)(H:Heap):Option Value:=
 (E.ty t).bind fun ti=>
  match ti.k,x with
  | .array n _,_=>some (.int .i64 n)
  | .slice _,.slice none 0 0=>some (.int .i64 0)
  | .slice _,.slice (some ⟨b,off,none⟩) _ cap=>
   if exact H b off cap then some (.int .i64 cap)else none
  |_,_=>none
def gK(x:Value)(n size:Nat)(H:Heap):Option (List Value):=
 match x with
 | .slice none _ _=>if n=0 then some []else none
 | .slice (some ⟨b,off,none⟩) _ _=>rd H b off (n*size)
 | .slice (some ⟨_,_,some 0⟩) 0 0=>if n=0 then some []else none
 | .string s=>if n≤s.size then some ((s.data.toList.take n).map fun b=>.int .u8 b.toNat)else none
 |_=>none
def oH:Value->Option Nat
 | .slice _ n _=>some n
 | .string s=>some s.size
 |_=>none
def kill(H:Heap)(b:Nat):Heap:=
 match H[b]? with
 |some (.row c sz o r _)=>H.set b (.row c sz o r false)
 |_=>H
def uQ(E:Env)(ts:List TypeId)(s:Value)(n:Nat)(xs:List Value)(H:Heap):Option (Value×Heap):=
 match ts with
 |[ts,tx]=>
 (E.ty ts).bind fun ti=>(E.ty tx).bind fun tj=>
  match ti.k,tj.k with
  |_,.int _=>none
  | .slice e,_=>(E.ty e).bind fun te=>
    if te.size=0∨xs.length≠n*te.size then none else
    match s with
    | .slice none 0 0=>
     if n=0 then some (.slice none 0 0,H)
     else if 2*n*te.bytes≤281474976710656∧te.bytes≠0∧xs.all cell1=true then some (.slice (some ⟨H.length,0,none⟩) n n,mk H xs te.size true)else none
    | .slice (some ⟨b,off,none⟩) len cap=>
     if n=0 then(if len≤cap then some (s,H)else none)
     else if len+n≤cap then(wr H b (off+len*te.size) xs).bind fun H'=>some (.slice (some ⟨b,off,none⟩) (len+n) cap,H')
     else if 2*(len+n)*te.bytes≤281474976710656∧te.bytes≠0∧xs.all cell1=true then
      (rd H b off (len*te.size)).bind fun old=>
       if exact H b off cap then
        some (.slice (some ⟨H.length,0,none⟩) (len+n) (len+n),mk H (old++xs) te.size true)
       else
        match H[b]? with
        |some (.row _ sz _ false true)=>if sz=te.size then some (.slice (some ⟨H.length,0,none⟩) (len+n) (len+n),mk (kill H b) (old++xs) te.size true)else none
        |_=>none
     else none
    | .slice (some ⟨b,off,some 0⟩) 0 0=>if n=0 then some (.slice (some ⟨b,off,some 0⟩) 0 0,H)else none
    |_=>none
  |_,_=>none
 |_=>none
def Dh(E:Env)(ts:List TypeId)(s x:Value)(H:Heap):Option (Value×Heap):=
 match ts with
 |[t1,t2]=>
 (E.ty t1).bind fun ti=>
  match ti.k with
  | .slice e=>(E.ty e).bind fun te=>(oH x).bind fun n=>(gK x n te.size H).bind fun xs=>uQ E [t1,t2] s n xs H
  |_=>none
 |_=>none
def Oa(E:Env)(ts:List TypeId)(d x:Value)(H:Heap):Option (Value×Heap):=
 match ts with
 |td::_=>
 (E.ty td).bind fun ti=>
  match ti.k,d with
  | .slice e,.slice base dl _=>(E.ty e).bind fun te=>(oH x).bind fun n=>
   (gK x (min n dl) te.size H).bind fun xs=>
    match base with
    |none=>some (.int .i64 ↑(min n dl),H)
    |some ⟨_,_,some _⟩=>if min n dl=0 then some (.int .i64 0,H)else none
    |some ⟨b,off,none⟩=>if min n dl=0 then some (.int .i64 0,H)else(wr H b off xs).bind fun H'=>some (.int .i64 ↑(min n dl),H')
  |_,_=>none
 |_=>none
def vH(E:Env)(ts:List TypeId)(x:Value)(H:Heap):Option Heap:=
 match ts with
 |t::_=>(E.ty t).bind fun ti=>
  match ti.k,x with
  | .slice _,.slice none _ _=>some H
  | .slice e,.slice (some ⟨b,off,none⟩) n _=>(E.ty e).bind fun te=>if n=0 then some H else wr H b off (rep n te.zero)
  | .slice _,.slice (some ⟨_,_,some 0⟩) 0 _=>some H
  |_,_=>none
 |_=>none
def eq1:TK->Value->Value->Option Bool
 | .bool,.bool a,.bool b=>some (a==b)
 | .int _,.int k a,.int k' b=>if k=k' then some (a==b)else none
 | .string,.string a,.string b=>some (a.toList==b.toList)
 | .pointer _,.pointer none,.pointer b=>some b.isNone
 | .pointer _,.pointer (some _),.pointer none=>some false
 | .slice _,.slice none _ _,.slice b _ _=>some b.isNone
 | .slice _,.slice (some _) _ _,.slice none _ _=>some false
 | .map _ _,.map none,.map b=>some b.isNone
 | .map _ _,.map (some _),.map none=>some false
 | .func,.nilFunc,.nilFunc=>some true
 | .func,.nilFunc,.func _ _ _=>some false
 | .func,.func _ _ _,.nilFunc=>some false
 | .iface,.nilIface,.iface _ _=>some false
 | .iface,.iface _ _,.nilIface=>some false
 |_,_,_=>none
mutual
def L8(E:Env):Nat->TypeId->Value->Value->Option Bool
 |0,_,_,_=>none
 |d+1,t,x,y=>(E.ty t).bind fun ti=>
  match ti.k,x,y with
  | .struct fs,.agg xs,.agg ys=>eqFields E d fs xs.toList ys.toList
  | .array n e,.agg xs,.agg ys=>(E.ty e).bind fun te=>rO E d e te.size n 0 xs.toList ys.toList
  |k,x,y=>eq1 k x y
def eqFields(E:Env):Nat->List (Nat×TypeId)->List Value->List Value->Option Bool
 |0,_,_,_=>none
 |_+1,[],_,_=>some true
 |d+1,(o,t)::r,xs,ys=>(xu E t xs o).bind fun x=>(xu E t ys o).bind fun y=>(L8 E d t x y).bind fun b=>
  if b then eqFields E d r xs ys else some false
def rO(E:Env):Nat->TypeId->Nat->Nat->Nat->List Value->List Value->Option Bool
 |0,_,_,_,_,_,_=>none
 |d+1,e,size,n,i,xs,ys=>
  match n with
  |0=>some true
  |n+1=>(xu E e xs (i*size)).bind fun x=>(xu E e ys (i*size)).bind fun y=>(L8 E d e x y).bind fun b=>
   if b then rO E d e size n (i+1) xs ys else some false
end
def sK(E:Env)(op:BinOp)(t:TypeId)(x y:Value):Option Value:=
 match x,y with
 | .int k a,.int k' b=>
  match op with
  | .shl=>if 0≤b then some (.int k (k.wrap (a*2 ^ (min b.toNat k.bits))))else none
  | .shr=>if 0≤b then some (.int k (a.fdiv (2 ^ (min b.toNat k.bits))))else none
  |op=>if k=k' then
    match op with
    | .add=>some (.int k (k.wrap (a+b)))
    | .sub=>some (.int k (k.wrap (a-b)))
    | .mul=>some (.int k (k.wrap (a*b)))
    | .quo=>if b=0 then none else some (.int k (k.wrap (a.tdiv b)))
    | .rem=>if b=0 then none else some (.int k (a.tmod b))
    | .and=>some (.int k (k.wrap (BitVec.ofInt k.bits a &&& BitVec.ofInt k.bits b).toNat))
    | .or=>some (.int k (k.wrap (BitVec.ofInt k.bits a ||| BitVec.ofInt k.bits b).toNat))
    | .xor=>some (.int k (k.wrap (BitVec.ofInt k.bits a ^^^ BitVec.ofInt k.bits b).toNat))
    | .andNot=>some (.int k (k.wrap (BitVec.ofInt k.bits a &&& ~~~BitVec.ofInt k.bits b).toNat))
    | .eql=>some (.bool (a==b))
    | .neq=>some (.bool (a !=b))
    | .lss=>some (.bool (decide (a<b)))
    | .leq=>some (.bool (decide (a≤b)))
    | .gtr=>some (.bool (decide (a>b)))
    | .geq=>some (.bool (decide (a≥b)))
    |_=>none
   else none
 | .string a,.string b=>
  match op with
  | .add=>if a.size+b.size≤9223372036854775807 then some (.string (a++b))else none
  | .eql=>some (.bool (a.toList==b.toList))
  | .neq=>some (.bool (!(a.toList==b.toList)))
  | .lss=>some (.bool (Op.bytesLess a.toList b.toList))
  | .leq=>some (.bool (Op.bytesLess a.toList b.toList||a.toList==b.toList))
  | .gtr=>some (.bool (!(Op.bytesLess a.toList b.toList||a.toList==b.toList)))
  | .geq=>some (.bool (!Op.bytesLess a.toList b.toList))
  |_=>none
 |x,y=>
  match op with
  | .eql=>(L8 E 100 t x y).bind fun b=>some (.bool b)
  | .neq=>(L8 E 100 t x y).bind fun b=>some (.bool !b)
  |_=>none
def aUn(op:UnOp)(x:Value):Option Value:=
 match op,x with
 | .neg,.int k n=>some (.int k (k.wrap (0-n)))
 | .not,.bool b=>some (.bool !b)
 |_,_=>none
def Ob(E:Env)(src dst:TypeId)(x:Value):Option Value:=
 (E.ty src).bind fun _=>(E.ty dst).bind fun td=>
  match td.k,x with
  | .int k,.int _ n=>some (.int k (k.wrap n))
  | .string,.string s=>some (.string s)
  |_,_=>none
def uS(x:Value)(i:Nat):Option Value:=
 match x with
 | .tuple vs=>vs[i]?
 |_=>none
def YP(mx:Bool):Value->Value->Option Value
 | .int k a,.int _ b=>some (.int k (if mx then(if b>a then b else a)else(if b<a then b else a)))
 |_,_=>none
def xX(mx:Bool):Value->List Value->Option Value
 |v,[]=>some v
 |v,x::r=>(YP mx v x).bind fun u=>xX mx u r
def sameKey:Value->Value->Option Bool
 | .int k a,.int k' b=>if k=k' then some (a==b)else none
 | .string a,.string b=>some (a.data.toList==b.data.toList)
 | .bool a,.bool b=>some (a==b)
 |_,_=>none
def Gm(k:Value):List MapEntry->Nat->Option (Option (Nat×Value))
 |[],_=>some none
 |e::es,i=>
  match sameKey k e.key with
  |some true=>some (some (i,e.val))
  |some false=>Gm k es (i+1)
  |none=>none
def uT:TK->Value->Bool
 | .int _,.int _ _=>true
 | .string,.string _=>true
 | .bool,.bool _=>true
 |_,_=>false
def entriesOf(x:Value)(H:Heap):Option (List MapEntry):=
 match x with
 | .map none=>some []
 | .map (some r)=>match H[r]? with|some (.map es _)=>some es|_=>none
 |_=>none
def nU(E:Env)(t:TypeId)(x i:Value)(ok:Bool)(H:Heap):Option Value:=
 (E.ty t).bind fun ti=>
  match ti.k with
  | .map kt et=>(E.ty kt).bind fun tk=>(E.ty et).bind fun te=>(entriesOf x H).bind fun es=>
   if uT tk.k i then
    (Gm i es 0).bind fun r=>(gJ te.k te.zero).bind fun z=>
     match r with
     |some (_,v)=>some (if ok then .tuple #[v,.bool true]else v)
     |none=>some (if ok then .tuple #[z,.bool false]else z)
   else none
  |_=>none
def kJ(E:Env)(t:TypeId)(m k v:Value)(H:Heap):Option Heap:=
 match m with
 | .map (some r)=>
  match H[r]? with
  |some (.map es clock)=>
   (E.ty t).bind fun ti=>
    match ti.k with
    | .map kt _=>(E.ty kt).bind fun tk=>
     if uT tk.k k then
      (Gm k es 0).bind fun q=>
       match q with
       |some (i,_)=>some (H.set r (.map (es.modify i fun e=>{ e with key:=k,val:=v }) clock))
       |none=>some (H.set r (.map (es++[{ key:=k,val:=v,born:=clock }]) (clock+1)))
     else none
    |_=>none
  |_=>none
 |_=>none
def Bg(E:Env)(t:TypeId)(v:Value)(H:Heap):Option (Value×Heap):=
 match v with
 | .string s=>(E.ty t).bind fun ti=>
  match ti.k with
  | .string=>some (.pointer (some ⟨H.length,0,none⟩),H++[.iter s 0])
  |_=>none
 |_=>none
def xY(s:ByteArray)(pos:Nat):Option (Value×gI):=
 if pos<s.size then some (.tuple #[.bool true,.int .i64 pos,.int .i32 (Utf8.decode s pos).1],.iter s (pos+(Utf8.decode s pos).2))else none
def xZ(v:Value)(H:Heap):Option (Value×Heap):=
 match v with
 | .pointer (some ⟨b,0,none⟩)=>
  match H[b]? with
  |some (.iter s pos)=>
   match xY s pos with
   |some x=>some (x.1,H.set b x.2)
   |none=>some (.tuple #[.bool false],H)
  |_=>none
 |_=>none
def Rj{R:Type}(v:Value)(x y:Option R):Option R:=
 match v with
 | .bool true=>x
 | .bool false=>y
 |_=>none
def iI(E:Env)(call:iU)(fr:dK)(o:Op)(H:Heap):Option (Value×Heap):=
 match o with
 | .move x| .assign x=>(nS fr x).bind fun v=>some (v,H)
 | .pick c a b=>(nS fr c).bind fun c=>Rj c ((nS fr a).bind fun v=>some (v,H)) ((nS fr b).bind fun v=>some (v,H))
 | .alloc t=>vG E t H
 | .box _ x=>(nS fr x).bind fun v=>YO v H
 | .build t ps=>(qc fr ps.toList).bind fun ps=>(EG E t ps).bind fun v=>some (v,H)
 | .buildSlice t n ps=>(qc fr ps.toList).bind fun ps=>eX E t n ps H
 | .load t x=>(nS fr x).bind fun a=>(Gj E t a H).bind fun v=>some (v,H)
 | .store t x y=>(nS fr x).bind fun a=>(nS fr y).bind fun v=>(EF E t a v H).bind fun H=>some (undef,H)
 | .nilCheck x=>(nS fr x).bind fun v=>
  match v with
  | .pointer (some a)=>some (.pointer (some a),H)
  | .func (.func f) xs ys=>some (.func (.func f) xs ys,H)
  | .func (.yield l) ⟨[]⟩ ⟨[]⟩=>some (.func (.yield l) #[] #[],H)
  |_=>none
 | .binOp op t x y _=>(nS fr x).bind fun a=>(nS fr y).bind fun b=>(sK E op t a b).bind fun v=>some (v,H)
 | .unOp op _ x=>(nS fr x).bind fun a=>(aUn op a).bind fun v=>some (v,H)
 | .convert s d x=>(nS fr x).bind fun a=>(Ob E s d a).bind fun v=>some (v,H)
 | .makeFunc (.func f) first caps=>(GX fr first.toList).bind fun xs=>(GX fr caps.toList).bind fun ys=>some (.func (.func f) xs.toArray ys.toArray,H)
 | .makeSlice t l c=>(nS fr l).bind fun l=>(nS fr c).bind fun c=>dR E t l c H
 | .slice t x lo hi mx=>(nS fr x).bind fun v=>(IJ fr lo).bind fun lo=>(IJ fr hi).bind fun hi=>(IJ fr mx).bind fun mx=>
  (dS E t v lo hi mx H).bind fun v=>some (v,H)
 | .makeMap _ none=>some (.map (some H.length),H++[.map [] 0])
 | .lookup t x i ok=>(nS fr x).bind fun a=>(nS fr i).bind fun i=>(nU E t a i ok H).bind fun v=>some (v,H)
 | .mapUpdate t m k x=>(nS fr m).bind fun m=>(nS fr k).bind fun k=>(nS fr x).bind fun x=>(kJ E t m k x H).bind fun H=>some (undef,H)
 | .fieldAddr t x i=>(nS fr x).bind fun a=>(mP E t a i).bind fun v=>some (v,H)
 | .field t x i=>(nS fr x).bind fun a=>(EH E t a i).bind fun v=>some (v,H)
 | .indexAddr t x i=>(nS fr x).bind fun a=>(nS fr i).bind fun i=>(kH E t a i).bind fun v=>some (v,H)
 | .index t x i=>(nS fr x).bind fun a=>(nS fr i).bind fun i=>(dF E t a i).bind fun v=>some (v,H)
 | .extract x i=>(nS fr x).bind fun a=>(uS a i).bind fun v=>some (v,H)
 | .range t x=>(nS fr x).bind fun v=>Bg E t v H
 | .next x true=>(nS fr x).bind fun v=>xZ v H
 | .insert t m k x=>(nS fr m).bind fun m=>(nS fr k).bind fun k=>(nS fr x).bind fun x=>(kJ E t m k x H).bind fun H=>some (undef,H)
 | .call c=>(GX fr c.args.toList).bind fun vs=>
  match c.callee with
  | .value f=>(nS fr f).bind fun f=>
   match f with
   | .func (.func g) xs ys=>call (.fn g) (xs.toList++vs++ys.toList) H
   | .func (.yield l) ⟨[]⟩ ⟨[]⟩=>call (.round l) vs H
   |_=>none
  | .builtin .append=>match vs with|[s,x]=>Dh E c.argTypes.toList s x H|_=>none
  | .builtin .copy=>match vs with|[d,x]=>Oa E c.argTypes.toList d x H|_=>none
  | .builtin .len=>match vs,c.argTypes.toList with|[x],[t]=>(pU E t x H).bind fun v=>some (v,H)|_,_=>none
  | .builtin .cap=>match vs,c.argTypes.toList with|[x],[t]=>(XI E t x H).bind fun v=>some (v,H)|_,_=>none
  | .builtin .min=>match vs with|x::r=>(xX false x r).bind fun v=>some (v,H)|_=>none
  | .builtin .max=>match vs with|x::r=>(xX true x r).bind fun v=>some (v,H)|_=>none
  | .builtin .clear=>match vs with|[x]=>(vH E c.argTypes.toList x H).bind fun H=>some (undef,H)|_=>none
  |_=>none
 |_=>none
def iy(ops:Array Oper)(fr:dK)(o:Oper):Option Bool:=
 match o.guard with
 |none=>some true
 |some (j,want)=>
  match (ops[j]?).bind (·.dst)with
  |none=>some false
  |some d=>(fr.get d).bind fun v=>
   match v with
   | .bool b=>some (b==want)
   |_=>some false
def Di(fr:dK):Option Nat->Bool
 |some d=>decide (d<fr.n)
 |none=>true
def IK(E:Env)(call:iU)(ops:Array Oper)(o:Oper)(fr:dK)(H:Heap):Option (dK×Heap):=
 if Di fr o.dst then
  (iy ops fr o).bind fun b=>
   if b then(iI E call fr o.op H).bind fun r=>some (fr.dU o.dst r.1,r.2)
   else some (fr.dU o.dst undef,H)
 else none
def IL(E:Env)(call:iU)(ops:Array Oper):List Oper->dK->Heap->Option (dK×Heap)
 |[],fr,H=>some (fr,H)
 |o::r,fr,H=>(IK E call ops o fr H).bind fun x=>IL E call ops r x.1 x.2
def YM:Op->Bool
 | .move _| .assign _| .pick .. | .build .. | .load .. | .lookup .. | .nilCheck _| .binOp .. | .unOp .. | .convert .. | .makeFunc .. | .slice .. | .fieldAddr .. | .field .. | .indexAddr .. | .index .. | .extract .. =>false
 | .call { callee:=.builtin .len,.. }| .call { callee:=.builtin .cap,.. }| .call { callee:=.builtin .min,.. }| .call { callee:=.builtin .max,.. }=>false
 |_=>true
def isPure:Op->Bool
 | .move _| .assign _| .pick .. | .build .. | .nilCheck _| .binOp .. | .unOp .. | .convert .. | .makeFunc .. | .fieldAddr .. | .field .. | .indexAddr .. | .index .. | .extract .. =>true
 | .call { callee:=.builtin .min,.. }| .call { callee:=.builtin .max,.. }=>true
 |_=>false
def tmpsOf(xs:List Operand):List Tmp:=xs.filterMap fun| .tmp t=>some t|_=>none
def fQ(ops:Array Oper)(o:Oper):List Tmp:=
 o.dst.toList++tmpsOf o.op.operands.toList++(match o.guard with|some (j,_)=>((ops[j]?).bind (·.dst)).toList|none=>[])
def Rt:List Oper->Nat->Bool
 |[],_=>true
 |o::r,i=>(o.after.toList.all fun e=> !Region.binds .any e||decide (e.on<i))&&Rt r (i+1)
def ahead(b:Array Nat)(i j:Nat):Bool:=(b.getD i 0).testBit j
def IQ:Op->Bool
 | .alloc _=>true
 |_=>false
def xG(o:Op):Bool:=YM o&& !IQ o
def xw(E:Env):List Oper->Heap->Option (List (Option Value)×Heap)
 |[],H=>some ([],H)
 |o::r,H=>
  match o.op with
  | .alloc t=>(vG E t H).bind fun x=>(xw E r x.2).bind fun y=>some (some x.1::y.1,y.2)
  |_=>(xw E r H).bind fun y=>some (none::y.1,y.2)
def U4(E:Env)(call:iU)(p:Option Value)(fr:dK)(o:Op)(H:Heap):Option (Value×Heap):=
 match p with
 |some v=>some (v,H)
 |none=>iI E call fr o H
def yc(E:Env)(call:iU)(ops:Array Oper)(p:Option Value)(o:Oper)(fr:dK)(H:Heap):Option (dK×Heap):=
 if Di fr o.dst then
  (iy ops fr o).bind fun b=>
   if b then(U4 E call p fr o.op H).bind fun r=>some (fr.dU o.dst r.1,r.2)
   else some (fr.dU o.dst undef,H)
 else none
def xsOf:List Oper->Nat->List Nat
 |[],_=>[]
 |o::r,i=>if xG o.op then i::xsOf r (i+1)else xsOf r (i+1)
def EI(ops:Array Oper):Bool:=
 let b:=Region.before ops
 let l:=ops.toList.zipIdx
 let xs:=xsOf ops.toList 0
 Rt ops.toList 0
  &&xs.all (fun i=>xs.all fun j=> !decide (i<j)||ahead b j i)
  &&l.all (fun p=>(fQ ops p.1).all fun t=>l.all fun q=>q.1.dst !=some t||q.2==p.2||(if q.2<p.2 then ahead b p.2 q.2 else ahead b q.2 p.2))
def placesOf(b:Array Nat)(xs:List Nat)(j:Nat):List Nat:=
 (0::(xs.filter fun x=> !ahead b x j).map (· +1)).filter fun c=>
  (xs.all fun x=> !ahead b j x||decide (x<c))&&(xs.any fun x=>(decide (c≤x)&&decide (x<j))||(decide (j≤x)&&decide (x<c)))
def yg(ops:Array Oper):List (Nat×List Nat):=
 let b:=Region.before ops
 let xs:=xsOf ops.toList 0
 ops.toList.zipIdx.filterMap fun p=>
  if xG p.1.op||IQ p.1.op||isPure p.1.op then none else
  match placesOf b xs p.2 with
  |[]=>none
  |cs=>some (p.2,cs)
def WA:Value->Value->Bool
 | .bool a,.bool b=>a==b
 | .int k a,.int l b=>decide (k=l)&&a==b
 | .string a,.string b=>a.data.toList==b.data.toList
 | .pointer a,.pointer b=>decide (a=b)
 | .slice a n c,.slice b m d=>decide (a=b)&&n==m&&c==d
 | .map a,.map b=>decide (a=b)
 | .nilFunc,.nilFunc=>true
 | .nilIface,.nilIface=>true
 |_,_=>false
def IU:List Value->List Value->Bool
 |[],[]=>true
 |a::x,b::y=>WA a b&&IU x y
 |_,_=>false
def WB:Value->Value->Bool
 | .agg a,.agg b=>IU a.toList b.toList
 |a,b=>WA a b
def Gn(E:Env)(call:iU)(ops:Array Oper):List Oper->List (Option Value)->dK->Heap->Option (List (dK×Heap))
 |[],_,fr,H=>some [(fr,H)]
 |o::r,ps,fr,H=>(yc E call ops (ps.headD none) o fr H).bind fun x=>(Gn E call ops r ps.tail x.1 x.2).bind fun y=>some ((fr,H)::y)
def IV(E:Env)(ops:Array Oper)(tr:List (dK×Heap))(j c:Nat):Bool:=
 match ops[j]?,tr[j]?,tr[j+1]?,tr[c]? with
 |some o,some (fr,_),some (fr',_),some (_,H)=>
  match iy ops fr o with
  |some true=>
   match iI E (fun _ _ _=>none) fr o.op H,o.dst with
   |some (v,_),some d=>(match fr'.get d with|some u=>WB v u|none=>false)
   |_,_=>false
  |some false=>true
  |none=>false
 |_,_,_,_=>false
def Gp(E:Env)(call:iU)(ops:Array Oper)(fr:dK)(H:Heap):Option (dK×Heap):=
 if EI ops then
  (xw E ops.toList H).bind fun rs=>(Gn E call ops ops.toList rs.1 fr rs.2).bind fun tr=>
   if(yg ops).all (fun p=>p.2.all fun c=>IV E ops tr p.1 c)then tr.getLast? else none
 else none
structure St where
 e:Ex
 s:List (Option Value)
 H:Heap
def mkL:List Nat->Nat->List (Option Value)->List (Nat×Option Value)
 |[],_,_=>[]
 |t::r,j,s=>(t,(s[j]?).join)::mkL r (j+1) s
def oI(n:Nat)(live:List Nat)(s:List (Option Value)):dK:={ n,l:=mkL live 0 s }
def IW{σ:Type}:Nat->(σ->Option (Ex×σ))->σ->Option (Ex×σ)
 |0,_,_=>none
 |k+1,f,s=>(f s).bind fun r=>
  match r.1 with
  | .normal=>IW k f r.2
  |e=>some (e,r.2)
def Oc{R:Type}(n:Nat)(j:Option (List Nat))(m:∀R:Type,(Ex->dK->Heap->Option R)->Option R)(K:Ex->dK->Heap->Option R):Option R:=
 match j with
 |none=>m R K
 |some live=>(m St fun e fr H=>some ⟨e,live.map fr.get,H⟩).bind fun s=>K s.e (oI n live s.s) s.H
def dD(E:Env)(call:iU)(k:Nat)(out:Bool):Code->Hint->dK->Heap->(R:Type)->(Ex->dK->Heap->Option R)->Option R
 | .skip,_,fr,H,_,K=>K .normal fr H
 | .label _,_,fr,H,_,K=>K .normal fr H
 | .region _ ops false,_,fr,H,_,K=>(IL E call ops ops.toList fr H).bind fun x=>K .normal x.1 x.2
 | .region _ ops true,_,fr,H,_,K=>(Gp E call ops fr H).bind fun x=>K .normal x.1 x.2
 | .seq a b,h,fr,H,R,K=>
  dD E call k out a h.a fr H R fun e fr H=>
   match e with
   | .normal=>dD E call k out b h.b fr H R K
   |e=>K e fr H
 | .cond c x y,h,fr,H,_,K=>
  Oc fr.n h.j (fun R K=>(nS fr c).bind fun v=>Rj v (dD E call k out x h.a fr H R K) (dD E call k out y h.b fr H R K)) K
 | .block id c,h,fr,H,_,K=>
  Oc fr.n h.j (fun R K=>dD E call k out c h.a fr H R fun e fr H=>
   match e with
   | .exit i=>if i=id then K .normal fr H else K (.exit i) fr H
   |e=>K e fr H) K
 | .loop c,h,fr,H,_,K=>
  match h.j with
  |some live=>
   (IW k (fun s:List (Option Value)×Heap=>dD E call k out c h.a (oI fr.n live s.1) s.2 (Ex×List (Option Value)×Heap) fun e fr H=>some (e,live.map fr.get,H)) (live.map fr.get,H)).bind fun r=>
    K r.1 (oI fr.n live r.2.1) r.2.2
  |_=>none
 | .exit id,_,fr,H,_,K=>K (.exit id) fr H
 | .ret,_,fr,H,_,K=>K .ret fr H
 | .scope c,h,fr,H,R,K=>dD E call k out c h.a fr H R K
 | .rangeFunc f ps asg body,h,fr,H,_,K=>
  if out then(nS fr f).bind fun fv=>
   match fv with
   | .func (.func g) xs ys=>
    (call (.fn g) (xs.toList++[.func (.yield H.length) #[] #[]]++ys.toList) (H++[.loop .ready none fr ps.toList asg body h.a])).bind fun r=>
     match r.2[H.length]? with
     |some (.loop st pend fr' ps' asg' body' hb)=>
      if st= .busy then none else K (pend.getD .normal) fr (r.2.set H.length (.loop .exhausted pend fr' ps' asg' body' hb))
     |_=>none
   |_=>none
  else none
 |_,_,_,_,_,_=>none
def Dj(E:Env)(fr:dK)(H:Heap):ResultVar->Option Value
 | .tmp t=>fr.get t
 | .cell a t=>(fr.get a).bind fun v=>Gj E t v H
def lu(E:Env)(fr:dK)(H:Heap):List ResultVar->Option (List Value)
 |[]=>some []
 |r::rs=>(Dj E fr H r).bind fun v=>(lu E fr H rs).bind fun vs=>some (v::vs)
def gQ:List Value->Value
 |[v]=>v
 |vs=>.tuple vs.toArray
def Bh:Nat->List Value->List (Nat×Option Value)
 |_,[]=>[]
 |i,v::r=>(i,some v)::Bh (i+1) r
def zI(fn:Func)(args:List Value):dK:={ n:=args.length+(fn.ntmps-args.length),l:=Bh 0 args }
def O4(fr:dK):List Nat->List Value->Option dK
 |[],[]=>some fr
 |t::ts,v::vs=>if t<fr.n then O4 (fr.put t v) ts vs else none
 |_,_=>none
def aFn(E:Env):Nat->iU
 |0,_,_,_=>none
 |k+1,.fn f,args,H=>
  match E.ext f with
  |some x=>x args H
  |none=>(E.fn f).bind fun fn=>fn.body.bind fun c=>
   dD E (aFn E k) k true c (E.hint f) (zI fn args) H (Value×Heap) fun e fr H=>
    match e with
    | .exit _=>none
    |_=>(lu E fr H fn.results.toList).bind fun vs=>some (gQ vs,H)
 |k+1,.round l,args,H=>
  match H[l]? with
  |some (.loop _ _ fr ps asg body hb)=>(O4 fr ps args).bind fun fr=>
   dD E (aFn E k) k false asg .leaf fr H (Value×Heap) fun e fr H=>
    match e,H[l]? with
    | .normal,some (.loop .ready p fr0 ps0 asg0 body0 hb0)=>
     dD E (aFn E k) k false body hb fr (H.set l (.loop .busy p fr0 ps0 asg0 body0 hb0)) (Value×Heap) fun e _ H=>
      match H[l]? with
      |some (.loop _ _ fr1 ps1 asg1 body1 hb1)=>
       if e= .normal then some (.bool true,H.set l (.loop .ready none fr1 ps1 asg1 body1 hb1))
       else some (.bool false,H.set l (.loop .done (some e) fr1 ps1 asg1 body1 hb1))
      |_=>none
    |_,_=>none
  |_=>none
end Go.Proofs.YtijnknjopjmiiaaGreatDoor.Zq
end
section
namespace Go.Proofs.YtijnknjopjmiiaaGreatDoor.Zq
structure jd where
 blk:Nat
 base:Nat
 opn:Bool
 n:Nat
 sz:Nat
 csz:Nat
abbrev Mp:=List (Option jd)
def WC(e:jd)(off cap c:Nat):Prop:=
 c=cap∨(e.opn=true∧e.n≤off+cap*e.sz∧cap≤c∧e.base+off+c*e.sz≤e.csz)
inductive VR (M:Mp):Value->Value->Prop
 |bool (b):VR M (.bool b) (.bool b)
 |int (k n):VR M (.int k n) (.int k n)
 |float (k n):VR M (.float k n) (.float k n)
 |string (s):VR M (.string s) (.string s)
 |ptr0:VR M (.pointer none) (.pointer none)
 |ptr {b off e} (h:M[b]? =some (some e)):VR M (.pointer (some ⟨b,off,none⟩)) (.pointer (some ⟨e.blk,e.base+off,none⟩))
 |slice0:VR M (.slice none 0 0) (.slice none 0 0)
 |slice {b off e len cap c} (h:M[b]? =some (some e)) (hc:WC e off cap c):VR M (.slice (some ⟨b,off,none⟩) len cap) (.slice (some ⟨e.blk,e.base+off,none⟩) len c)
 |sliceE {b off a c}:VR M (.slice (some ⟨b,off,some 0⟩) 0 0) (.slice (some a) 0 c)
 |map0:VR M (.map none) (.map none)
 |map {r e} (h:M[r]? =some (some e)):VR M (.map (some r)) (.map (some e.blk))
 |nilFunc:VR M .nilFunc .nilFunc
 |nilIface:VR M .nilIface .nilIface
 |func {f xs ys us vs} (hx:xs.size=us.size) (hy:ys.size=vs.size)
   (gx:∀(i:Nat) (x u:Value),xs[i]? =some x->us[i]? =some u->VR M x u) (gy:∀(i:Nat) (y v:Value),ys[i]? =some y->vs[i]? =some v->VR M y v):
   VR M (.func (.func f) xs ys) (.func (.func f) us vs)
 |yield {l e} (h:M[l]? =some (some e)):VR M (.func (.yield l) #[] #[]) (.func (.yield e.blk) #[] #[])
 |iface {t x u} (h:VR M x u):VR M (.iface t x) (.iface t u)
 |agg {xs us} (hx:xs.size=us.size) (gx:∀(i:Nat) (x u:Value),xs[i]? =some x->us[i]? =some u->VR M x u):VR M (.agg xs) (.agg us)
 |tuple {xs us} (hx:xs.size=us.size) (gx:∀(i:Nat) (x u:Value),xs[i]? =some x->us[i]? =some u->VR M x u):VR M (.tuple xs) (.tuple us)
def VL(M:Mp)(xs us:List Value):Prop:=xs.length=us.length∧∀(i:Nat) (x u:Value),xs[i]? =some x->us[i]? =some u->VR M x u
def Ext(M M':Mp):Prop:=∀(b:Nat) (e:jd),M[b]? =some (some e)->M'[b]? =some (some e)
theorem Ext.refl(M:Mp):Ext M M:=fun _ _ h=>h
theorem Ext.trans{M M' M'':Mp}(h:Ext M M')(k:Ext M' M''):Ext M M'':=fun b e hb=>k b e (h b e hb)
theorem Ext.app(M N:Mp):Ext M (M++N):=fun b e h=>by
 have hl:b<M.length:=(List.getElem?_eq_some_iff.1 h).1
 rw[List.getElem?_append_left hl]; exact h
theorem VR.mono{M M':Mp}(x:Ext M M'){v u:Value}(h:VR M v u):VR M' v u:=by
 induction h with
 |bool b=>exact .bool b
 |int k n=>exact .int k n
 |float k n=>exact .float k n
 |string s=>exact .string s
 |ptr0=>exact .ptr0
 |ptr h=>exact .ptr (x _ _ h)
 |slice0=>exact .slice0
 |slice h hc=>exact .slice (x _ _ h) hc
 |sliceE=>exact .sliceE
 |map0=>exact .map0
 |map h=>exact .map (x _ _ h)
 |nilFunc=>exact .nilFunc
 |nilIface=>exact .nilIface
 |func hx hy _ _ gx gy=>exact .func hx hy gx gy
 |yield h=>exact .yield (x _ _ h)
 |iface _ ih=>exact .iface ih
 |agg hx _ gx=>exact .agg hx gx
 |tuple hx _ gx=>exact .tuple hx gx
theorem VL.mono{M M':Mp}(x:Ext M M'){vs us:List Value}(h:VL M vs us):VL M' vs us:=
 ⟨h.1,fun i a b ha hb=>(h.2 i a b ha hb).mono x⟩
theorem VL.nil(M:Mp):VL M [] []:=⟨rfl,fun i x u h _=>by simp at h⟩
theorem VL.cons{M:Mp}{v u:Value}{vs us:List Value}(h:VR M v u)(hs:VL M vs us):VL M (v::vs) (u::us):=
 ⟨by simp[hs.1],fun i x y hx hy=>by
  cases i with
  |zero=>simp at hx hy; subst hx; subst hy; exact h
  |succ i=>simp at hx hy; exact hs.2 i x y hx hy⟩
theorem VL.of_nil{M:Mp}{us:List Value}(h:VL M [] us):us=[]:=by
 have:=h.1; simp at this; exact List.length_eq_zero_iff.1 this.symm
theorem VL.of_cons{M:Mp}{v:Value}{vs us:List Value}(h:VL M (v::vs) us):∃u us',us=u::us'∧VR M v u∧VL M vs us':=by
 cases us with
 |nil=>have:=h.1; simp at this
 |cons u us'=>
  exact⟨u,us',rfl,h.2 0 v u rfl rfl,by have:=h.1; simpa using this,fun i x y hx hy=>h.2 (i+1) x y (by simpa using hx) (by simpa using hy)⟩
theorem VL.append{M:Mp}{as bs cs ds:List Value}(h:VL M as bs)(k:VL M cs ds):VL M (as++cs) (bs++ds):=by
 refine⟨by simp[h.1,k.1],fun i x u hx hu=> ?_⟩
 by_cases hi:i<as.length
 ·rw[List.getElem?_append_left hi]at hx
  rw[List.getElem?_append_left (h.1▸hi)]at hu
  exact h.2 i x u hx hu
 ·have hi':as.length≤i:=by omega
  rw[List.getElem?_append_right hi']at hx
  rw[List.getElem?_append_right (h.1▸hi'),←h.1]at hu
  exact k.2 _ x u hx hu
theorem VL.take{M:Mp}{as bs:List Value}(h:VL M as bs)(n:Nat):VL M (as.take n) (bs.take n):=by
 refine⟨by simp[h.1],fun i x u hx hu=> ?_⟩
 simp only[List.getElem?_take]at hx hu
 split at hx
 ·rename_i hi; simp only[hi,if_true]at hu; exact h.2 i x u hx hu
 ·simp at hx
theorem VL.drop{M:Mp}{as bs:List Value}(h:VL M as bs)(n:Nat):VL M (as.drop n) (bs.drop n):=by
 refine⟨by simp[h.1],fun i x u hx hu=> ?_⟩
 simp only[List.getElem?_drop]at hx hu
 exact h.2 _ x u hx hu
theorem VL.patch{M:Mp}{as bs cs ds:List Value}(h:VL M as bs)(k:VL M cs ds)(off:Nat):VL M (patch as off cs) (patch bs off ds):=by
 unfold Zq.patch; rw[k.1]; exact((h.take off).append k).append (h.drop _)
theorem VR.EJ{M:Mp}{xs:Array Value}{u:Value}(h:VR M (.agg xs) u):∃us,u= .agg us∧VL M xs.toList us.toList:=by
 cases h with
 |agg hx gx=>exact⟨_,rfl,by simpa using hx,fun i x u hx hu=>gx i x u (by simpa using hx) (by simpa using hu)⟩
theorem VL.agg{M:Mp}{xs us:List Value}(h:VL M xs us):VR M (.agg xs.toArray) (.agg us.toArray):=
 .agg (by simpa using h.1) fun i x u hx hu=>h.2 i x u (by simpa using hx) (by simpa using hu)
theorem VL.tuple{M:Mp}{xs us:List Value}(h:VL M xs us):VR M (.tuple xs.toArray) (.tuple us.toArray):=
 .tuple (by simpa using h.1) fun i x u hx hu=>h.2 i x u (by simpa using hx) (by simpa using hu)
theorem VR.undef(M:Mp):VR M undef undef:=.tuple rfl fun i x u h _=>by simp at h
theorem VR.cells{M:Mp}{v u:Value}(h:VR M v u):VL M v.cells.toList u.cells.toList:=by
 cases h with
 |agg hx gx=>exact⟨by simpa[Value.cells]using hx,fun i x u hx hu=>gx i x u (by simpa[Value.cells]using hx) (by simpa[Value.cells]using hu)⟩
 |_=>first
  |(simp only[Value.cells]; exact VL.cons (by constructor<;>assumption) (VL.nil M))
  |(simp only[Value.cells]; exact VL.cons .sliceE (VL.nil M))
theorem VR.cell1{M:Mp}{v u:Value}(h:VR M v u):cell1 v=u.oneCell':=by cases h<;>rfl
theorem VR.rM{M:Mp}{v:Value}(h:rM v=true):VR M v v:=by
 unfold Zq.rM at h
 split at h<;>first|constructor|(simp at h)
theorem VR.flat{M:Mp}{v:Value}(h:flat v=true):VR M v v:=by
 unfold Zq.flat at h
 split at h
 ·rename_i cs
  refine .agg rfl fun i x u hx hu=> ?_
  rw[hx]at hu; simp at hu; subst hu
  exact VR.rM (List.all_eq_true.1 h x (by simpa using Array.mem_of_getElem? hx))
 ·rename_i cs
  refine .tuple rfl fun i x u hx hu=> ?_
  rw[hx]at hu; simp at hu; subst hu
  exact VR.rM (List.all_eq_true.1 h x (by simpa using Array.mem_of_getElem? hx))
 ·exact VR.rM h
def ER(M:Mp)(a b:MapEntry):Prop:=VR M a.key b.key∧VR M a.val b.val∧a.born=b.born
structure FR(M:Mp)(fr:dK)(tmps:Array Value):Prop where
 size:tmps.size=fr.n
 get:∀t v,fr.get t=some v->VR M v (tmps.getD t undef)
theorem FR.mono{M M':Mp}{fr:dK}{tmps:Array Value}(h:FR M fr tmps)(x:Ext M M'):FR M' fr tmps:=
 ⟨h.size,fun t v hv=>(h.get t v hv).mono x⟩
def YQ:Option Ex->Option Code->Prop
 |none,none=>True
 |some .ret,some .ret=>True
 |some (.exit i),some (.exit j)=>i=j
 |_,_=>False
def BR(M:Mp)(e:jd)(k:gI)(w:World):Prop:=
 match k with
 | .row cells sz opn ro live=>e.opn=opn∧e.n=cells.length∧e.sz=sz∧
   (live=true->∃c t fz,w.heap[e.blk]? =some (.cells c t fz)∧c.size=e.csz∧e.base+cells.length≤c.size∧
    VL M cells ((c.toList.drop e.base).take cells.length)∧(ro=false->fz=(0,0)))
 | .map es clock=>∃es':Array MapEntry,w.heap[e.blk]? =some (.map es' clock)∧es.length=es'.size∧∀(i:Nat) (a b:MapEntry),es[i]? =some a->es'[i]? =some b->ER M a b
 | .iter s pos=>e.base=0∧w.heap[e.blk]? =some (.stringIter s pos)
 | .loop st pend fr ps asg body _=>∃L:Loop,w.heap[e.blk]? =some (.loop L)∧L.state=st∧YQ pend L.pending∧FR M fr L.tmps∧L.params.toList=ps∧L.assign=asg∧L.body=body
def bQ(H:Heap)(b:Nat):Prop:=
 match H[b]? with
 |some (.row _ _ _ _ l)=>l=true
 |some _=>True
 |none=>False
def aZ(H:Heap)(b:Nat):Prop:=
 match H[b]? with
 |some (.row _ _ _ ro l)=>l=true∧ro=false
 |some _=>True
 |none=>False
theorem aZ.live{H:Heap}{b:Nat}(h:aZ H b):bQ H b:=by
 unfold aZ at h; unfold bQ; split at h<;>simp_all
structure HR(M:Mp)(H:Heap)(w:World):Prop where
 len:M.length=H.length
 blk:∀(b:Nat) (e:jd) (k:gI),M[b]? =some (some e)->H[b]? =some k->BR M e k w
 sep:∀(b b':Nat) (e e':jd),b≠b'->M[b]? =some (some e)->M[b']? =some (some e')->aZ H b->bQ H b'->e.blk≠e'.blk
structure Stp(M:Mp)(H:Heap)(w:World)(M':Mp)(H':Heap)(w':World):Prop where
 ext:Ext M M'
 hr:HR M' H' w'
 os:w'.os=w.os
 output:w'.output=w.output
 tape:w'.tape=w.tape
 size:w.heap.size≤w'.heap.size
 dr:w.drawn≤w'.drawn
 frame:∀c:Nat,c<w.heap.size->(∀(b:Nat) (e:jd),M[b]? =some (some e)->aZ H b->e.blk≠c)->w'.heap[c]? =w.heap[c]?
 wm:∀(b:Nat) (e:jd),M'[b]? =some (some e)->aZ H' b->e.blk<w.heap.size->∃(b0:Nat) (e0:jd),M[b0]? =some (some e0)∧aZ H b0∧e0.blk=e.blk
 keep:∀b:Nat,M[b]? =some none->M'[b]? =some none∧H'[b]? =H[b]?
 lm:∀(b:Nat) (e:jd),M'[b]? =some (some e)->bQ H' b->e.blk<w.heap.size->∃(b0:Nat) (e0:jd),M[b0]? =some (some e0)∧bQ H b0∧e0.blk=e.blk
theorem Stp.refl{M:Mp}{H:Heap}{w:World}(h:HR M H w):Stp M H w M H w:=
 ⟨.refl M,h,rfl,rfl,rfl,Nat.le_refl _,Nat.le_refl _,fun _ _ _=>rfl,fun b e hb hw _=>⟨b,e,hb,hw,rfl⟩,fun _ h=>⟨h,rfl⟩,fun b e hb hw _=>⟨b,e,hb,hw,rfl⟩⟩
theorem Stp.trans{M M' M'':Mp}{H H' H'':Heap}{w w' w'':World}(h:Stp M H w M' H' w')(k:Stp M' H' w' M'' H'' w''):Stp M H w M'' H'' w'' where
 ext:=h.ext.trans k.ext
 hr:=k.hr
 os:=k.os.trans h.os
 output:=k.output.trans h.output
 tape:=k.tape.trans h.tape
 size:=Nat.le_trans h.size k.size
 dr:=Nat.le_trans h.dr k.dr
 frame c hc hn:=by
  rw[k.frame c (Nat.lt_of_lt_of_le hc h.size) ?_,h.frame c hc hn]
  intro b e hb hw he
  obtain⟨b0,e0,h0,w0,q⟩:=h.wm b e hb hw (by omega)
  exact hn b0 e0 h0 w0 (q.trans he)
 wm b e hb hw hlt:=by
  obtain⟨b1,e1,h1,w1,q1⟩:=k.wm b e hb hw (Nat.lt_of_lt_of_le hlt h.size)
  obtain⟨b0,e0,h0,w0,q0⟩:=h.wm b1 e1 h1 w1 (by omega)
  exact⟨b0,e0,h0,w0,q0.trans q1⟩
 keep b hb:=by
  obtain⟨h1,h2⟩:=h.keep b hb
  obtain⟨k1,k2⟩:=k.keep b h1
  exact⟨k1,k2.trans h2⟩
 lm b e hb hw hlt:=by
  obtain⟨b1,e1,h1,w1,q1⟩:=k.lm b e hb hw (Nat.lt_of_lt_of_le hlt h.size)
  obtain⟨b0,e0,h0,w0,q0⟩:=h.lm b1 e1 h1 w1 (by omega)
  exact⟨b0,e0,h0,w0,q0.trans q1⟩
theorem HR.drew{M:Mp}{H:Heap}{w:World}(h:HR M H w):HR M H w.drew:=
 ⟨h.len,fun b e k hb hk=>by have:=h.blk b e k hb hk; cases k<;>exact this,h.sep⟩
theorem Stp.drew{M:Mp}{H:Heap}{w:World}(h:HR M H w):Stp M H w M H w.drew:=
 ⟨.refl M,h.drew,rfl,rfl,rfl,Nat.le_refl _,Nat.le_succ _,fun _ _ _=>rfl,fun b e hb hw _=>⟨b,e,hb,hw,rfl⟩,fun _ h=>⟨h,rfl⟩,fun b e hb hw _=>⟨b,e,hb,hw,rfl⟩⟩
theorem BR.mono{M M':Mp}(x:Ext M M'){e:jd}{k:gI}{w:World}(h:BR M e k w):BR M' e k w:=by
 cases k with
 |row cells sz opn ro live=>
  obtain⟨h1,h2,h3,h4⟩:=h
  exact⟨h1,h2,h3,fun hl=>let ⟨c,t,fz,a,b,d,f,g⟩:=h4 hl; ⟨c,t,fz,a,b,d,f.mono x,g⟩⟩
 |map es clock=>
  obtain⟨es',h1,h2,h3⟩:=h
  exact⟨es',h1,h2,fun i a b ha hb=>let ⟨p,q,r⟩:=h3 i a b ha hb; ⟨p.mono x,q.mono x,r⟩⟩
 |iter s pos=>exact h
 |loop st pend fr ps asg body hb=>
  obtain⟨L,h1,h2,h3,h4,h5⟩:=h
  exact⟨L,h1,h2,h3,h4.mono x,h5⟩
theorem BR.same{M:Mp}{e:jd}{k:gI}{w w':World}(h:BR M e k w)(hk:(match k with| .row _ _ _ _ l=>l=true|_=>True)->w'.heap[e.blk]? =w.heap[e.blk]?):BR M e k w':=by
 cases k with
 |row cells sz opn ro live=>
  obtain⟨h1,h2,h3,h4⟩:=h
  exact⟨h1,h2,h3,fun hl=>let ⟨c,t,fz,a,r⟩:=h4 hl; ⟨c,t,fz,by rw[hk hl]; exact a,r⟩⟩
 |map es clock=>
  obtain⟨es',h1,r⟩:=h
  exact⟨es',by rw[hk trivial]; exact h1,r⟩
 |iter s pos=>exact⟨h.1,by rw[hk trivial]; exact h.2⟩
 |loop st pend fr ps asg body hb=>
  obtain⟨L,h1,r⟩:=h
  exact⟨L,by rw[hk trivial]; exact h1,r⟩
theorem HR.lC{M:Mp}{H:Heap}{w:World}(h:HR M H w){b:Nat}{e:jd}(hb:M[b]? =some (some e))(hl:bQ H b):e.blk<w.heap.size:=by
 unfold bQ at hl
 split at hl
 ·rename_i cells sz opn ro l hk
  subst hl
  obtain⟨_,_,_,h4⟩:=h.blk b e _ hb hk
  obtain⟨c,t,fz,a,_⟩:=h4 rfl
  exact(Array.getElem?_eq_some_iff.1 a).1
 ·rename_i k hnot hk
  have hbr:=h.blk b e _ hb hk
  cases k with
  |row cells sz opn ro l=>exact absurd rfl (hnot _ _ _ _ _)
  |map es clock=>
   obtain⟨es',a,_⟩:=hbr
   exact(Array.getElem?_eq_some_iff.1 a).1
  |iter s pos=>exact(Array.getElem?_eq_some_iff.1 hbr.2).1
  |loop=>
   obtain⟨L,a,_⟩:=hbr
   exact(Array.getElem?_eq_some_iff.1 a).1
 ·exact hl.elim
theorem HR.get'{M:Mp}{H:Heap}{w:World}(h:HR M H w){b:Nat}{e:jd}(hb:M[b]? =some (some e)):∃k,H[b]? =some k:=by
 have:b<M.length:=(List.getElem?_eq_some_iff.1 hb).1
 rw[h.len]at this
 exact⟨_,List.getElem?_eq_getElem this⟩
theorem Stp.newRow{M:Mp}{H:Heap}{w:World}(h:HR M H w){cells:List Value}{c:Array Value}(t:TypeId)(sz:Nat)(opn:Bool)(hn:cells.length≤c.size)(hv:VL M cells (c.toList.take cells.length)):
  Stp M H w (M++[some ⟨w.heap.size,0,opn,cells.length,sz,c.size⟩]) (Zq.mk H cells sz opn) (w.alloc (.cells c t (0,0))):=by
 have hx:=Ext.app M [some ⟨w.heap.size,0,opn,cells.length,sz,c.size⟩]
 have old:∀(b:Nat) (e:jd),(M++[some (⟨w.heap.size,0,opn,cells.length,sz,c.size⟩:jd)])[b]? =some (some e)->(M[b]? =some (some e)∧b<M.length)∨(b=M.length∧e=⟨w.heap.size,0,opn,cells.length,sz,c.size⟩):=by
  intro b e hb
  by_cases hl:b<M.length
  ·rw[List.getElem?_append_left hl]at hb; exact .inl ⟨hb,hl⟩
  ·rw[List.getElem?_append_right (by omega)]at hb
   by_cases e0:b=M.length
   ·subst e0; simp at hb; exact .inr ⟨rfl,hb.symm⟩
   ·have:b-M.length≠0:=by omega
    cases hq:b-M.length with
    |zero=>omega
    |succ q=>rw[hq]at hb; simp at hb
 have hH:∀b:Nat,b<M.length->(Zq.mk H cells sz opn)[b]? =H[b]? :=fun b hb=>by
  unfold Zq.mk; rw[List.getElem?_append_left (by rw[←h.len]; exact hb)]
 have hHn:(Zq.mk H cells sz opn)[M.length]? =some (.row cells sz opn false true):=by
  unfold Zq.mk; rw[h.len,List.getElem?_append_right (Nat.le_refl _)]; simp
 have hlive:∀b,b<M.length->(bQ (Zq.mk H cells sz opn) b↔bQ H b):=fun b hb=>by unfold bQ; rw[hH b hb]
 have hwrit:∀b,b<M.length->(aZ (Zq.mk H cells sz opn) b↔aZ H b):=fun b hb=>by unfold aZ; rw[hH b hb]
 have hheap:∀k,k<w.heap.size->(w.alloc (.cells c t (0,0))).heap[k]? =w.heap[k]? :=fun k hk=>by
  show(w.heap.push _)[k]? =_
  rw[Array.getElem?_push,if_neg (by omega)]
 refine⟨hx,⟨by simp[Zq.mk,h.len],?_,?_⟩,rfl,rfl,rfl,by simp,Nat.le_refl _,fun k hk _=>hheap k hk,?_,fun b hb=> ?_,fun b e hb hw hlt=> ?_⟩
 ·intro b e k hb hk
  rcases old b e hb with⟨hb',hl⟩|⟨rfl,rfl⟩
  ·rw[hH b hl]at hk
   refine((h.blk b e k hb' hk).mono hx).same fun hlv=>hheap _ ?_
   refine h.lC hb' ?_
   unfold bQ; rw[hk]; cases k<;>exact hlv
  ·rw[hHn]at hk; simp at hk; subst hk
   refine⟨rfl,rfl,rfl,fun _=>⟨c,t,(0,0),?_,rfl,by simpa using hn,?_,fun _=>rfl⟩⟩
   ·show(w.heap.push _)[w.heap.size]? =_
    rw[Array.getElem?_push,if_pos rfl]
   ·simpa using hv.mono hx
 ·intro b b' e e' hne hb hb' hw hl
  rcases old b e hb with⟨hb1,hl1⟩|⟨rfl,rfl⟩<;>rcases old b' e' hb' with⟨hb2,hl2⟩|⟨rfl,rfl⟩
  ·exact h.sep b b' e e' hne hb1 hb2 ((hwrit b hl1).1 hw) ((hlive b' hl2).1 hl)
  ·have:=h.lC hb1 ((hwrit b hl1).1 hw).live
   show e.blk≠w.heap.size; omega
  ·have:=h.lC hb2 ((hlive b' hl2).1 hl)
   show w.heap.size≠e'.blk; omega
  ·exact absurd rfl hne
 ·intro b e hb hw hlt
  rcases old b e hb with⟨hb1,hl1⟩|⟨rfl,rfl⟩
  ·exact⟨b,e,hb1,(hwrit b hl1).1 hw,rfl⟩
  ·exact absurd hlt (by simp)
 ·have hl:b<M.length:=(List.getElem?_eq_some_iff.1 hb).1
  exact⟨by rw[List.getElem?_append_left hl]; exact hb,hH b hl⟩
 ·rcases old b e hb with⟨hb1,hl1⟩|⟨rfl,rfl⟩
  ·exact⟨b,e,hb1,(hlive b hl1).1 hw,rfl⟩
  ·exact absurd hlt (by simp)
theorem Stp.vI{M:Mp}{H:Heap}{w:World}(h:HR M H w){b:Nat}{e:jd}{k k':gI}{o':Obj}(hk:H[b]? =some k)(he:M[b]? =some (some e))(hw:aZ H b)(hw':aZ (H.set b k') b)
  (hb:BR M e k' { w with heap:=w.heap.setIfInBounds e.blk o' }):Stp M H w M (H.set b k') { w with heap:=w.heap.setIfInBounds e.blk o' }:=by
 have hblen:b<H.length:=(List.getElem?_eq_some_iff.1 hk).1
 have hset:∀(j:Nat),j≠b->(H.set b k')[j]? =H[j]? :=fun j hj=>by rw[List.getElem?_set_ne (Ne.symm hj)]
 have hsetb:(H.set b k')[b]? =some k':=by rw[List.getElem?_set_self hblen]
 have hlive:∀j:Nat,bQ (H.set b k') j->bQ H j:=by
  intro j hl; by_cases hj:j=b
  ·subst hj; exact hw.live
  ·unfold bQ at hl ⊢; rw[hset j hj]at hl; exact hl
 have hwrit:∀j:Nat,aZ (H.set b k') j->aZ H j:=by
  intro j hl; by_cases hj:j=b
  ·subst hj; exact hw
  ·unfold aZ at hl ⊢; rw[hset j hj]at hl; exact hl
 have hWo:∀j:Nat,j≠e.blk->(w.heap.setIfInBounds e.blk o')[j]? =w.heap[j]? :=fun j hj=>by
  rw[Array.getElem?_setIfInBounds_ne (Ne.symm hj)]
 refine⟨.refl M,⟨by simpa using h.len,?_,?_⟩,rfl,rfl,rfl,by simp,Nat.le_refl _,?_,?_,fun j hj=>⟨hj,hset j fun e0=> ?_⟩,fun j ej hj h1 _=>⟨j,ej,hj,hlive j h1,rfl⟩⟩
 ·intro j ej kj hj hkj
  by_cases hjb:j=b
  ·subst hjb
   rw[he]at hj; simp at hj; subst hj
   rw[hsetb]at hkj; simp at hkj; subst hkj
   exact hb
  ·rw[hset j hjb]at hkj
   refine(h.blk j ej kj hj hkj).same fun hlv=>hWo _ ?_
   have:bQ H j:=by unfold bQ; rw[hkj]; cases kj<;>first|exact hlv|trivial
   exact(h.sep b j e ej (Ne.symm hjb) he hj hw this).symm
 ·intro j j' ej ej' hne hj hj' h1 h2
  exact h.sep j j' ej ej' hne hj hj' (hwrit j h1) (hlive j' h2)
 ·intro j hj hn
  exact hWo j fun hje=>hn b e he hw hje.symm
 ·intro j ej hj h1 _
  exact⟨j,ej,hj,hwrit j h1,rfl⟩
 ·subst e0; rw[he]at hj; simp at hj
theorem Stp.O5{M:Mp}{H:Heap}{w:World}(h:HR M H w){k:gI}{o:Obj}(e:jd)(he:e.blk=w.heap.size)
  (hb:BR (M++[some e]) e k (w.alloc o)):Stp M H w (M++[some e]) (H++[k]) (w.alloc o):=by
 have hx:=Ext.app M [some e]
 have old:∀(b:Nat) (e':jd),(M++[some e])[b]? =some (some e')->(M[b]? =some (some e')∧b<M.length)∨(b=M.length∧e'=e):=by
  intro b e' hb
  by_cases hl:b<M.length
  ·rw[List.getElem?_append_left hl]at hb; exact .inl ⟨hb,hl⟩
  ·rw[List.getElem?_append_right (by omega)]at hb
   by_cases e0:b=M.length
   ·subst e0; simp at hb; exact .inr ⟨rfl,hb.symm⟩
   ·have:b-M.length≠0:=by omega
    cases hq:b-M.length with
    |zero=>omega
    |succ q=>rw[hq]at hb; simp at hb
 have hH:∀b:Nat,b<M.length->(H++[k])[b]? =H[b]? :=fun b hb=>by
  rw[List.getElem?_append_left (by rw[←h.len]; exact hb)]
 have hHn:(H++[k])[M.length]? =some k:=by
  rw[h.len,List.getElem?_append_right (Nat.le_refl _)]; simp
 have hlive:∀b,b<M.length->(bQ (H++[k]) b↔bQ H b):=fun b hb=>by unfold bQ; rw[hH b hb]
 have hwrit:∀b,b<M.length->(aZ (H++[k]) b↔aZ H b):=fun b hb=>by unfold aZ; rw[hH b hb]
 have hheap:∀j,j<w.heap.size->(w.alloc o).heap[j]? =w.heap[j]? :=fun j hj=>by
  show(w.heap.push _)[j]? =_
  rw[Array.getElem?_push,if_neg (by omega)]
 refine⟨hx,⟨by simp[h.len],?_,?_⟩,rfl,rfl,rfl,by simp,Nat.le_refl _,fun j hj _=>hheap j hj,?_,fun b hb=> ?_,fun b e' hb' hw hlt=> ?_⟩
 ·intro b e' k' hb' hk
  rcases old b e' hb' with⟨hb1,hl⟩|⟨rfl,rfl⟩
  ·rw[hH b hl]at hk
   refine((h.blk b e' k' hb1 hk).mono hx).same fun hlv=>hheap _ ?_
   refine h.lC hb1 ?_
   unfold bQ; rw[hk]; cases k'<;>first|exact hlv|trivial
  ·rw[hHn]at hk; simp at hk; subst hk
   exact hb
 ·intro b b' e1 e2 hne hb1 hb2 hw hl
  rcases old b e1 hb1 with⟨q1,hl1⟩|⟨q1,p1⟩<;>rcases old b' e2 hb2 with⟨q2,hl2⟩|⟨q2,p2⟩
  ·exact h.sep b b' e1 e2 hne q1 q2 ((hwrit b hl1).1 hw) ((hlive b' hl2).1 hl)
  ·have:=h.lC q1 ((hwrit b hl1).1 hw).live
   rw[p2]; omega
  ·have:=h.lC q2 ((hlive b' hl2).1 hl)
   rw[p1]; omega
  ·exact absurd (q1.trans q2.symm) hne
 ·intro b e' hb' hw hlt
  rcases old b e' hb' with⟨hb1,hl1⟩|⟨rfl,rfl⟩
  ·exact⟨b,e',hb1,(hwrit b hl1).1 hw,rfl⟩
  ·omega
 ·have hl:b<M.length:=(List.getElem?_eq_some_iff.1 hb).1
  exact⟨by rw[List.getElem?_append_left hl]; exact hb,hH b hl⟩
 ·rcases old b e' hb' with⟨hb1,hl1⟩|⟨rfl,rfl⟩
  ·exact⟨b,e',hb1,(hlive b hl1).1 hw,rfl⟩
  ·omega
end Go.Proofs.YtijnknjopjmiiaaGreatDoor.Zq
end
section
namespace Go.Proofs.YtijnknjopjmiiaaGreatDoor.Zq
def KOk(P:Program)(t:TypeId):TK->TypeDesc->Prop
 | .bool,.bool=>True
 | .int k,.int k'=>k=k'
 | .string,.string=>True
 | .pointer e,.pointer e'=>e=e'
 | .slice e,.slice e'=>e=e'
 | .array n e,.array n' e'=>n=n'∧e=e'∧P.eqGuardType P.depth t=false
 | .map k e,.map k' e'=>k=k'∧e=e'
 | .struct fs,.struct gs=>fs=gs.toList.map (fun f=>(f.offset,f.type))∧(∀f∈gs.toList,f.name≠"_")∧P.stoodInHeld t=false∧P.eqGuardType P.depth t=false∧(gs.toList.mapM (fun f=>(P.info? f.type).map fun i=>(f.offset,i.size))).isSome=true
 | .func,.func _ _ _=>True
 | .iface,.interface _=>True
 |_,_=>False
structure vJ(P:Program)(t:TypeId)(ti:TI)(i:TypeInfo)(d:TypeDesc)(z:Value):Prop where
 info:P.info? t=some i
 und:P.underlying t=some d
 size:i.size=ti.size
 bytes:i.bytes=ti.bytes
 zero:i.zero=some z
 cells:z.cells.toList=ti.zero
 flat:ti.zero.all rM=true
 len:ti.zero.length=ti.size
 agg:mO ti.k=true↔∃cs,z= .agg cs
 k:KOk P t ti.k d
structure Env.Ok(E:Env)(P:Program):Prop where
 ty:∀t ti,E.ty t=some ti->∃i d z,vJ P t ti i d z
 fn:∀f fn,E.fn f=some fn->P.funcs[f]? =some fn∧(fn.name=="runtime.NumGoroutine")=false
 ord:P.follows .mixedOrders=true
section
variable{P:Program}{t:TypeId}{ti:TI}{i:TypeInfo}{d:TypeDesc}{z:Value}
theorem vJ.IX(h:vJ P t ti i d z)(w:World):(typeInfo t).run P w= .ok i w:=by
 simp[typeInfo,h.info]
theorem vJ.bD(h:vJ P t ti i d z)(w:World):(underlying t).run P w= .ok d w:=run_underlying h.und w
theorem vJ.bK(h:vJ P t ti i d z)(w:World):(sizeOf t).run P w= .ok ti.size w:=by
 simp[sizeOf,h.IX,h.size]
theorem vJ.lD(h:vJ P t ti i d z)(w:World):(zeroValue t).run P w= .ok z w:=by
 simp[zeroValue,h.IX,h.zero]
theorem vJ.EK(h:vJ P t ti i d z)(w:World):(isAgg t).run P w= .ok (mO ti.k) w:=by
 have hk:=h.k
 simp only[isAgg,Sem.run_bind,h.bD,Result.andThen_ok]
 cases hd:d<;>cases hq:ti.k<;>rw[hd,hq]at hk<;>simp_all [KOk,mO]
theorem vJ.vl(h:vJ P t ti i d z)(M:Mp):VL M ti.zero z.cells.toList:=by
 rw[h.cells]
 refine⟨rfl,fun j x u hx hu=> ?_⟩
 rw[hx]at hu; simp at hu; subst hu
 exact VR.rM (List.all_eq_true.1 h.flat x (List.mem_of_getElem? hx))
end
def Gives(P:Program)(M:Mp)(H:Heap)(w:World)(s:Sem Value)(v:Value)(H':Heap):Prop:=
 ∃v' M' w',s.run P w= .ok v' w'∧Stp M H w M' H' w'∧VR M' v v'
theorem Gives.pure{P:Program}{M:Mp}{H:Heap}{w:World}{s:Sem Value}{v v':Value}(h:HR M H w)(hr:s.run P w= .ok v' w)(hv:VR M v v'):Gives P M H w s v H:=
 ⟨v',M,w,hr,.refl h,hv⟩
theorem EM{M:Mp}{H:Heap}{w:World}(h:HR M H w){b:Nat}{cells:List Value}{sz:Nat}{opn ro:Bool}{e:jd}(hk:H[b]? =some (.row cells sz opn ro true))(he:M[b]? =some (some e)):
  ∃c t fz,w.heap[e.blk]? =some (.cells c t fz)∧c.size=e.csz∧e.base+cells.length≤c.size∧VL M cells ((c.toList.drop e.base).take cells.length)∧(ro=false->fz=(0,0)):=by
 obtain⟨_,_,_,h4⟩:=h.blk b e _ he hk
 exact h4 rfl
theorem gU(b o n:Nat):(⟨b,o,none⟩:Addr).add n=⟨b,o+n,none⟩:=Addr.add_lit b o n
theorem WE{M:Mp}{H:Heap}{w:World}(P:Program)(h:HR M H w){b off n:Nat}{cs:List Value}{e:jd}(hr:rd H b off n=some cs)(he:M[b]? =some (some e)):
  ∃us:List Value,(∀w':World,w'.heap=w.heap->(loadCells ⟨e.blk,e.base+off,none⟩ n).run P w'= .ok us.toArray w')∧VL M cs us∧us.length=n∧(∀j u,us[j]? =some u->w.cell? ⟨e.blk,e.base+off+j,none⟩=some u):=by
 unfold rd at hr
 split at hr
 ·rename_i c sz opn ro hk
  split at hr
  ·rename_i hle
   simp at hr; subst hr
   obtain⟨c',t,fz,hw,hsz,hb,hv,_⟩:=EM h hk he
   have hget:∀(j:Nat) (u:Value),(((c'.toList.drop e.base).take c.length).drop off |>.take n)[j]? =some u->w.cell? ⟨e.blk,e.base+off+j,none⟩=some u:=by
    intro j v hv
    simp only[List.getElem?_take,List.getElem?_drop]at hv
    split at hv
    ·split at hv
     ·simp only[World.cell?,hw]
      simp only[Array.getElem?_toList]at hv
      simpa[Nat.add_assoc]using hv
     ·simp at hv
    ·simp at hv
   have hl:(((c'.toList.drop e.base).take c.length).drop off |>.take n).length=n:=by
    simp; omega
   refine⟨((c'.toList.drop e.base).take c.length).drop off |>.take n,fun w' hw'=> ?_,(hv.drop off).take n,hl,hget⟩
   have:=run_loadCells_list (P:=P) w' ⟨e.blk,e.base+off,none⟩ (((c'.toList.drop e.base).take c.length).drop off |>.take n) ?_
   ·rw[hl]at this; exact this
   ·intro j v hv
    rw[gU]
    have:=hget j v hv
    unfold World.cell? at this ⊢
    rw[hw']; exact this
  ·simp at hr
 ·simp at hr
theorem vK{M:Mp}{k:TK}{cs us:List Value}{v:Value}(h:VL M cs us)(hv:gJ k cs=some v):
  ∃u,VR M v u∧(mO k=true->u= .agg us.toArray)∧(mO k=false->us=[u]):=by
 unfold gJ at hv
 split at hv
 ·rename_i hk
  simp at hv; subst hv
  exact⟨_,h.agg,fun _=>rfl,fun hf=>by simp[hk]at hf⟩
 ·rename_i hk
  split at hv
  ·rename_i x
   simp at hv; subst hv
   obtain⟨u,us',rfl,hu,ht⟩:=h.of_cons
   have:=ht.of_nil; subst this
   exact⟨u,hu,fun hf=>by simp[hk]at hf,fun _=>rfl⟩
  ·simp at hv
theorem xA(l us:List Value)(b off n:Nat)(h1:off+us.length≤n)(h2:b+n≤l.length):
  ((l.take (b+off)++us++l.drop (b+off+us.length)).drop b).take n=patch ((l.drop b).take n) off us:=by
 apply List.ext_getElem?
 intro q
 unfold patch
 simp only[List.getElem?_take,List.getElem?_drop,List.getElem?_append,List.length_take,List.length_append,List.length_drop]
 have e1:min (b+off) l.length=b+off:=by omega
 have e2:min off (min n (l.length-b))=off:=by omega
 rw[e1,e2]
 by_cases hq:q<n
 ·by_cases ha:q<off
  ·have c1:b+q<b+off:=by omega
   have c2:b+q<b+off+us.length:=by omega
   have c3:q<off+us.length:=by omega
   simp[hq,ha,c1,c2,c3]
  ·by_cases hb:q<off+us.length
   ·have c1:¬b+q<b+off:=by omega
    have c2:b+q<b+off+us.length:=by omega
    simp[hq,ha,hb,c1,c2]
    congr 1; omega
   ·have c2:¬b+q<b+off+us.length:=by omega
    have c4:off+us.length+(q-(off+us.length))<n:=by omega
    simp[hq,hb,c2,c4]
    congr 1; omega
 ·have c3:¬q<off+us.length:=by omega
  have c4:¬off+us.length+(q-(off+us.length))<n:=by omega
  simp[hq,c3,c4]
theorem WG{M:Mp}{H H':Heap}{w:World}(P:Program)(h:HR M H w){b off:Nat}{vs us:List Value}{e:jd}(hr:wr H b off vs=some H')(he:M[b]? =some (some e))(hv:VL M vs us):
  ∃w',(storeCells ⟨e.blk,e.base+off,none⟩ us).run P w= .ok () w'∧Stp M H w M H' w':=by
 unfold wr at hr
 split at hr
 ·rename_i c sz opn hk
  split at hr
  ·rename_i hle
   split at hr
   ·rename_i hc1
    simp at hr; subst hr
    obtain⟨c',t,fz,hw,hsz,hb,hvl,hfz⟩:=EM h hk he
    have hfz:=hfz rfl; subst hfz
    have hone:∀u∈us,u.oneCell'=true:=by
     intro u hu
     obtain⟨j,hj⟩:=List.mem_iff_getElem?.1 hu
     have hjl:j<vs.length:=by rw[hv.1]; exact(List.getElem?_eq_some_iff.1 hj).1
     have hx:vs[j]? =some vs[j]:=List.getElem?_eq_getElem hjl
     rw[←(hv.2 j _ _ hx hj).cell1]
     exact List.all_eq_true.1 hc1 _ (List.mem_of_getElem? hx)
    have hlen:e.base+off+0+us.length≤c'.size:=by have:=hv.1; omega
    have hst:=run_storeCells_at P e.blk (e.base+off) t us 0 c' w hw hlen hone
    have hblt:e.blk<w.heap.size:=(Array.getElem?_eq_some_iff.1 hw).1
    refine⟨_,hst,?_⟩
    generalize hW:w.setRow e.blk (c'.toList.take (e.base+off+0)++us++c'.toList.drop (e.base+off+0+us.length)).toArray=W
    have hWe:W.heap[e.blk]? =some (.cells (c'.toList.take (e.base+off)++us++c'.toList.drop (e.base+off+us.length)).toArray t (0,0)):=by
     rw[←hW]; simpa using setRow_heap w e.blk c' _ t (0,0) hw
    have hWo:∀k,k≠e.blk->W.heap[k]? =w.heap[k]? :=by
     intro k hne
     rw[←hW]; unfold World.setRow; simp only[Array.getElem?_modify]; rw[if_neg (Ne.symm hne)]
    have hWs:W.heap.size=w.heap.size:=by rw[←hW]; simp[World.setRow]
    have hWos:W.os=w.os:=by rw[←hW]; rfl
    have hWout:W.output=w.output:=by rw[←hW]; rfl
    have hWt:W.tape=w.tape:=by rw[←hW]; rfl
    have hWd:w.drawn≤W.drawn:=by rw[←hW]; exact Nat.le_refl _
    have hblen:b<H.length:=(List.getElem?_eq_some_iff.1 hk).1
    have hset:∀(j:Nat),j≠b->(H.set b (.row (patch c off vs) sz opn false true))[j]? =H[j]? :=fun j hj=>by rw[List.getElem?_set_ne (Ne.symm hj)]
    have hsetb:(H.set b (.row (patch c off vs) sz opn false true))[b]? =some (.row (patch c off vs) sz opn false true):=by rw[List.getElem?_set_self hblen]
    have hlive:∀j:Nat,bQ (H.set b (.row (patch c off vs) sz opn false true)) j↔bQ H j:=by
     intro j; by_cases hj:j=b
     ·subst hj; unfold bQ; rw[hsetb,hk]
     ·unfold bQ; rw[hset j hj]
    have hwrit:∀j:Nat,aZ (H.set b (.row (patch c off vs) sz opn false true)) j↔aZ H j:=by
     intro j; by_cases hj:j=b
     ·subst hj; unfold aZ; rw[hsetb,hk]
     ·unfold aZ; rw[hset j hj]
    have hwb:aZ H b:=by unfold aZ; rw[hk]; exact⟨rfl,rfl⟩
    have hpl:(patch c off vs).length=c.length:=by unfold patch; simp; omega
    refine⟨.refl M,⟨by simpa using h.len,?_,?_⟩,hWos,hWout,hWt,by omega,hWd,?_,?_,fun j hj=>⟨hj,hset j fun e0=>by subst e0; rw[he]at hj; simp at hj⟩,fun j ej hj hl _=>⟨j,ej,hj,(hlive j).1 hl,rfl⟩⟩
    ·intro j ej kj hj hkj
     by_cases hjb:j=b
     ·subst hjb
      rw[he]at hj; simp at hj; subst hj
      rw[hsetb]at hkj; simp at hkj; subst hkj
      obtain⟨q1,q2,q3,_⟩:=h.blk _ _ _ he hk
      refine⟨q1,by rw[hpl]; exact q2,q3,fun _=>⟨_,t,(0,0),hWe,by simp; have:=hv.1; omega,by rw[hpl]; simp; have:=hv.1; omega,?_,fun _=>rfl⟩⟩
      rw[hpl]
      have e2:=xA c'.toList us e.base off c.length (by have:=hv.1; omega) (by simpa using hb)
      have e3:(c'.toList.take (e.base+off)++us++c'.toList.drop (e.base+off+us.length)).toArray.toList=(c'.toList.take (e.base+off)++us++c'.toList.drop (e.base+off+us.length)):=rfl
      rw[e3,e2]
      exact hvl.patch hv off
     ·rw[hset j hjb]at hkj
      refine(h.blk j ej kj hj hkj).same fun hlv=>hWo _ ?_
      have:bQ H j:=by unfold bQ; rw[hkj]; cases kj<;>exact hlv
      exact(h.sep b j e ej (Ne.symm hjb) he hj hwb this).symm
    ·intro j j' ej ej' hne hj hj' hw' hl'
     exact h.sep j j' ej ej' hne hj hj' ((hwrit j).1 hw') ((hlive j').1 hl')
    ·intro k hk' hn
     exact hWo k fun hke=>hn b e he hwb hke.symm
    ·intro j ej hj hw' _
     exact⟨j,ej,hj,(hwrit j).1 hw',rfl⟩
   ·simp at hr
  ·simp at hr
 ·simp at hr
end Go.Proofs.YtijnknjopjmiiaaGreatDoor.Zq
end
section
namespace Go.Proofs.YtijnknjopjmiiaaGreatDoor.Zq
section
variable{P:Program}{E:Env}{M:Mp}{H H':Heap}{w:World}
theorem VR.Bj{b off:Nat}{u:Value}(h:VR M (.pointer (some ⟨b,off,none⟩)) u):∃e,M[b]? =some (some e)∧u= .pointer (some ⟨e.blk,e.base+off,none⟩):=by
 cases h with
 |ptr h=>exact⟨_,h,rfl⟩
theorem VR.of_int{k:IntKind}{n:Int}{u:Value}(h:VR M (.int k n) u):u= .int k n:=by cases h; rfl
theorem VR.of_bool{b:Bool}{u:Value}(h:VR M (.bool b) u):u= .bool b:=by cases h; rfl
theorem VR.of_string{b:ByteArray}{u:Value}(h:VR M (.string b) u):u= .string b:=by cases h; rfl
theorem VR.of_slice{b off len cap:Nat}{u:Value}(h:VR M (.slice (some ⟨b,off,none⟩) len cap) u):
  ∃e c,M[b]? =some (some e)∧WC e off cap c∧u= .slice (some ⟨e.blk,e.base+off,none⟩) len c:=by
 cases h with
 |slice h hc=>exact⟨_,_,h,hc,rfl⟩
theorem VR.EN{b off:Nat}{u:Value}(h:VR M (.slice (some ⟨b,off,some 0⟩) 0 0) u):
  ∃a c,u= .slice (some a) 0 c:=by
 cases h with
 |sliceE=>exact⟨_,_,rfl⟩
theorem VR.zJ{u:Value}(h:VR M (.slice none 0 0) u):u= .slice none 0 0:=by cases h; rfl
theorem aj{α β:Type}{o:Option α}{f:α->Option β}{b:β}(h:o.bind f=some b):∃a,o=some a∧f a=some b:=by
 cases o with
 |none=>simp at h
 |some a=>exact⟨a,rfl,h⟩
theorem IY(hE:E.Ok P)(h:HR M H w){t:TypeId}{ti:TI}{b off:Nat}{e:jd}{cs:List Value}{v:Value}(ht:E.ty t=some ti)(he:M[b]? =some (some e))
  (hr:rd H b off ti.size=some cs) (hv:gJ ti.k cs=some v):∃u,(loadVar t ⟨e.blk,e.base+off,none⟩).run P w= .ok u w∧VR M v u:=by
 obtain⟨i,d,z,T⟩:=hE.ty t ti ht
 obtain⟨us,h1,h2,h3,h4⟩:=WE P h hr he
 obtain⟨u,g1,g2,g3⟩:=vK h2 hv
 refine⟨u,?_,g1⟩
 simp only[loadVar,Sem.run_bind,T.EK,Result.andThen_ok]
 cases hk:mO ti.k with
 |true=>simp[T.bK,h1 w rfl,g2 hk]
 |false=>
  have hu:=g3 hk
  have hc:=h4 0 u (by rw[hu]; rfl)
  simp only[Nat.add_zero]at hc
  simp[hc]
theorem WH(hE:E.Ok P)(h:HR M H w){t:TypeId}{a a' v:Value}(ha:VR M a a')(hl:Gj E t a H=some v):Gives P M H w (Instr.loadAt t a') v H:=by
 unfold Gj at hl
 split at hl
 ·obtain⟨ti,ht,hl⟩:=aj hl
  obtain⟨cs,hr,hv⟩:=aj hl
  obtain⟨e,he,rfl⟩:=ha.Bj
  obtain⟨u,h1,h2⟩:=IY hE h ht he hr hv
  exact Gives.pure h (by simp[Instr.loadAt,Instr.sureAddr,h1]) h2
 ·simp at hl
theorem Ru(hE:E.Ok P)(h:HR M H w){t:TypeId}{a a' v v':Value}(ha:VR M a a')(hv:VR M v v')(hs:EF E t a v H=some H'):
  ∃w',(Instr.storeAt t a' v').run P w= .ok () w'∧Stp M H w M H' w':=by
 unfold EF at hs
 split at hs
 ·obtain⟨ti,ht,hs⟩:=aj hs
  obtain⟨e,he,rfl⟩:=ha.Bj
  obtain⟨i,d,z,T⟩:=hE.ty t ti ht
  split at hs
  ·rename_i hlen
   obtain⟨w',h1,h2⟩:=WG P h hs he hv.cells
   refine⟨w',?_,h2⟩
   have hc:v'.cells.size=ti.size:=by have:=hv.cells.1; simp at this hlen; omega
   simp only[Instr.storeAt,Instr.sureAddr,storeVar,Sem.run_bind,Sem.run_pure,Result.andThen_ok,T.bK,hc]
   simp[h1]
  ·simp at hs
 ·simp at hs
theorem Gives.new{s:Sem Value}{cells:List Value}{c:Array Value}{t:TypeId}{sz:Nat}{opn:Bool}{v v':Value}(h:HR M H w)
  (hr:s.run P w= .ok v' (w.alloc (.cells c t (0,0)))) (hn:cells.length≤c.size) (hv:VL M cells (c.toList.take cells.length))
  (hv':VR (M++[some ⟨w.heap.size,0,opn,cells.length,sz,c.size⟩]) v v'):Gives P M H w s v (mk H cells sz opn):=
 ⟨v',_,_,hr,Stp.newRow h t sz opn hn hv,hv'⟩
theorem pV(h:HR M H w)(e:jd):(M++[some e])[H.length]? =some (some e):=by
 rw[List.getElem?_append_right (by rw[h.len]; exact Nat.le_refl _),h.len]; simp
theorem YR(h:HR M H w){e:jd}(hb:e.base=0)(he:e.blk=w.heap.size):VR (M++[some e]) (.pointer (some ⟨H.length,0,none⟩)) (.pointer (some ⟨w.heap.size,0,none⟩)):=by
 have:=VR.ptr (M:=M++[some e]) (off:=0) (pV h e)
 rw[hb,he]at this; exact this
theorem qg(t:TypeId)(v:Value):(newVar t v).run P w= .ok ⟨w.heap.size,0,none⟩ (w.alloc (.cells v.cells t (0,0))):=by
 simp[newVar,newRow]
theorem Rw(hE:E.Ok P)(h:HR M H w){t:TypeId}{v:Value}(ha:vG E t H=some (v,H')):Gives P M H w (Instr.alloc t true (.tuple #[])) v H':=by
 unfold vG at ha
 obtain⟨ti,ht,ha⟩:=aj ha
 obtain⟨i,d,z,T⟩:=hE.ty t ti ht
 simp at ha; obtain⟨rfl,rfl⟩:=ha
 have hz:ti.zero.length=z.cells.size:=by rw[←T.cells]; simp
 refine Gives.new (c:=z.cells) (t:=t) h ?_ (Nat.le_of_eq hz) ?_ (YR h rfl rfl)
 ·simp[Instr.alloc,T.lD,qg]
 ·rw[hz,List.take_of_length_le (by simp)]; exact T.vl M
theorem YS(h:HR M H w){t:TypeId}{x x' v:Value}(hx:VR M x x')(ha:YO x H=some (v,H')):Gives P M H w (Instr.box t x') v H':=by
 unfold YO at ha
 simp at ha; obtain⟨rfl,rfl⟩:=ha
 have hc:=hx.cells
 refine Gives.new (c:=x'.cells) (t:=t) h ?_ ?_ ?_ (YR h rfl rfl)
 ·simp[Instr.box,qg]
 ·have:=hc.1; simp at this; simp; omega
 ·have:=hc.1; simp at this
  rw[List.take_of_length_le (by simp; omega)]; exact hc
theorem IZ(hE:E.Ok P)(h:HR M H w){t:TypeId}{i:Nat}{a a' v:Value}(ha:VR M a a')(hl:mP E t a i=some v):Gives P M H w (Instr.fieldAt t a' i) v H:=by
 unfold mP at hl
 split at hl
 ·obtain⟨ti,ht,hl⟩:=aj hl
  obtain⟨e,he,rfl⟩:=ha.Bj
  obtain⟨ii,d,z,T⟩:=hE.ty t ti ht
  have hk:=T.k
  split at hl
  ·rename_i fs hfs
   rw[hfs]at hk
   cases d with
   |struct gs=>
    obtain⟨hg,_⟩:=hk
    split at hl
    ·rename_i o ft hi
     obtain⟨te,hte,hl⟩:=aj hl
     split at hl
     ·simp at hl
     ·rename_i hsz
      simp at hl; subst hl
      obtain⟨i2,d2,z2,T2⟩:=hE.ty ft te hte
      rw[hg]at hi
      simp only[List.getElem?_map,Option.map_eq_some_iff]at hi
      obtain⟨f,hf,hfe⟩:=hi
      simp at hfe; obtain⟨rfl,rfl⟩:=hfe
      have hf':gs[i]? =some f:=by simpa using hf
      refine Gives.pure h ?_ (.ptr he)
      simp only[Instr.fieldAt,Sem.run_bind,T.bD,Result.andThen_ok,hf',Instr.sureAddr,Sem.run_pure,fieldPlace,T2.bK,hsz,if_false,gU,Nat.add_assoc]
    ·simp at hl
   |_=>exact hk.elim
  ·simp at hl
 ·simp at hl
theorem I4(h:HR M H w){i:Nat}{a a' v:Value}(ha:VR M a a')(hl:uS a i=some v):Gives P M H w (Instr.extract a' i) v H:=by
 unfold uS at hl
 split at hl
 ·cases ha with
  |tuple hx gx=>
   rename_i us
   have hi:i<us.size:=by rw[←hx]; exact(Array.getElem?_eq_some_iff.1 hl).1
   refine Gives.pure (v':=us[i]) h ?_ (gx i _ _ hl (Array.getElem?_eq_getElem hi))
   simp[Instr.extract,Array.getElem?_eq_getElem hi]
 ·simp at hl
theorem Rx(h:HR M H w){op:UnOp}{a a' v:Value}(ha:VR M a a')(hl:aUn op a=some v):Gives P M H w (Op.unary op a') v H:=by
 unfold aUn at hl
 split at hl
 ·simp at hl; subst hl; have:=ha.of_int; subst this
  exact Gives.pure h (by simp[Op.unary,Op.intArith]) (.int _ _)
 ·simp at hl; subst hl; have:=ha.of_bool; subst this
  exact Gives.pure h (by simp[Op.unary]) (.bool _)
 ·simp at hl
theorem Bo(hE:E.Ok P)(h:HR M H w){t:TypeId}{x x' i i' v:Value}(hx:VR M x x')(hi:VR M i i')(hl:kH E t x i=some v):Gives P M H w (Instr.indexAt t x' i') v H:=by
 unfold kH at hl
 split at hl
 ·rename_i k n
  have:=hi.of_int; subst this
  obtain⟨ti,ht,hl⟩:=aj hl
  obtain⟨ii,d,z,T⟩:=hE.ty t ti ht
  have hk:=T.k
  split at hl
  ·rename_i len e b off hkd _
   rw[hkd]at hk
   cases d with
   |array n' e'=>
    obtain⟨rfl,rfl,_⟩:=hk
    obtain⟨te,hte,hl⟩:=aj hl
    obtain⟨i2,d2,z2,T2⟩:=hE.ty _ te hte
    obtain⟨en,he,rfl⟩:=hx.Bj
    split at hl
    ·rename_i hb
     simp at hl; subst hl
     refine Gives.pure h ?_ (.ptr he)
     simp[Instr.indexAt,asIntOf,T.bD,Instr.sureAddr,hb,T2.bK,gU,Nat.add_assoc]
    ·simp at hl
   |_=>exact hk.elim
  ·rename_i e b off len cap hkd _
   rw[hkd]at hk
   cases d with
   |slice e'=>
    have hk:e=e':=hk
    subst hk
    obtain⟨te,hte,hl⟩:=aj hl
    obtain⟨i2,d2,z2,T2⟩:=hE.ty _ te hte
    obtain⟨en,c,he,_,rfl⟩:=hx.of_slice
    split at hl
    ·rename_i hb
     simp at hl; subst hl
     refine Gives.pure h ?_ (.ptr he)
     simp[Instr.indexAt,asIntOf,T.bD,hb,T2.bK,gU,Nat.add_assoc]
    ·simp at hl
   |_=>exact hk.elim
  ·simp at hl
 ·simp at hl
theorem zK(hE:E.Ok P){t:TypeId}{cs us:List Value}{off:Nat}{v:Value}(hc:VL M cs us)(hl:xu E t cs off=some v):
  ∃u,(∀w,(part t us.toArray off).run P w= .ok u w)∧VR M v u:=by
 unfold xu at hl
 obtain⟨ti,ht,hl⟩:=aj hl
 obtain⟨i,d,z,T⟩:=hE.ty t ti ht
 split at hl
 ·rename_i hle
  obtain⟨u,g1,g2,g3⟩:=vK ((hc.drop off).take ti.size) hl
  refine⟨u,fun w=> ?_,g1⟩
  simp only[part,Sem.run_bind,T.EK,Result.andThen_ok]
  cases hk:mO ti.k with
  |true=>
   have e:us.toArray.extract off (off+ti.size)=((us.drop off).take ti.size).toArray:=by
    apply Array.ext'
    simp[List.extract,List.take_drop]
   simp[T.bK,g2 hk]
  |false=>
   have hu:=g3 hk
   have:us[off]? =some u:=by
    have h0:((us.drop off).take ti.size)[0]? =some u:=by rw[hu]; rfl
    simp only[List.getElem?_take,List.getElem?_drop]at h0
    split at h0
    ·simpa using h0
    ·simp at h0
   simp[this]
 ·simp at hl
theorem Ry(hE:E.Ok P)(h:HR M H w){t:TypeId}{i:Nat}{a a' v:Value}(ha:VR M a a')(hl:EH E t a i=some v):Gives P M H w (Instr.field t a' i) v H:=by
 unfold EH at hl
 split at hl
 ·obtain⟨us,rfl,hu⟩:=ha.EJ
  obtain⟨ti,ht,hl⟩:=aj hl
  obtain⟨ii,d,z,T⟩:=hE.ty t ti ht
  have hk:=T.k
  split at hl
  ·rename_i fs hfs
   rw[hfs]at hk
   cases d with
   |struct gs=>
    obtain⟨hg,_⟩:=hk
    split at hl
    ·rename_i o ft hi
     obtain⟨u,h1,h2⟩:=zK hE hu hl
     rw[hg]at hi
     simp only[List.getElem?_map,Option.map_eq_some_iff]at hi
     obtain⟨f,hf,hfe⟩:=hi
     simp at hfe; obtain⟨rfl,rfl⟩:=hfe
     have hf':gs[i]? =some f:=by simpa using hf
     refine Gives.pure h ?_ h2
     have:=h1 w
     simp only[Array.toArray_toList]at this
     simp[Instr.field,T.bD,hf',asAgg,this]
    ·simp at hl
   |_=>exact hk.elim
  ·simp at hl
 ·simp at hl
theorem Rz(hE:E.Ok P)(h:HR M H w){t:TypeId}{x x' i i' v:Value}(hx:VR M x x')(hi:VR M i i')(hl:dF E t x i=some v):Gives P M H w (Instr.index t x' i') v H:=by
 unfold dF at hl
 split at hl
 ·rename_i k n
  have:=hi.of_int; subst this
  obtain⟨ti,ht,hl⟩:=aj hl
  obtain⟨ii,d,z,T⟩:=hE.ty t ti ht
  have hk:=T.k
  split at hl
  ·rename_i len e cs hkd _
   rw[hkd]at hk
   cases d with
   |array n' e'=>
    obtain⟨rfl,rfl,_⟩:=hk
    obtain⟨te,hte,hl⟩:=aj hl
    obtain⟨i2,d2,z2,T2⟩:=hE.ty _ te hte
    obtain⟨us,rfl,hu⟩:=hx.EJ
    split at hl
    ·rename_i hb
     obtain⟨u,h1,h2⟩:=zK hE hu hl
     refine Gives.pure h ?_ h2
     have:=h1 w
     simp only[Array.toArray_toList]at this
     simp[Instr.index,asIntOf,T.bD,hb,T2.bK,this]
    ·simp at hl
   |_=>exact hk.elim
  ·rename_i s hkd _
   rw[hkd]at hk
   cases d with
   |string=>
    have:=hx.of_string; subst this
    split at hl
    ·rename_i h0
     split at hl
     ·rename_i c hc
      simp at hl; subst hl
      refine Gives.pure h ?_ (.int _ _)
      simp[Instr.index,asIntOf,T.bD,h0,hc]
     ·simp at hl
    ·simp at hl
   |_=>exact hk.elim
  ·simp at hl
 ·simp at hl
theorem I5(hE:E.Ok P)(h:HR M H w){s d:TypeId}{a a' v:Value}(ha:VR M a a')(hl:Ob E s d a=some v):Gives P M H w (convert s d a') v H:=by
 unfold Ob at hl
 obtain⟨ts,hts,hl⟩:=aj hl
 obtain⟨td,htd,hl⟩:=aj hl
 obtain⟨i1,d1,z1,T1⟩:=hE.ty _ _ hts
 obtain⟨i2,d2,z2,T2⟩:=hE.ty _ _ htd
 have hk:=T2.k
 split at hl
 ·rename_i k k' n hkd _ _
  rw[hkd]at hk
  cases d2 with
  |int k2=>
   have hk:k=k2:=hk
   subst hk
   simp at hl; subst hl; have:=ha.of_int; subst this
   refine Gives.pure h ?_ (.int _ _)
   simp[convert,T1.bD,T2.bD,Conv.intToInt]
  |_=>exact hk.elim
 ·rename_i s' hkd _ _
  rw[hkd]at hk
  cases d2 with
  |string=>
   simp at hl; subst hl; have:=ha.of_string; subst this
   refine Gives.pure h ?_ (.string _)
   simp[convert,T1.bD,T2.bD]
  |_=>exact hk.elim
 ·simp at hl
end
section
variable{P:Program}{E:Env}{M:Mp}{H H':Heap}{w:World}
theorem Gq(off:Nat):∀(vs:List Value) (j:Nat) (cells:Array Value),off+j+vs.length≤cells.size→
  ((vs.zipIdx j).foldl (fun(cs:Array Value) (p:Value×Nat)=>cs.setIfInBounds (off+p.2) p.1) cells).toList=patch cells.toList (off+j) vs
 |[],j,cells,_=>by simp[patch]
 |v::vs,j,cells,h=>by
  simp only[List.zipIdx_cons,List.foldl_cons]
  rw[Gq off vs (j+1) _ (by simp at h ⊢; omega)]
  unfold patch
  rw[Array.toList_setIfInBounds]
  have:=list_seg_step cells.toList (off+j) v vs (by simp at h ⊢; omega)
  simpa[Nat.add_assoc]using this
theorem XJ(cells:Array Value)(off:Nat)(v:Value)(h:off+v.cells.size≤cells.size):
  (v.cells.zipIdx.foldl (fun(cs:Array Value) (p:Value×Nat)=>cs.setIfInBounds (off+p.2) p.1) cells).toList=patch cells.toList off v.cells.toList:=by
 have:=Gq off v.cells.toList 0 cells (by simpa using h)
 simp only[Nat.add_zero]at this
 rw[←this,←Array.foldl_toList,Array.toList_zipIdx]
inductive PL (M:Mp):List (Nat×Value)->List (Nat×Value)->Prop
 |nil:PL M [] []
 |cons {a b ps qs} (h:a.1=b.1∧VR M a.2 b.2) (t:PL M ps qs):PL M (a::ps) (b::qs)
theorem Ir{place place':Nat->Option (Nat×Nat)}(hp:∀i x,place i=some x->place' i=some x):
  ∀{ps qs:List (Nat×Value)} {cs r:List Value} {us:Array Value},PL M ps qs->VL M cs us.toList->Gl place cs ps=some r→
   ∃r',Instr.fill place' us qs=some r'∧VL M r r'.toList:=by
 intro ps
 induction ps with
 |nil=>
  intro qs cs r us hpl hv hr
  cases hpl
  simp[Gl]at hr; subst hr
  exact⟨us,rfl,hv⟩
 |cons a ps ih=>
  intro qs cs r us hpl hv hr
  obtain⟨i,v⟩:=a
  cases hpl with
  |cons hab hpl=>
   rename_i b qs
   obtain⟨j,u⟩:=b
   obtain⟨he,hvu⟩:=hab
   simp only at he; subst he
   unfold Gl at hr
   split at hr
   ·simp at hr
   ·rename_i off size hpi
    split at hr
    ·rename_i hsz
     split at hr
     ·rename_i hle
      have hc:=hvu.cells
      have e1:u.cells.size=size:=by have:=hc.1; simp only[Array.length_toList]at this hsz; omega
      have e2:off+u.cells.size≤us.size:=by have:=hv.1; simp only[Array.length_toList]at this; omega
      have hv2:VL M (patch cs off v.cells.toList) (u.cells.zipIdx.foldl (fun(cs:Array Value) (p:Value×Nat)=>cs.setIfInBounds (off+p.2) p.1) us).toList:=by
       rw[XJ us off u e2]; exact hv.patch hc off
      obtain⟨r',h1,h2⟩:=ih hpl hv2 hr
      refine⟨r',?_,h2⟩
      unfold Instr.fill
      rw[hp i _ hpi]
      simp only
      rw[if_neg (by simp; omega)]
      exact h1
     ·simp at hr
    ·simp at hr
theorem RD(hE:E.Ok P)(h:HR M H w){t:TypeId}{ps:List (Nat×Value)}{qs:Array (Nat×Value)}{v:Value}(hp:PL M ps qs.toList)(hl:EG E t ps=some v):Gives P M H w (Instr.build t qs) v H:=by
 unfold EG at hl
 obtain⟨ti,ht,hl⟩:=aj hl
 obtain⟨i,d,z,T⟩:=hE.ty _ _ ht
 have hk:=T.k
 split at hl
 ·rename_i fs hfs
  rw[hfs]at hk
  obtain⟨cs,hf,hl⟩:=aj hl
  simp at hl; subst hl
  cases d with
  |struct gs=>
   obtain⟨hg,_,_,_,hpl⟩:=hk
   obtain⟨pl,hpl⟩:=Option.isSome_iff_exists.1 hpl
   have hplace:∀j x,xW E fs j=some x->pl.toArray[j]? =some x:=by
    intro j x hx
    unfold xW at hx
    split at hx
    ·rename_i off ft hj
     obtain⟨te,hte,hx⟩:=aj hx
     simp at hx; subst hx
     rw[hg]at hj
     simp only[List.getElem?_map,Option.map_eq_some_iff]at hj
     obtain⟨f,hf,hfe⟩:=hj
     simp at hfe; obtain⟨rfl,rfl⟩:=hfe
     obtain⟨i2,d2,z2,T2⟩:=hE.ty _ _ hte
     obtain⟨b,hb,hfb⟩:=Lib.mapM_at hpl j f hf
     simp[T2.info]at hfb; subst hfb
     rw[←T2.size]; simpa using hb
    ·simp at hx
   obtain⟨r',h1,h2⟩:=Ir (place':=(pl.toArray[·]?)) (us:=z.cells) (M:=M) hplace hp (T.vl M) hf
   refine Gives.pure h (run_build (P:=P) w t qs r' ?_) (by simpa using h2.agg)
   unfold Program.built
   simp only[T.info,T.und,T.zero,hpl]
   exact h1
  |_=>exact hk.elim
 ·rename_i n e hfs
  rw[hfs]at hk
  obtain⟨te,hte,hl⟩:=aj hl
  obtain⟨cs,hf,hl⟩:=aj hl
  simp at hl; subst hl
  obtain⟨i2,d2,z2,T2⟩:=hE.ty _ _ hte
  cases d with
  |array n' e'=>
   obtain⟨rfl,rfl,_⟩:=hk
   obtain⟨r',h1,h2⟩:=Ir (place':=fun i=>some (i*te.size,te.size)) (us:=z.cells) (M:=M) (fun _ _ hx=>hx) hp (T.vl M) hf
   refine Gives.pure h (run_build (P:=P) w t qs r' ?_) (by simpa using h2.agg)
   unfold Program.built
   simp only[T.info,T.und,T.zero,T2.info,T2.size]
   exact h1
  |_=>exact hk.elim
 ·simp at hl
theorem Bq(z:List Value):∀n,(rep n z).length=n*z.length
 |0=>by simp[rep]
 |n+1=>by simp[rep,Bq z n,Nat.succ_mul,Nat.add_comm]
theorem WI(z:List Value):∀(n i:Nat),i<n*z.length->(rep n z)[i]? =z[i%z.length]?
 |0,i,h=>by simp at h
 |n+1,i,h=>by
  simp only[rep]
  by_cases hi:i<z.length
  ·rw[List.getElem?_append_left hi,Nat.mod_eq_of_lt hi]
  ·rw[List.getElem?_append_right (by omega),WI z n (i-z.length) (by rw[Nat.succ_mul]at h; omega)]
   congr 1
   have:z.length≤i:=by omega
   rw[Nat.mod_eq_sub_mod this]
theorem yh{t:TypeId}{ti:TI}{i:TypeInfo}{d:TypeDesc}{z:Value}(T:vJ P t ti i d z)(n:Nat):VL M (rep n ti.zero) (madeCells z.cells (n*ti.size)).toList:=by
 have hz:z.cells.size=ti.size:=by rw[←T.len,←T.cells]; simp
 refine⟨by rw[Bq,T.len]; simp[size_madeCells],fun j x u hx hu=> ?_⟩
 have hj:j<n*ti.zero.length:=by have:=(List.getElem?_eq_some_iff.1 hx).1; rwa [Bq]at this
 rw[WI _ _ _ hj]at hx
 have hpos:0<ti.zero.length:=by
  rcases Nat.eq_zero_or_pos ti.zero.length with h0|h0
  ·rw[h0]at hj; simp at hj
  ·exact h0
 have hm:j%ti.zero.length<ti.zero.length:=Nat.mod_lt _ hpos
 have hu':u=z.cells[j%z.cells.size]! :=by
  have hj2:j<n*ti.size:=by rw[←T.len]; exact hj
  simp only[madeCells,Array.toList_map,Array.toList_range,List.getElem?_map,List.getElem?_range hj2,Option.map_some,Option.some.injEq]at hu
  exact hu.symm
 have hlt:j%z.cells.size<z.cells.size:=by rw[hz,←T.len]; exact hm
 have hzu:z.cells.toList[j%ti.zero.length]? =some u:=by
  rw[hu',T.len,←hz]
  simp only[Array.getElem?_toList,Array.getElem?_eq_getElem hlt]
  rw[getElem!_pos z.cells _ hlt]
 exact(T.vl M).2 _ x u hx hzu
theorem Dk(h:HR M H w){e:jd}(hb:e.base=0)(he:e.blk=w.heap.size){len cap c:Nat}(hc:WC e 0 cap c):
  VR (M++[some e]) (.slice (some ⟨H.length,0,none⟩) len cap) (.slice (some ⟨w.heap.size,0,none⟩) len c):=by
 have:=VR.slice (M:=M++[some e]) (off:=0) (len:=len) (pV h e) hc
 rw[hb,he]at this; exact this
theorem Dn(hE:E.Ok P)(h:HR M H w){t:TypeId}{l l' c c' v:Value}(hl:VR M l l')(hc:VR M c c')(hm:dR E t l c H=some (v,H')):Gives P M H w (Instr.makeSlice t l' c') v H':=by
 unfold dR at hm
 split at hm
 ·rename_i k1 n1 k2 n2
  obtain⟨ti,ht,hm⟩:=aj hm
  obtain⟨i,d,z,T⟩:=hE.ty _ _ ht
  have hk:=T.k
  split at hm
  ·rename_i e he
   rw[he]at hk
   obtain⟨te,hte,hm⟩:=aj hm
   obtain⟨i2,d2,z2,T2⟩:=hE.ty _ _ hte
   split at hm
   ·rename_i hb
    obtain⟨h0,h1,h2,h3⟩:=hb
    simp at hm; obtain⟨rfl,rfl⟩:=hm
    have:=hl.of_int; subst this
    have:=hc.of_int; subst this
    cases d with
    |slice e'=>
     have hk:e=e':=hk
     subst hk
     have hr:=run_make (P:=P) w t e i2 z2 T.und T2.info T2.zero k1 k2 n1 n2 h0 h1 (by rw[T2.bytes]; exact h2) h3
     rw[T2.size]at hr
     have hv:=yh (M:=M) T2 n2.toNat
     refine Gives.new h hr (Nat.le_of_eq (by have:=hv.1; simpa using this)) ?_ (Dk h rfl rfl (.inl rfl))
     rw[List.take_of_length_le (by have:=hv.1; simp at this ⊢; omega)]
     exact hv
    |_=>exact hk.elim
   ·simp at hm
  ·simp at hm
 ·simp at hm
theorem AP(hE:E.Ok P)(h:HR M H w){t:TypeId}{n:Nat}{ps:List (Nat×Value)}{qs:Array (Nat×Value)}{v:Value}(hp:PL M ps qs.toList)(hl:eX E t n ps H=some (v,H')):
  Gives P M H w (Instr.buildSlice t n qs) v H':=by
 unfold eX at hl
 obtain⟨ti,ht,hl⟩:=aj hl
 obtain⟨i,d,z,T⟩:=hE.ty _ _ ht
 have hk:=T.k
 split at hl
 ·rename_i e he
  rw[he]at hk
  obtain⟨te,hte,hl⟩:=aj hl
  obtain⟨i2,d2,z2,T2⟩:=hE.ty _ _ hte
  split at hl
  ·rename_i hb
   obtain⟨cs,hf,hl⟩:=aj hl
   simp at hl; obtain⟨rfl,rfl⟩:=hl
   cases d with
   |slice e'=>
    have hk:e=e':=hk
    subst hk
    have hv:=yh (M:=M) T2 n
    obtain⟨r',h1,h2⟩:=Ir (place':=fun i=>some (i*te.size,te.size)) (us:=madeCells z2.cells (n*te.size)) (M:=M) (fun _ _ hx=>hx) hp hv hf
    refine Gives.new (c:=r') (t:=e) h ?_ (Nat.le_of_eq (by have:=h2.1; simpa using this)) ?_ (Dk h rfl rfl (.inl rfl))
    ·have hb':¬n*te.size>2 ^ 24:=by omega
     by_cases h0:n*te.size=0
     ·have hm:madeCells z2.cells (n*te.size)= #[]:=by simp[madeCells,h0,Array.range_zero']
      rw[hm]at h1
      have hq:(Array.map (fun x=>(#[]:Array Value)[x%(#[]:Array Value).size]!) (Array.range (n*te.size)))= #[]:=by simp[h0,Array.range_zero']
      simp only[h0]at hq
      simp only[Instr.buildSlice,Sem.run_bind,T.bD,Result.andThen_ok,T2.bK,h0]
      rw[if_neg (by decide)]
      simp only[Sem.run_bind,Sem.run_pure,Result.andThen_ok,if_true,hq,h1,newRow,run_newObj]
      rfl
     ·simp only[Instr.buildSlice,Sem.run_bind,T.bD,Result.andThen_ok,T2.bK,hb',if_false,Sem.run_pure,h0,T2.lD]
      unfold madeCells at h1
      simp only[h1,newRow,Sem.run_bind,run_newObj,Result.andThen_ok,Sem.run_pure]
      rfl
    ·rw[List.take_of_length_le (by have:=h2.1; simp at this ⊢; omega)]
     exact h2
   |_=>exact hk.elim
  ·simp at hl
 ·simp at hl
end
section
variable{P:Program}{E:Env}{M:Mp}{H H':Heap}{w:World}
inductive OV (M:Mp):Option Value->Option Value->Prop
 |none:OV M none none
 |some {v u} (h:VR M v u):OV M (some v) (some u)
theorem iE{o o':Option Value}{d l:Nat}(h:OV M o o')(hn:dn o d=some l):o'=o:=by
 cases h with
 |none=>rfl
 |some h=>
  rename_i v u
  unfold dn at hn
  cases v<;>simp at hn
  rw[h.of_int]
theorem jI{o:Option Value}{d l y:Nat}{v:Value}{code:BoundsCode}(ho:o=some v)(hn:dn o d=some l)(hy:l≤y):(Instr.sliceBound v y code).run P w= .ok l w:=by
 subst ho
 cases v<;>simp[dn]at hn
 rename_i k n
 obtain⟨h0,rfl⟩:=hn
 have:n≤(y:Int):=by omega
 simp[Instr.sliceBound,asIntOf,h0,this]
theorem qh{isS:Bool}{len cap c m h l:Nat}{lo hi mx:Option Value}(hmx:(mx.isSome&&hi.isNone)=false)(hm:dn mx cap=some m)(hh:dn hi len=some h)(hl:dn lo 0=some l)
  (h1:mx.isSome=true->m≤c) (h2:h≤(if mx.isSome then m else c)) (h3:l≤h):
  (Instr.sliceBounds isS len c lo hi mx).run P w= .ok (l,h,if mx.isSome then m else c) w:=by
 cases mx with
 |none=>
  simp only[Option.isSome_none,Bool.false_eq_true,if_false]at h2 ⊢
  cases hi with
  |none=>
   simp[dn]at hh; subst hh
   cases lo with
   |none=>simp[dn]at hl; subst hl; simp[Instr.sliceBounds]
   |some lv=>simp[Instr.sliceBounds,jI rfl hl h3]
  |some hv=>
   cases lo with
   |none=>simp[dn]at hl; subst hl; simp[Instr.sliceBounds,jI rfl hh h2]
   |some lv=>simp[Instr.sliceBounds,jI rfl hh h2,jI rfl hl h3]
 |some mv=>
  simp only[Option.isSome_some,if_true]at h2 ⊢
  have h1:=h1 rfl
  cases hi with
  |none=>simp at hmx
  |some hv=>
   cases lo with
   |none=>simp[dn]at hl; subst hl; simp[Instr.sliceBounds,jI rfl hm h1,jI rfl hh h2]
   |some lv=>simp[Instr.sliceBounds,jI rfl hm h1,jI rfl hh h2,jI rfl hl h3]
theorem Dp(h:HR M H w){b off cap c:Nat}{e:jd}(hx:exact H b off cap=true)(he:M[b]? =some (some e))(hc:WC e off cap c):c=cap:=by
 unfold exact at hx
 split at hx
 ·rename_i cells sz opn ro live hk
  obtain⟨q1,q2,q3,_⟩:=h.blk _ _ _ he hk
  rcases hc with hc|⟨a1,a2,_⟩
  ·exact hc
  ·rw[q1]at a1; subst a1
   simp at hx
   rw[q2,q3]at a2
   omega
 ·simp at hx
theorem YT(h:HR M H w){b size:Nat}{e:jd}(hx:Rq H b size=true)(he:M[b]? =some (some e)):e.sz=size:=by
 unfold Rq at hx
 split at hx
 ·rename_i cells sz opn ro live hk
  obtain⟨q1,q2,q3,_⟩:=h.blk _ _ _ he hk
  simp at hx; omega
 ·simp at hx
theorem I7(hE:E.Ok P)(h:HR M H w){t:TypeId}{x x' v:Value}{lo lo' hi hi' mx mx':Option Value}(hx:VR M x x')(hlo:OV M lo lo')(hhi:OV M hi hi')(hmx:OV M mx mx')
  (hl:dS E t x lo hi mx H=some v):Gives P M H w (Instr.sliceAt t x' lo' hi' mx') v H:=by
 unfold dS at hl
 split at hl
 ·simp at hl
 rename_i hg
 have hg:(mx.isSome&&hi.isNone)=false:=Bool.eq_false_iff.2 hg
 obtain⟨ti,ht,hl2⟩:=aj hl
 clear hl
 obtain⟨ii,d,z,T⟩:=hE.ty t ti ht
 have hk:=T.k
 split at hl2
 ·rename_i n e b off hkd
  rw[hkd]at hk
  obtain⟨te,hte,hl3⟩:=aj hl2
  obtain⟨m,hm,hl4⟩:=aj hl3
  obtain⟨hh,hhh,hl5⟩:=aj hl4
  obtain⟨l,hll,hl6⟩:=aj hl5
  obtain⟨i2,d2,z2,T2⟩:=hE.ty _ _ hte
  cases iE hmx hm; cases iE hhi hhh; cases iE hlo hll
  split at hl6
  ·rename_i hb
   obtain⟨b1,b2,b3⟩:=hb
   simp at hl6; subst hl6
   obtain⟨en,he,rfl⟩:=hx.Bj
   cases d with
   |array n' e'=>
    obtain⟨rfl,rfl,_⟩:=hk
    have hmm:(if mx.isSome=true then m else n)=m:=by
     cases mx with
     |none=>simp[dn]at hm; simp[hm]
     |some _=>rfl
    have hb:=qh (P:=P) (w:=w) (isS:=false) (c:=n) hg hm hhh hll (fun _=>b1) (by rw[hmm]; exact b2) b3
    rw[hmm]at hb
    refine Gives.pure h ?_ (.slice he (.inl rfl))
    simp only[Instr.sliceAt,Sem.run_bind,T.bD,Result.andThen_ok,Instr.sureAddr,Sem.run_pure,hb,T2.bK,gU]
    congr 3
    split<;>simp[Nat.add_assoc]
   |_=>exact hk.elim
  ·simp at hl6
 ·rename_i e b off len cap hkd
  rw[hkd]at hk
  obtain⟨te,hte,hl3⟩:=aj hl2
  obtain⟨m,hm,hl4⟩:=aj hl3
  obtain⟨hh,hhh,hl5⟩:=aj hl4
  obtain⟨l,hll,hl6⟩:=aj hl5
  obtain⟨i2,d2,z2,T2⟩:=hE.ty _ _ hte
  cases iE hmx hm; cases iE hhi hhh; cases iE hlo hll
  split at hl6
  ·rename_i hb
   obtain⟨b1,b2,b3⟩:=hb
   obtain⟨en,c,he,hcap,rfl⟩:=hx.of_slice
   have hcc:cap≤c:=by rcases hcap with hq|⟨_,_,hq,_⟩<;>omega
   cases d with
   |slice e'=>
    have hk:e=e':=hk
    subst hk
    have hm2:m≤(if mx.isSome=true then m else c):=by
     cases mx with
     |none=>simp[dn]at hm; simp; omega
     |some _=>simp
    have hb:=qh (P:=P) (w:=w) (isS:=true) (c:=c) hg hm hhh hll (fun _=>by omega) (by omega) b3
    split at hl6
    ·rename_i hex
     simp at hl6; subst hl6
     have hmm:(if mx.isSome=true then m else c)=m:=by
      cases mx with
      |none=>
       simp[dn]at hm
       rcases hex with hex|hex
       ·simp at hex
       ·simp[Dp h hex he hcap,hm]
      |some _=>rfl
     rw[hmm]at hb
     refine Gives.pure h ?_ (.slice he (.inl rfl))
     simp only[Instr.sliceAt,Instr.slice,Sem.run_bind,T.bD,Result.andThen_ok,Sem.run_pure,hb,T2.bK]
     congr 3
     split<;>simp[gU,Nat.add_assoc]
    ·rename_i hnex
     have hmn:mx=none:=by
      cases mx with
      |none=>rfl
      |some _=>simp at hnex
     subst hmn
     simp[dn]at hm; subst hm
     simp only[Option.isSome_none,Bool.false_eq_true,if_false]at hb
     split at hl6
     ·rename_i hsz
      have hsz:=YT h hsz he
      split at hl6
      ·rename_i hlt
       simp at hl6; subst hl6
       have hne:¬c=l:=by omega
       refine Gives.pure h ?_ (.slice (len:=hh-l) (c:=c-l) he ?_)
       ·simp only[Instr.sliceAt,Instr.slice,Sem.run_bind,T.bD,Result.andThen_ok,Sem.run_pure,hb,T2.bK,if_neg hne,Option.map_some,gU,Nat.add_assoc]
       ·rcases hcap with hq|⟨q1,q2,q3,q4⟩
        ·exact .inl (by omega)
        ·refine .inr ⟨q1,?_,by omega,?_⟩
         ·have:l*te.size+(cap-l)*en.sz=cap*en.sz:=by
           rw[hsz,←Nat.add_mul]; congr 1; omega
          omega
         ·have:l*te.size+(c-l)*en.sz=c*en.sz:=by
           rw[hsz,←Nat.add_mul]; congr 1; omega
          omega
      ·rename_i hnlt
       simp at hl6; subst hl6
       have e0:hh-l=0:=by omega
       refine Gives.pure (v':=.slice (some (if c=l then⟨en.blk,en.base+off,none⟩else⟨en.blk,en.base+off+l*te.size,none⟩)) (hh-l) (c-l)) h ?_ ?_
       ·simp only[Instr.sliceAt,Instr.slice,Sem.run_bind,T.bD,Result.andThen_ok,Sem.run_pure,hb,T2.bK,Option.map_some,gU]
        split<;>rfl
       ·rw[e0]; split<;>exact .sliceE
     ·simp at hl6
   |_=>exact hk.elim
  ·simp at hl6
 ·rename_i e hkd
  rw[hkd]at hk
  obtain⟨te,hte,hl3⟩:=aj hl2
  obtain⟨m,hm,hl4⟩:=aj hl3
  obtain⟨hh,hhh,hl5⟩:=aj hl4
  obtain⟨l,hll,hl6⟩:=aj hl5
  obtain⟨i2,d2,z2,T2⟩:=hE.ty _ _ hte
  cases iE hmx hm; cases iE hhi hhh; cases iE hlo hll
  split at hl6
  ·rename_i hb
   obtain⟨b1,b2,b3⟩:=hb
   simp at hl6; subst hl6
   have:=hx.zJ; subst this
   cases d with
   |slice e'=>
    have hk:e=e':=hk
    subst hk
    have hmm:(if mx.isSome=true then m else 0)=0:=by split<;>omega
    have hb:=qh (P:=P) (w:=w) (isS:=true) (c:=0) hg hm hhh hll (fun _=>b1) (by rw[hmm]; omega) b3
    rw[hmm]at hb
    refine Gives.pure h ?_ .slice0
    have e1:hh-l=0:=by omega
    simp only[Instr.sliceAt,Instr.slice,Sem.run_bind,T.bD,Result.andThen_ok,Sem.run_pure,hb,T2.bK,e1,Nat.zero_sub,Option.map_none,ite_self]
   |_=>exact hk.elim
  ·simp at hl6
 ·rename_i e b off hkd
  rw[hkd]at hk
  obtain⟨te,hte,hl3⟩:=aj hl2
  obtain⟨i2,d2,z2,T2⟩:=hE.ty _ _ hte
  split at hl3
  ·simp at hl3
  ·rename_i hmn
   have hmn:mx=none:=by cases mx<;>simp_all
   subst hmn
   cases hmx
   obtain⟨hh,hhh,hl5⟩:=aj hl3
   obtain⟨l,hll,hl6⟩:=aj hl5
   cases iE hhi hhh; cases iE hlo hll
   split at hl6
   ·rename_i hb
    obtain⟨b2,b3⟩:=hb
    simp at hl6; subst hl6
    obtain⟨a',c,rfl⟩:=hx.EN
    cases d with
    |slice e'=>
     have hk:e=e':=hk
     subst hk
     have hb:=qh (P:=P) (w:=w) (isS:=true) (cap:=c) (m:=c) (c:=c) (mx:=none) rfl rfl hhh hll (by simp) (by simp; omega) b3
     simp only[Option.isSome_none,Bool.false_eq_true,if_false]at hb
     have e1:hh-l=0:=by omega
     have e2:l=0:=by omega
     refine Gives.pure (v':=.slice (some a') 0 (c-l)) h ?_ .sliceE
     subst e2
     simp only[Instr.sliceAt,Instr.slice,Sem.run_bind,T.bD,Result.andThen_ok,Sem.run_pure,hb,T2.bK,e1,Nat.zero_mul,Option.map_some,Addr.add_zero',ite_self]
    |_=>exact hk.elim
   ·simp at hl6
 ·rename_i s hkd
  rw[hkd]at hk
  split at hl2
  ·simp at hl2
  ·rename_i hmn
   have hmn:mx=none:=by cases mx<;>simp_all
   subst hmn
   cases hmx
   obtain⟨hh,hhh,hl5⟩:=aj hl2
   obtain⟨l,hll,hl6⟩:=aj hl5
   cases iE hhi hhh; cases iE hlo hll
   split at hl6
   ·rename_i hb
    obtain⟨b2,b3⟩:=hb
    simp at hl6; subst hl6
    have:=hx.of_string; subst this
    cases d with
    |string=>
     have hb:=qh (P:=P) (w:=w) (isS:=false) (cap:=s.size) (m:=s.size) (c:=s.size) (mx:=none) rfl rfl hhh hll (by simp) (by simp; omega) b3
     refine Gives.pure h ?_ (.string _)
     simp[Instr.sliceAt,Instr.slice,T.bD,hb]
    |_=>exact hk.elim
   ·simp at hl6
 ·simp at hl2
theorem YU(hE:E.Ok P)(h:HR M H w){t ty:TypeId}{x x' v:Value}(hx:VR M x x')(hl:pU E t x H=some v):Gives P M H w (Builtin.len_ #[t] ty #[x']) v H:=by
 unfold pU at hl
 obtain⟨ti,ht,hl2⟩:=aj hl
 clear hl
 obtain⟨ii,d,z,T⟩:=hE.ty t ti ht
 have hk:=T.k
 split at hl2
 ·rename_i s hkd
  rw[hkd]at hk
  simp at hl2; subst hl2
  have:=hx.of_string; subst this
  cases d with
  |string=>exact Gives.pure h (by simp[Builtin.len_,T.bD,goInt]) (.int _ _)
  |_=>exact hk.elim
 ·rename_i n e hkd
  rw[hkd]at hk
  simp at hl2; subst hl2
  cases d with
  |array n' e'=>
   obtain⟨rfl,rfl,_⟩:=hk
   exact Gives.pure h (by simp[Builtin.len_,T.bD,goInt]) (.int _ _)
  |_=>exact hk.elim
 ·rename_i e a n c hkd
  rw[hkd]at hk
  simp at hl2; subst hl2
  cases d with
  |slice e'=>
   cases hx<;>exact Gives.pure h (by simp[Builtin.len_,T.bD,goInt]) (.int _ _)
  |_=>exact hk.elim
 ·rename_i hkd
  rw[hkd]at hk
  simp at hl2; subst hl2
  cases d with
  |map k' e'=>
   cases hx
   exact Gives.pure h (by simp[Builtin.len_,T.bD,goInt]) (.int _ _)
  |_=>exact hk.elim
 ·rename_i r hkd
  rw[hkd]at hk
  split at hl2
  ·rename_i es clock hr
   simp at hl2; subst hl2
   cases d with
   |map k' e'=>
    cases hx with
    |map he=>
     obtain⟨es',g1,g2,_⟩:=h.blk _ _ _ he hr
     refine Gives.pure h ?_ (.int _ _)
     simp[Builtin.len_,T.bD,goInt,getObj,Sem.run,g1,g2]
   |_=>exact hk.elim
  ·simp at hl2
 ·simp at hl2
theorem YV(hE:E.Ok P)(h:HR M H w){t ty:TypeId}{x x' v:Value}(hx:VR M x x')(hl:XI E t x H=some v):Gives P M H w (Builtin.cap_ #[t] ty #[x']) v H:=by
 unfold XI at hl
 obtain⟨ti,ht,hl2⟩:=aj hl
 clear hl
 obtain⟨ii,d,z,T⟩:=hE.ty t ti ht
 have hk:=T.k
 split at hl2
 ·rename_i n e hkd
  rw[hkd]at hk
  simp at hl2; subst hl2
  cases d with
  |array n' e'=>
   obtain⟨rfl,rfl,_⟩:=hk
   exact Gives.pure h (by simp[Builtin.cap_,T.bD,goInt]) (.int _ _)
  |_=>exact hk.elim
 ·rename_i hkd
  rw[hkd]at hk
  simp at hl2; subst hl2
  cases d with
  |slice e'=>
   have:=hx.zJ; subst this
   exact Gives.pure h (by simp[Builtin.cap_,T.bD,goInt]) (.int _ _)
  |_=>exact hk.elim
 ·rename_i b off len cap hkd
  rw[hkd]at hk
  split at hl2
  ·rename_i hex
   simp at hl2; subst hl2
   cases d with
   |slice e'=>
    obtain⟨e,c,he,hc,rfl⟩:=hx.of_slice
    have:=Dp h hex he hc; subst this
    exact Gives.pure h (by simp[Builtin.cap_,T.bD,goInt]) (.int _ _)
   |_=>exact hk.elim
  ·simp at hl2
 ·simp at hl2
end
section
variable{P:Program}{E:Env}{M:Mp}{H H':Heap}{w:World}
theorem Oe(n:Nat):∀(r c:Nat),256≤c->c≤2*n->Builtin.growBy n r c≤2*n
 |0,c,_,h=>by simpa[Builtin.growBy]using h
 |r+1,c,h0,h=>by
  unfold Builtin.growBy
  split
  ·exact h
  ·exact Oe n r _ (by omega) (by omega)
theorem U5(need c:Nat)(h:c<need):Builtin.nextslicecap need c≤2*need:=by
 unfold Builtin.nextslicecap
 split
 ·omega
 ·split
  ·omega
  ·exact Oe need 4 c (by omega) (by omega)
theorem O6{x x':Value}{n:Nat}(hx:VR M x x')(hn:oH x=some n):(Builtin.lenOf x').run P w= .ok n w:=by
 unfold oH at hn
 split at hn
 ·simp at hn; subst hn
  cases hx<;>rfl
 ·simp at hn; subst hn
  have:=hx.of_string; subst this; rfl
 ·simp at hn
theorem Bv(h:HR M H w){x x':Value}{n size:Nat}{xs:List Value}(hx:VR M x x')(hn:gK x n size H=some xs):
  ∃us:List Value,(∀w':World,w'.heap=w.heap->(Builtin.firstCells size n x').run P w'= .ok us.toArray w')∧VL M xs us:=by
 unfold gK at hn
 split at hn
 ·split at hn
  ·simp at hn; subst hn
   cases hx
   exact⟨[],fun _ _=>by simp[Builtin.firstCells],.nil M⟩
  ·simp at hn
 ·obtain⟨e,c,he,hc,rfl⟩:=hx.of_slice
  obtain⟨us,h1,h2,_,_⟩:=WE P h hn he
  exact⟨us,fun w' hw'=>by simp[Builtin.firstCells,h1 w' hw'],h2⟩
 ·split at hn
  ·rename_i hz
   simp at hn; subst hn
   obtain⟨a',c,rfl⟩:=hx.EN
   subst hz
   exact⟨[],fun _ _=>by simp[Builtin.firstCells,loadCells,loadCellsFrom],.nil M⟩
  ·simp at hn
 ·rename_i s
  split at hn
  ·simp at hn; subst hn
   have:=hx.of_string; subst this
   refine⟨(s.data.toList.take n).map fun b=>.int .u8 b.toNat,fun _ _=> ?_,?_⟩
   ·simp only[Builtin.firstCells,Sem.run_pure]
    congr 1
    apply Array.ext'
    simp[ByteArray.data_extract]
   ·rw[List.map_take]
    refine⟨rfl,fun i x u hx hu=> ?_⟩
    rw[hx]at hu; simp at hu; subst hu
    rw[←List.map_take]at hx
    simp only[List.getElem?_map,Option.map_eq_some_iff]at hx
    obtain⟨c,_,rfl⟩:=hx
    exact .int _ _
  ·simp at hn
 ·simp at hn
theorem WJ(P:Program)(w:World)(a:Addr):(storeCells a []).run P w= .ok () w:=by simp[storeCells]
theorem Stp.inPlace(h:HR M H w){b off len n size:Nat}{cells old xs us:List Value}{opn:Bool}{e:jd}(hk:H[b]? =some (.row cells size opn false true))(he:M[b]? =some (some e))
  (ho:rd H b off (len*size)=some old) (hv:VL M xs us) (hn:us.length=n*size) (h1:∀u∈us,u.oneCell'=true) (hroom:e.base+off+(len+n)*size≤e.csz):
  ∃w',(storeCells ⟨e.blk,e.base+off+len*size,none⟩ us).run P w= .ok () w'∧
   Stp M H w (M++[some ⟨e.blk,e.base+off,true,(old++xs).length,size,e.csz⟩]) (Zq.mk (kill H b) (old++xs) size true) w':=by
 obtain⟨c',t,fz,hw,hsz,hb,hvl,hfz⟩:=EM h hk he
 have hfz:=hfz rfl; subst hfz
 have hold:off+len*size≤cells.length∧old=(cells.drop off).take (len*size):=by
  unfold rd at ho
  rw[hk]at ho
  simp only at ho
  split at ho
  ·simp at ho; exact⟨by assumption,ho.symm⟩
  ·simp at ho
 obtain⟨hle,rfl⟩:=hold
 have hmul:(len+n)*size=len*size+n*size:=Nat.add_mul _ _ _
 have hst:=run_storeCells_at P e.blk (e.base+off+len*size) t us 0 c' w hw (by omega) h1
 refine⟨_,hst,?_⟩
 generalize hW:w.setRow e.blk (c'.toList.take (e.base+off+len*size+0)++us++c'.toList.drop (e.base+off+len*size+0+us.length)).toArray=W
 have hblt:e.blk<w.heap.size:=(Array.getElem?_eq_some_iff.1 hw).1
 have hWe:W.heap[e.blk]? =some (.cells (c'.toList.take (e.base+off+len*size)++us++c'.toList.drop (e.base+off+len*size+us.length)).toArray t (0,0)):=by
  rw[←hW]; simpa using setRow_heap w e.blk c' _ t (0,0) hw
 have hWo:∀k,k≠e.blk->W.heap[k]? =w.heap[k]? :=by
  intro k hne
  rw[←hW]; unfold World.setRow; simp only[Array.getElem?_modify]; rw[if_neg (Ne.symm hne)]
 have hWs:W.heap.size=w.heap.size:=by rw[←hW]; simp[World.setRow]
 have hWos:W.os=w.os:=by rw[←hW]; rfl
 have hWout:W.output=w.output:=by rw[←hW]; rfl
 have hWt:W.tape=w.tape:=by rw[←hW]; rfl
 have hWd:w.drawn≤W.drawn:=by rw[←hW]; exact Nat.le_refl _
 have hblen:b<H.length:=(List.getElem?_eq_some_iff.1 hk).1
 have hkl:(kill H b).length=H.length:=by unfold kill; rw[hk]; simp
 have hkb:(kill H b)[b]? =some (.row cells size opn false false):=by unfold kill; rw[hk]; simp[hblen]
 have hko:∀j:Nat,j≠b->(kill H b)[j]? =H[j]? :=fun j hj=>by unfold kill; rw[hk]; simp only; rw[List.getElem?_set_ne (Ne.symm hj)]
 have hwb:aZ H b:=by unfold aZ; rw[hk]; exact⟨rfl,rfl⟩
 generalize hN:(⟨e.blk,e.base+off,true,((cells.drop off).take (len*size)++xs).length,size,e.csz⟩:jd)=N
 have hx:=Ext.app M [some N]
 have oldM:∀(j:Nat) (ej:jd),(M++[some N])[j]? =some (some ej)->(M[j]? =some (some ej)∧j<M.length)∨(j=M.length∧ej=N):=by
  intro j ej hj
  by_cases hl:j<M.length
  ·rw[List.getElem?_append_left hl]at hj; exact .inl ⟨hj,hl⟩
  ·rw[List.getElem?_append_right (by omega)]at hj
   by_cases e0:j=M.length
   ·subst e0; simp at hj; exact .inr ⟨rfl,hj.symm⟩
   ·have:j-M.length≠0:=by omega
    cases hq:j-M.length with
    |zero=>omega
    |succ q=>rw[hq]at hj; simp at hj
 have hH:∀j:Nat,j<M.length->(Zq.mk (kill H b) ((cells.drop off).take (len*size)++xs) size true)[j]? =(kill H b)[j]? :=fun j hj=>by
  unfold Zq.mk; rw[List.getElem?_append_left (by rw[hkl,←h.len]; exact hj)]
 have hHn:(Zq.mk (kill H b) ((cells.drop off).take (len*size)++xs) size true)[M.length]? =some (.row ((cells.drop off).take (len*size)++xs) size true false true):=by
  unfold Zq.mk; rw[h.len,←hkl,List.getElem?_append_right (Nat.le_refl _)]; simp
 have hliv:∀j:Nat,j<M.length->bQ (Zq.mk (kill H b) ((cells.drop off).take (len*size)++xs) size true) j->bQ H j∧j≠b:=by
  intro j hj hl
  unfold bQ at hl
  rw[hH j hj]at hl
  by_cases hjb:j=b
  ·subst hjb; rw[hkb]at hl; simp at hl
  ·refine⟨?_,hjb⟩
   rw[hko j hjb]at hl; unfold bQ; exact hl
 have hwri:∀j:Nat,j<M.length->aZ (Zq.mk (kill H b) ((cells.drop off).take (len*size)++xs) size true) j->aZ H j:=by
  intro j hj hl
  unfold aZ at hl
  rw[hH j hj]at hl
  by_cases hjb:j=b
  ·subst hjb; rw[hkb]at hl; simp at hl
  ·rw[hko j hjb]at hl; unfold aZ; exact hl
 have hNb:N.blk=e.blk:=by rw[←hN]
 refine⟨hx,⟨by simp[Zq.mk,hkl,h.len],?_,?_⟩,hWos,hWout,hWt,by omega,hWd,?_,?_,fun j hj=>have hl:j<M.length:=(List.getElem?_eq_some_iff.1 hj).1; ⟨by rw[List.getElem?_append_left hl]; exact hj,(hH j hl).trans (hko j fun e0=>by subst e0; rw[he]at hj; simp at hj)⟩,?_⟩
 ·intro j ej kj hj hkj
  rcases oldM j ej hj with⟨hj',hl⟩|⟨rfl,rfl⟩
  ·rw[hH j hl]at hkj
   by_cases hjb:j=b
   ·subst hjb
    rw[hkb]at hkj; simp at hkj; subst hkj
    obtain⟨q1,q2,q3,_⟩:=h.blk _ _ _ hj' hk
    exact⟨q1,q2,q3,fun hf=>by simp at hf⟩
   ·rw[hko j hjb]at hkj
    refine((h.blk j ej kj hj' hkj).mono hx).same fun hlv=>hWo _ ?_
    have:bQ H j:=by unfold bQ; rw[hkj]; cases kj<;>exact hlv
    exact(h.sep b j e ej (Ne.symm hjb) he hj' hwb this).symm
  ·rw[hHn]at hkj; simp at hkj; subst hkj
   have hol:((cells.drop off).take (len*size)).length=len*size:=by simp; omega
   have hxl:=hv.1
   subst hN
   refine⟨rfl,rfl,rfl,fun _=>⟨_,t,(0,0),hWe,by simp; omega,by simp; omega,?_,fun _=>rfl⟩⟩
   have e1:(((c'.toList.take (e.base+off+len*size)++us++c'.toList.drop (e.base+off+len*size+us.length)).toArray.toList.drop (e.base+off)).take ((cells.drop off).take (len*size)++xs).length)
     =((((c'.toList.drop e.base).take cells.length).drop off).take (len*size))++us:=by
    apply List.ext_getElem?
    intro q
    simp only[List.length_append,hol,hxl,hn]
    simp only[List.getElem?_take,List.getElem?_drop,List.getElem?_append,List.length_take,List.length_append,List.length_drop,Array.length_toList]
    have c1:min (e.base+off+len*size) c'.size=e.base+off+len*size:=by omega
    have c2:min (len*size) (min cells.length (c'.size-e.base)-off)=len*size:=by omega
    rw[c1,c2]
    by_cases hq:q<len*size
    ·have d1:q<len*size+n*size:=by omega
     have d2:e.base+off+q<e.base+off+len*size:=by omega
     have d3:e.base+off+q<e.base+off+len*size+us.length:=by omega
     have d4:off+q<cells.length:=by omega
     have d5:¬len*size+us.length≤q:=by omega
     simp[hq,d1,d4,d5,Nat.add_assoc]
    ·by_cases hq2:q<len*size+n*size
     ·have d2:¬e.base+off+q<e.base+off+len*size:=by omega
      have d3:e.base+off+q<e.base+off+len*size+us.length:=by omega
      simp only[hq,hq2,d2,d3,if_true,if_false]
      congr 1; omega
     ·have:us[q-len*size]? =none:=List.getElem?_eq_none (by omega)
      simp[hq,hq2,this]
   rw[e1]
   exact(((hvl.drop off).take (len*size)).append hv).mono hx
 ·intro j j' ej ej' hne hj hj' hw' hl'
  rcases oldM j ej hj with⟨hj1,hl1⟩|⟨rfl,rfl⟩<;>rcases oldM j' ej' hj' with⟨hj2,hl2⟩|⟨rfl,rfl⟩
  ·exact h.sep j j' ej ej' hne hj1 hj2 (hwri j hl1 hw') (hliv j' hl2 hl').1
  ·obtain⟨_,hjb⟩:=hliv j hl1 hw'.live
   rw[hNb]
   exact h.sep j b ej e hjb hj1 he (hwri j hl1 hw') hwb.live
  ·obtain⟨hlv,hjb⟩:=hliv j' hl2 hl'
   rw[hNb]
   exact h.sep b j' e ej' (Ne.symm hjb) he hj2 hwb hlv
  ·exact absurd rfl hne
 ·intro k hk' hn'
  exact hWo k fun hke=>hn' b e he hwb hke.symm
 ·intro j ej hj hw' hlt
  rcases oldM j ej hj with⟨hj1,hl1⟩|⟨rfl,rfl⟩
  ·exact⟨j,ej,hj1,hwri j hl1 hw',rfl⟩
  ·exact⟨b,e,he,hwb,hNb.symm⟩
 ·intro j ej hj hw' hlt
  rcases oldM j ej hj with⟨hj1,hl1⟩|⟨rfl,rfl⟩
  ·exact⟨j,ej,hj1,(hliv j hl1 hw').1,rfl⟩
  ·exact⟨b,e,he,hwb.live,hNb.symm⟩
end
section
variable{P:Program}{E:Env}{M:Mp}{H H':Heap}{w:World}
def sN(d:TypeDesc):Bool:=match d with| .int _=>true|_=>false
theorem WL{t:TypeId}{k:TK}{d:TypeDesc}(hk:KOk P t k d)(hn:∀j,k≠ .int j):sN d=false:=by
 cases d with
 |int j=>cases k<;>first|exact hk.elim|(rename_i q; exact absurd rfl (hn q))
 |_=>rfl
theorem U6{ts tx ty e:TypeId}{d2:TypeDesc}{x':Value}{n size sLen sCap:Nat}{us:List Value}(hs:P.underlying ts=some (.slice e))(hx:P.underlying tx=some d2)
  (hd:sN d2=false) (hsz:∀w,(sizeOf e).run P w= .ok size w) (hn:∀w,(Builtin.lenOf x').run P w= .ok n w)
  (hf:(Builtin.firstCells size n x').run P w= .ok us.toArray w) (hle:sLen+n≤sCap):
  (Builtin.append_ #[ts,tx] ty #[.slice none sLen sCap,x']).run P w= .ok (.slice none (sLen+n) sCap) w:=by
 cases d2<;>first
  |(simp[sN]at hd; done)
  |(simp only[Builtin.append_,List.getElem?_toArray,List.getElem?_cons_zero,List.getElem?_cons_succ,Sem.run_bind,run_underlying hs,run_underlying hx,Result.andThen_ok,hsz,Sem.run_pure,Bool.false_eq_true,if_false,hn,hle,if_true,hf,Bool.not_false])
theorem zL{ts tx ty e:TypeId}{d2:TypeDesc}{x':Value}{a:Addr}{sLen sCap n size:Nat}{us:List Value}(hs:P.underlying ts=some (.slice e))(hx:P.underlying tx=some d2)
  (hd:sN d2=false) (hsz:∀w,(sizeOf e).run P w= .ok size w) (hn:∀w,(Builtin.lenOf x').run P w= .ok n w)
  (hf:(Builtin.firstCells size n x').run P w= .ok us.toArray w) (hle:sLen+n≤sCap):
  (Builtin.append_ #[ts,tx] ty #[.slice (some a) sLen sCap,x']).run P w=((storeCells (a.add (sLen*size)) us).run P w).andThen fun _ w'=>.ok (.slice (some a) (sLen+n) sCap) w':=by
 cases d2<;>first
  |(simp[sN]at hd; done)
  |(simp only[Builtin.append_,List.getElem?_toArray,List.getElem?_cons_zero,List.getElem?_cons_succ,Sem.run_bind,run_underlying hs,run_underlying hx,Result.andThen_ok,hsz,Sem.run_pure,Bool.false_eq_true,if_false,hn,hle,if_true,hf,Bool.not_false])
theorem Dq{ts tx ty e:TypeId}{ti:TI}{i:TypeInfo}{d d2:TypeDesc}{z:Value}{s' x':Value}{base:Option Addr}{sLen sCap n:Nat}{us us0:List Value}(hs:P.underlying ts=some (.slice e))(hx:P.underlying tx=some d2)
  (hd:sN d2=false) (T:vJ P e ti i d z) (hv:s'= .slice base sLen sCap) (hn:∀w,(Builtin.lenOf x').run P w= .ok n w)
  (hf:∀w',w'.heap=w.heap->(Builtin.firstCells ti.size n x').run P w'= .ok us.toArray w') (hf0:∀w',w'.heap=w.heap->(Builtin.firstCells ti.size sLen s').run P w'= .ok us0.toArray w')
  (hlt:sCap<sLen+n) (hb:2*(sLen+n)*ti.bytes≤281474976710656) (hb0:ti.bytes≠0):
  ∃newCap,sLen+n≤newCap∧newCap<9223372036854775808∧(Builtin.append_ #[ts,tx] ty #[s',x']).run P w=
   .ok (.slice (some ⟨w.heap.size,0,none⟩) (sLen+n) newCap) (w.drew.alloc (.cells (us0.toArray++us.toArray++Builtin.zeroCells z.cells (newCap-(sLen+n))) e (0,0))):=by
 refine⟨(Question.appendCap (sLen+n) sCap e).cut (w.tape w.drawn (.appendCap (sLen+n) sCap e)),Nat.le_add_right _ _,?_,?_⟩
 ·have:0<9223372036854775808-(sLen+n):=by
   have:sLen+n≤2*(sLen+n)*ti.bytes:=by
    have:=Nat.mul_le_mul_left (2*(sLen+n)) (Nat.one_le_iff_ne_zero.2 hb0)
    omega
   omega
  have:=Nat.mod_lt (w.tape w.drawn (.appendCap (sLen+n) sCap e)) this
  show sLen+n+w.tape w.drawn (.appendCap (sLen+n) sCap e)%(2 ^ 63-(sLen+n))<_
  rw[show(2 ^ 63:Nat)=9223372036854775808 from rfl]
  omega
 have hnext:=U5 (sLen+n) sCap hlt
 have hnb:¬Builtin.nextslicecap (sLen+n) sCap*i.bytes>2 ^ 48:=by
  rw[T.bytes]
  have:Builtin.nextslicecap (sLen+n) sCap*ti.bytes≤2*(sLen+n)*ti.bytes:=Nat.mul_le_mul_right _ hnext
  omega
 have hle:¬sLen+n≤sCap:=by omega
 have hi0:¬i.bytes=0:=by rw[T.bytes]; exact hb0
 subst hv
 have g0:=hf0 w.drew rfl
 have g1:=hf w.drew rfl
 cases d2<;>first
  |(simp[sN]at hd; done)
  |(simp only[Builtin.append_,List.getElem?_toArray,List.getElem?_cons_zero,List.getElem?_cons_succ,Sem.run_bind,run_underlying hs,run_underlying hx,Result.andThen_ok,T.bK,Sem.run_pure,Bool.false_eq_true,if_false,hn,hle,T.IX,hi0,or_self,and_false,hnb,
    Sem.run_ite,Result.andThen_ite,run_choose,Question.forced,run_askRoom,Bool.not_false,if_true,World.drew_eq,g0,g1,T.lD,newRow,Sem.run_bind,run_newObj,Sem.run_pure]; rfl)
theorem yj{ts tx ty e:TypeId}{ti:TI}{i:TypeInfo}{d d2:TypeDesc}{z:Value}{s' x':Value}{base:Option Addr}{sLen sCap n:Nat}{us us0:List Value}(hs:P.underlying ts=some (.slice e))(hx:P.underlying tx=some d2)
  (hd:sN d2=false) (T:vJ P e ti i d z) (hv:s'= .slice base sLen sCap) (hn:∀w,(Builtin.lenOf x').run P w= .ok n w)
  (hf:∀w',w'.heap=w.heap->(Builtin.firstCells ti.size n x').run P w'= .ok us.toArray w') (hf0:∀w',w'.heap=w.heap->(Builtin.firstCells ti.size sLen s').run P w'= .ok us0.toArray w')
  (hlt:sCap<sLen+n) (hb:2*(sLen+n)*ti.bytes≤281474976710656) (hb0:ti.bytes≠0):
  ∃newCap,sLen+n≤newCap∧(Builtin.append_ #[ts,tx] ty #[s',x']).run P w=
   .ok (.slice (some ⟨w.heap.size,0,none⟩) (sLen+n) newCap) (w.drew.alloc (.cells (us0.toArray++us.toArray++Builtin.zeroCells z.cells (newCap-(sLen+n))) e (0,0))):=by
 obtain⟨c,h1,_,h3⟩:=Dq hs hx hd T hv hn hf hf0 hlt hb hb0
 exact⟨c,h1,h3⟩
end
section
variable{P:Program}{E:Env}{M:Mp}{H H':Heap}{w:World}
theorem U7{xs us:List Value}(hv:VL M xs us)(h:xs.all cell1=true):∀u∈us,u.oneCell'=true:=by
 intro u hu
 obtain⟨j,hj⟩:=List.mem_iff_getElem?.1 hu
 have hjl:j<xs.length:=by rw[hv.1]; exact(List.getElem?_eq_some_iff.1 hj).1
 rw[←(hv.2 j _ _ (List.getElem?_eq_getElem hjl) hj).cell1]
 exact List.all_eq_true.1 h _ (List.getElem_mem hjl)
theorem yt{s:Sem Value}{xs us:List Value}{z:Value}{size need newCap:Nat}{e:TypeId}(h:HR M H w)(hv:VL M xs us)(hl:xs.length=need*size)(hz:z.cells.size=size)(hc:need≤newCap)
  (hr:s.run P w= .ok (.slice (some ⟨w.heap.size,0,none⟩) need newCap) (w.drew.alloc (.cells (us.toArray++Builtin.zeroCells z.cells (newCap-need)) e (0,0)))):
  Gives P M H w s (.slice (some ⟨H.length,0,none⟩) need need) (mk H xs size true):=by
 have hzc:(Builtin.zeroCells z.cells (newCap-need)).size=(newCap-need)*size:=by simp[Builtin.zeroCells,hz]
 have hus:=hv.1
 have hsz:(us.toArray++Builtin.zeroCells z.cells (newCap-need)).size=newCap*size:=by
  simp only[Array.size_append,List.size_toArray,hzc]
  have:newCap*size=need*size+(newCap-need)*size:=by rw[←Nat.add_mul]; congr 1; omega
  omega
 have st:=Stp.newRow (M:=M) (H:=H) (w:=w.drew) h.drew (cells:=xs) (c:=us.toArray++Builtin.zeroCells z.cells (newCap-need)) e size true (by simp; omega) (by
  simp only[Array.toList_append]
  rw[List.take_append_of_le_length (by omega),List.take_of_length_le (by omega)]
  exact hv)
 refine⟨_,_,_,hr,(Stp.drew h).trans st,Dk h rfl rfl (.inr ⟨rfl,by simp; omega,hc,?_⟩)⟩
 simp only[Nat.zero_add]
 rw[hsz]; exact Nat.le_refl _
theorem U8{b off n:Nat}{cs:List Value}(h:rd H b off n=some cs):cs.length=n:=by
 unfold rd at h
 split at h
 ·split at h
  ·simp at h; subst h; simp; omega
  ·simp at h
 ·simp at h
theorem HR.killed(h:HR M H w){cells:List Value}{sz b:Nat}{opn:Bool}(hk:H[b]? =some (.row cells sz opn false true)):HR M (kill H b) w:=by
 have hblen:b<H.length:=(List.getElem?_eq_some_iff.1 hk).1
 have hkb:(kill H b)[b]? =some (.row cells sz opn false false):=by unfold kill; rw[hk]; simp[hblen]
 have hko:∀j:Nat,j≠b->(kill H b)[j]? =H[j]? :=fun j hj=>by unfold kill; rw[hk]; simp only; rw[List.getElem?_set_ne (Ne.symm hj)]
 have hkl:(kill H b).length=H.length:=by unfold kill; rw[hk]; simp
 have hl:∀j:Nat,bQ (kill H b) j->bQ H j:=by
  intro j hj
  by_cases e:j=b
  ·subst e; unfold bQ at hj; rw[hkb]at hj; simp at hj
  ·unfold bQ at hj ⊢; rw[hko j e]at hj; exact hj
 have hw:∀j:Nat,aZ (kill H b) j->aZ H j:=by
  intro j hj
  by_cases e:j=b
  ·subst e; unfold aZ at hj; rw[hkb]at hj; simp at hj
  ·unfold aZ at hj ⊢; rw[hko j e]at hj; exact hj
 refine⟨by rw[hkl]; exact h.len,fun j e k hj hkj=> ?_,fun j j' e e' hne hj hj' h1 h2=>h.sep j j' e e' hne hj hj' (hw j h1) (hl j' h2)⟩
 by_cases ej:j=b
 ·subst ej
  rw[hkb]at hkj; simp at hkj; subst hkj
  obtain⟨q1,q2,q3,_⟩:=h.blk _ _ _ hj hk
  exact⟨q1,q2,q3,fun hf=>by simp at hf⟩
 ·rw[hko j ej]at hkj; exact h.blk j e k hj hkj
theorem aZ.killed{cells:List Value}{sz b:Nat}{opn:Bool}(hk:H[b]? =some (.row cells sz opn false true)){j:Nat}(hj:aZ (kill H b) j):aZ H j:=by
 have hblen:b<H.length:=(List.getElem?_eq_some_iff.1 hk).1
 by_cases e:j=b
 ·subst e
  have hkb:(kill H j)[j]? =some (.row cells sz opn false false):=by unfold kill; rw[hk]; simp[hblen]
  unfold aZ at hj; rw[hkb]at hj; simp at hj
 ·have hko:(kill H b)[j]? =H[j]? :=by unfold kill; rw[hk]; simp only; rw[List.getElem?_set_ne (Ne.symm e)]
  unfold aZ at hj ⊢; rw[hko]at hj; exact hj
theorem bQ.killed{cells:List Value}{sz b:Nat}{opn:Bool}(hk:H[b]? =some (.row cells sz opn false true)){j:Nat}(hj:bQ (kill H b) j):bQ H j:=by
 by_cases e:j=b
 ·subst e
  unfold bQ; rw[hk]
 ·have hko:(kill H b)[j]? =H[j]? :=by unfold kill; rw[hk]; simp only; rw[List.getElem?_set_ne (Ne.symm e)]
  unfold bQ at hj ⊢; rw[hko]at hj; exact hj
theorem Stp.killed(h:HR M H w){cells:List Value}{sz b:Nat}{opn:Bool}(hk:H[b]? =some (.row cells sz opn false true)){e:jd}(he:M[b]? =some (some e)):Stp M H w M (kill H b) w:=
 ⟨.refl M,h.killed hk,rfl,rfl,rfl,Nat.le_refl _,Nat.le_refl _,fun _ _ _=>rfl,fun b' e hb hw _=>⟨b',e,hb,hw.killed hk,rfl⟩,fun j hj=>⟨hj,by
  have hjb:j≠b:=fun e0=>by subst e0; rw[he]at hj; simp at hj
  unfold kill; rw[hk]; simp only; rw[List.getElem?_set_ne (Ne.symm hjb)]⟩,fun b' e hb hw _=>⟨b',e,hb,hw.killed hk,rfl⟩⟩
theorem WM(hE:E.Ok P)(h:HR M H w){ts:List TypeId}{ty:TypeId}{s s' x' v:Value}{n:Nat}{xs:List Value}(hs:VR M s s')
  (hle:∀w,(Builtin.lenOf x').run P w= .ok n w)
  (hfs:∀t ti e te,ts.head? =some t->E.ty t=some ti->ti.k= .slice e->E.ty e=some te->xs.length=n*te.size→
   ∃us:List Value,(∀w':World,w'.heap=w.heap->(Builtin.firstCells te.size n x').run P w'= .ok us.toArray w')∧VL M xs us)
  (ha:uQ E ts s n xs H=some (v,H')):Gives P M H w (Builtin.append_ ts.toArray ty #[s',x']) v H':=by
 unfold uQ at ha
 split at ha
 ·rename_i ts tx
  obtain⟨ti,ht,ha2⟩:=aj ha
  obtain⟨tj,htj,ha3⟩:=aj ha2
  clear ha ha2
  obtain⟨i1,d1,z1,T1⟩:=hE.ty _ _ ht
  obtain⟨i2,d2,z2,T2⟩:=hE.ty _ _ htj
  split at ha3
  ·simp at ha3
  ·rename_i e hke hnot
   have hd2:sN d2=false:=WL T2.k (fun j hj=>hnot j hj)
   obtain⟨te,hte,ha6⟩:=aj ha3
   clear ha3
   obtain⟨i3,d3,z3,T3⟩:=hE.ty _ _ hte
   have hk:=T1.k
   rw[hke]at hk
   have hund:P.underlying ts=some (.slice e):=by
    cases hd:d1<;>rw[hd]at hk<;>first|exact hk.elim|(have hk:e=_:=hk; subst hk; rw[T1.und,hd])
   split at ha6
   ·simp at ha6
   rename_i hsz0
   obtain⟨us,hfr,hvl⟩:=hfs ts ti e te rfl ht hke hte (by omega)
   have hxl:xs.length=n*te.size:=by omega
   have hzc:z3.cells.size=te.size:=by rw[←T3.len,←T3.cells]; simp
   split at ha6
   ·
    have:=hs.zJ; subst this
    split at ha6
    ·rename_i hn0
     simp at ha6; obtain⟨rfl,rfl⟩:=ha6
     subst hn0
     have:=U6 (ty:=ty) (sLen:=0) (sCap:=0) hund T2.und hd2 (fun w=>T3.bK w) hle (hfr w rfl) (Nat.le_refl _)
     exact Gives.pure h this .slice0
    ·split at ha6
     ·rename_i hn0 hb
      obtain⟨hb1,hb2,_⟩:=hb
      simp at ha6; obtain⟨rfl,rfl⟩:=ha6
      obtain⟨nc,q1,q2⟩:=yj (ty:=ty) hund T2.und hd2 T3 (s':=.slice none 0 0) rfl hle hfr (us0:=[]) (fun _ _=>by simp[Builtin.firstCells]) (by omega) (by simpa using hb1) hb2
      simp only[Nat.zero_add]at q1 q2
      have q3:([]:List Value).toArray++us.toArray=us.toArray:=by simp
      rw[q3]at q2
      exact yt h hvl hxl hzc q1 q2
     ·simp at ha6
   ·rename_i b off len cap
    obtain⟨en,c,he,hc,rfl⟩:=hs.of_slice
    have hcc:cap≤c:=by rcases hc with hq|⟨_,_,hq,_⟩<;>omega
    split at ha6
    ·rename_i hn0
     subst hn0
     split at ha6
     ·rename_i hlc
      simp at ha6; obtain⟨rfl,rfl⟩:=ha6
      have hlc:len+0≤c:=by omega
      have:=zL (ty:=ty) hund T2.und hd2 (fun w=>T3.bK w) (a:=⟨en.blk,en.base+off,none⟩) (sLen:=len) (sCap:=c) hle (hfr w rfl) hlc
      have hus:us=[]:=by have:=hvl.1; rw[hxl]at this; simp at this; exact List.length_eq_zero_iff.1 this.symm
      subst hus
      rw[WJ]at this
      exact Gives.pure h this (.slice he hc)
     ·simp at ha6
    ·rename_i hn0
     split at ha6
     ·rename_i hle2
      obtain⟨H2,hw,ha7⟩:=aj ha6
      simp at ha7; obtain⟨rfl,rfl⟩:=ha7
      obtain⟨w',g1,g2⟩:=WG P h hw he hvl
      have:=zL (ty:=ty) hund T2.und hd2 (fun w=>T3.bK w) (a:=⟨en.blk,en.base+off,none⟩) (sLen:=len) (sCap:=c) hle (hfr w rfl) (by omega)
      rw[gU]at this
      simp only[Nat.add_assoc]at g1 this
      rw[g1]at this
      exact⟨_,_,_,this,g2,.slice he hc⟩
     ·split at ha6
      ·rename_i hle2 hb
       obtain⟨hb1,hb2,hb3⟩:=hb
       obtain⟨old,ho,ha7⟩:=aj ha6
       obtain⟨us0,g1,g2,g3,_⟩:=WE P h ho he
       have hol:old.length=len*te.size:=by rw[g2.1,g3]
       have hlen:(old++xs).length=(len+n)*te.size:=by simp[hol,hxl,Nat.add_mul]
       have grow:c<len+n->Gives P M H w (Builtin.append_ [ts,tx].toArray ty #[.slice (some ⟨en.blk,en.base+off,none⟩) len c,x']) (.slice (some ⟨H.length,0,none⟩) (len+n) (len+n)) (mk H (old++xs) te.size true):=by
        intro hlt
        obtain⟨nc,q1,q2⟩:=yj (ty:=ty) hund T2.und hd2 T3 (s':=.slice (some ⟨en.blk,en.base+off,none⟩) len c) rfl hle hfr (us0:=us0) (fun w' hw'=>by simp[Builtin.firstCells,g1 w' hw']) hlt hb1 hb2
        refine yt (e:=e) h (g2.append hvl) hlen hzc q1 ?_
        rw[←List.append_toArray] ; exact q2
       split at ha7
       ·rename_i hex
        simp at ha7; obtain⟨rfl,rfl⟩:=ha7
        have:=Dp h hex he hc; subst this
        exact grow (by omega)
       ·split at ha7
        ·rename_i cells sz opn hkb
         split at ha7
         ·rename_i hszq
          subst hszq
          simp at ha7; obtain⟨rfl,rfl⟩:=ha7
          by_cases hroom:len+n≤c
          ·have hroom2:en.base+off+(len+n)*te.size≤en.csz:=by
            rcases hc with hq|⟨_,_,_,hq⟩
            ·omega
            ·obtain⟨_,_,q3,_⟩:=h.blk _ _ _ he hkb
             rw[q3]at hq
             have:(len+n)*te.size≤c*te.size:=Nat.mul_le_mul_right _ hroom
             omega
           obtain⟨w',k1,k2⟩:=Stp.inPlace (P:=P) h hkb he ho hvl (by rw[←hvl.1]; exact hxl) (U7 hvl hb3) hroom2
           have:=zL (ty:=ty) hund T2.und hd2 (fun w=>T3.bK w) (a:=⟨en.blk,en.base+off,none⟩) (sLen:=len) (sCap:=c) hle (hfr w rfl) hroom
           rw[gU]at this
           rw[k1]at this
           refine⟨_,_,_,this,k2,?_⟩
           have:=VR.slice (M:=M++[some (⟨en.blk,en.base+off,true,(old++xs).length,te.size,en.csz⟩:jd)]) (off:=0) (len:=len+n) (cap:=len+n) (c:=c) (pV h _) (.inr ⟨rfl,by simp only[hlen]; omega,hroom,?_⟩)
           ·simpa using this
           ·rcases hc with hq|⟨_,_,_,hq⟩
            ·omega
            ·obtain⟨_,_,q3,_⟩:=h.blk _ _ _ he hkb
             rw[q3]at hq
             simpa using hq
          ·have hlt:c<len+n:=by omega
           obtain⟨nc,q1,q2⟩:=yj (ty:=ty) hund T2.und hd2 T3 (s':=.slice (some ⟨en.blk,en.base+off,none⟩) len c) rfl hle hfr (us0:=us0) (fun w' hw'=>by simp[Builtin.firstCells,g1 w' hw']) hlt hb1 hb2
           obtain⟨v',M',w',r1,r2,r3⟩:=yt (e:=e) (h.killed hkb) (g2.append hvl) hlen hzc q1 (by rw[←List.append_toArray]; exact q2)
           have hkl:(kill H b).length=H.length:=by unfold kill; rw[hkb]; simp
           rw[hkl]at r3
           exact⟨v',M',w',r1,(Stp.killed h hkb he).trans r2,r3⟩
         ·simp at ha7
        ·simp at ha7
      ·simp at ha6
   ·rename_i b off
    obtain⟨a',c,rfl⟩:=hs.EN
    split at ha6
    ·rename_i hn0
     simp at ha6; obtain⟨rfl,rfl⟩:=ha6
     subst hn0
     have:=zL (ty:=ty) hund T2.und hd2 (fun w=>T3.bK w) (a:=a') (sLen:=0) (sCap:=c) hle (hfr w rfl) (by omega)
     have hus:us=[]:=by have:=hvl.1; rw[hxl]at this; simp at this; exact List.length_eq_zero_iff.1 this.symm
     subst hus
     rw[WJ]at this
     exact Gives.pure h this .sliceE
    ·simp at ha6
   ·simp at ha6
  ·simp at ha3
 ·simp at ha
theorem XK(hE:E.Ok P)(h:HR M H w){ts:List TypeId}{ty:TypeId}{s s' x x' v:Value}(hs:VR M s s')(hx:VR M x x')(ha:Dh E ts s x H=some (v,H')):
  Gives P M H w (Builtin.append_ ts.toArray ty #[s',x']) v H':=by
 unfold Dh at ha
 split at ha
 ·rename_i t1 t2
  obtain⟨ti,ht,ha2⟩:=aj ha
  split at ha2
  ·rename_i e hke
   obtain⟨te,hte,ha4⟩:=aj ha2
   obtain⟨n,hn,ha5⟩:=aj ha4
   obtain⟨xs,hf,ha6⟩:=aj ha5
   refine WM hE h hs (fun w=>O6 hx hn) (fun t ti' e' te' q1 q2 q3 q4 _=> ?_) ha6
   simp at q1; subst q1
   rw[ht]at q2; simp at q2; subst q2
   rw[hke]at q3; simp at q3; subst q3
   rw[hte]at q4; simp at q4; subst q4
   exact Bv (P:=P) h hx hf
  ·simp at ha2
 ·simp at ha
end
section
variable{P:Program}{E:Env}{M:Mp}{H H':Heap}{w:World}
theorem O7{x:Value}{size:Nat}{xs:List Value}(hf:gK x 0 size H=some xs):xs=[]:=by
 unfold gK at hf
 split at hf
 ·simp at hf; exact hf
 ·simp only[Nat.zero_mul]at hf
  have:=U8 hf
  exact List.length_eq_zero_iff.1 this
 ·simp at hf; exact hf
 ·simp at hf; exact hf
 ·simp at hf
theorem XL{ats:Array TypeId}{td ty e:TypeId}{x':Value}{dl dc n size:Nat}{us:List Value}(hat:ats[0]? =some td)(hu:P.underlying td=some (.slice e))(hsz:∀w,(sizeOf e).run P w= .ok size w)
  (hn:∀w,(Builtin.lenOf x').run P w= .ok n w) (hf:(Builtin.firstCells size (min n dl) x').run P w= .ok us.toArray w):
  (Builtin.copy_ ats ty #[.slice none dl dc,x']).run P w= .ok (.int .i64 ↑(min n dl)) w:=by
 have hm:n.min dl=min n dl:=rfl
 simp[Builtin.copy_,hat,run_underlying hu,hn,hsz,hm,hf,goInt]
theorem Og{ats:Array TypeId}{td ty e:TypeId}{x':Value}{a:Addr}{dl dc n size:Nat}{us:List Value}(hat:ats[0]? =some td)(hu:P.underlying td=some (.slice e))(hsz:∀w,(sizeOf e).run P w= .ok size w)
  (hn:∀w,(Builtin.lenOf x').run P w= .ok n w) (hf:(Builtin.firstCells size (min n dl) x').run P w= .ok us.toArray w):
  (Builtin.copy_ ats ty #[.slice (some a) dl dc,x']).run P w=((storeCells a us).run P w).andThen fun _ w'=>.ok (.int .i64 ↑(min n dl)) w':=by
 have hm:n.min dl=min n dl:=rfl
 simp[Builtin.copy_,hat,run_underlying hu,hn,hsz,hm,hf,goInt]
theorem WO(hE:E.Ok P)(h:HR M H w){ats:Array TypeId}{ty:TypeId}{d d' x x' v:Value}(hd:VR M d d')(hx:VR M x x')(ha:Oa E ats.toList d x H=some (v,H')):
  Gives P M H w (Builtin.copy_ ats ty #[d',x']) v H':=by
 unfold Oa at ha
 split at ha
 rotate_left
 ·simp at ha
 rename_i td rest hats
 have hat:ats[0]? =some td:=by
  have:ats.toList[0]? =some td:=by rw[hats]; rfl
  simpa using this
 obtain⟨ti,ht,ha2⟩:=aj ha
 clear ha
 obtain⟨i1,d1,z1,T1⟩:=hE.ty _ _ ht
 split at ha2
 ·rename_i e base dl dc hke
  obtain⟨te,hte,ha3⟩:=aj ha2
  obtain⟨n,hn,ha4⟩:=aj ha3
  obtain⟨xs,hf,ha5⟩:=aj ha4
  clear ha2 ha3 ha4
  obtain⟨i3,d3,z3,T3⟩:=hE.ty _ _ hte
  have hk:=T1.k
  rw[hke]at hk
  have hund:P.underlying td=some (.slice e):=by
   cases hd:d1<;>rw[hd]at hk<;>first|exact hk.elim|(have hk:e=_:=hk; subst hk; rw[T1.und,hd])
  obtain⟨us,hfr,hvl⟩:=Bv (P:=P) h hx hf
  have hle:∀w,(Builtin.lenOf x').run P w= .ok n w:=fun w=>O6 hx hn
  have zero:min n dl=0->us=[]:=by
   intro h0
   rw[h0]at hf
   have:=O7 hf
   subst this
   exact hvl.of_nil
  split at ha5
  ·simp at ha5; obtain⟨rfl,rfl⟩:=ha5
   have:∃c,d'= .slice none dl c∧dl=0:=by cases hd; exact⟨_,rfl,rfl⟩
   obtain⟨c,rfl,_⟩:=this
   have:=XL (ty:=ty) (dl:=dl) (dc:=c) hat hund (fun w=>T3.bK w) hle (hfr w rfl)
   exact Gives.pure h this (.int _ _)
  ·split at ha5
   ·rename_i h0
    simp at ha5; obtain⟨rfl,rfl⟩:=ha5
    have hdd:∃a c,d'= .slice (some a) dl c:=by
     cases hd with
     |sliceE=>exact⟨_,_,rfl⟩
    obtain⟨a,c,rfl⟩:=hdd
    have:=Og (ty:=ty) (a:=a) (dl:=dl) (dc:=c) hat hund (fun w=>T3.bK w) hle (hfr w rfl)
    rw[zero h0]at this
    simp only[WJ,Result.andThen_ok,h0]at this
    exact Gives.pure h this (.int _ _)
   ·simp at ha5
  ·rename_i b off
   obtain⟨en,c,he,hc,rfl⟩:=hd.of_slice
   have hr:=Og (ty:=ty) (a:=⟨en.blk,en.base+off,none⟩) (dl:=dl) (dc:=c) hat hund (fun w=>T3.bK w) hle (hfr w rfl)
   split at ha5
   ·rename_i h0
    simp at ha5; obtain⟨rfl,rfl⟩:=ha5
    rw[zero h0]at hr
    simp only[WJ,Result.andThen_ok,h0]at hr
    exact Gives.pure h hr (.int _ _)
   ·obtain⟨H2,hw,ha6⟩:=aj ha5
    simp at ha6; obtain⟨rfl,rfl⟩:=ha6
    obtain⟨w',g1,g2⟩:=WG P h hw he hvl
    simp only[g1,Result.andThen_ok]at hr
    exact⟨_,_,_,hr,g2,.int _ _⟩
 ·simp at ha2
theorem RG(hE:E.Ok P)(h:HR M H w){ats:Array TypeId}{ty:TypeId}{x x':Value}(hx:VR M x x')(ha:vH E ats.toList x H=some H'):
  Gives P M H w (Builtin.clear_ ats ty #[x']) undef H':=by
 unfold vH at ha
 split at ha
 rotate_left
 ·simp at ha
 rename_i t rest hats
 have hat:ats[0]? =some t:=by
  have:ats.toList[0]? =some t:=by rw[hats]; rfl
  simpa using this
 obtain⟨ti,ht,ha2⟩:=aj ha
 clear ha
 obtain⟨i1,d1,z1,T1⟩:=hE.ty _ _ ht
 have hk:=T1.k
 have hund:∀e,ti.k= .slice e->P.underlying t=some (.slice e):=fun e hke=>by
  rw[hke]at hk
  cases hd:d1<;>rw[hd]at hk<;>first|exact hk.elim|(have hk:e=_:=hk; subst hk; rw[T1.und,hd])
 split at ha2
 ·rename_i hke
  have hu:=hund _ hke
  cases ha2
  cases hx
  refine Gives.pure h ?_ (.undef _)
  simp[Builtin.clear_,hat,run_underlying hu,undef]
 ·rename_i e b off m cap hke
  have hu:=hund _ hke
  obtain⟨te,hte,ha3⟩:=aj ha2
  obtain⟨i3,d3,z3,T3⟩:=hE.ty _ _ hte
  obtain⟨en,c,he,hc,rfl⟩:=hx.of_slice
  split at ha3
  ·rename_i h0
   cases ha3
   subst h0
   refine Gives.pure h ?_ (.undef _)
   simp[Builtin.clear_,hat,run_underlying hu,undef]
  ·rename_i h0
   have hz:=yh (M:=M) T3 m
   have hsz:z3.cells.size=te.size:=by rw[←T3.len,←T3.cells]; simp
   have hzc:(Builtin.zeroCells z3.cells m).toList=(madeCells z3.cells (m*te.size)).toList:=by rw[←hsz]; rfl
   rw[←hzc]at hz
   obtain⟨w',g1,g2⟩:=WG P h ha3 he hz
   obtain⟨q,rfl⟩:∃q,m=q+1:=⟨m-1,by omega⟩
   refine⟨undef,_,_,?_,g2,.undef _⟩
   simp[Builtin.clear_,hat,run_underlying hu,T3.lD,g1,undef]
 ·rename_i hke
  have hu:=hund _ hke
  cases ha2
  cases hx
  refine Gives.pure h ?_ (.undef _)
  simp[Builtin.clear_,hat,run_underlying hu,undef]
 ·cases ha2
theorem aa8{mx:Bool}{a a' b b' v:Value}(ha:VR M a a')(hb:VR M b b')(hv:YP mx a b=some v):
  VR M v v∧∀w:World,((if mx then Builtin.max2 else Builtin.min2) a' b').run P w= .ok v w:=by
 unfold YP at hv
 split at hv
 ·simp at hv; subst hv
  have:=ha.of_int; subst this
  have:=hb.of_int; subst this
  refine⟨.int _ _,fun w=> ?_⟩
  cases mx<;>simp[Builtin.min2,Builtin.max2]
 ·simp at hv
theorem aa9{mx:Bool}:∀{l l':List Value} {a a' v:Value},VR M a a'->VL M l l'->xX mx a l=some v→
  ∃v',VR M v v'∧∀w:World,(l'.foldlM (if mx then Builtin.max2 else Builtin.min2) a').run P w= .ok v' w:=by
 intro l
 induction l with
 |nil=>
  intro l' a a' v ha hl hv
  have:=hl.of_nil; subst this
  simp[xX]at hv; subst hv
  exact⟨a',ha,fun w=>by simp⟩
 |cons x r ih=>
  intro l' a a' v ha hl hv
  obtain⟨u,us,rfl,hu,hr⟩:=hl.of_cons
  unfold xX at hv
  obtain⟨m,hm,hv2⟩:=aj hv
  obtain⟨h1,h2⟩:=aa8 (P:=P) ha hu hm
  obtain⟨v',g1,g2⟩:=ih h1 hr hv2
  exact⟨v',g1,fun w=>by simp only[List.foldlM_cons,Sem.run_bind,h2,Result.andThen_ok,g2]⟩
theorem O8(h:HR M H w){mx:Bool}{ts:Array TypeId}{ty:TypeId}{l l':List Value}{a a' v:Value}(ha:VR M a a')(hl:VL M l l')(hv:xX mx a l=some v):
  Gives P M H w ((if mx then Builtin.max_ else Builtin.min_) ts ty (a'::l').toArray) v H:=by
 obtain⟨v',g1,g2⟩:=aa9 (P:=P) ha hl hv
 refine Gives.pure h ?_ g1
 cases mx
 ·have:=g2 w
  simpa[Builtin.min_]using this
 ·have:=g2 w
  simpa[Builtin.max_]using this
end
section
variable{P:Program}{E:Env}{M:Mp}{H H':Heap}{w:World}
def I8(d:Nat)(e:TypeId)(n:Nat)(xs ys:Array Value):List Nat->Sem Bool
 |[]=>pure true
 |i::l=>do
  let a ←part e xs (i*n)
  let b ←part e ys (i*n)
  let r ←Op.equalIn d e a b
  if(!r)=true then pure false else I8 d e n xs ys l
theorem run_equalIn_array(w:World)(d:Nat)(t e:TypeId)(len n:Nat)(xs ys:Array Value)(ht:P.underlying t=some (.array len e))(hs:∀w,(sizeOf e).run P w= .ok n w):
  (Op.equalIn (d+1) t (.agg xs) (.agg ys)).run P w=(I8 d e n xs ys (List.range' 0 len)).run P w:=by
 simp only[Op.equalIn,Sem.run_bind,run_underlying ht,Result.andThen_ok,hs,Std.Legacy.Range.forIn_eq_forIn_range',Std.Legacy.Range.size]
 have e0:(len-0+1-1)/1=len:=by simp
 rw[e0]
 generalize List.range' 0 len=l
 clear ht
 induction l generalizing w with
 |nil=>simp[I8]
 |cons i l ih=>
  simp only[List.forIn_cons,I8,Sem.run_bind,Sem.run_ite]
  generalize (part e xs (i*n)).run P w=r1
  cases r1 with
  |ok a w1=>
   simp only[Result.andThen_ok]
   generalize (part e ys (i*n)).run P w1=r2
   cases r2 with
   |ok b w2=>
    simp only[Result.andThen_ok]
    generalize (Op.equalIn d e a b).run P w2=r3
    cases r3 with
    |ok r w3=>
     cases r
     ·simp only[Result.andThen_ok,Bool.not_false,if_true,Sem.run_pure]
     ·simp only[Result.andThen_ok,Bool.not_true,Bool.false_eq_true,if_false,Sem.run_pure]
      exact ih w3
    |halt x w3=>simp[Result.andThen]
   |halt x w2=>simp[Result.andThen]
  |halt x w1=>simp[Result.andThen]
set_option maxHeartbeats 1000000 in
theorem ac8{k:TK}{d:TypeDesc}{t:TypeId}{x x' y y':Value}{b:Bool}{D:Nat}(hk:KOk P t k d)(ht:P.underlying t=some d)(hx:VR M x x')(hy:VR M y y')(h:eq1 k x y=some b)(w:World):
  (Op.equalIn (D+1) t x' y').run P w= .ok b w:=by
 unfold eq1 at h
 split at h
 ·cases d<;>first|exact hk.elim|skip
  simp at h; subst h
  have:=hx.of_bool; subst this; have:=hy.of_bool; subst this
  simp[Op.equalIn,run_underlying ht]
 ·cases d<;>first|exact hk.elim|skip
  split at h
  ·rename_i hkk
   simp at h; subst h
   have:=hx.of_int; subst this; have:=hy.of_int; subst this
   simp[Op.equalIn,run_underlying ht,hkk]
  ·simp at h
 ·cases d<;>first|exact hk.elim|skip
  simp at h; subst h
  have:=hx.of_string; subst this; have:=hy.of_string; subst this
  exact run_equalIn_string w D t _ _ ht
 ·cases d<;>first|exact hk.elim|skip
  simp at h; subst h
  cases hx
  cases hy<;>simp[Op.equalIn,run_underlying ht]
 ·cases d<;>first|exact hk.elim|skip
  simp at h; subst h
  cases hx
  cases hy
  simp[Op.equalIn,run_underlying ht]
 ·cases d<;>first|exact hk.elim|skip
  simp at h; subst h
  cases hx
  cases hy<;>simp[Op.equalIn,run_underlying ht]
 ·cases d<;>first|exact hk.elim|skip
  simp at h; subst h
  cases hy
  cases hx<;>simp[Op.equalIn,run_underlying ht]
 ·cases d<;>first|exact hk.elim|skip
  simp at h; subst h
  cases hx
  cases hy<;>simp[Op.equalIn,run_underlying ht]
 ·cases d<;>first|exact hk.elim|skip
  simp at h; subst h
  cases hx
  cases hy
  simp[Op.equalIn,run_underlying ht]
 ·cases d<;>first|exact hk.elim|skip
  simp at h; subst h
  cases hx<;>cases hy<;>simp[Op.equalIn,run_underlying ht]
 ·cases d<;>first|exact hk.elim|skip
  simp at h; subst h
  cases hx<;>cases hy<;>simp[Op.equalIn,run_underlying ht]
 ·cases d<;>first|exact hk.elim|skip
  simp at h; subst h
  cases hx<;>cases hy<;>simp[Op.equalIn,run_underlying ht]
 ·cases d<;>first|exact hk.elim|skip
  simp at h; subst h
  cases hx<;>cases hy<;>simp[Op.equalIn,run_underlying ht]
 ·cases d<;>first|exact hk.elim|skip
  simp at h; subst h
  cases hx<;>cases hy<;>simp[Op.equalIn,run_underlying ht]
 ·simp at h
theorem acO(hE:E.Ok P):∀(d:Nat),
  (∀(t:TypeId) (x x' y y':Value) (b:Bool) (D:Nat),d≤D->VR M x x'->VR M y y'->L8 E d t x y=some b->∀w,(Op.equalIn D t x' y').run P w= .ok b w)∧
  (∀(fs:List (Nat×TypeId)) (gs:List Field) (xs xs' ys ys':List Value) (b:Bool) (D:Nat),d≤D+1->fs=gs.map (fun f=>(f.offset,f.type))->(∀f∈gs,f.name≠"_")->VL M xs xs'->VL M ys ys'->eqFields E d fs xs ys=some b→
   ∀w,(Op.eqFields D xs'.toArray ys'.toArray gs).run P w= .ok b w)∧
  (∀(e:TypeId) (size n i:Nat) (xs xs' ys ys':List Value) (b:Bool) (D:Nat),d≤D+1->VL M xs xs'->VL M ys ys'->rO E d e size n i xs ys=some b→
   ∀w,(I8 D e size xs'.toArray ys'.toArray (List.range' i n)).run P w= .ok b w):=by
 intro d
 induction d with
 |zero=>
  refine⟨?_,?_,?_⟩
  ·intro t x x' y y' b D _ _ _ h; simp[L8]at h
  ·intro fs gs xs xs' ys ys' b D _ _ _ _ _ h; simp[eqFields]at h
  ·intro e size n i xs xs' ys ys' b D _ _ _ h; simp[rO]at h
 |succ d ih=>
  obtain⟨ih1,ih2,ih3⟩:=ih
  refine⟨?_,?_,?_⟩
  ·intro t x x' y y' b D hD hx hy h w
   obtain⟨D,rfl⟩:∃q,D=q+1:=⟨D-1,by omega⟩
   unfold L8 at h
   obtain⟨ti,ht,h2⟩:=aj h
   clear h
   obtain⟨i,dd,z,T⟩:=hE.ty _ _ ht
   have hk:=T.k
   split at h2
   ·rename_i fs xs ys hkd
    rw[hkd]at hk
    obtain⟨us,rfl,hu⟩:=hx.EJ
    obtain⟨vs,rfl,hv⟩:=hy.EJ
    cases dd with
    |struct gs=>
     obtain⟨hg,hn,hst,_⟩:=hk
     have hf:P.underlying t=some (.struct (P.fieldsOf t)):=by unfold Program.fieldsOf; rw[T.und]
     have hfe:P.fieldsOf t=gs:=by unfold Program.fieldsOf; rw[T.und]
     rw[run_equalIn_struct w D t us vs hf hst,hfe]
     have:=ih2 fs gs.toList xs.toList us.toList ys.toList vs.toList b D (by omega) hg hn hu hv h2 w
     simpa using this
    |_=>exact hk.elim
   ·rename_i n e xs ys hkd
    rw[hkd]at hk
    obtain⟨te,hte,h3⟩:=aj h2
    obtain⟨i2,d2,z2,T2⟩:=hE.ty _ _ hte
    obtain⟨us,rfl,hu⟩:=hx.EJ
    obtain⟨vs,rfl,hv⟩:=hy.EJ
    cases dd with
    |array n' e'=>
     obtain⟨rfl,rfl,_⟩:=hk
     rw[run_equalIn_array w D t e n te.size us vs T.und (fun w=>T2.bK w)]
     have:=ih3 e te.size n 0 xs.toList us.toList ys.toList vs.toList b D (by omega) hu hv h3 w
     simpa using this
    |_=>exact hk.elim
   ·exact ac8 hk T.und hx hy h2 w
  ·intro fs gs xs xs' ys ys' b D hD hfs hn hx hy h w
   cases gs with
   |nil=>
    subst hfs
    simp[eqFields]at h; subst h
    simp[Op.eqFields]
   |cons f gs=>
    subst hfs
    simp only[List.map_cons,eqFields]at h
    obtain⟨a,ha,h2⟩:=aj h
    obtain⟨c,hc,h3⟩:=aj h2
    obtain⟨r,hr,h4⟩:=aj h3
    obtain⟨a',g1,g2⟩:=zK hE hx ha
    obtain⟨c',g3,g4⟩:=zK hE hy hc
    have hn0:=hn f (by simp)
    have e1:=ih1 f.type a a' c c' r D (by omega) g2 g4 hr w
    simp only[Op.eqFields,if_pos hn0,Sem.run_bind,g1,g3,Result.andThen_ok,e1,Sem.run_ite]
    cases r with
    |false=>simp at h4; subst h4; simp
    |true=>
     simp only[if_true]at h4
     simp only[Bool.not_true,Bool.false_eq_true,if_false]
     exact ih2 _ gs xs xs' ys ys' b D (by omega) rfl (fun g hg=>hn g (by simp[hg])) hx hy h4 w
  ·intro e size n i xs xs' ys ys' b D hD hx hy h w
   cases n with
   |zero=>
    simp[rO]at h; subst h
    simp[I8]
   |succ n=>
    simp only[rO]at h
    obtain⟨a,ha,h2⟩:=aj h
    obtain⟨c,hc,h3⟩:=aj h2
    obtain⟨r,hr,h4⟩:=aj h3
    obtain⟨a',g1,g2⟩:=zK hE hx ha
    obtain⟨c',g3,g4⟩:=zK hE hy hc
    have e1:=ih1 e a a' c c' r D (by omega) g2 g4 hr w
    rw[List.range'_succ]
    simp only[I8,Sem.run_bind,g1,g3,Result.andThen_ok,e1,Sem.run_ite]
    cases r with
    |false=>simp at h4; subst h4; simp
    |true=>
     simp only[if_true]at h4
     simp only[Bool.not_true,Bool.false_eq_true,if_false]
     exact ih3 e size n (i+1) xs xs' ys ys' b D (by omega) hx hy h4 w
end
section
variable{P:Program}{E:Env}{M:Mp}{H H':Heap}{w:World}
def I9:Value->Value->Bool
 | .int _ _,.int _ _| .float _ _,.float _ _| .complex _ _ _,.complex _ _ _| .string _,.string _=>false
 |_,_=>true
theorem U9(t:TypeId)(a b:Value)(h:I9 a b=true):binOp .eql t a b=(do pure (.bool (←Op.equal t a b))):=by
 unfold binOp
 split<;>simp_all [I9]
theorem Va(t:TypeId)(a b:Value)(h:I9 a b=true):binOp .neq t a b=(do pure (.bool (!(←Op.equal t a b)))):=by
 unfold binOp
 split<;>simp_all [I9]
theorem RH{x x' y y':Value}(hx:VR M x x')(hy:VR M y y')(h1:∀k a k' b,x= .int k a->y= .int k' b->False)(h2:∀a b,x= .string a->y= .string b->False)(h3:∀k a,x≠ .float k a):I9 x' y'=true:=by
 cases hx<;>cases hy<;>first|rfl|exact(h1 _ _ _ _ rfl rfl).elim|exact(h2 _ _ rfl rfl).elim|exact absurd rfl (h3 _ _)
theorem RI(hE:E.Ok P){op:BinOp}{t:TypeId}{d:Nat}{ox oy:Operand}{x x' y y':Value}{b:Bool}(hx:VR M x x')(hy:VR M y y')(h:L8 E d t x y=some b)(w:World):
  (eqGuard op t ox oy x' y').run P w= .ok () w:=by
 cases d with
 |zero=>simp[L8]at h
 |succ d=>
  cases hx with
  |agg hs gx=>
   cases hy with
   |agg hs' gx'=>
    unfold L8 at h
    obtain⟨ti,ht,h2⟩:=aj h
    obtain⟨i,dd,z,T⟩:=hE.ty _ _ ht
    have hk:=T.k
    split at h2
    ·rename_i fs xs ys hkd _ _
     rw[hkd]at hk
     cases dd with
     |struct gs=>exact run_eqGuard_agg w op t ox oy _ _ hk.2.2.2.1
     |_=>exact hk.elim
    ·rename_i n e xs ys hkd _ _
     rw[hkd]at hk
     cases dd with
     |array n' e'=>exact run_eqGuard_agg w op t ox oy _ _ hk.2.2
     |_=>exact hk.elim
    ·exact absurd h2 (by unfold eq1; split<;>simp_all)
   |_=>cases op<;>simp[eqGuard]
  |nilIface=>
   cases hy with
   |nilIface=>
    exfalso
    unfold L8 at h
    obtain⟨ti,ht,h2⟩:=aj h
    split at h2
    ·simp_all
    ·simp_all
    ·exact absurd h2 (by unfold eq1; split<;>simp_all)
   |_=>cases op<;>simp[eqGuard]
  |_=>cases op<;>simp[eqGuard]
theorem YW(hE:E.Ok P)(h:HR M H w){op:BinOp}{t:TypeId}{ox oy:Operand}{x x' y y' v:Value}(hx:VR M x x')(hy:VR M y y')(hb:sK E op t x y=some v):
  Gives P M H w (do eqGuard op t ox oy x' y'; binOp op t x' y') v H:=by
 unfold sK at hb
 split at hb
 ·rename_i k a k' b
  have:=hx.of_int; subst this
  have:=hy.of_int; subst this
  refine Gives.pure h ?_ (v':=v) ?_
  ·simp only[eqGuard_at_int,Sem.run_bind,Sem.run_pure,Result.andThen_ok]
   split at hb
   ·split at hb
    ·rename_i h0
     simp at hb; subst hb
     have:¬b<0:=by omega
     simp[binOp,Op.shift,this]
    ·simp at hb
   ·split at hb
    ·rename_i h0
     simp at hb; subst hb
     have:¬b<0:=by omega
     simp[binOp,Op.shift,this]
    ·simp at hb
   ·split at hb
    ·rename_i hk
     subst hk
     split at hb<;>(try split at hb)<;>simp at hb<;>(try subst hb)<;>simp_all [binOp,Op.intArith,Op.intDiv,Op.intBits,Op.intCmp]
    ·simp at hb
  ·split at hb<;>(try split at hb)<;>(try split at hb)<;>(try split at hb)<;>simp at hb<;>subst hb<;>constructor
 ·rename_i a b
  have:=hx.of_string; subst this
  have:=hy.of_string; subst this
  refine Gives.pure h ?_ (v':=v) ?_
  ·simp only[eqGuard_at_string,Sem.run_bind,Sem.run_pure,Result.andThen_ok]
   split at hb<;>(try split at hb)<;>simp at hb<;>subst hb<;>simp[binOp,Op.stringOp]
   all_goals omega
  ·split at hb<;>(try split at hb)<;>simp at hb<;>subst hb<;>constructor
 ·rename_i hni hns
  split at hb
  ·obtain⟨b,hq,hb2⟩:=aj hb
   simp at hb2; subst hb2
   have hf:∀k a,x≠ .float k a:=by
    intro k a e; subst e
    unfold L8 at hq
    obtain⟨ti,ht,h2⟩:=aj hq
    split at h2
    ·simp_all
    ·simp_all
    ·exact absurd h2 (by unfold eq1; split<;>simp_all)
   have hap:=RH hx hy (fun k a k' b e1 e2=>hni k a k' b e1 e2) (fun a b e1 e2=>hns a b e1 e2) hf
   have he:=(acO (M:=M) hE 100).1 t x x' y y' b 10000 (by omega) hx hy hq
   refine Gives.pure h ?_ (.bool _)
   simp[RI hE hx hy hq,U9 t _ _ hap,Op.equal,Op.maxDepth,he]
  ·obtain⟨b,hq,hb2⟩:=aj hb
   simp at hb2; subst hb2
   have hf:∀k a,x≠ .float k a:=by
    intro k a e; subst e
    unfold L8 at hq
    obtain⟨ti,ht,h2⟩:=aj hq
    split at h2
    ·simp_all
    ·simp_all
    ·exact absurd h2 (by unfold eq1; split<;>simp_all)
   have hap:=RH hx hy (fun k a k' b e1 e2=>hni k a k' b e1 e2) (fun a b e1 e2=>hns a b e1 e2) hf
   have he:=(acO (M:=M) hE 100).1 t x x' y y' b 10000 (by omega) hx hy hq
   refine Gives.pure h ?_ (.bool _)
   simp[RI hE hx hy hq,Va t _ _ hap,Op.equal,Op.maxDepth,he]
  ·simp at hb
end
end Go.Proofs.YtijnknjopjmiiaaGreatDoor.Zq
end
section
namespace Go.Proofs.YtijnknjopjmiiaaGreatDoor.Zq
variable{P:Program}{E:Env}{M:Mp}{H H':Heap}{w:World}
theorem RJ{t:TypeId}{k:TK}{d:TypeDesc}{v u:Value}(_hk:KOk P t k d)(h:uT k v=true)(hv:VR M v u):u=v:=by
 unfold uT at h
 split at h
 ·exact hv.of_int
 ·exact hv.of_string
 ·exact hv.of_bool
 ·simp at h
theorem bytes_eq(s t:ByteArray):(s==t)=(s.data.toList==t.data.toList):=by
 obtain⟨⟨x⟩⟩:=s
 obtain⟨⟨y⟩⟩:=t
 show((⟨x⟩:Array UInt8)==⟨y⟩)=(x==y)
 simp
theorem XM{s t:ByteArray}(h:s.data.toList=t.data.toList):s=t:=by
 obtain⟨⟨x⟩⟩:=s
 obtain⟨⟨y⟩⟩:=t
 simp at h
 rw[h]
theorem sameKey_eq{t:TypeId}{k:TK}{d:TypeDesc}{v a b:Value}{q:Bool}(hk:KOk P t k d)(h:uT k v=true)(hab:VR M a b)(hq:sameKey v a=some q):Instr.sameNow d v b=some q∧(q=true->b=v∧a=v):=by
 unfold uT at h
 split at h
 ·cases d<;>first|exact hk.elim|skip
  cases hab<;>simp[sameKey]at hq
  obtain⟨rfl,hq⟩:=hq
  refine⟨by simp[Instr.sameNow,hq],fun hqt=> ?_⟩
  rw[hqt]at hq; simp at hq; rw[hq]; exact⟨rfl,rfl⟩
 ·cases d<;>first|exact hk.elim|skip
  cases hab<;>simp only[sameKey,reduceCtorEq,Option.some.injEq]at hq
  refine⟨by simp only[Instr.sameNow,bytes_eq,hq],fun hqt=> ?_⟩
  rw[hqt]at hq
  have:=XM (by simpa using hq)
  rw[this]; exact⟨rfl,rfl⟩
 ·cases d<;>first|exact hk.elim|skip
  cases hab<;>simp[sameKey]at hq
  refine⟨by simp[Instr.sameNow,hq],fun hqt=> ?_⟩
  rw[hqt]at hq; simp at hq; rw[hq]; exact⟨rfl,rfl⟩
 ·simp at h
def EL(M:Mp)(es es':List MapEntry):Prop:=es.length=es'.length∧∀(i:Nat) (a b:MapEntry),es[i]? =some a->es'[i]? =some b->ER M a b
theorem RN{t:TypeId}{k:TK}{d:TypeDesc}{v:Value}(hk:KOk P t k d)(h:uT k v=true):∀{es es':List MapEntry} {i:Nat} {r:Option (Nat×Value)},EL M es es'->Gm v es i=some r→
  ∃r',Instr.findNow d v es' i=some r'∧(match r,r' with
   |none,none=>True
   |some (j,x),some (j',x')=>j=j'∧VR M x x'∧∃a b,es[j-i]? =some a∧es'[j-i]? =some b∧i≤j∧a.key=v∧b.key=v
   |_,_=>False):=by
 intro es
 induction es with
 |nil=>
  intro es' i r hl hr
  have:es'=[]:=by have:=hl.1; simp at this; exact List.length_eq_zero_iff.1 this.symm
  subst this
  simp[Gm]at hr; subst hr
  exact⟨none,rfl,trivial⟩
 |cons e es ih=>
  intro es' i r hl hr
  cases es' with
  |nil=>have:=hl.1; simp at this
  |cons e' es'=>
   have her:=hl.2 0 e e' rfl rfl
   have htl:EL M es es':=⟨by have:=hl.1; simpa using this,fun j a b ha hb=>hl.2 (j+1) a b (by simpa using ha) (by simpa using hb)⟩
   unfold Gm at hr
   split at hr
   ·rename_i hs
    simp at hr; subst hr
    obtain⟨h1,h2⟩:=sameKey_eq hk h her.1 hs
    obtain⟨h3,h4⟩:=h2 rfl
    refine⟨some (i,e'.val),by simp[Instr.findNow,h1],rfl,her.2.1,e,e',by simp,by simp,Nat.le_refl _,h4,h3⟩
   ·rename_i hs
    obtain⟨h1,_⟩:=sameKey_eq hk h her.1 hs
    obtain⟨r',g1,g2⟩:=ih htl hr
    refine⟨r',by simp[Instr.findNow,h1,g1],?_⟩
    cases r with
    |none=>cases r'<;>exact g2
    |some p=>
     obtain⟨j,x⟩:=p
     cases r' with
     |none=>exact g2
     |some p'=>
      obtain⟨j',x'⟩:=p'
      obtain⟨g3,g4,a,b,g5,g6,g7,g8⟩:=g2
      refine⟨g3,g4,a,b,?_,?_,by omega,g8⟩
      ·rw[show j-i=(j-(i+1))+1 by omega]; simpa using g5
      ·rw[show j-i=(j-(i+1))+1 by omega]; simpa using g6
   ·simp at hr
theorem Gs{t:TypeId}{k:TK}{i:TypeInfo}{d:TypeDesc}{z:Value}{ti:TI}{v:Value}(T:vJ P t ti i d z)(hk:ti.k=k)(h:uT k v=true)(emp:Bool)(n:Nat)(w:World):(Instr.checkKey emp (n+1) t v).run P w= .ok () w:=by
 have hkk:=T.k
 rw[hk]at hkk
 unfold uT at h
 split at h
 ·cases d<;>first|exact hkk.elim|(simp[Instr.checkKey,T.bD])
 ·cases d<;>first|exact hkk.elim|(simp[Instr.checkKey,T.bD])
 ·cases d<;>first|exact hkk.elim|(simp[Instr.checkKey,T.bD])
 ·simp at h
theorem aa_{t:TypeId}{ti:TI}{i:TypeInfo}{d:TypeDesc}{z zv:Value}(T:vJ P t ti i d z)(h:gJ ti.k ti.zero=some zv):VR M zv z:=by
 obtain⟨u,g1,g2,g3⟩:=vK (T.vl M) h
 have:u=z:=by
  cases hk:mO ti.k with
  |true=>
   obtain⟨cs,rfl⟩:=T.agg.1 hk
   rw[g2 hk]; rfl
  |false=>
   have hn:¬∃cs,z= .agg cs:=fun hc=>by have:=T.agg.2 hc; rw[hk]at this; simp at this
   have hz:z.cells= #[z]:=by cases z<;>first|rfl|exact absurd ⟨_,rfl⟩ hn
   have:=g3 hk
   rw[hz]at this
   simpa using this.symm
 rw[←this]; exact g1
theorem WQ(h:HR M H w){r:Nat}{es:List MapEntry}{clock:Nat}(hk:H[r]? =some (.map es clock)){e:jd}(he:M[r]? =some (some e)):∃es':Array MapEntry,w.heap[e.blk]? =some (.map es' clock)∧EL M es es'.toList:=by
 obtain⟨es',g1,g2,g3⟩:=h.blk _ _ _ he hk
 exact⟨es',g1,by simpa using g2,fun i a b ha hb=>g3 i a b ha (by simpa using hb)⟩
theorem EO(hE:E.Ok P)(h:HR M H w){t:TypeId}{x x' i i' v:Value}{ok:Bool}(hx:VR M x x')(hi:VR M i i')(hl:nU E t x i ok H=some v):Gives P M H w (Instr.lookup t x' i' ok) v H:=by
 unfold nU at hl
 obtain⟨ti,ht,hl2⟩:=aj hl
 clear hl
 obtain⟨ii,d,z,T⟩:=hE.ty _ _ ht
 have hk:=T.k
 split at hl2
 ·rename_i kt et hkd
  rw[hkd]at hk
  obtain⟨tk,htk,hl3⟩:=aj hl2
  obtain⟨te,hte,hl4⟩:=aj hl3
  obtain⟨es,hes,hl5⟩:=aj hl4
  clear hl2 hl3 hl4
  obtain⟨i2,d2,z2,T2⟩:=hE.ty _ _ htk
  obtain⟨i3,d3,z3,T3⟩:=hE.ty _ _ hte
  cases d with
  |map kt' et'=>
   obtain⟨rfl,rfl⟩:=hk
   split at hl5
   ·rename_i hko
    obtain⟨r,hr,hl6⟩:=aj hl5
    obtain⟨zv,hz,hl7⟩:=aj hl6
    have:=RJ T2.k hko hi; subst this
    have hes':(x'= .map none∧es=[])∨∃r' clock,∃es':Array MapEntry,x'= .map (some r')∧w.heap[r']? =some (.map es' clock)∧EL M es es'.toList:=by
     unfold entriesOf at hes
     split at hes
     ·simp at hes; subst hes
      cases hx
      exact .inl ⟨rfl,rfl⟩
     ·split at hes
      ·rename_i hrr
       simp at hes; subst hes
       cases hx with
       |map he=>
        obtain⟨es',g1,g2⟩:=WQ h hrr he
        exact .inr ⟨_,_,es',rfl,g1,g2⟩
      ·simp at hes
     ·simp at hes
    have hck:=fun emp w=>Gs T2 rfl hko emp 9999 w
    have hz':=aa_ (M:=M) T3 hz
    have fin:∀es':Array MapEntry,EL M es es'.toList->∃v' r',Instr.findNow d2 i' es'.toList 0=some r'∧VR M v v'∧v'=(match r' with|some (_,u)=>(if ok then .tuple #[u,.bool true]else u)|none=>(if ok then .tuple #[z3,.bool false]else z3)):=by
     intro es' hel
     obtain⟨r',g1,g2⟩:=RN T2.k hko hel hr
     refine⟨_,r',g1,?_,rfl⟩
     cases r with
     |none=>
      cases r' with
      |none=>
       simp only at hl7 ⊢
       cases ok
       ·simp at hl7; subst hl7; simpa using hz'
       ·simp at hl7; subst hl7
        exact VL.tuple (.cons hz' (.cons (.bool false) (.nil M)))
      |some p=>exact g2.elim
     |some p=>
      obtain⟨j,u⟩:=p
      cases r' with
      |none=>exact g2.elim
      |some p'=>
       obtain⟨j',u'⟩:=p'
       obtain⟨_,g3,_⟩:=g2
       simp only at hl7 ⊢
       cases ok
       ·simp at hl7; subst hl7; simpa using g3
       ·simp at hl7; subst hl7
        exact VL.tuple (.cons g3 (.cons (.bool true) (.nil M)))
    rcases hes' with⟨rfl,rfl⟩|⟨r',clock,es',rfl,g1,hel⟩
    ·obtain⟨v',r',g1,g2,g3⟩:=fin #[] ⟨rfl,fun i a b ha _=>by simp at ha⟩
     refine Gives.pure h ?_ g2
     have:r'=none:=by simpa[Instr.findNow]using g1.symm
     subst this
     simp only[Instr.lookup,Sem.run_bind,T.bD,Result.andThen_ok,Sem.run_pure,hck,Instr.findKey,T2.bD,g1,T3.lD,g3]
    ·obtain⟨v',q,g2,g3,g4⟩:=fin es' hel
     refine Gives.pure h ?_ g3
     have hg:(getObj r').run P w= .ok (.map es' clock) w:=by simp[getObj,Sem.run,g1]
     simp only[Instr.lookup,Sem.run_bind,T.bD,Result.andThen_ok,Sem.run_pure,hg,hck,Instr.findKey,T2.bD,g2]
     cases q with
     |none=>simp only[Sem.run_bind,T3.lD,Result.andThen_ok,Sem.run_pure,g4]
     |some p=>simp only[Sem.run_bind,Sem.run_pure,Result.andThen_ok,g4]
   ·simp at hl5
  |_=>exact hk.elim
 ·simp at hl2
theorem Ja(h:HR M H w){t:TypeId}:Gives P M H w (Instr.makeMap t none) (.map (some H.length)) (H++[.map [] 0]):=by
 have hs:=Stp.O5 (o:=.map #[] 0) (k:=.map [] 0) h ⟨w.heap.size,0,false,0,0,0⟩ rfl ⟨#[],by show(w.heap.push _)[w.heap.size]? =_; rw[Array.getElem?_push,if_pos rfl],rfl,fun i a b ha _=>by simp at ha⟩
 refine⟨.map (some w.heap.size),_,_,by simp[Instr.makeMap],hs,?_⟩
 exact VR.map (pV h ⟨w.heap.size,0,false,0,0,0⟩)
theorem Gt(hE:E.Ok P)(h:HR M H w){t:TypeId}{v v' r:Value}(hv:VR M v v')(hl:Bg E t v H=some (r,H')):Gives P M H w (Instr.range t v') r H':=by
 unfold Bg at hl
 split at hl
 ·rename_i s
  obtain⟨ti,ht,hl2⟩:=aj hl
  obtain⟨ii,d,z,T⟩:=hE.ty _ _ ht
  have hkk:=T.k
  split at hl2
  ·rename_i hkd
   rw[hkd]at hkk
   cases d with
   |string=>
    cases hv
    cases hl2
    have hs:=Stp.O5 (o:=.stringIter s 0) (k:=.iter s 0) h ⟨w.heap.size,0,false,0,0,0⟩ rfl ⟨rfl,by show(w.heap.push _)[w.heap.size]? =_; rw[Array.getElem?_push,if_pos rfl]⟩
    refine⟨.pointer (some ⟨w.heap.size,0,none⟩),_,_,?_,hs,?_⟩
    ·simp only[Instr.range,Sem.run_bind,T.bD,Result.andThen_ok,Sem.run_pure,run_newObj]
     rfl
    ·exact VR.ptr (off:=0) (pV h ⟨w.heap.size,0,false,0,0,0⟩)
   |_=>exact hkk.elim
  ·cases hl2
 ·cases hl
theorem Bz(h:HR M H w){t:TypeId}{v v' r:Value}(hv:VR M v v')(hl:xZ v H=some (r,H')):Gives P M H w (Instr.next v' true t) r H':=by
 unfold xZ at hl
 split at hl
 ·rename_i b
  split at hl
  ·rename_i s pos hb
   cases hv with
   |ptr he=>
    rename_i e
    obtain⟨hz,g1⟩:=h.blk _ _ _ he hb
    have hg:(getObj e.blk).run P w= .ok (.stringIter s pos) w:=by simp[getObj,Sem.run,g1]
    have hset:∀o,(setObj e.blk o).run P w= .ok () { w with heap:=w.heap.setIfInBounds e.blk o }:=fun o=>by simp[setObj,Sem.run,g1]
    have hlt:e.blk<w.heap.size:=(Array.getElem?_eq_some_iff.1 g1).1
    have hwb:aZ H b:=by unfold aZ; rw[hb]; trivial
    have hrl:b<H.length:=(List.getElem?_eq_some_iff.1 hb).1
    rw[hz]
    unfold xY at hl
    by_cases hp:pos<s.size
    ·rw[if_pos hp]at hl
     cases hl
     refine⟨_,_,_,?_,Stp.vI (o':=.stringIter s (pos+(Utf8.decode s pos).2)) h hb he hwb (by unfold aZ; rw[List.getElem?_set_self hrl]; trivial) ⟨hz,by simp[hlt]⟩,VR.flat (by rfl)⟩
     simp only[Instr.next,Sem.run_bind,hg,Result.andThen_ok,if_pos hp,hset,Sem.run_pure,goInt]
    ·rw[if_neg hp]at hl
     cases hl
     refine Gives.pure h ?_ (VR.flat (by rfl))
     simp only[Instr.next,Sem.run_bind,hg,Result.andThen_ok,if_neg hp,Sem.run_pure]
  ·cases hl
 ·cases hl
theorem sameBits_self{k:TK}{v:Value}(h:uT k v=true):Instr.sameBits 10000 v v=true:=by
 unfold uT at h
 split at h
 ·simp[Instr.sameBits]
 ·show(_==_)=true
  rw[bytes_eq]; simp
 ·simp[Instr.sameBits]
 ·simp at h
theorem vM(hE:E.Ok P)(h:HR M H w){t:TypeId}{m m' k k' x x':Value}(hm:VR M m m')(hk:VR M k k')(hx:VR M x x')(hl:kJ E t m k x H=some H'):
  ∃w',(Instr.mapUpdate t m' k' x').run P w= .ok () w'∧Stp M H w M H' w':=by
 unfold kJ at hl
 split at hl
 ·split at hl
  ·rename_i r _ es clock hr
   obtain⟨ti,ht,hl2⟩:=aj hl
   clear hl
   obtain⟨ii,d,z,T⟩:=hE.ty _ _ ht
   have hkk:=T.k
   split at hl2
   ·rename_i kt et hkd
    rw[hkd]at hkk
    obtain⟨tk,htk,hl3⟩:=aj hl2
    obtain⟨i2,d2,z2,T2⟩:=hE.ty _ _ htk
    cases d with
    |map kt' et'=>
     obtain⟨rfl,rfl⟩:=hkk
     split at hl3
     ·rename_i hko
      obtain⟨q,hq,hl4⟩:=aj hl3
      have:=RJ T2.k hko hk; subst this
      cases hm with
      |map he=>
       rename_i e
       obtain⟨es',g1,hel⟩:=WQ h hr he
       obtain⟨q',g2,g3⟩:=RN T2.k hko hel hq
       have hck:=fun emp w=>Gs T2 rfl hko emp 9999 w
       have hg:(getObj e.blk).run P w= .ok (.map es' clock) w:=by simp[getObj,Sem.run,g1]
       have hset:∀o,(setObj e.blk o).run P w= .ok () { w with heap:=w.heap.setIfInBounds e.blk o }:=fun o=>by simp[setObj,Sem.run,g1]
       have hlt:e.blk<w.heap.size:=(Array.getElem?_eq_some_iff.1 g1).1
       have hwb:aZ H r:=by unfold aZ; rw[hr]; trivial
       have hrl:r<H.length:=(List.getElem?_eq_some_iff.1 hr).1
       cases q with
       |none=>
        simp at hl4; subst hl4
        cases q' with
        |some p=>exact g3.elim
        |none=>
         refine⟨_,?_,Stp.vI (o':=.map (es'.push { key:=k',val:=x',born:=clock }) (clock+1)) h hr he hwb (by unfold aZ; rw[List.getElem?_set_self hrl]; trivial) ?_⟩
         ·simp only[Instr.mapUpdate,Sem.run_bind,T.bD,Result.andThen_ok,hg,hck,Instr.findKey,T2.bD,g2,Sem.run_pure]
          exact hset _
         ·refine⟨es'.push { key:=k',val:=x',born:=clock },by simp[hlt],by simp[hel.1],fun i a b ha hb=> ?_⟩
          by_cases hi:i<es.length
          ·rw[List.getElem?_append_left hi]at ha
           have hi':i<es'.size:=by have:=hel.1; simp at this; omega
           rw[Array.getElem?_push,if_neg (by omega)]at hb
           exact hel.2 i a b ha (by simpa using hb)
          ·by_cases hi2:i=es.length
           ·subst hi2
            have hi':es.length=es'.size:=by have:=hel.1; simpa using this
            rw[List.getElem?_append_right (Nat.le_refl _)]at ha
            rw[hi',Array.getElem?_push,if_pos rfl]at hb
            simp at ha hb; subst ha; subst hb
            exact⟨hk,hx,rfl⟩
           ·rw[List.getElem?_append_right (by omega)]at ha
            have:i-es.length≠0:=by omega
            cases hq2:i-es.length with
            |zero=>omega
            |succ j=>rw[hq2]at ha; simp at ha
       |some p=>
        obtain⟨j,u⟩:=p
        simp at hl4; subst hl4
        cases q' with
        |none=>exact g3.elim
        |some p'=>
         obtain⟨j',u'⟩:=p'
         obtain⟨rfl,_,ea,eb,ga,gb,_,gk,gk'⟩:=g3
         simp only[Nat.sub_zero]at ga gb
         have gb':es'[j]? =some eb:=by simpa using gb
         refine⟨_,?_,Stp.vI (o':=.map (es'.modify j fun e=>{ e with key:=k',val:=x' }) clock) h hr he hwb (by unfold aZ; rw[List.getElem?_set_self hrl]; trivial) ?_⟩
         ·simp only[Instr.mapUpdate,Sem.run_bind,T.bD,Result.andThen_ok,hg,hck,Instr.findKey,T2.bD,g2,Sem.run_pure,gb',Option.map_some,Option.getD_some,gk',Instr.keyThatStays,sameBits_self hko,if_true]
          exact hset _
         ·refine⟨es'.modify j fun e=>{ e with key:=k',val:=x' },by simp[hlt],by simp[hel.1],fun i a b ha hb=> ?_⟩
          rw[List.getElem?_modify]at ha
          rw[Array.getElem?_modify]at hb
          by_cases hi:j=i
          ·subst hi
           rw[ga]at ha
           simp[gb']at ha hb
           subst ha; subst hb
           exact⟨hk,hx,(hel.2 j ea eb ga gb).2.2⟩
          ·rw[if_neg hi]at hb
           simp[hi]at ha
           exact hel.2 i a b ha (by simpa using hb)
     ·simp at hl3
    |_=>exact hkk.elim
   ·simp at hl2
  ·simp at hl
 ·simp at hl
end Go.Proofs.YtijnknjopjmiiaaGreatDoor.Zq
end
section
namespace Go.Proofs.YtijnknjopjmiiaaGreatDoor.Zq
variable{P:Program}{E:Env}{M:Mp}{H H':Heap}{w:World}
def Fw(ro:Option Nat):Fence:={ Fence.wide with round:=ro }
theorem FR.put{fr:dK}{tmps:Array Value}(h:FR M fr tmps){d:Nat}(hd:d<fr.n){v v':Value}(hv:VR M v v'):FR M (fr.put d v) (tmps.setIfInBounds d v'):=by
 refine⟨by simpa[dK.put]using h.size,fun t u hu=> ?_⟩
 simp only[dK.put,dK.get,look]at hu
 split at hu
 ·rename_i e
  subst e
  simp at hu; subst hu
  have:d<tmps.size:=by rw[h.size]; exact hd
  simpa[Array.getD,this]using hv
 ·rename_i e
  have:=h.get t u hu
  simpa only[Array.getD_eq_getD_getElem?,Array.getElem?_setIfInBounds,if_neg e]using this
structure kK(P:Program)(call:iU):Prop where
 fn:∀f args H res H',call (.fn f) args H=some (res,H')->(∃fn,P.funcs[f]? =some fn∧fn.body.isSome=true∧(fn.name=="runtime.NumGoroutine")=false)∧
  ∀(n:Nat) (M:Mp) (w:World) (args':List Value),HR M H w->VL M args args'→
   CallsIn Fence.wide n P f args'.toArray w fun e w'=>∃v' M',e= .returned v'∧Stp M H w M' H' w'∧VR M' res v'
 round:∀l args H res H',call (.round l) args H=some (res,H')->∀(n:Nat) (M:Mp) (w:World) (args':List Value) (e:jd),HR M H w->VL M args args'->M[l]? =some (some e)→
  ∃L:Loop,w.heap[e.blk]? =some (.loop L)∧args'.length=L.params.size∧
   RoundIn Fence.wide n P e.blk L.fn ((L.params.zip args'.toArray).foldl (fun tmps (t,a)=>tmps.setIfInBounds t a) L.tmps) L.assign L.body w fun e w'=>∃v' M',e= .returned v'∧Stp M H w M' H' w'∧VR M' res v'
theorem nV{ro:Option Nat}{n:Nat}{f:FuncId}{args:Array Value}{R:Ending->World->Prop}(h:CallsIn Fence.wide n P f args w R):CallsIn (Fw ro) n P f args w R:=h
theorem bV{fr:dK}{a:Act}(h:FR M fr a.tmps){x:Operand}{v:Value}(hv:nS fr x=some v):VR M v (a.eval x):=by
 cases x with
 |tmp t=>exact h.get t v hv
 |const u=>
  simp only[nS]at hv
  split at hv
  ·rename_i hf; simp at hv; subst hv; exact VR.flat hf
  ·simp at hv
 |global g=>simp[nS]at hv
 |func f=>
  simp[nS]at hv; subst hv
  exact .func rfl rfl (fun i x u h _=>by simp at h) (fun i x u h _=>by simp at h)
theorem Iu{fr:dK}{a:Act}(h:FR M fr a.tmps):∀{l:List Operand} {vs:List Value},GX fr l=some vs->VL M vs (l.map a.eval)
 |[],vs,hv=>by simp[GX]at hv; subst hv; exact .nil M
 |x::l,vs,hv=>by
  simp only[GX]at hv
  obtain⟨v,h1,hv2⟩:=aj hv
  obtain⟨us,h2,hv3⟩:=aj hv2
  simp at hv3; subst hv3
  exact .cons (bV h h1) (Iu h h2)
theorem EP{fr:dK}{a:Act}(h:FR M fr a.tmps):∀{l:List (Nat×Operand)} {ps:List (Nat×Value)},qc fr l=some ps->PL M ps (l.map fun(i,x)=>(i,a.eval x))
 |[],ps,hv=>by simp[qc]at hv; subst hv; exact .nil
 |(i,x)::l,ps,hv=>by
  simp only[qc]at hv
  obtain⟨v,h1,hv2⟩:=aj hv
  obtain⟨us,h2,hv3⟩:=aj hv2
  simp at hv3; subst hv3
  exact .cons ⟨rfl,bV h h1⟩ (EP h h2)
theorem O9{fr:dK}{a:Act}(h:FR M fr a.tmps){x:Option Operand}{v:Option Value}(hv:IJ fr x=some v):OV M v (x.map a.eval):=by
 cases x with
 |none=>simp[IJ]at hv; subst hv; exact .none
 |some x=>
  simp only[IJ]at hv
  obtain⟨u,h1,hv2⟩:=aj hv
  simp at hv2; subst hv2
  exact .some (bV h h1)
theorem aU{ro:Option Nat}{n:Nat}{o:Oper}{a:Act}{K:Act->World->Prop}{Q:Exit->Act->World->Prop}{s:Sem Value}{v:Value}
  (hd:∀c,o.op≠ .defer c) (hs:execOp a.eval o=(do pure (.value (←s)))) (hg:Gives P M H w s v H')
  (hK:∀v' M' w',Stp M H w M' H' w'->VR M' v v'->K (a.put o.dst v') w'):o.wpIn (Fw ro) n P a w K Q:=by
 obtain⟨v',M',w',h1,h2,h3⟩:=hg
 refine⟨fun _ _=>trivial,?_⟩
 rw[Oper.semAt_eq _ _ _ hd,hs]
 simp only[Sem.run_bind,h1,Result.andThen_ok,Sem.run_pure]
 exact hK v' M' w' h2 h3
theorem qj{ro:Option Nat}{n:Nat}{o:Oper}{a:Act}{K:Act->World->Prop}{Q:Exit->Act->World->Prop}{s:Sem Unit}{w':World}
  (hd:∀c,o.op≠ .defer c) (hs:execOp a.eval o=(do s; pure .skip)) (hr:s.run P w= .ok () w') (hK:K (a.put o.dst undef) w'):o.wpIn (Fw ro) n P a w K Q:=by
 refine⟨fun _ _=>trivial,?_⟩
 rw[Oper.semAt_eq _ _ _ hd,hs]
 simp only[Sem.run_bind,hr,Result.andThen_ok,Sem.run_pure]
 exact hK
theorem rP{α:Type}{a:Array α}{x:α}(h:a.toList=[x]):a= #[x]:=by
 apply Array.ext'; simpa using h
variable{call:iU}{ro:Option Nat}{n:Nat}{fr:dK}{a:Act}{v:Value}{K:Act->World->Prop}{Q:Exit->Act->World->Prop}
theorem abb(hE:E.Ok P)(hC:kK P call)(h:HR M H w){o:Oper}{c:Call}(hf:FR M fr a.tmps)(hop:o.op= .call c)(ho:iI E call fr (.call c) H=some (v,H'))
  (hK:∀v' M' w',Stp M H w M' H' w'->VR M' v v'->K (a.put o.dst v') w'):o.wpIn (Fw ro) n P a w K Q:=by
 obtain⟨dst,op,ty,pos,after,guard⟩:=o
 simp only at hop
 subst hop
 obtain⟨callee,args,argTypes⟩:=c
 simp only[iI]at ho
 obtain⟨vs,h1,h2⟩:=aj ho
 clear ho
 have hvs:=Iu hf h1
 split at h2
 ·
  rename_i f
  obtain⟨g,h3,h4⟩:=aj h2
  have hg:=bV hf h3
  split at h4
  ·rename_i k xs ys
   obtain⟨⟨fn,q1,q2,q3⟩,q4⟩:=hC.fn _ _ _ _ _ h4
   obtain⟨us,ws,hfe,hu,hw⟩:∃us ws,a.eval f= .func (.func k) us ws∧VL M xs.toList us.toList∧VL M ys.toList ws.toList:=by
    generalize hq:a.eval f=q at hg
    cases hg with
    |func hx hy gx gy=>
     exact⟨_,_,rfl,⟨by simpa using hx,fun i x u hx hu=>gx i x u (by simpa using hx) (by simpa using hu)⟩,⟨by simpa using hy,fun i x u hx hu=>gy i x u (by simpa using hx) (by simpa using hu)⟩⟩
   have hl:=(hu.append hvs).append hw
   have hcall:=q4 (n-1) M w _ h hl
   refine⟨fun _ _=>trivial,?_⟩
   rw[Oper.semAt_eq _ _ _ (fun c=>by simp)]
   have hb:fn.body.isNone=false:=by cases hb:fn.body<;>simp_all
   have he:(us.toList++List.map a.eval args.toList++ws.toList).toArray=us++args.map a.eval++ws:=by
    apply Array.ext'; simp
   rw[he]at hcall
   simp only[execOp,Sem.run_bind,resolve,hfe,Deferred.ofValue,Sem.run_pure,Result.andThen_ok,invoke,callFunc,run_program,q1,q3,Bool.false_eq_true,if_false,hb]
   refine⟨by simp[Fw,Fence.wide],(nV hcall).mono ?_⟩
   rintro e w' ⟨v',M',rfl,hs,hv⟩
   exact hK v' M' w' hs hv
  ·rename_i l
   obtain⟨en,hen,hfe⟩:∃en,M[l]? =some (some en)∧a.eval f= .func (.yield en.blk) #[] #[]:=by
    generalize hq:a.eval f=q at hg
    cases hg with
    |yield h=>exact⟨_,h,rfl⟩
   obtain⟨L,k1,k2,k3⟩:=hC.round _ _ _ _ _ h4 (n-1) M w _ en h hvs hen
   refine⟨fun _ _=>trivial,?_⟩
   rw[Oper.semAt_eq _ _ _ (fun c=>by simp)]
   have he:(#[]:Array Value)++args.map a.eval=(List.map a.eval args.toList).toArray:=by apply Array.ext'; simp
   have hgl:(Instr.getLoop en.blk).run P w= .ok L w:=by simp[Instr.getLoop,getObj,Sem.run,k1]
   have hsz:¬((List.map a.eval args.toList).toArray.size≠L.params.size):=by simp at k2 ⊢; exact k2
   simp only[execOp,Sem.run_bind,resolve,hfe,Deferred.ofValue,Sem.run_pure,Result.andThen_ok,invoke,Instr.yield,he,hgl,Sem.run_ite,if_neg hsz]
   refine⟨by simp[Fw,Fence.wide],RoundIn.mono k3 ?_⟩
   rintro e w' ⟨v',M',rfl,hs,hv⟩
   exact hK v' M' w' hs hv
  ·simp at h4
 ·
  split at h2
  ·rename_i s x
   obtain⟨s',us,e1,hs,ht⟩:=hvs.of_cons
   obtain⟨x',us',e2,hx,ht'⟩:=ht.of_cons
   have:=ht'.of_nil; subst this; subst e2
   refine aU (s:=Builtin.append_ argTypes ty #[s',x']) (fun c=>by simp) ?_ (by simpa using XK hE h (ty:=ty) hs hx h2) hK
   have:args.map a.eval= #[s',x']:=by apply Array.ext'; simpa using e1
   simp[execOp,resolve,invoke,builtin,this]
  ·simp at h2
 ·
  split at h2
  ·rename_i s x
   obtain⟨s',us,e1,hs,ht⟩:=hvs.of_cons
   obtain⟨x',us',e2,hx,ht'⟩:=ht.of_cons
   have:=ht'.of_nil; subst this; subst e2
   refine aU (s:=Builtin.copy_ argTypes ty #[s',x']) (fun c=>by simp) ?_ (WO hE h (ty:=ty) hs hx h2) hK
   have:args.map a.eval= #[s',x']:=by apply Array.ext'; simpa using e1
   simp[execOp,resolve,invoke,builtin,this]
  ·simp at h2
 ·
  split at h2
  ·rename_i x t hat
   obtain⟨r,h5,h6⟩:=aj h2
   simp at h6; obtain⟨rfl,rfl⟩:=h6
   obtain⟨x',us,e1,hx,ht⟩:=hvs.of_cons
   have:=ht.of_nil; subst this
   refine aU (s:=Builtin.len_ #[t] ty #[x']) (fun c=>by simp) ?_ (YU hE h hx h5) hK
   have:args.map a.eval= #[x']:=by apply Array.ext'; simpa using e1
   simp[execOp,resolve,invoke,builtin,this,rP hat]
  ·simp at h2
 ·
  split at h2
  ·rename_i x t hat
   obtain⟨r,h5,h6⟩:=aj h2
   simp at h6; obtain⟨rfl,rfl⟩:=h6
   obtain⟨x',us,e1,hx,ht⟩:=hvs.of_cons
   have:=ht.of_nil; subst this
   refine aU (s:=Builtin.cap_ #[t] ty #[x']) (fun c=>by simp) ?_ (YV hE h hx h5) hK
   have:args.map a.eval= #[x']:=by apply Array.ext'; simpa using e1
   simp[execOp,resolve,invoke,builtin,this,rP hat]
  ·simp at h2
 ·
  split at h2
  ·rename_i x r
   obtain⟨q,h5,h6⟩:=aj h2
   simp at h6; obtain⟨rfl,rfl⟩:=h6
   obtain⟨x',us,e1,hx,ht⟩:=hvs.of_cons
   refine aU (s:=Builtin.min_ argTypes ty (x'::us).toArray) (fun c=>by simp) ?_ (O8 (mx:=false) (ts:=argTypes) (ty:=ty) h hx ht h5) hK
   have:args.map a.eval=(x'::us).toArray:=by apply Array.ext'; simpa using e1
   simp only[execOp,resolve,invoke,builtin,this,pure_bind]
  ·simp at h2
 ·split at h2
  ·rename_i x r
   obtain⟨q,h5,h6⟩:=aj h2
   simp at h6; obtain⟨rfl,rfl⟩:=h6
   obtain⟨x',us,e1,hx,ht⟩:=hvs.of_cons
   refine aU (s:=Builtin.max_ argTypes ty (x'::us).toArray) (fun c=>by simp) ?_ (O8 (mx:=true) (ts:=argTypes) (ty:=ty) h hx ht h5) hK
   have:args.map a.eval=(x'::us).toArray:=by apply Array.ext'; simpa using e1
   simp only[execOp,resolve,invoke,builtin,this,pure_bind]
  ·simp at h2
 ·
  split at h2
  ·rename_i x
   obtain⟨r,h5,h6⟩:=aj h2
   simp at h6; obtain⟨rfl,rfl⟩:=h6
   obtain⟨x',us,e1,hx,ht⟩:=hvs.of_cons
   have:=ht.of_nil; subst this
   refine aU (s:=Builtin.clear_ argTypes ty #[x']) (fun c=>by simp) ?_ (RG hE h (ty:=ty) hx h5) hK
   have:args.map a.eval= #[x']:=by apply Array.ext'; simpa using e1
   simp[execOp,resolve,invoke,builtin,this]
  ·simp at h2
 ·simp at h2
set_option maxHeartbeats 2000000 in
theorem YX(hE:E.Ok P)(hC:kK P call)(h:HR M H w){o:Oper}(hf:FR M fr a.tmps)(ho:iI E call fr o.op H=some (v,H'))
  (hK:∀v' M' w',Stp M H w M' H' w'->VR M' v v'->K (a.put o.dst v') w'):o.wpIn (Fw ro) n P a w K Q:=by
 by_cases hc:∃c,o.op= .call c
 ·obtain⟨c,hc⟩:=hc
  rw[hc]at ho
  exact abb hE hC h hf hc ho hK
 obtain⟨dst,op,ty,pos,after,guard⟩:=o
 simp only at ho hc
 cases op with
 |move x=>
  simp only[iI]at ho
  obtain⟨u,h1,h2⟩:=aj ho
  simp at h2; obtain⟨rfl,rfl⟩:=h2
  exact aU (s:=pure (a.eval x)) (fun c=>by simp) (by simp[execOp]) (Gives.pure h rfl (bV hf h1)) hK
 |assign x=>
  simp only[iI]at ho
  obtain⟨u,h1,h2⟩:=aj ho
  simp at h2; obtain⟨rfl,rfl⟩:=h2
  exact aU (s:=pure (a.eval x)) (fun c=>by simp) (by simp[execOp]) (Gives.pure h rfl (bV hf h1)) hK
 |pick c x y=>
  simp only[iI]at ho
  obtain⟨u,h1,h2⟩:=aj ho
  have hc:=bV hf h1
  unfold Rj at h2
  split at h2
  ·obtain⟨u2,h3,h4⟩:=aj h2
   simp at h4; obtain⟨rfl,rfl⟩:=h4
   have hc':=hc.of_bool
   exact aU (s:=pure (a.eval x)) (fun c=>by simp) (by simp[execOp,hc',asBool]) (Gives.pure h rfl (bV hf h3)) hK
  ·obtain⟨u2,h3,h4⟩:=aj h2
   simp at h4; obtain⟨rfl,rfl⟩:=h4
   have hc':=hc.of_bool
   exact aU (s:=pure (a.eval y)) (fun c=>by simp) (by simp[execOp,hc',asBool]) (Gives.pure h rfl (bV hf h3)) hK
  ·simp at h2
 |alloc t=>exact aU (s:=Instr.alloc t true (.tuple #[])) (fun c=>by simp) rfl (Rw hE h (by simpa only[iI]using ho)) hK
 |box t x=>
  simp only[iI]at ho
  obtain⟨u,h1,h2⟩:=aj ho
  exact aU (s:=Instr.box t (a.eval x)) (fun c=>by simp) rfl (YS h (bV hf h1) h2) hK
 |build t ps=>
  simp only[iI]at ho
  obtain⟨us,h1,h2⟩:=aj ho
  obtain⟨u,h3,h4⟩:=aj h2
  simp at h4; obtain⟨rfl,rfl⟩:=h4
  exact aU (s:=Instr.build t (ps.map fun(i,x)=>(i,a.eval x))) (fun c=>by simp) rfl (RD hE h (qs:=ps.map fun(i,x)=>(i,a.eval x)) (by simpa using EP hf h1) h3) hK
 |buildSlice t k ps=>
  simp only[iI]at ho
  obtain⟨us,h1,h2⟩:=aj ho
  have hp:PL M us (ps.map fun(i,x)=>(i,a.eval x)).toList:=by simpa using EP hf h1
  have hg:=AP hE h hp h2
  have he:execOp a.eval ⟨dst,.buildSlice t k ps,ty,pos,after,guard⟩=(do pure (.value (←Instr.buildSlice t k (ps.map fun(i,x)=>(i,a.eval x))))):=rfl
  exact aU (fun c=>by simp) he hg hK
 |load t x=>
  simp only[iI]at ho
  obtain⟨u,h1,h2⟩:=aj ho
  obtain⟨u2,h3,h4⟩:=aj h2
  simp at h4; obtain⟨rfl,rfl⟩:=h4
  exact aU (s:=Instr.loadAt t (a.eval x)) (fun c=>by simp) rfl (WH hE h (bV hf h1) h3) hK
 |store t x y=>
  simp only[iI]at ho
  obtain⟨u,h1,h2⟩:=aj ho
  obtain⟨u2,h3,h4⟩:=aj h2
  obtain⟨H2,h5,h6⟩:=aj h4
  simp at h6; obtain⟨rfl,rfl⟩:=h6
  obtain⟨w',g1,g2⟩:=Ru hE h (bV hf h1) (bV hf h3) h5
  exact qj (fun c=>by simp) rfl g1 (hK _ _ _ g2 (.undef _))
 |nilCheck x=>
  simp only[iI]at ho
  obtain⟨u,h1,h2⟩:=aj ho
  have hx:=bV hf h1
  split at h2
  ·simp at h2; obtain⟨rfl,rfl⟩:=h2
   refine aU (s:=pure (a.eval x)) (fun c=>by simp) ?_ (Gives.pure h rfl hx) hK
   obtain⟨b',hb'⟩:∃b',a.eval x= .pointer (some b'):=by
    generalize hq:a.eval x=q at hx
    cases hx; exact⟨_,rfl⟩
   simp[execOp,hb']
  ·simp at h2; obtain⟨rfl,rfl⟩:=h2
   refine aU (s:=pure (a.eval x)) (fun c=>by simp) ?_ (Gives.pure h rfl hx) hK
   obtain⟨f,us,vs,hb'⟩:∃f us vs,a.eval x= .func (.func f) us vs:=by
    generalize hq:a.eval x=q at hx
    cases hx; exact⟨_,_,_,rfl⟩
   simp[execOp,hb']
  ·simp at h2; obtain⟨rfl,rfl⟩:=h2
   refine aU (s:=pure (a.eval x)) (fun c=>by simp) ?_ (Gives.pure h rfl hx) hK
   obtain⟨l,hb'⟩:∃l,a.eval x= .func (.yield l) #[] #[]:=by
    generalize hq:a.eval x=q at hx
    cases hx; exact⟨_,rfl⟩
   simp[execOp,hb']
  ·simp at h2
 |binOp op t x y t2=>
  simp only[iI]at ho
  obtain⟨u,h1,h2⟩:=aj ho
  obtain⟨u2,h3,h4⟩:=aj h2
  obtain⟨r,h5,h6⟩:=aj h4
  simp at h6; obtain⟨rfl,rfl⟩:=h6
  exact aU (s:=do eqGuard op t x y (a.eval x) (a.eval y); binOp op t (a.eval x) (a.eval y)) (fun c=>by simp) rfl (YW hE h (bV hf h1) (bV hf h3) h5) hK
 |unOp op t x=>
  simp only[iI]at ho
  obtain⟨u,h1,h2⟩:=aj ho
  obtain⟨r,h5,h6⟩:=aj h2
  simp at h6; obtain⟨rfl,rfl⟩:=h6
  exact aU (s:=Op.unary op (a.eval x)) (fun c=>by simp) rfl (Rx h (bV hf h1) h5) hK
 |convert s d x=>
  simp only[iI]at ho
  obtain⟨u,h1,h2⟩:=aj ho
  obtain⟨r,h5,h6⟩:=aj h2
  simp at h6; obtain⟨rfl,rfl⟩:=h6
  exact aU (s:=convert s d (a.eval x)) (fun c=>by simp) rfl (I5 hE h (bV hf h1) h5) hK
 |makeFunc f first caps=>
  cases f with
  |func g=>
   simp only[iI]at ho
   obtain⟨xs,h1,h2⟩:=aj ho
   obtain⟨ys,h3,h4⟩:=aj h2
   simp at h4; obtain⟨rfl,rfl⟩:=h4
   refine aU (fun c=>by simp) rfl (Gives.pure h rfl ?_) hK
   have g1:=Iu hf h1
   have g2:=Iu hf h3
   refine .func (by simpa using g1.1) (by simpa using g2.1) ?_ ?_
   ·intro i x u hx hu
    exact g1.2 i x u (by simpa using hx) (by simpa using hu)
   ·intro i x u hx hu
    exact g2.2 i x u (by simpa using hx) (by simpa using hu)
  |_=>simp[iI]at ho
 |makeSlice t l c=>
  simp only[iI]at ho
  obtain⟨u,h1,h2⟩:=aj ho
  obtain⟨u2,h3,h4⟩:=aj h2
  exact aU (s:=Instr.makeSlice t (a.eval l) (a.eval c)) (fun c=>by simp) rfl (Dn hE h (bV hf h1) (bV hf h3) h4) hK
 |slice t x lo0 hi0 mx0=>
  simp only[iI]at ho
  obtain⟨u,h1,h2⟩:=aj ho
  obtain⟨lo,h3,h4⟩:=aj h2
  obtain⟨hi,h5,h6⟩:=aj h4
  obtain⟨mx,h7,h8⟩:=aj h6
  obtain⟨r,h9,h10⟩:=aj h8
  simp at h10; obtain⟨rfl,rfl⟩:=h10
  exact aU (s:=Instr.sliceAt t (a.eval x) (lo0.map a.eval) (hi0.map a.eval) (mx0.map a.eval)) (fun c=>by simp) rfl (I7 hE h (bV hf h1) (O9 hf h3) (O9 hf h5) (O9 hf h7) h9) hK
 |makeMap t r=>
  cases r with
  |none=>
   simp[iI]at ho; obtain⟨rfl,rfl⟩:=ho
   exact aU (s:=Instr.makeMap t none) (fun c=>by simp) rfl (Ja h) hK
  |some r=>simp[iI]at ho
 |lookup t x i ok=>
  simp only[iI]at ho
  obtain⟨u,h1,h2⟩:=aj ho
  obtain⟨u2,h3,h4⟩:=aj h2
  obtain⟨r,h5,h6⟩:=aj h4
  simp at h6; obtain⟨rfl,rfl⟩:=h6
  exact aU (s:=Instr.lookup t (a.eval x) (a.eval i) ok) (fun c=>by simp) rfl (EO hE h (bV hf h1) (bV hf h3) h5) hK
 |mapUpdate t m k x=>
  simp only[iI]at ho
  obtain⟨u,h1,h2⟩:=aj ho
  obtain⟨u2,h3,h4⟩:=aj h2
  obtain⟨u3,h5,h6⟩:=aj h4
  obtain⟨H2,h7,h8⟩:=aj h6
  simp at h8; obtain⟨rfl,rfl⟩:=h8
  obtain⟨w',g1,g2⟩:=vM hE h (bV hf h1) (bV hf h3) (bV hf h5) h7
  exact qj (fun c=>by simp) rfl g1 (hK _ _ _ g2 (.undef _))
 |fieldAddr t x i=>
  simp only[iI]at ho
  obtain⟨u,h1,h2⟩:=aj ho
  obtain⟨r,h5,h6⟩:=aj h2
  simp at h6; obtain⟨rfl,rfl⟩:=h6
  exact aU (s:=Instr.fieldAt t (a.eval x) i) (fun c=>by simp) rfl (IZ hE h (bV hf h1) h5) hK
 |field t x i=>
  simp only[iI]at ho
  obtain⟨u,h1,h2⟩:=aj ho
  obtain⟨r,h5,h6⟩:=aj h2
  simp at h6; obtain⟨rfl,rfl⟩:=h6
  exact aU (s:=Instr.field t (a.eval x) i) (fun c=>by simp) rfl (Ry hE h (bV hf h1) h5) hK
 |indexAddr t x i=>
  simp only[iI]at ho
  obtain⟨u,h1,h2⟩:=aj ho
  obtain⟨u2,h3,h4⟩:=aj h2
  obtain⟨r,h5,h6⟩:=aj h4
  simp at h6; obtain⟨rfl,rfl⟩:=h6
  exact aU (s:=Instr.indexAt t (a.eval x) (a.eval i)) (fun c=>by simp) rfl (Bo hE h (bV hf h1) (bV hf h3) h5) hK
 |index t x i=>
  simp only[iI]at ho
  obtain⟨u,h1,h2⟩:=aj ho
  obtain⟨u2,h3,h4⟩:=aj h2
  obtain⟨r,h5,h6⟩:=aj h4
  simp at h6; obtain⟨rfl,rfl⟩:=h6
  exact aU (s:=Instr.index t (a.eval x) (a.eval i)) (fun c=>by simp) rfl (Rz hE h (bV hf h1) (bV hf h3) h5) hK
 |extract x i=>
  simp only[iI]at ho
  obtain⟨u,h1,h2⟩:=aj ho
  obtain⟨r,h5,h6⟩:=aj h2
  simp at h6; obtain⟨rfl,rfl⟩:=h6
  exact aU (s:=Instr.extract (a.eval x) i) (fun c=>by simp) rfl (I4 h (bV hf h1) h5) hK
 |insert t m k x=>
  simp only[iI]at ho
  obtain⟨u,h1,h2⟩:=aj ho
  obtain⟨u2,h3,h4⟩:=aj h2
  obtain⟨u3,h5,h6⟩:=aj h4
  obtain⟨H2,h7,h8⟩:=aj h6
  simp at h8; obtain⟨rfl,rfl⟩:=h8
  obtain⟨w',g1,g2⟩:=vM hE h (bV hf h1) (bV hf h3) (bV hf h5) h7
  exact qj (fun c=>by simp) rfl g1 (hK _ _ _ g2 (.undef _))
 |range t x=>
  simp only[iI]at ho
  obtain⟨u,h1,h2⟩:=aj ho
  exact aU (s:=Instr.range t (a.eval x)) (fun c=>by simp) rfl (Gt hE h (bV hf h1) h2) hK
 |next x st=>
  cases st with
  |true=>
   simp only[iI]at ho
   obtain⟨u,h1,h2⟩:=aj ho
   exact aU (s:=Instr.next (a.eval x) true ty) (fun c=>by simp) rfl (Bz h (bV hf h1) h2) hK
  |false=>simp[iI]at ho
 |call c=>exact absurd ⟨c,rfl⟩ hc
 |_=>simp[iI]at ho
end Go.Proofs.YtijnknjopjmiiaaGreatDoor.Zq
end
