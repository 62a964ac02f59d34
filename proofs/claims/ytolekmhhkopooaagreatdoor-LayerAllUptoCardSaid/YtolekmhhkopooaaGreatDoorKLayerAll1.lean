/- Part 1 of the proof of LayerAll: what its row stands on (lemmas about the model, the evaluator, contracts of functions), put together and cut to what is used. -/
import Derived.Test.YtolekmhhkopooaaGreatDoorKLayerAll0
section
namespace Go.Proofs.YtolekmhhkopooaaGreatDoor.Zq
structure Tag where
 α : Type
 agg : Bool
 n : Nat
 cells : α -> List Value
 of : List Value -> Option α
 ok : ∀ cs x, of cs = some x -> cs = cells x
def encC (agg : Bool) (cs : List Value) : Value := if agg then .agg cs.toArray else match cs with | [v] => v | _ => undef
def Tag.enc (T : Tag) (x : T.α) : Value := encC T.agg (T.cells x)
def Tag.dec (T : Tag) (v : Value) : Option T.α :=
 match v with
 | .agg cs => if T.agg then T.of cs.toList else none
 | .tuple _ => none
 | v => if T.agg then none else T.of [v]
def Tup : List Tag -> Type
 | [] => Unit
 | t :: r => t.α × Tup r
def encs : (ts : List Tag) -> Tup ts -> List Value
 | [], _ => []
 | t :: r, x => t.enc x.1 :: encs r x.2
inductive Sv where
 | v (v : Value)
 | lp (i off : Nat)
 | ls (i n : Nat)
structure CFr where
 n : Nat
 l : List (Nat × Option Sv)
def cget : List (Nat × Option Sv) -> Nat -> Option Sv
 | [], _ => none
 | (i, v) :: r, t => if i = t then v else cget r t
def CFr.put (fr : CFr) (d : Nat) (s : Sv) : CFr := ⟨fr.n, (d, some s) :: fr.l⟩
def CFr.put? (fr : CFr) (d : Option Nat) (s : Sv) : CFr :=
 match d with
 | some d => fr.put d s
 | none => fr
abbrev Loc := List (Nat × List Value)
def opS (fr : CFr) : Operand -> Option Sv
 | .tmp t => cget fr.l t
 | .const v => if flat v then some (.v v) else none
 | .global _ => none
 | .func f => some (.v (.func (.func f) #[] #[]))
def opV (fr : CFr) (x : Operand) : Option Value :=
 match opS fr x with
 | some (.v v) => some v
 | _ => none
def opVs (fr : CFr) : List Operand -> Option (List Value)
 | [] => some []
 | x :: r => match opV fr x, opVs fr r with | some v, some vs => some (v :: vs) | _, _ => none
def opPs (fr : CFr) : List (Nat × Operand) -> Option (List (Nat × Value))
 | [] => some []
 | (i, x) :: r => match opV fr x, opPs fr r with | some v, some vs => some ((i, v) :: vs) | _, _ => none
def opVo (fr : CFr) : Option Operand -> Option (Option Value)
 | none => some none
 | some x => match opV fr x with | some v => some (some v) | none => none
def EV (P : Program) (g : FuncId) (args : List Value) (H : Heap) (Q : Value -> Heap -> Prop) : Prop :=
 (∃ fn, P.funcs[g]? = some fn ∧ fn.body.isSome = true ∧ (fn.name == "runtime.NumGoroutine") = false) ∧
 ∀ (n : Nat) (M : Mp) (w : World) (args' : List Value), HR M H w -> VL M args args' →
  CallsIn Fence.wide n P g args'.toArray w fun e w' => ∃ v v' M' H', e = .returned v' ∧ Stp M H w M' H' w' ∧ VR M' v v' ∧ Q v H'
def EVY (P : Program) (l : Nat) (args : List Value) (H : Heap) (Q : Value -> Heap -> Prop) : Prop :=
 ∀ (n : Nat) (M : Mp) (w : World) (args' : List Value) (e : Ent), HR M H w -> VL M args args' -> M[l]? = some (some e) →
  ∃ L : Loop, w.heap[e.blk]? = some (.loop L) ∧ args'.length = L.params.size ∧
   RoundIn Fence.wide n P e.blk L.fn ((L.params.zip args'.toArray).foldl (fun tmps (t, a) => tmps.setIfInBounds t a) L.tmps) L.assign L.body w fun e w' => ∃ v v' M' H', e = .returned v' ∧ Stp M H w M' H' w' ∧ VR M' v v' ∧ Q v H'
def RK (lb : LoopState -> Option Ex -> ABlk) (l : Nat) (k : Value -> Heap -> Prop) (e : Ex) (H : Heap) : Prop :=
 H[l]? = some (lb .busy none) ∧ match e with | .normal => k (.bool true) (H.set l (lb .ready none)) | e => k (.bool false) (H.set l (lb .done (some e)))
def CALL (P : Program) (rs : List Tag) (g : FuncId) (args : List Value) (H : Heap) (k : Tup rs -> Heap -> Prop) : Prop :=
 EV P g args H fun v H' => ∃ x : Tup rs, v = tupleOf (encs rs x) ∧ k x H'
def CALLV (P : Program) (rs : List Tag) (f : Value) (args : List Value) (H : Heap) (k : Tup rs -> Heap -> Prop) : Prop :=
 (∃ g xs ys, f = .func (.func g) xs ys ∧ CALL P rs g (xs.toList ++ args ++ ys.toList) H k) ∨ (∃ l, f = .func (.yield l) #[] #[] ∧ EVY P l args H fun v H' => ∃ x : Tup rs, v = tupleOf (encs rs x) ∧ k x H')
def RFX : List Ex -> Ex -> (Ex -> Prop) -> Prop
 | [], _, _ => False
 | x :: r, e, K => (e = x ∧ K x) ∨ RFX r e K
def RF (P : Program) (ts : List Tag) (g : FuncId) (xs ys : List Value) (H : Heap) (B : (LoopState -> Option Ex -> ABlk) -> Tup ts -> Heap -> (Ex -> Heap -> Prop) -> Prop) (K : Ex -> Heap -> Prop) : Prop :=
 ∀ lb : LoopState -> Option Ex -> ABlk, (∀ (x : Tup ts) H1 k, H1[H.length]? = some (lb .ready none) ∧ B lb x H1 (RK lb H.length k) -> EVY P H.length (encs ts x) H1 k) →
  EV P g (xs ++ [.func (.yield H.length) #[] #[]] ++ ys) (H ++ [lb .ready none]) fun _ H2 => ∃ st pend, H2[H.length]? = some (lb st pend) ∧ st ≠ .busy ∧ K (pend.getD .normal) (H2.set H.length (lb .exhausted pend))
def RFV (P : Program) (ts : List Tag) (f : Value) (H : Heap) (B : (LoopState -> Option Ex -> ABlk) -> Tup ts -> Heap -> (Ex -> Heap -> Prop) -> Prop) (K : Ex -> Heap -> Prop) : Prop :=
 ∃ g xs ys, f = .func (.func g) xs ys ∧ RF P ts g xs.toList ys.toList H B K
def LD (T : Tag) (H : Heap) (b off : Nat) (k : T.α -> Prop) : Prop := ∃ x, rd H b off T.n = some (T.cells x) ∧ k x
def ST (H : Heap) (b off : Nat) (cs : List Value) (k : Heap -> Prop) : Prop := ∃ H', wr H b off cs = some H' ∧ k H'
def NIL (p : Option Addr) (k : Nat -> Nat -> Prop) : Prop := match p with | some ⟨b, off, none⟩ => k b off | _ => False
def IDX (p : Option Addr) (len : Nat) (i : Int) (sz : Nat) (k : Nat -> Nat -> Prop) : Prop := NIL p fun b off => (0 ≤ i ∧ i < len) ∧ k b (off + i.toNat * sz)
def IDXA (len : Nat) (i : Int) (k : Prop) : Prop := (0 ≤ i ∧ i < len) ∧ k
def GEN (T : Tag) (x : Option (Value × Heap)) (k : T.α -> Heap -> Prop) : Prop := ∃ y H', x = some (T.enc y, H') ∧ k y H'
def GENV (T : Tag) (x : Option Value) (k : T.α -> Prop) : Prop := ∃ y, x = some (T.enc y) ∧ k y
def GENH (x : Option Heap) (k : Heap -> Prop) : Prop := ∃ H', x = some H' ∧ k H'
def GENR (x : Option (Value × Heap)) (k : Value -> Heap -> Prop) : Prop := ∃ y H', x = some (y, H') ∧ k y H'
def NXT (x : Option (Value × Heap)) (k1 : Int -> Int -> Heap -> Prop) (k2 : Heap -> Prop) : Prop :=
 (∃ i r H', x = some (.tuple #[.bool true, .int .i64 i, .int .i32 r], H') ∧ k1 i r H') ∨ (∃ H', x = some (.tuple #[.bool false], H') ∧ k2 H')
def LKP (T : Tag) (x : Option Value) (k : T.α -> Bool -> Prop) : Prop := ∃ y b, x = some (.tuple #[T.enc y, .bool b]) ∧ k y b
def growE (E : Env) (ts : List TypeId) (len n : Nat) (old xs : List Value) (H : Heap) (x : Nat) : Option (Value × Heap) :=
 match ts with
 | [ts, tx] => match E.ty ts, E.ty tx with
  | some ti, some tj => match ti.k, tj.k with
   | _, .int _ => none
   | .slice e, _ => match E.ty e with
    | some te => if te.size = 0 ∨ xs.length ≠ n * te.size ∨ old.length ≠ len * te.size then none
     else if 2 * (len + n) * te.bytes ≤ 281474976710656 ∧ te.bytes ≠ 0 then some (.slice (some ⟨H.length, 0, none⟩) (len + n) (len + n + x), mk H (old ++ xs ++ rep x te.zero) te.size false) else none
    | none => none
   | _, _ => none
  | _, _ => none
 | _ => none
def eltE (E : Env) (ts : List TypeId) : Nat :=
 match ts with
 | ts :: _ => match E.ty ts with
  | some ti => match ti.k with
   | .slice e => match E.ty e with | some te => te.size | none => 0
   | _ => 0
  | none => 0
 | [] => 0
def aAppE (E : Env) (ts : List TypeId) (s : Value) (n : Nat) (xs : List Value) (H : Heap) (x : Nat) : Option (Value × Heap) :=
 match s with
 | .slice none 0 0 => if n = 0 then aAppX E ts s n xs H else growE E ts 0 n [] xs H x
 | .slice (some ⟨b, off, none⟩) len cap =>
  if n ≠ 0 ∧ cap < len + n ∧ exact H b off cap = true then match rd H b off (len * eltE E ts) with | some old => growE E ts len n old xs H x | none => none
  else aAppX E ts s n xs H
 | s => aAppX E ts s n xs H
def aAppendE (E : Env) (ts : List TypeId) (s x : Value) (H : Heap) (y : Nat) : Option (Value × Heap) :=
 match ts with
 | [t1, t2] => match E.ty t1 with
  | some ti => match ti.k with
   | .slice e => match E.ty e with
    | some te => match lenX x with
     | some n => match firstOf x n te.size H with
      | some xs => aAppE E [t1, t2] s n xs H y
      | none => none
     | none => none
    | none => none
   | _ => none
  | none => none
 | _ => none
def lenV : Value -> Nat
 | .slice _ n _ => n
 | _ => 0
def APP (T : Tag) (m : Nat) (f : Nat -> Option (Value × Heap)) (k : T.α -> Heap -> Prop) : Prop := ∀ x, (x = 0 ∨ m + x ≤ 9223372036854775807) -> GEN T (f x) k
def REQ (c : Prop) (k : Prop) : Prop := c ∧ k
def JOIN {S : Type} (A : (S -> Heap -> Prop) -> Prop) (B : S -> Heap -> Prop) : Prop := A B
def itP {S : Type} (F : (S -> Heap -> Prop) -> S -> Heap -> Prop) : Nat -> S -> Heap -> Prop
 | 0, _, _ => False
 | m + 1, s, H => F (itP F m) s H
def LOOP {S : Type} (F : (S -> Heap -> Prop) -> S -> Heap -> Prop) (s : S) (H : Heap) : Prop := ∃ m, itP F m s H
def ifB (g : Bool) (a b : Prop) : Prop := match g with | true => a | false => b
mutual
def cEqV (E : Env) : Nat -> TypeId -> Value -> Value -> Option Bool
 | 0, _, _, _ => none
 | d + 1, t, x, y =>
  match E.ty t with
  | none => none
  | some ti =>
   match ti.k, x, y with
   | .struct fs, .agg xs, .agg ys => cEqF E d fs xs.toList ys.toList
   | .array n e, .agg xs, .agg ys => match E.ty e with | some te => cEqE E d e te.size n 0 xs.toList ys.toList | none => none
   | k, x, y => eq1 k x y
def cEqF (E : Env) : Nat -> List (Nat × TypeId) -> List Value -> List Value -> Option Bool
 | 0, _, _, _ => none
 | _ + 1, [], _, _ => some true
 | d + 1, (o, t) :: r, xs, ys =>
  match aPart E t xs o, aPart E t ys o with
  | some x, some y => match cEqV E d t x y, cEqF E d r xs ys with | some b, some c => some (b && c) | _, _ => none
  | _, _ => none
def cEqE (E : Env) : Nat -> TypeId -> Nat -> Nat -> Nat -> List Value -> List Value -> Option Bool
 | 0, _, _, _, _, _, _ => none
 | d + 1, e, size, n, i, xs, ys =>
  match n with
  | 0 => some true
  | n + 1 =>
   match aPart E e xs (i * size), aPart E e ys (i * size) with
   | some x, some y => match cEqV E d e x y, cEqE E d e size n (i + 1) xs ys with | some b, some c => some (b && c) | _, _ => none
   | _, _ => none
end
def cBin (E : Env) (op : BinOp) (t : TypeId) (x y : Value) (k : Value -> Prop) : Prop :=
 match x, y with
 | .int ka a, .int kb b =>
  match op with
  | .shl => REQ (0 ≤ b) (k (.int ka (ka.wrap (a * 2 ^ (min b.toNat ka.bits)))))
  | .shr => REQ (0 ≤ b) (k (.int ka (a.fdiv (2 ^ (min b.toNat ka.bits)))))
  | .quo => if ka = kb then REQ (b ≠ 0) (k (.int ka (ka.wrap (a.tdiv b)))) else False
  | .rem => if ka = kb then REQ (b ≠ 0) (k (.int ka (a.tmod b))) else False
  | op => match aBin E op t (.int ka a) (.int kb b) with | some v => k v | none => False
 | .string a, .string b =>
  match op with
  | .add => REQ (a.size + b.size ≤ 9223372036854775807) (k (.string (a ++ b)))
  | op => match aBin E op t (.string a) (.string b) with | some v => k v | none => False
 | .pointer p, .pointer none =>
  match E.ty t with
  | some ⟨.pointer _, _, _, _⟩ =>
   match op with
   | .eql => k (.bool p.isNone)
   | .neq => k (.bool !p.isNone)
   | _ => False
  | _ => False
 | .slice p _ _, .slice none 0 0 =>
  match E.ty t with
  | some ⟨.slice _, _, _, _⟩ =>
   match op with
   | .eql => k (.bool p.isNone)
   | .neq => k (.bool !p.isNone)
   | _ => False
  | _ => False
 | x, y =>
  match op with
  | .eql => match cEqV E 100 t x y with | some b => k (.bool b) | none => False
  | .neq => match cEqV E 100 t x y with | some b => k (.bool !b) | none => False
  | _ => False
structure CEnv where
 E : Env
 P : Program
 tag : TypeId -> Tag
 res : FuncId -> List Tag
 lkp : TypeId -> Option Tag
 rt : TypeId -> List Tag
def cCall (C : CEnv) (fr : CFr) (c : Call) (ty : TypeId) (L : Loc) (H : Heap) (k : Sv -> Loc -> Heap -> Prop) : Prop :=
 match c.callee with
 | .value (.func g) => match opVs fr c.args.toList with
  | some vs => CALL C.P (C.res g) g vs H fun x H' => k (.v (tupleOf (encs (C.res g) x))) L H'
  | none => False
 | .value f => match opV fr f, opVs fr c.args.toList with
  | some f, some vs => CALLV C.P (C.rt ty) f vs H fun x H' => k (.v (tupleOf (encs (C.rt ty) x))) L H'
  | _, _ => False
 | .builtin .len => match c.args.toList, c.argTypes.toList with
  | [x], [t] => match opV fr x, C.E.ty t with
   | some (.slice _ n _), some ⟨.slice _, _, _, _⟩ => k (.v (.int .i64 n)) L H
   | some v, some _ => GENV (C.tag ty) (aLen C.E t v H) fun x => k (.v ((C.tag ty).enc x)) L H
   | _, _ => False
  | _, _ => False
 | .builtin .cap => match c.args.toList, c.argTypes.toList with
  | [x], [t] => match opV fr x with
   | some v => GENV (C.tag ty) (aCap C.E t v H) fun x => k (.v ((C.tag ty).enc x)) L H
   | _ => False
  | _, _ => False
 | .builtin .append => match c.args.toList with
  | [s, x] => match opV fr s, opS fr x with
   | some s, some (.ls i n) => match L[i]? with
    | some (_, cs) => APP (C.tag ty) (lenV s + n) (aAppE C.E c.argTypes.toList s n cs H) fun x H' => k (.v ((C.tag ty).enc x)) L H'
    | none => False
   | some s, some (.v x) => APP (C.tag ty) (lenV s + (lenX x).getD 0) (aAppendE C.E c.argTypes.toList s x H) fun x H' => k (.v ((C.tag ty).enc x)) L H'
   | _, _ => False
  | _ => False
 | .builtin .copy => match opVs fr c.args.toList with
  | some [d, x] => GEN (C.tag ty) (aCopy C.E c.argTypes.toList d x H) fun x H' => k (.v ((C.tag ty).enc x)) L H'
  | _ => False
 | .builtin .min => match opVs fr c.args.toList with | some (x :: r) => (match aMinL false x r with | some v => k (.v v) L H | none => False) | _ => False
 | .builtin .max => match opVs fr c.args.toList with | some (x :: r) => (match aMinL true x r with | some v => k (.v v) L H | none => False) | _ => False
 | .builtin .clear => match opVs fr c.args.toList with | some [x] => GENH (aClear C.E c.argTypes.toList x H) fun H' => k (.v undef) L H' | _ => False
 | _ => False
def cOp (C : CEnv) (loc : List Nat) (dst : Option Nat) (ty : TypeId) (op : Op) (fr : CFr) (L : Loc) (H : Heap) (k : Sv -> Loc -> Heap -> Prop) : Prop :=
 match op with
 | .move x | .assign x => match opS fr x with | some s => k s L H | none => False
 | .pick c a b => match opV fr c with
  | some (.bool g) => ifB g (match opS fr a with | some s => k s L H | none => False) (match opS fr b with | some s => k s L H | none => False)
  | _ => False
 | .alloc t => match C.E.ty t with
  | some ti => if loc.contains (dst.getD 0) then k (.lp L.length 0) (L ++ [(0, ti.zero)]) H else k (.v (.pointer (some ⟨H.length, 0, none⟩))) L (mk H ti.zero ti.size false)
  | none => False
 | .box _ x => match opV fr x with
  | some v => if loc.contains (dst.getD 0) then k (.lp L.length 0) (L ++ [(0, v.cells.toList)]) H else k (.v (.pointer (some ⟨H.length, 0, none⟩))) L (mk H v.cells.toList v.cells.toList.length false)
  | none => False
 | .build t ps => match opPs fr ps.toList with
  | some ps => match aBuild C.E t ps with | some v => k (.v v) L H | none => False
  | none => False
 | .buildSlice t n ps => match opPs fr ps.toList with
  | some qs => match aBuildSlice C.E t n qs [] with
   | some (_, [.row cs sz false false true]) => if loc.contains (dst.getD 0) then k (.ls L.length n) (L ++ [(0, cs)]) H else k (.v (.slice (some ⟨H.length, 0, none⟩) n n)) L (mk H cs sz false)
   | _ => False
  | none => False
 | .load t x => match opS fr x with
  | some (.lp i off) => match L[i]?, C.E.ty t with
   | some (_, cs), some ti => if off + ti.size ≤ cs.length then match ofCells ti.k ((cs.drop off).take ti.size) with | some v => k (.v v) L H | none => False else False
   | _, _ => False
  | some (.v (.pointer (some ⟨b, off, none⟩))) => match C.E.ty t with
   | some ti => if ti.size = (C.tag t).n ∧ isAggK ti.k = (C.tag t).agg ∧ ((C.tag t).agg = true ∨ ti.size = 1) then LD (C.tag t) H b off fun x => k (.v ((C.tag t).enc x)) L H else False
   | none => False
  | _ => False
 | .store t x y => match opV fr y, C.E.ty t with
  | some v, some ti => if v.cells.toList.length = ti.size then
   match opS fr x with
   | some (.lp i off) => match L[i]? with
    | some (n, cs) => if off + ti.size ≤ cs.length ∧ v.cells.toList.all cell1 = true then k (.v undef) (L.set i (n + 1, patch cs off v.cells.toList)) H else False
    | none => False
   | some (.v (.pointer (some ⟨b, off, none⟩))) => ST H b off v.cells.toList fun H' => k (.v undef) L H'
   | _ => False else False
  | _, _ => False
 | .nilCheck x => match opS fr x with
  | some (.lp i off) => k (.lp i off) L H
  | some (.v (.pointer p)) => NIL p fun b off => k (.v (.pointer (some ⟨b, off, none⟩))) L H
  | some (.v (.func (.func f) xs ys)) => k (.v (.func (.func f) xs ys)) L H
  | some (.v (.func (.yield l) ⟨[]⟩ ⟨[]⟩)) => k (.v (.func (.yield l) #[] #[])) L H
  | _ => False
 | .binOp op t x y _ => match opV fr x, opV fr y with
  | some a, some b => cBin C.E op t a b fun v => k (.v v) L H
  | _, _ => False
 | .unOp op _ x => match opV fr x with
  | some a => match aUn op a with | some v => k (.v v) L H | none => False
  | none => False
 | .convert s d x => match opV fr x with
  | some a => match aConv C.E s d a with | some v => k (.v v) L H | none => False
  | none => False
 | .makeFunc (.func f) first caps => match opVs fr first.toList, opVs fr caps.toList with
  | some xs, some ys => k (.v (.func (.func f) xs.toArray ys.toArray)) L H
  | _, _ => False
 | .fieldAddr t x i => match opS fr x with
  | some (.lp j off) => match C.E.ty t with
   | some ⟨.struct fs, _, _, _⟩ => match fs[i]? with
    | some (o, ft) => match C.E.ty ft with
     | some te => if te.size = 0 then False else k (.lp j (off + o)) L H
     | none => False
    | none => False
   | _ => False
  | some (.v v) => match aFieldAddr C.E t v i with | some v => k (.v v) L H | none => False
  | _ => False
 | .field t x i => match opV fr x with
  | some v => match aField C.E t v i with | some v => k (.v v) L H | none => False
  | none => False
 | .indexAddr t x i => match opS fr x, opV fr i with
  | some (.lp j off), some (.int _ n) => match C.E.ty t with
   | some ⟨.array len e, _, _, _⟩ => match C.E.ty e with
    | some te => if 0 ≤ n ∧ n < len then k (.lp j (off + n.toNat * te.size)) L H else False
    | none => False
   | _ => False
  | some (.v (.slice p len _)), some (.int _ n) => match C.E.ty t with
   | some ⟨.slice e, _, _, _⟩ => match C.E.ty e with
    | some te => IDX p len n te.size fun b off => k (.v (.pointer (some ⟨b, off, none⟩))) L H
    | none => False
   | _ => False
  | some (.v (.pointer (some ⟨b, off, none⟩))), some (.int _ n) => match C.E.ty t with
   | some ⟨.array len e, _, _, _⟩ => match C.E.ty e with
    | some te => IDXA len n (k (.v (.pointer (some ⟨b, off + n.toNat * te.size, none⟩))) L H)
    | none => False
   | _ => False
  | _, _ => False
 | .extract x i => match opV fr x with
  | some v => match aExtract v i with | some v => k (.v v) L H | none => False
  | none => False
 | .call c => cCall C fr c ty L H k
 | .mapUpdate t m i x => match opV fr m, opV fr i, opV fr x with
  | some m, some i, some x => GENH (aMapUpdate C.E t m i x H) fun H' => k (.v undef) L H'
  | _, _, _ => False
 | .index t x i => match opV fr x, opV fr i with
  | some x, some i => GENV (C.tag ty) (aIndex C.E t x i) fun x => k (.v ((C.tag ty).enc x)) L H
  | _, _ => False
 | .slice t x lo hi mx => match opV fr x, opVo fr lo, opVo fr hi, opVo fr mx with
  | some v, some lo, some hi, some mx => GENV (C.tag ty) (aSlice C.E t v lo hi mx H) fun x => k (.v ((C.tag ty).enc x)) L H
  | _, _, _, _ => False
 | .makeSlice t l c => match opV fr l, opV fr c with
  | some l, some c => GEN (C.tag ty) (aMakeSlice C.E t l c H) fun x H' => k (.v ((C.tag ty).enc x)) L H'
  | _, _ => False
 | .makeMap _ none => k (.v (.map (some H.length))) L (H ++ [.map [] 0])
 | .lookup t x i ok => match opV fr x, opV fr i with
  | some x, some i => if ok then (match C.lkp t with | some T => LKP T (aLookup C.E t x i true H) fun y b => k (.v (.tuple #[T.enc y, .bool b])) L H | none => False)
    else GENV (C.tag ty) (aLookup C.E t x i ok H) fun x => k (.v ((C.tag ty).enc x)) L H
  | _, _ => False
 | .range t x => match opV fr x with
  | some v => GENR (aRange C.E t v H) fun y H' => k (.v y) L H'
  | none => False
 | .next x true => match opV fr x with
  | some v => NXT (aNext v H) (fun i r H' => k (.v (.tuple #[.bool true, .int .i64 i, .int .i32 r])) L H') (fun H' => k (.v (.tuple #[.bool false])) L H')
  | none => False
 | _ => False
def cPutOk (fr : CFr) : Option Nat -> Bool
 | some d => decide (d < fr.n)
 | none => true
structure Jn where
 sl : List (Nat × Tag)
 lo : List (Nat × Tag)
 clr : List Nat
def TupP : List (Nat × Tag) -> Type
 | [] => Unit
 | (_, T) :: r => T.α × TupP r
def Jn.S (J : Jn) : Type := TupP J.sl × TupP J.lo
def jgetS (fr : CFr) : (sl : List (Nat × Tag)) -> Option (TupP sl)
 | [] => some ()
 | (t, T) :: r =>
  match cget fr.l t with
  | some (.v v) => match T.dec v, jgetS fr r with | some x, some y => some (x, y) | _, _ => none
  | _ => none
def jgetL (L : Loc) : (lo : List (Nat × Tag)) -> Option (TupP lo)
 | [] => some ()
 | (i, T) :: r =>
  match L[i]? with
  | some (_, cs) => match T.of cs, jgetL L r with | some x, some y => some (x, y) | _, _ => none
  | none => none
def jputS : (sl : List (Nat × Tag)) -> TupP sl -> List (Nat × Option Sv) -> List (Nat × Option Sv)
 | [], _, l => l
 | (t, T) :: r, x, l => (t, some (.v (T.enc x.1))) :: jputS r x.2 l
def jputL : (lo : List (Nat × Tag)) -> TupP lo -> Loc -> Loc
 | [], _, L => L
 | (i, T) :: r, x, L =>
  match L[i]? with
  | some (n, _) => (jputL r x.2 L).set i (n + 1, T.cells x.1)
  | none => jputL r x.2 L
def Jn.fr (J : Jn) (fr : CFr) (x : J.S) : CFr := ⟨fr.n, jputS J.sl x.1 (J.clr.map (fun t => (t, none)) ++ fr.l)⟩
def Jn.loc (J : Jn) (L : Loc) (x : J.S) : Loc := jputL J.lo x.2 L
def keptL : List (Nat × Tag) -> Nat -> Loc -> Loc -> Bool
 | _, _, [], _ => true
 | _, _, _ :: _, [] => false
 | lo, i, (n, _) :: r, (m, _) :: r' => (n == m || lo.any fun p => p.1 == i) && keptL lo (i + 1) r r'
def Jn.ok (J : Jn) (fr fr' : CFr) (L L' : Loc) : Bool :=
 (fr'.l.take (fr'.l.length - fr.l.length)).all (fun p => (J.sl.any fun q => q.1 == p.1) || J.clr.contains p.1) && keptL J.lo 0 L L' && J.lo.all (fun p => decide (p.1 < L.length))
def jexit (J : Jn) (fr fr' : CFr) (L L' : Loc) (k : J.S -> Prop) : Prop :=
 if J.ok fr fr' L L' then match jgetS fr' J.sl, jgetL L' J.lo with | some a, some b => k (a, b) | _, _ => False else False
inductive Hnt where
 | leaf
 | seq (a b : Hnt)
 | reg (j : Jn)
 | cond (j : Option Jn) (a b : Hnt)
 | blk (j : Option Jn) (a : Hnt)
 | loop (j : Jn) (a : Hnt)
def Hnt.a : Hnt -> Hnt
 | .seq a _ | .cond _ a _ | .blk _ a | .loop _ a => a
 | h => h
def Hnt.b : Hnt -> Hnt
 | .seq _ b | .cond _ _ b => b
 | h => h
def Hnt.cj : Hnt -> Option Jn
 | .cond j _ _ | .blk j _ => j
 | .reg j | .loop j _ => some j
 | _ => none
def cVals : List (Nat × Option Sv) -> Option (List (Nat × Option Value))
 | [] => some []
 | (t, none) :: r => match cVals r with | some q => some ((t, none) :: q) | none => none
 | (t, some (.v v)) :: r => match cVals r with | some q => some ((t, some v) :: q) | none => none
 | _ => none
def jputA : (sl : List (Nat × Tag)) -> Tup (sl.map (·.2)) -> List (Nat × Option Sv) -> List (Nat × Option Sv)
 | [], _, l => l
 | (t, T) :: r, x, l => jputA r x.2 ((t, some (.v (T.enc x.1))) :: l)
def noRF : Code -> Bool
 | .seq a b | .cond _ a b => noRF a && noRF b
 | .block _ a | .loop a | .scope a => noRF a
 | .rangeFunc .. => false
 | _ => true
abbrev CK := Ex -> CFr -> Loc -> Heap -> Prop
def isFl (loc : List Nat) (o : Oper) : Bool :=
 match o.op with
 | .alloc _ => loc.contains (o.dst.getD 0)
 | _ => false
def turns : Op -> Bool
 | .move _ | .assign _ | .pick .. | .build .. | .load .. | .nilCheck _ | .binOp .. | .unOp .. | .convert .. | .makeFunc .. | .slice .. | .fieldAddr .. | .field .. | .indexAddr .. | .index .. | .extract .. | .lookup .. => false
 | .call { callee := .builtin .len, .. } | .call { callee := .builtin .min, .. } | .call { callee := .builtin .max, .. } => false
 | _ => true
def reads : Op -> Bool
 | .load .. | .slice .. | .lookup .. => true
 | .call { callee := .builtin .len, .. } => true
 | _ => false
def useOf (ops : Array Oper) (o : Oper) : List Tmp :=
 tmpsOf o.op.operands.toList ++ (match o.guard with | some (j, _) => ((ops[j]?).bind (·.dst)).toList | none => [])
def overs (ops : Array Oper) (b : Array Nat) (o : Oper) : Bool :=
 match o.dst with
 | some d => ops.toList.zipIdx.any fun p => (useOf ops p.1).contains d && !ahead b p.2 (ops.toList.findIdx fun q => q.dst == some d)
 | none => false
def isT (loc : List Nat) (ops : Array Oper) (b : Array Nat) (i : Nat) : Bool :=
 match ops[i]? with
 | some o => !isFl loc o && (turns o.op || overs ops b o)
 | none => false
def tauL (ops : Array Oper) (b : Array Nat) (ts : List Nat) : List Nat -> Nat -> List Nat
 | [], i => (List.range ops.size).filter fun j => !ts.contains j && ((ts.zipIdx.foldl (fun m p => if ahead b j p.1 then p.2 + 1 else m) 0) == i)
 | t :: r, i => ((List.range ops.size).filter fun j => !ts.contains j && ((ts.zipIdx.foldl (fun m p => if ahead b j p.1 then p.2 + 1 else m) 0) == i)) ++ t :: tauL ops b ts r (i + 1)
def asksL (loc : List Nat) (ops : Array Oper) (b : Array Nat) (tau : List Nat) (t : Nat) : List Nat :=
 (tau.takeWhile (· != t)).filter fun j => (match ops[j]? with | some o => reads o.op | none => false) && !ahead b t j && !isT loc ops b j
structure Step where
 i : Nat
 o : Oper
 asks : List Oper
def mkSteps (loc : List Nat) (ops : Array Oper) (b : Array Nat) (tau : List Nat) : List Nat -> Option (List Step)
 | [] => some []
 | i :: r =>
  match ops[i]?, (if isT loc ops b i then (asksL loc ops b tau i).mapM (fun j => ops[j]?) else some []), mkSteps loc ops b tau r with
  | some o, some as, some s => some (⟨i, o, as⟩ :: s)
  | _, _, _ => none
def nodupN : List Nat -> Bool
 | [] => true
 | x :: r => !r.contains x && nodupN r
def drawGood (loc : List Nat) (ops : Array Oper) (b : Array Nat) (tau : List Nat) : Bool :=
 let n := ops.size
 let pos := fun i => tau.findIdx (· == i)
 backB ops.toList 0 && nodupN tau && tau.length == n && (List.range n).all (fun i => tau.contains i)
  && (List.range n).all (fun i => (List.range n).all fun j => !ahead b i j || decide (pos j < pos i))
  && (List.range n).all (fun i => (List.range n).all fun j => !(isT loc ops b j && decide (pos j < pos i)) || ahead b i j)
  && nodupN (ops.toList.filterMap (·.dst))
  && ops.toList.zipIdx.all (fun p => (useOf ops p.1).all fun t => ops.toList.zipIdx.all fun q => q.1.dst != some t || ahead b p.2 q.2 || (isT loc ops b q.2 && (q.2 == p.2 || ahead b q.2 p.2)))
def drawOrd (loc : List Nat) (ops : Array Oper) : Option (List Step) :=
 let b := Region.before ops
 let tau := tauL ops b ((List.range ops.size).filter (isT loc ops b)) ((List.range ops.size).filter (isT loc ops b)) 0
 if drawGood loc ops b tau then mkSteps loc ops b tau tau else none
def cAsk (C : CEnv) (ops : Array Oper) (fr : CFr) (L : Loc) (H : Heap) (o : Oper) (k : Prop) : Prop :=
 let go : Prop := match o.op, o.dst with
  | .load t x, some d => match opS fr x, cget fr.l d, C.E.ty t with
   | some (.v (.pointer (some ⟨b, off, none⟩))), some (.v v), some _ => LD (C.tag t) H b off fun x => REQ ((C.tag t).enc x = v) k
   | some (.lp i off), some (.v v), some ti => match L[i]? with
    | some (_, cs) => if off + ti.size ≤ cs.length then REQ (ofCells ti.k ((cs.drop off).take ti.size) = some v) k else False
    | none => False
   | _, _, _ => False
  | .slice t x lo hi mx, some d => match opV fr x, opVo fr lo, opVo fr hi, opVo fr mx, cget fr.l d with
   | some v, some lo, some hi, some mx, some (.v u) => REQ (aSlice C.E t v lo hi mx H = some u) k
   | _, _, _, _, _ => False
  | .lookup t x i ok, some d => match opV fr x, opV fr i, cget fr.l d with
   | some x, some i, some (.v u) => REQ (aLookup C.E t x i ok H = some u) k
   | _, _, _ => False
  | .call ⟨.builtin .len, args, ts⟩, some _ => match args.toList, ts.toList with
   | [x], [t] => match opV fr x, C.E.ty t with
    | some (.slice _ _ _), some ⟨.slice _, _, _, _⟩ => k
    | _, _ => False
   | _, _ => False
  | _, _ => False
 match o.guard with
 | none => go
 | some (j, want) =>
  match (ops[j]?).bind (·.dst) with
  | none => k
  | some d => match cget fr.l d with
   | some (.v (.bool g)) => if want then ifB g go k else ifB g k go
   | some (.v (.tuple _)) => k
   | _ => False
def cAsks (C : CEnv) (ops : Array Oper) (fr : CFr) (L : Loc) (H : Heap) : List Oper -> Prop -> Prop
 | [], k => k
 | o :: r, k => cAsk C ops fr L H o (cAsks C ops fr L H r k)
def cOper (C : CEnv) (loc : List Nat) (ops : Array Oper) (o : Oper) (fr : CFr) (L : Loc) (H : Heap) (K : CFr -> Loc -> Heap -> Prop) : Prop :=
 if cPutOk fr o.dst then
  match o.guard with
  | none => cOp C loc o.dst o.type o.op fr L H fun s L H => K (fr.put? o.dst s) L H
  | some (j, want) =>
   match (ops[j]?).bind (·.dst) with
   | none => K (fr.put? o.dst (.v undef)) L H
   | some d =>
    match cget fr.l d with
    | some (.v (.bool g)) =>
     ifB g
      (if want = true then cOp C loc o.dst o.type o.op (fr.put d (.v (.bool true))) L H fun s L H => K ((fr.put d (.v (.bool true))).put? o.dst s) L H
       else K ((fr.put d (.v (.bool true))).put? o.dst (.v undef)) L H)
      (if want = false then cOp C loc o.dst o.type o.op (fr.put d (.v (.bool false))) L H fun s L H => K ((fr.put d (.v (.bool false))).put? o.dst s) L H
       else K ((fr.put d (.v (.bool false))).put? o.dst (.v undef)) L H)
    | some (.v (.tuple _)) => K (fr.put? o.dst (.v undef)) L H
    | _ => False
 else False
def cOps (C : CEnv) (loc : List Nat) (ops : Array Oper) : List Oper -> CFr -> Loc -> Heap -> (CFr -> Loc -> Heap -> Prop) -> Prop
 | [], fr, L, H, K => K fr L H
 | o :: os, fr, L, H, K => cOper C loc ops o fr L H fun fr L H => cOps C loc ops os fr L H K
def cSteps (C : CEnv) (loc : List Nat) (ops : Array Oper) : List Step -> CFr -> Loc -> Heap -> (CFr -> Loc -> Heap -> Prop) -> Prop
 | [], fr, L, H, K => K fr L H
 | s :: r, fr, L, H, K => cOper C loc ops s.o fr L H fun fr L H => cAsks C ops fr L H s.asks (cSteps C loc ops r fr L H K)
def cReg (C : CEnv) (loc : List Nat) (ops : Array Oper) (draw : Bool) (fr : CFr) (L : Loc) (H : Heap) (K : CFr -> Loc -> Heap -> Prop) : Prop :=
 if draw then (match drawOrd loc ops with | some s => cSteps C loc ops s fr L H K | none => False) else cOps C loc ops ops.toList fr L H K
def jK (J : Jn) (fr : CFr) (L : Loc) (j : J.S -> Heap -> Prop) (K : CK) : CK := fun e fr' L' H' =>
 match e with
 | .normal => jexit J fr fr' L L' fun x => j x H'
 | e => K e fr' L' H'
def comp (C : CEnv) (loc : List Nat) : Code -> Hnt -> CFr -> Loc -> Heap -> CK -> Prop
 | .skip, _, fr, L, H, K => K .normal fr L H
 | .label _, _, fr, L, H, K => K .normal fr L H
 | .region _ ops draw, h, fr, L, H, K =>
  match h.cj with
  | none => cReg C loc ops draw fr L H fun fr L H => K .normal fr L H
  | some J => JOIN (fun j => cReg C loc ops draw fr L H fun fr' L' H' => jexit J fr fr' L L' fun x => j x H') fun x H' => K .normal (J.fr fr x) (J.loc L x) H'
 | .seq a b, h, fr, L, H, K => comp C loc a h.a fr L H fun e fr L H =>
  match e with
  | .normal => comp C loc b h.b fr L H K
  | e => K e fr L H
 | .cond c x y, h, fr, L, H, K =>
  match opV fr c with
  | some (.bool g) =>
   match h.cj with
   | none => ifB g (comp C loc x h.a fr L H K) (comp C loc y h.b fr L H K)
   | some J => JOIN (fun j => ifB g (comp C loc x h.a fr L H (jK J fr L j K)) (comp C loc y h.b fr L H (jK J fr L j K))) fun x H' => K .normal (J.fr fr x) (J.loc L x) H'
  | _ => False
 | .block id c, h, fr, L, H, K =>
  match h.cj with
  | none => comp C loc c h.a fr L H fun e fr L H =>
   match e with
   | .exit i => if i = id then K .normal fr L H else K (.exit i) fr L H
   | e => K e fr L H
  | some J => JOIN (fun j => comp C loc c h.a fr L H fun e fr' L' H' =>
   match e with
   | .normal => jexit J fr fr' L L' fun x => j x H'
   | .exit i => if i = id then jexit J fr fr' L L' fun x => j x H' else K (.exit i) fr' L' H'
   | e => K e fr' L' H') fun x H' => K .normal (J.fr fr x) (J.loc L x) H'
 | .loop c, h, fr, L, H, K =>
  match h.cj with
  | some J =>
   match jgetS fr J.sl, jgetL L J.lo with
   | some a, some b => LOOP (fun rec (s : J.S) H => comp C loc c h.a (J.fr fr s) (J.loc L s) H (jK J (J.fr fr s) (J.loc L s) rec K)) (a, b) H
   | _, _ => False
  | none => False
 | .rangeFunc g ps asg body, h, fr, L, H, K =>
  match L, opV fr g, cVals fr.l, h.cj with
  | [], some f, some _, some J =>
   if (J.sl.map (·.1) == ps.toList && (ps.toList.all fun t => decide (t < fr.n)) && (noRF asg && noRF body)) = true then
    RFV C.P (J.sl.map (·.2)) f H (fun lb x H1 k => comp C loc asg .leaf ⟨fr.n, jputA J.sl x fr.l⟩ [] H1 fun e fr2 L2 H2 => match e with
     | .normal => REQ (H2[H.length]? = some (lb .ready none)) (comp C loc body h.a fr2 L2 (H2.set H.length (lb .busy none)) fun e _ _ H3 => k e H3)
     | _ => False) fun e H' => RFX (.normal :: J.clr.map .exit) e fun x => K x fr [] H'
   else False
  | _, _, _, _ => False
 | .scope c, h, fr, L, H, K => comp C loc c h fr L H K
 | .exit id, _, fr, L, H, K => K (.exit id) fr L H
 | .ret, _, fr, L, H, K => K .ret fr L H
 | _, _, _, _, _, _ => False
def cRes (C : CEnv) (fr : CFr) (L : Loc) : List ResultVar -> Option (List Value)
 | [] => some []
 | .tmp t :: r => match cget fr.l t, cRes C fr L r with | some (.v v), some vs => some (v :: vs) | _, _ => none
 | .cell a t :: r =>
  match cget fr.l a, C.E.ty t, cRes C fr L r with
  | some (.lp i off), some ti, some vs =>
   match L[i]? with
   | some (_, cs) => if off + ti.size ≤ cs.length then match ofCells ti.k ((cs.drop off).take ti.size) with | some v => some (v :: vs) | none => none else none
   | none => none
  | _, _, _ => none
def decs : (ts : List Tag) -> List Value -> Option (Tup ts)
 | [], [] => some ()
 | t :: r, v :: vs => match t.dec v, decs r vs with | some x, some y => some (x, y) | _, _ => none
 | _, _ => none
def cRet (rs : List Tag) (vs : List Value) (k : Tup rs -> Prop) : Prop := match decs rs vs with | some x => k x | none => False
def cEnterL : Nat -> List Value -> List (Nat × Option Sv)
 | _, [] => []
 | i, v :: r => (i, some (.v v)) :: cEnterL (i + 1) r
def cEnter (ntmps : Nat) (args : List Value) : CFr := ⟨args.length + (ntmps - args.length), cEnterL 0 args⟩
def cFn (C : CEnv) (loc : List Nat) (ntmps : Nat) (rvs : List ResultVar) (rs : List Tag) (c : Code) (h : Hnt) (args : List Value) (H : Heap) (Q : Tup rs -> Heap -> Prop) : Prop :=
 comp C loc c h (cEnter ntmps args) [] H fun e fr L H =>
  match e with
  | .exit _ => False
  | _ => match cRes C fr L rvs with
   | some vs => cRet rs vs fun x => Q x H
   | none => False
end Go.Proofs.YtolekmhhkopooaaGreatDoor.Zq
end
section
namespace Go.Proofs.YtolekmhhkopooaaGreatDoor.Zq
variable {P : Program} {M M' M'' : Mp} {H H' H'' : Heap} {w w' w'' : World}
abbrev Ml := List (Option Ent)
def SvR (M : Mp) (ML : Ml) : Sv -> Value -> Prop
 | .v v, u => VR M v u
 | .lp i off, u => ∃ e, ML[i]? = some (some e) ∧ u = .pointer (some ⟨e.blk, e.base + off, none⟩)
 | .ls i n, u => ∃ e, ML[i]? = some (some e) ∧ u = .slice (some ⟨e.blk, e.base, none⟩) n n
structure LR (M : Mp) (H : Heap) (L : Loc) (ML : Ml) (w : World) : Prop where
 len : ML.length = L.length
 loc : ∀ (i : Nat) (e : Ent) (n : Nat) (cs : List Value), ML[i]? = some (some e) -> L[i]? = some (n, cs) -> e.opn = false ∧ BR M e (.row cs e.sz false false true) w
 sep1 : ∀ (i j : Nat) (e e' : Ent), i ≠ j -> ML[i]? = some (some e) -> ML[j]? = some (some e') -> e.blk ≠ e'.blk
 sep2 : ∀ (i : Nat) (e : Ent), ML[i]? = some (some e) -> ∀ (b : Nat) (e' : Ent), M[b]? = some (some e') -> liveB H b -> e'.blk ≠ e.blk
structure FS (M : Mp) (ML : Ml) (fr : CFr) (tmps : Array Value) : Prop where
 size : tmps.size = fr.n
 get : ∀ t s, cget fr.l t = some s -> SvR M ML s (tmps.getD t undef)
structure StpL (M : Mp) (H : Heap) (ML : Ml) (w : World) (M' : Mp) (H' : Heap) (w' : World) : Prop where
 ext : Ext M M'
 hr : HR M' H' w'
 os : w'.os = w.os
 output : w'.output = w.output
 tape : w'.tape = w.tape
 size : w.heap.size ≤ w'.heap.size
 dr : w.drawn ≤ w'.drawn
 frame : ∀ c : Nat, c < w.heap.size -> (∀ (b : Nat) (e : Ent), M[b]? = some (some e) -> writB H b -> e.blk ≠ c) -> (∀ (i : Nat) (e : Ent), ML[i]? = some (some e) -> e.blk ≠ c) -> w'.heap[c]? = w.heap[c]?
 wm : ∀ (b : Nat) (e : Ent), M'[b]? = some (some e) -> writB H' b -> e.blk < w.heap.size -> ∃ (b0 : Nat) (e0 : Ent), M[b0]? = some (some e0) ∧ writB H b0 ∧ e0.blk = e.blk
 keep : ∀ b : Nat, M[b]? = some none -> M'[b]? = some none ∧ H'[b]? = H[b]?
 lm : ∀ (b : Nat) (e : Ent), M'[b]? = some (some e) -> liveB H' b -> e.blk < w.heap.size -> ∃ (b0 : Nat) (e0 : Ent), M[b0]? = some (some e0) ∧ liveB H b0 ∧ e0.blk = e.blk
def MLx (ML ML' : Ml) (w : World) : Prop := ∀ (i : Nat) (e : Ent), ML'[i]? = some (some e) -> (∃ j : Nat, ML[j]? = some (some e)) ∨ w.heap.size ≤ e.blk
theorem MLx.refl (ML : Ml) (w : World) : MLx ML ML w := fun i _ h => .inl ⟨i, h⟩
theorem MLx.trans {ML ML' ML'' : Ml} (h : MLx ML ML' w) (hs : w.heap.size ≤ w'.heap.size) (k : MLx ML' ML'' w') : MLx ML ML'' w := fun i e he => by
 rcases k i e he with ⟨j, hj⟩ | hj
 ·exact h j e hj
 ·exact .inr (by omega)
theorem Stp.toL (h : Stp M H w M' H' w') (ML : Ml) : StpL M H ML w M' H' w' :=
 ⟨h.ext, h.hr, h.os, h.output, h.tape, h.size, h.dr, fun c hc hn _ => h.frame c hc hn, h.wm, h.keep, h.lm⟩
theorem StpL.refl (h : HR M H w) (ML : Ml) : StpL M H ML w M H w := (Stp.refl h).toL ML
theorem StpL.toStp {ML : Ml} (h : StpL M H ML w M' H' w') (hn : ∀ (i : Nat) (e : Ent), ML[i]? = some (some e) -> False) : Stp M H w M' H' w' :=
 ⟨h.ext, h.hr, h.os, h.output, h.tape, h.size, h.dr, fun c hc h1 => h.frame c hc h1 fun i e he => (hn i e he).elim, h.wm, h.keep, h.lm⟩
theorem StpL.trans {ML ML' : Ml} (h : StpL M H ML w M' H' w') (x : MLx ML ML' w) (k : StpL M' H' ML' w' M'' H'' w'') : StpL M H ML w M'' H'' w'' where
 ext := h.ext.trans k.ext
 hr := k.hr
 os := k.os.trans h.os
 output := k.output.trans h.output
 tape := k.tape.trans h.tape
 size := Nat.le_trans h.size k.size
 dr := Nat.le_trans h.dr k.dr
 frame c hc hn hl := by
  rw [k.frame c (Nat.lt_of_lt_of_le hc h.size) ?_ ?_, h.frame c hc hn hl]
  ·intro b e hb hw he
   obtain ⟨b0, e0, h0, w0, q⟩ := h.wm b e hb hw (by omega)
   exact hn b0 e0 h0 w0 (q.trans he)
  ·intro i e hi he
   rcases x i e hi with ⟨j, hj⟩ | hj
   ·exact hl j e hj he
   ·omega
 wm b e hb hw hlt := by
  obtain ⟨b1, e1, h1, w1, q1⟩ := k.wm b e hb hw (Nat.lt_of_lt_of_le hlt h.size)
  obtain ⟨b0, e0, h0, w0, q0⟩ := h.wm b1 e1 h1 w1 (by omega)
  exact ⟨b0, e0, h0, w0, q0.trans q1⟩
 keep b hb := by
  obtain ⟨h1, h2⟩ := h.keep b hb
  obtain ⟨k1, k2⟩ := k.keep b h1
  exact ⟨k1, k2.trans h2⟩
 lm b e hb hw hlt := by
  obtain ⟨b1, e1, h1, w1, q1⟩ := k.lm b e hb hw (Nat.lt_of_lt_of_le hlt h.size)
  obtain ⟨b0, e0, h0, w0, q0⟩ := h.lm b1 e1 h1 w1 (by omega)
  exact ⟨b0, e0, h0, w0, q0.trans q1⟩
structure LSt (M : Mp) (H : Heap) (ML : Ml) (w : World) (M' : Mp) (H' : Heap) (ML' : Ml) (w' : World) : Prop where
 st : StpL M H ML w M' H' w'
 mx : MLx ML ML' w
theorem LSt.refl (h : HR M H w) (ML : Ml) : LSt M H ML w M H ML w := ⟨.refl h ML, .refl ML w⟩
theorem LSt.trans {ML ML' ML'' : Ml} (h : LSt M H ML w M' H' ML' w') (k : LSt M' H' ML' w' M'' H'' ML'' w'') : LSt M H ML w M'' H'' ML'' w'' :=
 ⟨h.st.trans h.mx k.st, h.mx.trans h.st.size k.mx⟩
theorem Stp.toLSt (h : Stp M H w M' H' w') (ML : Ml) : LSt M H ML w M' H' ML w' := ⟨h.toL ML, .refl ML w⟩
theorem row_lt {e : Ent} {cs : List Value} {sz : Nat} {o r : Bool} (h : BR M e (.row cs sz o r true) w) : e.blk < w.heap.size := by
 obtain ⟨_, _, _, h4⟩ := h
 obtain ⟨c, t, fz, a, _⟩ := h4 rfl
 exact (Array.getElem?_eq_some_iff.1 a).1
theorem LR.lt {L : Loc} {ML : Ml} (l : LR M H L ML w) {i : Nat} {e : Ent} (hi : ML[i]? = some (some e)) : e.blk < w.heap.size := by
 have h1 : i < ML.length := (List.getElem?_eq_some_iff.1 hi).1
 rw [l.len] at h1
 exact row_lt (l.loc i e (L[i]).1 (L[i]).2 hi (by rw [List.getElem?_eq_getElem h1])).2
theorem LR.step {L : Loc} {ML : Ml} (l : LR M H L ML w) (s : Stp M H w M' H' w') : LR M' H' L ML w' := by
 refine ⟨l.len, fun i e n cs hi hL => ?_, l.sep1, fun i e hi b e' hb hl he => ?_⟩
 ·obtain ⟨q1, q2⟩ := l.loc i e n cs hi hL
  refine ⟨q1, (q2.mono s.ext).same fun _ => s.frame e.blk (row_lt q2) fun b e' hb hw => l.sep2 i e hi b e' hb hw.live⟩
 ·have := l.lt hi
  obtain ⟨b0, e0, h0, w0, q⟩ := s.lm b e' hb hl (by omega)
  exact l.sep2 i e hi b0 e0 h0 w0 (q.trans he)
theorem SvR.mono {ML : Ml} {s : Sv} {u : Value} (h : SvR M ML s u) (x : Ext M M') : SvR M' ML s u := by
 cases s with
 | v v => exact VR.mono x h
 | lp i off => exact h
 | ls i n => exact h
theorem FS.step {ML : Ml} {fr : CFr} {tmps : Array Value} (f : FS M ML fr tmps) (x : Ext M M') : FS M' ML fr tmps := ⟨f.size, fun t s h => (f.get t s h).mono x⟩
theorem SvR.app {ML N : Ml} {s : Sv} {u : Value} (h : SvR M ML s u) : SvR M (ML ++ N) s u := by
 cases s with
 | v v => exact h
 | lp i off =>
  obtain ⟨e, h1, h2⟩ := h
  have := (List.getElem?_eq_some_iff.1 h1).1
  exact ⟨e, by rw [List.getElem?_append_left this]; exact h1, h2⟩
 | ls i n =>
  obtain ⟨e, h1, h2⟩ := h
  have := (List.getElem?_eq_some_iff.1 h1).1
  exact ⟨e, by rw [List.getElem?_append_left this]; exact h1, h2⟩
theorem FS.app {ML N : Ml} {fr : CFr} {tmps : Array Value} (f : FS M ML fr tmps) : FS M (ML ++ N) fr tmps := ⟨f.size, fun t s h => (f.get t s h).app⟩
theorem FS.put {ML : Ml} {fr : CFr} {tmps : Array Value} (f : FS M ML fr tmps) {d : Nat} (hd : d < fr.n) {s : Sv} {u : Value} (hs : SvR M ML s u) : FS M ML (fr.put d s) (tmps.setIfInBounds d u) := by
 refine ⟨by simpa [CFr.put] using f.size, fun t s' h => ?_⟩
 simp only [CFr.put, cget] at h
 split at h
 ·rename_i e
  subst e
  simp at h; subst h
  have : d < tmps.size := by rw [f.size]; exact hd
  simpa [Array.getD, this] using hs
 ·rename_i e
  have := f.get t s' h
  simpa only [Array.getD_eq_getD_getElem?, Array.getElem?_setIfInBounds, if_neg e] using this
theorem FS.again {ML : Ml} {fr : CFr} {tmps : Array Value} (f : FS M ML fr tmps) {d : Nat} {s : Sv} (hs : SvR M ML s (tmps.getD d undef)) : FS M ML (fr.put d s) tmps := by
 refine ⟨by simpa [CFr.put] using f.size, fun t s' h => ?_⟩
 simp only [CFr.put, cget] at h
 split at h
 ·rename_i e
  subst e
  simp at h; subst h
  exact hs
 ·exact f.get t s' h
theorem FS.put? {ML : Ml} {fr : CFr} {a : Act} (f : FS M ML fr a.tmps) {d : Option Nat} (hd : cPutOk fr d = true) {s : Sv} {u : Value} (hs : SvR M ML s u) : FS M ML (fr.put? d s) (a.put d u).tmps := by
 cases d with
 | none => exact f
 | some d => exact f.put (by simpa [cPutOk] using hd) hs
theorem LR.new {L : Loc} {ML : Ml} (h : HR M H w) (l : LR M H L ML w) {cs : List Value} {c : Array Value} (t : TypeId) (sz : Nat) (hn : cs.length ≤ c.size) (hv : VL M cs (c.toList.take cs.length)) :
  LSt M H ML w M H (ML ++ [some ⟨w.heap.size, 0, false, cs.length, sz, c.size⟩]) (w.alloc (.cells c t (0, 0))) ∧
  LR M H (L ++ [(0, cs)]) (ML ++ [some ⟨w.heap.size, 0, false, cs.length, sz, c.size⟩]) (w.alloc (.cells c t (0, 0))) := by
 have hs := Stp.hidden h (.cells c t (0, 0))
 have l' := l.step hs
 have hnew : ∀ (i : Nat) (e : Ent), (ML ++ [some (⟨w.heap.size, 0, false, cs.length, sz, c.size⟩ : Ent)])[i]? = some (some e) -> (ML[i]? = some (some e) ∧ i < ML.length) ∨ (i = ML.length ∧ e = ⟨w.heap.size, 0, false, cs.length, sz, c.size⟩) := by
  intro i e hi
  by_cases hl : i < ML.length
  ·rw [List.getElem?_append_left hl] at hi; exact .inl ⟨hi, hl⟩
  ·rw [List.getElem?_append_right (by omega)] at hi
   by_cases e0 : i = ML.length
   ·subst e0; simp at hi; exact .inr ⟨rfl, hi.symm⟩
   ·cases hq : i - ML.length with
    | zero => omega
    | succ q => rw [hq] at hi; simp at hi
 have hw : (w.alloc (.cells c t (0, 0))).heap[w.heap.size]? = some (.cells c t (0, 0)) := by
  show (w.heap.push _)[w.heap.size]? = _
  rw [Array.getElem?_push, if_pos rfl]
 refine ⟨⟨hs.toL ML, fun i e hi => ?_⟩, by simp [l.len], fun i e n cs' hi hL => ?_, fun i j e e' hne hi hj => ?_, fun i e hi b e' hb hl => ?_⟩
 ·rcases hnew i e hi with ⟨h1, _⟩ | ⟨_, rfl⟩
  ·exact .inl ⟨i, h1⟩
  ·exact .inr (Nat.le_refl _)
 ·rcases hnew i e hi with ⟨h1, h2⟩ | ⟨rfl, rfl⟩
  ·rw [List.getElem?_append_left (by rw [← l.len]; exact h2)] at hL
   exact l'.loc i e n cs' h1 hL
  ·rw [l.len, List.getElem?_append_right (Nat.le_refl _)] at hL
   simp at hL; obtain ⟨_, rfl⟩ := hL
   exact ⟨rfl, rfl, rfl, rfl, fun _ => ⟨c, t, (0, 0), hw, rfl, by simpa using hn, by simpa using hv, fun _ => rfl⟩⟩
 ·rcases hnew i e hi with ⟨h1, h2⟩ | ⟨q1, q2⟩ <;> rcases hnew j e' hj with ⟨h3, h4⟩ | ⟨q3, q4⟩
  ·exact l.sep1 i j e e' hne h1 h3
  ·have := l.lt h1; rw [q4]; simp; omega
  ·have := l.lt h3; rw [q2]; simp; omega
  ·exact absurd (q1.trans q3.symm) hne
 ·rcases hnew i e hi with ⟨h1, h2⟩ | ⟨_, rfl⟩
  ·exact l.sep2 i e h1 b e' hb hl
  ·have := h.blk_lt hb hl
   show e'.blk ≠ w.heap.size; omega
theorem alloc_run {E : Env} (hE : E.Ok P) {t : TypeId} {ti : TI} (ht : E.ty t = some ti) :
  ∃ c : Array Value, (Instr.alloc t true (.tuple #[])).run P w = .ok (.pointer (some ⟨w.heap.size, 0, none⟩)) (w.alloc (.cells c t (0, 0))) ∧ ti.zero.length ≤ c.size ∧ VL M ti.zero (c.toList.take ti.zero.length) := by
 obtain ⟨i, d, z, T⟩ := hE.ty t ti ht
 have hz : ti.zero.length = z.cells.size := by rw [← T.cells]; simp
 refine ⟨z.cells, by simp [Instr.alloc, T.run_zero, newVar_run], Nat.le_of_eq hz, ?_⟩
 rw [hz, List.take_of_length_le (by simp)]; exact T.vl M
theorem box_run {t : TypeId} {x x' : Value} (hx : VR M x x') :
  (Instr.box t x').run P w = .ok (.pointer (some ⟨w.heap.size, 0, none⟩)) (w.alloc (.cells x'.cells t (0, 0))) ∧ x.cells.toList.length ≤ x'.cells.size ∧ VL M x.cells.toList (x'.cells.toList.take x.cells.toList.length) := by
 have hc := hx.cells
 have := hc.1
 refine ⟨by simp [Instr.box, newVar_run], by simp at this; simp; omega, ?_⟩
 rw [List.take_of_length_le (by simp at this; simp; omega)]; exact hc
theorem buildSlice_run {E : Env} (hE : E.Ok P) {t : TypeId} {n : Nat} {ps : List (Nat × Value)} {qs : Array (Nat × Value)} {v : Value} (hp : PL M ps qs.toList) (hl : aBuildSlice E t n ps H = some (v, H')) :
  ∃ cs sz c ty, v = .slice (some ⟨H.length, 0, none⟩) n n ∧ H' = mk H cs sz false ∧ (Instr.buildSlice t n qs).run P w = .ok (.slice (some ⟨w.heap.size, 0, none⟩) n n) (w.alloc (.cells c ty (0, 0))) ∧
   cs.length ≤ c.size ∧ VL M cs (c.toList.take cs.length) := by
 unfold aBuildSlice at hl
 obtain ⟨ti, ht, hl⟩ := some_bind hl
 obtain ⟨i, d, z, T⟩ := hE.ty _ _ ht
 have hk := T.k
 split at hl
 ·rename_i e he
  rw [he] at hk
  obtain ⟨te, hte, hl⟩ := some_bind hl
  obtain ⟨i2, d2, z2, T2⟩ := hE.ty _ _ hte
  split at hl
  ·rename_i hb
   obtain ⟨cs, hf, hl⟩ := some_bind hl
   simp at hl; obtain ⟨rfl, rfl⟩ := hl
   cases d with
   | slice e' =>
    have hk : e = e' := hk
    subst hk
    have hv := zeros_vl (M := M) T2 n
    obtain ⟨r', h1, h2⟩ := fill_ok (place' := fun i => some (i * te.size, te.size)) (us := madeCells z2.cells (n * te.size)) (M := M) (fun _ _ hx => hx) hp hv hf
    refine ⟨cs, te.size, r', e, rfl, rfl, ?_, Nat.le_of_eq (by have := h2.1; simpa using this), ?_⟩
    ·have hb' : ¬ n * te.size > 2 ^ 24 := by omega
     by_cases h0 : n * te.size = 0
     ·have hm : madeCells z2.cells (n * te.size) = #[] := by simp [madeCells, h0, Array.range_zero']
      rw [hm] at h1
      have hq : (Array.map (fun x => (#[] : Array Value)[x % (#[] : Array Value).size]!) (Array.range (n * te.size))) = #[] := by simp [h0, Array.range_zero']
      simp only [h0] at hq
      simp only [Instr.buildSlice, Sem.run_bind, T.run_und, Result.andThen_ok, T2.run_size, h0]
      rw [if_neg (by decide)]
      simp only [Sem.run_bind, Sem.run_pure, Result.andThen_ok, if_true, hq, h1, newRow, run_newObj]
      rfl
     ·simp only [Instr.buildSlice, Sem.run_bind, T.run_und, Result.andThen_ok, T2.run_size, hb', if_false, Sem.run_pure, h0, T2.run_zero]
      unfold madeCells at h1
      simp only [h1, newRow, Sem.run_bind, run_newObj, Result.andThen_ok, Sem.run_pure]
      rfl
    ·rw [List.take_of_length_le (by have := h2.1; simp at this ⊢; omega)]
     exact h2
   | _ => exact hk.elim
  ·simp at hl
 ·simp at hl
theorem loc_cells {L : Loc} {ML : Ml} (l : LR M H L ML w) {i n : Nat} {e : Ent} {cs : List Value} (hi : ML[i]? = some (some e)) (hL : L[i]? = some (n, cs)) :
  ∃ c t, w.heap[e.blk]? = some (.cells c t (0, 0)) ∧ c.size = e.csz ∧ e.base + cs.length ≤ c.size ∧ VL M cs ((c.toList.drop e.base).take cs.length) := by
 obtain ⟨_, _, _, _, h4⟩ := l.loc i e n cs hi hL
 obtain ⟨c, t, fz, a, b, d, f, g⟩ := h4 rfl
 have := g rfl; subst this
 exact ⟨c, t, a, b, d, f⟩
theorem locLoad_ok {E : Env} (hE : E.Ok P) {L : Loc} {ML : Ml} (l : LR M H L ML w) {i n off : Nat} {e : Ent} {cs : List Value} {t : TypeId} {ti : TI} {v : Value} (hi : ML[i]? = some (some e)) (hL : L[i]? = some (n, cs))
  (ht : E.ty t = some ti) (ho : off + ti.size ≤ cs.length) (hv : ofCells ti.k ((cs.drop off).take ti.size) = some v) :
  ∃ u, (loadVar t ⟨e.blk, e.base + off, none⟩).run P w = .ok u w ∧ VR M v u := by
 obtain ⟨ii, d, z, T⟩ := hE.ty t ti ht
 obtain ⟨c, ty, hw, _, hb, hvl⟩ := loc_cells l hi hL
 have hus := (hvl.drop off).take ti.size
 obtain ⟨u, g1, g2, g3⟩ := ofCells_ok hus hv
 have hl : (((c.toList.drop e.base).take cs.length).drop off |>.take ti.size).length = ti.size := by simp; omega
 have hget : ∀ (j : Nat) (u : Value), (((c.toList.drop e.base).take cs.length).drop off |>.take ti.size)[j]? = some u -> w.cell? ⟨e.blk, e.base + off + j, none⟩ = some u := by
  intro j v hv
  simp only [List.getElem?_take, List.getElem?_drop] at hv
  split at hv
  ·split at hv
   ·simp only [World.cell?, hw]
    simp only [Array.getElem?_toList] at hv
    simpa [Nat.add_assoc] using hv
   ·simp at hv
  ·simp at hv
 refine ⟨u, ?_, g1⟩
 simp only [loadVar, Sem.run_bind, T.run_isAgg, Result.andThen_ok]
 cases hk : isAggK ti.k with
 | true =>
  have := run_loadCells_list (P := P) w ⟨e.blk, e.base + off, none⟩ (((c.toList.drop e.base).take cs.length).drop off |>.take ti.size) (fun j v hv => by rw [add_none]; exact hget j v hv)
  rw [hl] at this
  simp [T.run_size, this, g2 hk]
 | false =>
  have hu := g3 hk
  have hc := hget 0 u (by rw [hu]; rfl)
  simp only [Nat.add_zero] at hc
  simp [hc]
theorem locStore_ok {E : Env} (hE : E.Ok P) {L : Loc} {ML : Ml} (h : HR M H w) (l : LR M H L ML w) {i n off : Nat} {e : Ent} {cs : List Value} {t : TypeId} {ti : TI} {v v' : Value} (hi : ML[i]? = some (some e)) (hL : L[i]? = some (n, cs))
  (ht : E.ty t = some ti) (hlen : v.cells.toList.length = ti.size) (ho : off + ti.size ≤ cs.length) (hc1 : v.cells.toList.all cell1 = true) (hv : VR M v v') :
  ∃ w', (Instr.storeAt t (.pointer (some ⟨e.blk, e.base + off, none⟩)) v').run P w = .ok () w' ∧ LSt M H ML w M H ML w' ∧ LR M H (L.set i (n + 1, patch cs off v.cells.toList)) ML w' := by
 obtain ⟨ii, d, z, T⟩ := hE.ty t ti ht
 obtain ⟨c, ty, hw, hsz, hb, hvl⟩ := loc_cells l hi hL
 have hvc := hv.cells
 generalize hus : v'.cells.toList = us at hvc
 have hul : us.length = ti.size := by rw [← hvc.1]; exact hlen
 have hone : ∀ u ∈ us, u.oneCell' = true := by
  intro u hu
  obtain ⟨j, hj⟩ := List.mem_iff_getElem?.1 hu
  have hjl : j < v.cells.toList.length := by rw [hvc.1]; exact (List.getElem?_eq_some_iff.1 hj).1
  have hx : v.cells.toList[j]? = some v.cells.toList[j] := List.getElem?_eq_getElem hjl
  rw [← (hvc.2 j _ _ hx hj).cell1]
  exact List.all_eq_true.1 hc1 _ (List.mem_of_getElem? hx)
 have hst := run_storeCells_at P e.blk (e.base + off) ty us 0 c w hw (by omega) hone
 have hblt : e.blk < w.heap.size := (Array.getElem?_eq_some_iff.1 hw).1
 generalize hW : w.setRow e.blk (c.toList.take (e.base + off + 0) ++ us ++ c.toList.drop (e.base + off + 0 + us.length)).toArray = W at hst
 have hWe : W.heap[e.blk]? = some (.cells (c.toList.take (e.base + off) ++ us ++ c.toList.drop (e.base + off + us.length)).toArray ty (0, 0)) := by
  rw [← hW]; simpa using setRow_heap w e.blk c _ ty (0, 0) hw
 have hWo : ∀ k, k ≠ e.blk -> W.heap[k]? = w.heap[k]? := by
  intro k hne
  rw [← hW]; unfold World.setRow; simp only [Array.getElem?_modify]; rw [if_neg (Ne.symm hne)]
 have hWs : W.heap.size = w.heap.size := by rw [← hW]; simp [World.setRow]
 have hWos : W.os = w.os := by rw [← hW]; rfl
 have hWout : W.output = w.output := by rw [← hW]; rfl
 have hWt : W.tape = w.tape := by rw [← hW]; rfl
 have hWd : w.drawn ≤ W.drawn := by rw [← hW]; exact Nat.le_refl _
 have hr' : HR M H W := ⟨h.len, fun b e' k hb hk => (h.blk b e' k hb hk).same fun hlv => hWo _ (l.sep2 i e hi b e' hb (by unfold liveB; rw [hk]; cases k <;> first | exact hlv | trivial)), h.sep⟩
 refine ⟨W, ?_, ⟨⟨.refl M, hr', hWos, hWout, hWt, by omega, hWd, fun k hk h1 h2 => hWo k fun e0 => h2 i e hi e0.symm, fun b e' hb hw' _ => ⟨b, e', hb, hw', rfl⟩, fun b hb => ⟨hb, rfl⟩, fun b e' hb hl _ => ⟨b, e', hb, hl, rfl⟩⟩, .refl ML w⟩,
  by simp [l.len], fun j ej m cs' hj hLj => ?_, l.sep1, l.sep2⟩
 ·have hcs : v'.cells.size = ti.size := by rw [← hul, ← hus]; simp
  simp only [Instr.storeAt, Instr.sureAddr, storeVar, Sem.run_bind, Sem.run_pure, Result.andThen_ok, T.run_size, hcs]
  simp [hus, hst]
 ·by_cases hji : j = i
  ·subst hji
   have hlt : j < L.length := (List.getElem?_eq_some_iff.1 hL).1
   rw [List.getElem?_set_self hlt] at hLj
   simp at hLj; obtain ⟨_, rfl⟩ := hLj
   rw [hi] at hj; simp at hj; subst hj
   obtain ⟨q1, q2, q3, q4, _⟩ := l.loc j e n cs hi hL
   have hpl : (patch cs off v.cells.toList).length = cs.length := by unfold patch; simp at hlen ⊢; omega
   refine ⟨q1, q2, by rw [hpl]; exact q3, q4, fun _ => ⟨_, ty, (0, 0), hWe, by simp; omega, by rw [hpl]; simp; omega, ?_, fun _ => rfl⟩⟩
   rw [hpl]
   have e2 := take_drop_patch c.toList us e.base off cs.length (by omega) (by simpa using hb)
   have e3 : (c.toList.take (e.base + off) ++ us ++ c.toList.drop (e.base + off + us.length)).toArray.toList = (c.toList.take (e.base + off) ++ us ++ c.toList.drop (e.base + off + us.length)) := rfl
   rw [e3, e2]
   exact hvl.patch hvc off
  ·rw [List.getElem?_set_ne (Ne.symm hji)] at hLj
   obtain ⟨q1, q2⟩ := l.loc j ej m cs' hj hLj
   exact ⟨q1, q2.same fun _ => hWo _ (l.sep1 j i ej e hji hj hi)⟩
end Go.Proofs.YtolekmhhkopooaaGreatDoor.Zq
end
section
namespace Go.Proofs.YtolekmhhkopooaaGreatDoor.Zq
variable {C : CEnv} {M M' : Mp} {H H' : Heap} {w w' : World} {L : Loc} {ML : Ml} {fr : CFr} {a : Act} {ro : Option Nat} {n : Nat} {Q : Exit -> Act -> World -> Prop} {Kw : Act -> World -> Prop} {loc : List Nat}
def LRel (L L' : Loc) : Prop := L.length ≤ L'.length ∧ ∀ (i n : Nat) (cs : List Value) (m : Nat) (cs' : List Value), L[i]? = some (n, cs) -> L'[i]? = some (m, cs') -> n ≤ m ∧ (m = n -> cs' = cs)
theorem LRel.refl (L : Loc) : LRel L L := ⟨Nat.le_refl _, fun i n cs m cs' h h' => by rw [h] at h'; simp at h'; exact ⟨by omega, fun _ => h'.2.symm⟩⟩
theorem LRel.trans {L L' L'' : Loc} (h : LRel L L') (k : LRel L' L'') : LRel L L'' := by
 refine ⟨Nat.le_trans h.1 k.1, fun i n cs m cs' h1 h2 => ?_⟩
 have hi : i < L'.length := Nat.lt_of_lt_of_le (List.getElem?_eq_some_iff.1 h1).1 h.1
 obtain ⟨a1, a2⟩ := h.2 i n cs (L'[i]).1 (L'[i]).2 h1 (by rw [List.getElem?_eq_getElem hi])
 obtain ⟨b1, b2⟩ := k.2 i (L'[i]).1 (L'[i]).2 m cs' (by rw [List.getElem?_eq_getElem hi]) h2
 exact ⟨by omega, fun e => by rw [b2 (by omega), a2 (by omega)]⟩
theorem LRel.app (L N : Loc) : LRel L (L ++ N) := ⟨by simp, fun i n cs m cs' h h' => by
 have hi := (List.getElem?_eq_some_iff.1 h).1
 rw [List.getElem?_append_left hi, h] at h'; simp at h'; exact ⟨by omega, fun _ => h'.2.symm⟩⟩
theorem LRel.set {i n : Nat} {cs cs' : List Value} (h : L[i]? = some (n, cs)) : LRel L (L.set i (n + 1, cs')) := ⟨by simp, fun j p ds q ds' h1 h2 => by
 by_cases e : j = i
 ·subst e
  have hi := (List.getElem?_eq_some_iff.1 h1).1
  rw [List.getElem?_set_self hi] at h2
  rw [h] at h1; simp at h1 h2
  exact ⟨by omega, fun e => by omega⟩
 ·rw [List.getElem?_set_ne (Ne.symm e), h1] at h2; simp at h2; exact ⟨by omega, fun _ => h2.2.symm⟩⟩
def Aft (M : Mp) (H : Heap) (L : Loc) (ML : Ml) (w : World) (fr : CFr) (a : Act) (M' : Mp) (H' : Heap) (L' : Loc) (ML' : Ml) (w' : World) : Prop :=
 LSt M H ML w M' H' ML' w' ∧ LR M' H' L' ML' w' ∧ FS M' ML' fr a.tmps ∧ LRel L L' ∧ (∃ N, ML' = ML ++ N) ∧ ∀ j : Nat, ML[j]? = some none -> L'[j]? = L[j]?
theorem wp_of_run {P : Program} {o : Oper} {s : Sem Value} {u : Value} (hd : ∀ c, o.op ≠ .defer c) (hs : execOp a.eval o = (do pure (.value (← s)))) (hr : s.run P w = .ok u w') (hK : Kw (a.put o.dst u) w') : o.wpIn (Fw ro) n P a w Kw Q := by
 refine ⟨fun _ _ => trivial, ?_⟩
 rw [Oper.semAt_eq _ _ _ hd, hs]
 simp only [Sem.run_bind, hr, Result.andThen_ok, Sem.run_pure]
 exact hK
theorem flat_ok {x : Operand} {s : Sv} (f : FS M ML fr a.tmps) (hx : opS fr x = some s) : SvR M ML s (a.eval x) := by
 cases x with
 | tmp t => exact f.get t s hx
 | const u =>
  simp only [opS] at hx
  split at hx
  ·rename_i hf; simp at hx; subst hx; exact VR.flat hf
  ·simp at hx
 | global g => simp [opS] at hx
 | func g =>
  simp [opS] at hx; subst hx
  exact .func rfl rfl (fun i x u h _ => by simp at h) (fun i x u h _ => by simp at h)
theorem opV_some {x : Operand} {v : Value} (h : opV fr x = some v) : opS fr x = some (.v v) := by
 unfold opV at h
 split at h
 ·rename_i u hu; simp at h; subst h; exact hu
 ·simp at h
theorem cV_ok {x : Operand} {v : Value} (f : FS M ML fr a.tmps) (hx : opV fr x = some v) : VR M v (a.eval x) := flat_ok f (opV_some hx)
theorem cVs_ok (f : FS M ML fr a.tmps) : ∀ {l : List Operand} {vs : List Value}, opVs fr l = some vs -> VL M vs (l.map a.eval)
 | [], vs, hv => by simp [opVs] at hv; subst hv; exact .nil M
 | x :: l, vs, hv => by
  simp only [opVs] at hv
  split at hv
  ·rename_i v us h1 h2
   simp at hv; subst hv
   exact .cons (cV_ok f h1) (cVs_ok f h2)
  ·simp at hv
theorem cPs_ok (f : FS M ML fr a.tmps) : ∀ {l : List (Nat × Operand)} {ps : List (Nat × Value)}, opPs fr l = some ps -> PL M ps (l.map fun (i, x) => (i, a.eval x))
 | [], ps, hv => by simp [opPs] at hv; subst hv; exact .nil
 | (i, x) :: l, ps, hv => by
  simp only [opPs] at hv
  split at hv
  ·rename_i v us h1 h2
   simp at hv; subst hv
   exact .cons ⟨rfl, cV_ok f h1⟩ (cPs_ok f h2)
  ·simp at hv
theorem cVo_ok (f : FS M ML fr a.tmps) {x : Option Operand} {v : Option Value} (hv : opVo fr x = some v) : OV M v (x.map a.eval) := by
 cases x with
 | none => simp [opVo] at hv; subst hv; exact .none
 | some x =>
  simp only [opVo] at hv
  split at hv
  ·rename_i u h1
   simp at hv; subst hv
   exact .some (cV_ok f h1)
  ·simp at hv
theorem cEq_ok (E : Env) : ∀ d, (∀ t x y b, cEqV E d t x y = some b -> eqV E d t x y = some b) ∧ (∀ fs xs ys b, cEqF E d fs xs ys = some b -> eqFields E d fs xs ys = some b) ∧
  (∀ e size n i xs ys b, cEqE E d e size n i xs ys = some b -> eqElems E d e size n i xs ys = some b)
 | 0 => ⟨fun t x y b h => by simp [cEqV] at h, fun fs xs ys b h => by simp [cEqF] at h, fun e size n i xs ys b h => by simp [cEqE] at h⟩
 | d + 1 => by
  obtain ⟨ih1, ih2, ih3⟩ := cEq_ok E d
  refine ⟨fun t x y b h => ?_, fun fs xs ys b h => ?_, fun e size n i xs ys b h => ?_⟩
  ·unfold cEqV at h; unfold eqV
   split at h
   ·simp at h
   ·rename_i ti ht
    rw [ht]
    simp only [Option.bind_some]
    split at h
    ·rename_i fs xs ys hk; simp only [hk]; exact ih2 _ _ _ _ h
    ·rename_i n e xs ys hk
     simp only [hk]
     split at h
     ·rename_i te hte; rw [hte]; exact ih3 _ _ _ _ _ _ _ h
     ·simp at h
    ·rename_i h1 h2
     split
     ·rename_i fs xs ys hk; exact absurd hk (h1 _ _ _ · rfl rfl)
     ·rename_i n e xs ys hk; exact absurd hk (h2 _ _ _ _ · rfl rfl)
     ·exact h
  ·cases fs with
   | nil => simp [cEqF] at h; subst h; simp [eqFields]
   | cons f r =>
    obtain ⟨o, t⟩ := f
    simp only [cEqF] at h
    simp only [eqFields]
    split at h
    ·rename_i x y hx hy
     rw [hx, hy]
     simp only [Option.bind_some]
     split at h
     ·rename_i b1 c1 h1 h2
      simp at h; subst h
      rw [ih1 _ _ _ _ h1]
      simp only [Option.bind_some]
      cases b1 with
      | true => simpa using ih2 _ _ _ _ h2
      | false => simp
     ·simp at h
    ·simp at h
  ·simp only [cEqE] at h
   simp only [eqElems]
   split at h
   ·simp at h; subst h; rfl
   ·rename_i m
    split at h
    ·rename_i x y hx hy
     rw [hx, hy]
     simp only [Option.bind_some]
     split at h
     ·rename_i b1 c1 h1 h2
      simp at h; subst h
      rw [ih1 _ _ _ _ h1]
      simp only [Option.bind_some]
      cases b1 with
      | true => simpa using ih3 _ _ _ _ _ _ _ h2
      | false => simp
     ·simp at h
    ·simp at h
theorem aBin_eql {E : Env} {t : TypeId} {x y : Value} (q1 : ∀ (ka : IntKind) (a : Int) (kb : IntKind) (b : Int), x = .int ka a -> y = .int kb b -> False) (q2 : ∀ (a b : ByteArray), x = .string a -> y = .string b -> False) :
  aBin E .eql t x y = (eqV E 100 t x y).bind fun b => some (.bool b) := by
 unfold aBin
 split
 ·exact absurd rfl (q1 _ _ _ _ rfl)
 ·exact absurd rfl (q2 _ _ rfl)
 ·rfl
theorem aBin_neq {E : Env} {t : TypeId} {x y : Value} (q1 : ∀ (ka : IntKind) (a : Int) (kb : IntKind) (b : Int), x = .int ka a -> y = .int kb b -> False) (q2 : ∀ (a b : ByteArray), x = .string a -> y = .string b -> False) :
  aBin E .neq t x y = (eqV E 100 t x y).bind fun b => some (.bool !b) := by
 unfold aBin
 split
 ·exact absurd rfl (q1 _ _ _ _ rfl)
 ·exact absurd rfl (q2 _ _ rfl)
 ·rfl
theorem cBin_ok {E : Env} {op : BinOp} {t : TypeId} {x y : Value} {k : Value -> Prop} (h : cBin E op t x y k) : ∃ v, aBin E op t x y = some v ∧ k v := by
 unfold cBin at h
 split at h
 ·rename_i ka a' kb b'
  split at h
  ·obtain ⟨h1, h2⟩ := h; exact ⟨_, by simp [aBin, h1], h2⟩
  ·obtain ⟨h1, h2⟩ := h; exact ⟨_, by simp [aBin, h1], h2⟩
  ·split at h
   ·rename_i hk; obtain ⟨h1, h2⟩ := h; exact ⟨_, by simp [aBin, hk, h1], h2⟩
   ·exact h.elim
  ·split at h
   ·rename_i hk; obtain ⟨h1, h2⟩ := h; exact ⟨_, by simp [aBin, hk, h1], h2⟩
   ·exact h.elim
  ·split at h
   ·rename_i v hv; exact ⟨v, hv, h⟩
   ·exact h.elim
 ·split at h
  ·obtain ⟨h1, h2⟩ := h; exact ⟨_, by simp [aBin, h1], h2⟩
  ·split at h
   ·rename_i v hv; exact ⟨v, hv, h⟩
   ·exact h.elim
 ·rename_i p
  split at h
  ·rename_i ht
   split at h
   ·refine ⟨_, ?_, h⟩; simp only [aBin, eqV, ht, Option.bind_some]; cases p <;> rfl
   ·refine ⟨_, ?_, h⟩; simp only [aBin, eqV, ht, Option.bind_some]; cases p <;> rfl
   ·exact h.elim
  ·exact h.elim
 ·rename_i p n1 n2
  split at h
  ·rename_i ht
   split at h
   ·refine ⟨_, ?_, h⟩; simp only [aBin, eqV, ht, Option.bind_some]; cases p <;> rfl
   ·refine ⟨_, ?_, h⟩; simp only [aBin, eqV, ht, Option.bind_some]; cases p <;> rfl
   ·exact h.elim
  ·exact h.elim
 ·rename_i q1 q2 q3 q4
  cases op with
  | eql =>
   simp only at h
   split at h
   ·rename_i b hb; exact ⟨_, by rw [aBin_eql q1 q2, (cEq_ok E 100).1 _ _ _ _ hb]; rfl, h⟩
   ·exact h.elim
  | neq =>
   simp only at h
   split at h
   ·rename_i b hb; exact ⟨_, by rw [aBin_neq q1 q2, (cEq_ok E 100).1 _ _ _ _ hb]; rfl, h⟩
   ·exact h.elim
  | _ => exact h.elim
end Go.Proofs.YtolekmhhkopooaaGreatDoor.Zq
end
section
namespace Go.Proofs.YtolekmhhkopooaaGreatDoor.Zq
variable {P : Program} {E : Env} {M : Mp} {H H' : Heap} {w : World}
theorem grown_all {s : Sem Value} {xs us ze : List Value} {z : Value} {size need newCap : Nat} {e : TypeId} (h : HR M H w) (hv : VL M xs us)
  (hz : VL M ze (Builtin.zeroCells z.cells (newCap - need)).toList)
  (hr : s.run P w = .ok (.slice (some ⟨w.heap.size, 0, none⟩) need newCap) (w.drew.alloc (.cells (us.toArray ++ Builtin.zeroCells z.cells (newCap - need)) e (0, 0)))) :
  Gives P M H w s (.slice (some ⟨H.length, 0, none⟩) need newCap) (mk H (xs ++ ze) size false) := by
 have hl : (xs ++ ze).length = (us.toArray ++ Builtin.zeroCells z.cells (newCap - need)).size := by
  have h1 := hz.1
  have h2 := hv.1
  simp only [Array.length_toList] at h1
  simp [h1, h2]
 have st := Stp.newRow (M := M) (H := H) (w := w.drew) h.drew (cells := xs ++ ze) (c := us.toArray ++ Builtin.zeroCells z.cells (newCap - need)) e size false (Nat.le_of_eq hl) (by
  rw [hl, ← Array.length_toList, List.take_length]
  simp only [Array.toList_append]
  exact hv.append hz)
 exact ⟨_, _, _, hr, (Stp.drew h).trans st, newSlice h rfl rfl (.inl rfl)⟩
theorem growE_ok (hE : E.Ok P) (h : HR M H w) {ts : List TypeId} {ty : TypeId} {s' x' : Value} {base : Option Addr} {len cap n : Nat} {old xs us0 : List Value} (hs : s' = .slice base len cap) (hlt : cap < len + n)
  (hle : ∀ w, (Builtin.lenOf x').run P w = .ok n w)
  (hfs : ∀ t ti e te, ts.head? = some t -> E.ty t = some ti -> ti.k = .slice e -> E.ty e = some te -> xs.length = n * te.size →
   ∃ us : List Value, (∀ w' : World, w'.heap = w.heap -> (Builtin.firstCells te.size n x').run P w' = .ok us.toArray w') ∧ VL M xs us)
  (hf0 : ∀ size, old.length = len * size -> ∀ w' : World, w'.heap = w.heap -> (Builtin.firstCells size len s').run P w' = .ok us0.toArray w') (hvo : VL M old us0)
  {K : Value -> Heap -> Prop} (ha : ∀ x, (x = 0 ∨ len + n + x ≤ 9223372036854775807) -> ∃ v H', growE E ts len n old xs H x = some (v, H') ∧ K v H') :
  ∃ v H', K v H' ∧ Gives P M H w (Builtin.append_ ts.toArray ty #[s', x']) v H' := by
 obtain ⟨v0, H0, h0, _⟩ := ha 0 (.inl rfl)
 unfold growE at h0 ha
 split at h0
 ·rename_i ts tx
  simp only at ha
  split at h0
  ·rename_i ti tj ht htj
   simp only [ht, htj] at ha
   obtain ⟨i1, d1, z1, T1⟩ := hE.ty _ _ ht
   obtain ⟨i2, d2, z2, T2⟩ := hE.ty _ _ htj
   split at h0
   ·simp at h0
   ·rename_i e hke hnot
    have hd2 : isIntD d2 = false := not_int T2.k (fun j hj => hnot j hj)
    have hk := T1.k
    rw [hke] at hk
    have hund : P.underlying ts = some (.slice e) := by
     cases hd : d1 <;> rw [hd] at hk <;> first | exact hk.elim | (have hk : e = _ := hk; subst hk; rw [T1.und, hd])
    split at h0
    ·rename_i te hte
     obtain ⟨i3, d3, z3, T3⟩ := hE.ty _ _ hte
     split at h0
     ·simp at h0
     rename_i hsz
     split at h0
     ·rename_i hb
      obtain ⟨hb1, hb2⟩ := hb
      obtain ⟨us, hfr, hvl⟩ := hfs ts ti e te rfl ht hke hte (by omega)
      obtain ⟨nc, q1, q2, q3⟩ := append_growB (ty := ty) hund T2.und hd2 T3 hs hle hfr (us0 := us0) (hf0 te.size (by omega)) hlt hb1 hb2
      obtain ⟨v, H1, e1, e2⟩ := ha (nc - (len + n)) (.inr (by omega))
      have e3 : (if te.size = 0 ∨ xs.length ≠ n * te.size ∨ old.length ≠ len * te.size then (none : Option (Value × Heap))
        else if 2 * (len + n) * te.bytes ≤ 281474976710656 ∧ te.bytes ≠ 0 then some (.slice (some ⟨H.length, 0, none⟩) (len + n) (len + n + (nc - (len + n))), mk H (old ++ xs ++ rep (nc - (len + n)) te.zero) te.size false) else none) = some (v, H1) := by
       revert e1
       cases hkj : tj.k <;> simp only [hke, hte] <;> first | exact id | (exact absurd hkj (hnot _))
      rw [if_neg hsz, if_pos ⟨hb1, hb2⟩] at e3
      simp only [Option.some.injEq, Prod.mk.injEq] at e3
      obtain ⟨rfl, rfl⟩ := e3
      have hnc : len + n + (nc - (len + n)) = nc := by omega
      rw [hnc] at e2
      refine ⟨_, _, e2, ?_⟩
      have hz := zeros_vl (M := M) T3 (nc - (len + n))
      have hzs : z3.cells.size = te.size := by rw [← T3.len, ← T3.cells]; simp
      have hzc : (Builtin.zeroCells z3.cells (nc - (len + n))).toList = (madeCells z3.cells ((nc - (len + n)) * te.size)).toList := by rw [← hzs]; rfl
      rw [← hzc] at hz
      exact grown_all (e := e) h (hvo.append hvl) hz (by rw [← List.append_toArray]; exact q3)
     ·simp at h0
    ·simp at h0
   ·simp at h0
  ·simp at h0
 ·simp at h0
theorem appE_ok (hE : E.Ok P) (h : HR M H w) {ts : List TypeId} {ty : TypeId} {s s' x' : Value} {n : Nat} {xs : List Value} (hs : VR M s s')
  (hle : ∀ w, (Builtin.lenOf x').run P w = .ok n w)
  (hfs : ∀ t ti e te, ts.head? = some t -> E.ty t = some ti -> ti.k = .slice e -> E.ty e = some te -> xs.length = n * te.size →
   ∃ us : List Value, (∀ w' : World, w'.heap = w.heap -> (Builtin.firstCells te.size n x').run P w' = .ok us.toArray w') ∧ VL M xs us)
  {K : Value -> Heap -> Prop} (ha : ∀ x, (x = 0 ∨ lenV s + n + x ≤ 9223372036854775807) -> ∃ v H', aAppE E ts s n xs H x = some (v, H') ∧ K v H') :
  ∃ v H', K v H' ∧ Gives P M H w (Builtin.append_ ts.toArray ty #[s', x']) v H' := by
 have old : (∀ x, aAppE E ts s n xs H x = aAppX E ts s n xs H) -> ∃ v H', K v H' ∧ Gives P M H w (Builtin.append_ ts.toArray ty #[s', x']) v H' := fun he => by
  obtain ⟨v, H', h1, h2⟩ := ha 0 (.inl rfl)
  rw [he] at h1
  exact ⟨v, H', h2, appX_ok hE h hs hle hfs h1⟩
 by_cases hn : n = 0
 ·refine old fun x => ?_
  unfold aAppE
  split
  ·rw [if_pos hn]
  ·rw [if_neg (by omega)]
  ·rfl
 ·unfold aAppE at ha old
  split at ha
  ·simp only [if_neg hn] at ha
   have := hs.of_slice0; subst this
   exact growE_ok (us0 := []) hE h rfl (by omega) hle hfs (fun _ _ _ _ => by simp [Builtin.firstCells]) (VL.nil M) (by simpa [lenV] using ha)
  ·rename_i b off len cap
   obtain ⟨en, c, he, hc, rfl⟩ := hs.of_slice
   by_cases hx : n ≠ 0 ∧ cap < len + n ∧ exact H b off cap = true
   ·simp only [if_pos hx] at ha
    obtain ⟨hx1, hx2, hx3⟩ := hx
    have := exact_ok h hx3 he hc; subst this
    cases ho : rd H b off (len * eltE E ts) with
    | none => obtain ⟨v, H', h1, _⟩ := ha 0 (.inl rfl); rw [ho] at h1; simp at h1
    | some od =>
     rw [ho] at ha
     obtain ⟨us0, g1, g2, g3, _⟩ := rd_ok P h ho he
     refine growE_ok (us0 := us0) hE h rfl hx2 hle hfs (fun size hsz w' hw' => ?_) g2 (by simpa [lenV] using ha)
     have : len * size = len * eltE E ts := by
      have := rd_len ho
      omega
     simp [Builtin.firstCells, this, g1 w' hw']
   ·simp only [if_neg hx] at old
    exact old fun _ => trivial
  ·rename_i q1 q2
   refine old fun x => ?_
   split
   ·exact absurd rfl (q1)
   ·exact absurd rfl (q2 _ _ _ _)
   ·rfl
theorem appendE_ok (hE : E.Ok P) (h : HR M H w) {ts : List TypeId} {ty : TypeId} {s s' x x' : Value} (hs : VR M s s') (hx : VR M x x')
  {K : Value -> Heap -> Prop} (ha : ∀ y, (y = 0 ∨ lenV s + (lenX x).getD 0 + y ≤ 9223372036854775807) -> ∃ v H', aAppendE E ts s x H y = some (v, H') ∧ K v H') :
  ∃ v H', K v H' ∧ Gives P M H w (Builtin.append_ ts.toArray ty #[s', x']) v H' := by
 obtain ⟨v0, H0, h0, _⟩ := ha 0 (.inl rfl)
 unfold aAppendE at h0 ha
 split at h0
 ·rename_i t1 t2
  split at h0
  ·rename_i ti ht
   split at h0
   ·rename_i e hke
    split at h0
    ·rename_i te hte
     split at h0
     ·rename_i n hn
      split at h0
      ·rename_i xs hf
       simp only [ht, hke, hte, hn, hf, Option.getD_some] at ha
       refine appE_ok hE h hs (fun w => lenX_ok hx hn) (fun t ti' e' te' q1 q2 q3 q4 _ => ?_) ha
       simp at q1; subst q1
       rw [ht] at q2; simp at q2; subst q2
       rw [hke] at q3; simp at q3; subst q3
       rw [hte] at q4; simp at q4; subst q4
       exact firstOf_ok (P := P) h hx hf
      ·simp at h0
     ·simp at h0
    ·simp at h0
   ·simp at h0
  ·simp at h0
 ·simp at h0
end Go.Proofs.YtolekmhhkopooaaGreatDoor.Zq
end
section
namespace Go.Proofs.YtolekmhhkopooaaGreatDoor.Zq
variable {C : CEnv} {M M' : Mp} {H H' : Heap} {w w' : World} {L : Loc} {ML : Ml} {fr : CFr} {a : Act} {ro : Option Nat} {n : Nat} {Q : Exit -> Act -> World -> Prop} {Kw : Act -> World -> Prop} {loc : List Nat}
 {dst : Option Nat} {ty : TypeId} {pos : String} {after : Array Edge} {guard : Option (Nat × Bool)} {k : Sv -> Loc -> Heap -> Prop}
def Cont (M : Mp) (H : Heap) (L : Loc) (ML : Ml) (w : World) (fr : CFr) (a : Act) (dst : Option Nat) (k : Sv -> Loc -> Heap -> Prop) (Kw : Act -> World -> Prop) : Prop :=
 ∀ s L' H' M' ML' w' u, k s L' H' -> Aft M H L ML w fr a M' H' L' ML' w' -> SvR M' ML' s u -> Kw (a.put dst u) w'
theorem aft_stp (l : LR M H L ML w) (f : FS M ML fr a.tmps) (st : Stp M H w M' H' w') : Aft M H L ML w fr a M' H' L ML w' := ⟨st.toLSt ML, l.step st, f.step st.ext, .refl L, ⟨[], by simp⟩, fun _ _ => rfl⟩
theorem aft_refl (h : HR M H w) (l : LR M H L ML w) (f : FS M ML fr a.tmps) : Aft M H L ML w fr a M H L ML w := aft_stp l f (.refl h)
theorem val_ok {P : Program} {o : Oper} {s : Sem Value} {v : Value} (l : LR M H L ML w) (f : FS M ML fr a.tmps) (hd : ∀ c, o.op ≠ .defer c) (hs : execOp a.eval o = (do pure (.value (← s)))) (hg : Gives P M H w s v H') (hk : k (.v v) L H')
  (hK : Cont M H L ML w fr a o.dst k Kw) : o.wpIn (Fw ro) n P a w Kw Q :=
 wp_of_gives hd hs hg fun v' M' w' st hv => hK (.v v) L H' M' ML w' v' hk (aft_stp l f st) hv
theorem unit_ok {P : Program} {o : Oper} {s : Sem Unit} (l : LR M H L ML w) (f : FS M ML fr a.tmps) (hd : ∀ c, o.op ≠ .defer c) (hs : execOp a.eval o = (do s; pure .skip)) (hr : ∃ w', s.run P w = .ok () w' ∧ Stp M H w M H' w') (hk : k (.v undef) L H')
  (hK : Cont M H L ML w fr a o.dst k Kw) : o.wpIn (Fw ro) n P a w Kw Q := by
 obtain ⟨w', g1, g2⟩ := hr
 exact wp_of_unit hd hs g1 (hK (.v undef) L H' M ML w' undef hk (aft_stp l f g2) (.undef _))
theorem buildSlice_at {E : Env} {t : TypeId} {m : Nat} {ps : List (Nat × Value)} {v : Value} {cs : List Value} {sz : Nat} (h : aBuildSlice E t m ps [] = some (v, [.row cs sz false false true])) :
  aBuildSlice E t m ps H = some (.slice (some ⟨H.length, 0, none⟩) m m, mk H cs sz false) := by
 unfold aBuildSlice at h ⊢
 obtain ⟨ti, ht, h2⟩ := some_bind h
 rw [ht]; simp only [Option.bind_some]
 split at h2
 ·rename_i e he
  obtain ⟨te, hte, h3⟩ := some_bind h2
  simp only [hte, Option.bind_some]
  split at h3
  ·rename_i hb
   rw [if_pos hb]
   obtain ⟨cs', hf, h4⟩ := some_bind h3
   simp [mk] at h4
   rw [hf]
   obtain ⟨_, rfl, rfl⟩ := h4
   rfl
  ·simp at h3
 ·simp at h2
theorem ofCells_enc {T : Tag} {tk : TK} {x : T.α} (hk : isAggK tk = T.agg) (h1 : T.agg = true ∨ (T.cells x).length = 1) : ofCells tk (T.cells x) = some (T.enc x) := by
 unfold ofCells Tag.enc encC
 rw [hk]
 cases ha : T.agg with
 | true => simp
 | false =>
  simp only [Bool.false_eq_true, if_false]
  rcases h1 with h | h
  ·rw [ha] at h; simp at h
  ·obtain ⟨v, hv⟩ := List.length_eq_one_iff.1 h
   rw [hv]
theorem fieldAt_run {P : Program} {E : Env} (hE : E.Ok P) {t ft : TypeId} {fs : List (Nat × TypeId)} {ti te : TI} {i o b off : Nat} (ht : E.ty t = some ti) (hf : ti.k = .struct fs) (hi : fs[i]? = some (o, ft)) (hte : E.ty ft = some te) (h0 : te.size ≠ 0) :
  (Instr.fieldAt t (.pointer (some ⟨b, off, none⟩)) i).run P w = .ok (.pointer (some ⟨b, off + o, none⟩)) w := by
 obtain ⟨ii, d, z, T⟩ := hE.ty t ti ht
 have hk := T.k
 rw [hf] at hk
 cases d with
 | struct gs =>
  obtain ⟨hg, _⟩ := hk
  obtain ⟨i2, d2, z2, T2⟩ := hE.ty ft te hte
  rw [hg] at hi
  simp only [List.getElem?_map, Option.map_eq_some_iff] at hi
  obtain ⟨f, hf, hfe⟩ := hi
  simp at hfe; obtain ⟨rfl, rfl⟩ := hfe
  have hf' : gs[i]? = some f := by simpa using hf
  simp only [Instr.fieldAt, Sem.run_bind, T.run_und, Result.andThen_ok, hf', Instr.sureAddr, Sem.run_pure, fieldPlace, T2.run_size, h0, if_false, add_none]
 | _ => exact hk.elim
theorem indexAt_run {P : Program} {E : Env} (hE : E.Ok P) {t e : TypeId} {ti te : TI} {len b off : Nat} {kk : IntKind} {i : Int} (ht : E.ty t = some ti) (hf : ti.k = .array len e) (hte : E.ty e = some te) (hb : 0 ≤ i ∧ i < len) :
  (Instr.indexAt t (.pointer (some ⟨b, off, none⟩)) (.int kk i)).run P w = .ok (.pointer (some ⟨b, off + i.toNat * te.size, none⟩)) w := by
 obtain ⟨ii, d, z, T⟩ := hE.ty t ti ht
 have hk := T.k
 rw [hf] at hk
 cases d with
 | array n' e' =>
  obtain ⟨rfl, rfl, _⟩ := hk
  obtain ⟨i2, d2, z2, T2⟩ := hE.ty _ te hte
  simp [Instr.indexAt, asIntOf, T.run_und, Instr.sureAddr, hb, T2.run_size, add_none]
 | _ => exact hk.elim
theorem ev_ok {o : Oper} {c : Call} {f : Operand} {g : FuncId} {xs ys : List Value} {args : List Value} {rs : List Tag} {kk : Tup rs -> Heap -> Prop} (h : HR M H w) (l : LR M H L ML w) (fs : FS M ML fr a.tmps) (hop : o.op = .call c) (hce : c.callee = .value f)
  (hf : VR M (.func (.func g) xs.toArray ys.toArray) (a.eval f)) (hvs : opVs fr c.args.toList = some args) (ho : CALL C.P rs g (xs ++ args ++ ys) H kk)
  (hK : ∀ x H' M' w' u, kk x H' -> Aft M H L ML w fr a M' H' L ML w' -> VR M' (tupleOf (encs rs x)) u -> Kw (a.put o.dst u) w') : o.wpIn (Fw ro) n C.P a w Kw Q := by
 obtain ⟨dst, op, ty, pos, after, guard⟩ := o
 obtain ⟨callee, cargs, argTypes⟩ := c
 simp only at hop hce hvs
 subst hop; subst hce
 have hv := cVs_ok fs hvs
 obtain ⟨⟨fn, q1, q2, q3⟩, q4⟩ := ho
 obtain ⟨us, ws, hfe, hu, hw⟩ : ∃ us ws, a.eval f = .func (.func g) us ws ∧ VL M xs us.toList ∧ VL M ys ws.toList := by
  generalize hq : a.eval f = q at hf
  cases hf with
  | func hx hy gx gy =>
   exact ⟨_, _, rfl, ⟨by simpa using hx, fun i x u hx hu => gx i x u (by simpa using hx) (by simpa using hu)⟩, ⟨by simpa using hy, fun i x u hx hu => gy i x u (by simpa using hx) (by simpa using hu)⟩⟩
 have hl := (hu.append hv).append hw
 have hcall := q4 (n - 1) M w _ h hl
 refine ⟨fun _ _ => trivial, ?_⟩
 rw [Oper.semAt_eq _ _ _ (fun c => by simp)]
 have hb : fn.body.isNone = false := by cases hb : fn.body <;> simp_all
 have he : (us.toList ++ List.map a.eval cargs.toList ++ ws.toList).toArray = us ++ cargs.map a.eval ++ ws := by
  apply Array.ext'; simp
 rw [he] at hcall
 simp only [execOp, Sem.run_bind, resolve, hfe, Deferred.ofValue, Sem.run_pure, Result.andThen_ok, invoke, callFunc, run_program, q1, q3, Bool.false_eq_true, if_false, hb]
 refine ⟨by simp [Fw, Fence.wide], (callsIn_round hcall).mono ?_⟩
 rintro e w' ⟨v, v', M', H', rfl, hs, hv', x, rfl, hkx⟩
 exact hK x H' M' w' v' hkx (aft_stp l fs hs) hv'
theorem evy_ok {o : Oper} {c : Call} {f : Operand} {b : Nat} {args : List Value} {rs : List Tag} {kk : Tup rs -> Heap -> Prop} (h : HR M H w) (l : LR M H L ML w) (fs : FS M ML fr a.tmps) (hop : o.op = .call c) (hce : c.callee = .value f)
  (hf : VR M (.func (.yield b) #[] #[]) (a.eval f)) (hvs : opVs fr c.args.toList = some args) (ho : EVY C.P b args H fun v H' => ∃ x : Tup rs, v = tupleOf (encs rs x) ∧ kk x H')
  (hK : ∀ x H' M' w' u, kk x H' -> Aft M H L ML w fr a M' H' L ML w' -> VR M' (tupleOf (encs rs x)) u -> Kw (a.put o.dst u) w') : o.wpIn (Fw ro) n C.P a w Kw Q := by
 obtain ⟨dst, op, ty, pos, after, guard⟩ := o
 obtain ⟨callee, cargs, argTypes⟩ := c
 simp only at hop hce hvs
 subst hop; subst hce
 have hv := cVs_ok fs hvs
 obtain ⟨en, hen, hfe⟩ : ∃ en, M[b]? = some (some en) ∧ a.eval f = .func (.yield en.blk) #[] #[] := by
  generalize hq : a.eval f = q at hf
  cases hf with
  | yield h => exact ⟨_, h, rfl⟩
 obtain ⟨L1, k1, k2, k3⟩ := ho (n - 1) M w _ en h hv hen
 refine ⟨fun _ _ => trivial, ?_⟩
 rw [Oper.semAt_eq _ _ _ (fun c => by simp)]
 have he : (#[] : Array Value) ++ cargs.map a.eval = (List.map a.eval cargs.toList).toArray := by apply Array.ext'; simp
 have hgl : (Instr.getLoop en.blk).run C.P w = .ok L1 w := by simp [Instr.getLoop, getObj, Sem.run, k1]
 have hsz : ¬ ((List.map a.eval cargs.toList).toArray.size ≠ L1.params.size) := by simp at k2 ⊢; exact k2
 simp only [execOp, Sem.run_bind, resolve, hfe, Deferred.ofValue, Sem.run_pure, Result.andThen_ok, invoke, Instr.yield, he, hgl, Sem.run_ite, if_neg hsz]
 refine ⟨by simp [Fw, Fence.wide], RoundIn.mono k3 ?_⟩
 rintro e w' ⟨v, v', M', H', rfl, hs, hv', x, rfl, hkx⟩
 exact hK x H' M' w' v' hkx (aft_stp l fs hs) hv'
theorem hd2 {l : List Operand} {x y : Operand} (h : l = [x, y]) (arr : Array Operand) (ha : arr.toList = l) : arr.map a.eval = #[a.eval x, a.eval y] := by
 apply Array.ext'; simp [ha, h]
theorem cCall_ok (hE : C.E.Ok C.P) (h : HR M H w) (l : LR M H L ML w) (f : FS M ML fr a.tmps) {c : Call} (ho : cCall C fr c ty L H k)
  (hK : Cont M H L ML w fr a dst k Kw) : (Oper.mk dst (.call c) ty pos after guard).wpIn (Fw ro) n C.P a w Kw Q := by
 obtain ⟨callee, args, argTypes⟩ := c
 unfold cCall at ho
 simp only at ho
 split at ho
 ·rename_i g
  split at ho
  ·rename_i vs hvs
   exact ev_ok (c := ⟨.value (.func g), args, argTypes⟩) (xs := []) (ys := []) h l f rfl rfl (flat_ok (s := .v (.func (.func g) #[] #[])) f rfl) hvs (by simpa using ho) fun x H' M' w' u hkx ha hu => hK (.v _) L H' M' ML w' u hkx ha hu
  ·exact ho.elim
 ·rename_i fo hnot
  split at ho
  ·rename_i fv vs hf hvs
   rcases ho with ⟨g, xs, ys, rfl, hc⟩ | ⟨l0, rfl, hc⟩
   rotate_left
   ·exact evy_ok (c := ⟨.value fo, args, argTypes⟩) h l f rfl rfl (cV_ok f hf) hvs hc fun x H' M' w' u hkx ha hu => hK (.v _) L H' M' ML w' u hkx ha hu
   exact ev_ok (c := ⟨.value fo, args, argTypes⟩) (xs := xs.toList) (ys := ys.toList) h l f rfl rfl (by simpa using cV_ok f hf) hvs hc fun x H' M' w' u hkx ha hu => hK (.v _) L H' M' ML w' u hkx ha hu
  ·exact ho.elim
 ·
  split at ho
  ·rename_i x t hx ht
   have hargs : args.map a.eval = #[a.eval x] := by apply Array.ext'; simp [hx]
   have hex : ∀ {v r}, opV fr x = some v -> aLen C.E t v H = some r -> k (.v r) L H -> (Oper.mk dst (.call ⟨.builtin .len, args, argTypes⟩) ty pos after guard).wpIn (Fw ro) n C.P a w Kw Q := fun {v r} h1 h2 h3 => by
    refine val_ok (s := Builtin.len_ #[t] ty #[a.eval x]) l f (fun c => by simp) ?_ (len_ok hE h (cV_ok f h1) h2) h3 hK
    simp [execOp, resolve, invoke, builtin, hargs, toArray_one ht]
   split at ho
   ·rename_i p m cc ee b1 b2 b3 h1 h2
    exact hex h1 (by simp [aLen, h2]) ho
   ·rename_i v ti h3 h1 h2
    obtain ⟨y, g1, g2⟩ := ho
    exact hex h1 g1 g2
   ·exact ho.elim
  ·exact ho.elim
 ·
  split at ho
  ·rename_i x t hx ht
   have hargs : args.map a.eval = #[a.eval x] := by apply Array.ext'; simp [hx]
   split at ho
   ·rename_i v h1
    obtain ⟨y, g1, g2⟩ := ho
    refine val_ok (s := Builtin.cap_ #[t] ty #[a.eval x]) l f (fun c => by simp) ?_ (cap_ok hE h (cV_ok f h1) g1) g2 hK
    simp [execOp, resolve, invoke, builtin, hargs, toArray_one ht]
   ·exact ho.elim
  ·exact ho.elim
 ·
  split at ho
  ·rename_i s x hx
   have hargs := hd2 (a := a) hx args rfl
   split at ho
   ·rename_i sv i m h1 h2
    split at ho
    ·rename_i q cs hL
     obtain ⟨e, e1, e2⟩ := flat_ok f h2
     obtain ⟨v, H', g1, g2⟩ := appE_ok (ty := ty) (K := fun v H' => k (.v v) L H') hE h (x' := a.eval x) (cV_ok f h1) (n := m) (xs := cs) (fun w => by rw [e2]; simp [Builtin.lenOf]) (fun t ti e' te _ _ _ _ hlen => by
      obtain ⟨c, ct, d1, d2, d3, d4⟩ := loc_cells l e1 hL
      refine ⟨(c.toList.drop e.base).take cs.length, fun w' hw' => ?_, d4⟩
      have hl : ((c.toList.drop e.base).take cs.length).length = m * te.size := by rw [← hlen]; simp; omega
      have := run_loadCells_list (P := C.P) w' ⟨e.blk, e.base, none⟩ ((c.toList.drop e.base).take cs.length) (fun j v hv => by
       rw [add_none]
       simp only [List.getElem?_take, List.getElem?_drop] at hv
       split at hv
       ·simp only [Array.getElem?_toList] at hv
        simp only [World.cell?, hw', d1]; exact hv
       ·simp at hv)
      rw [hl] at this
      rw [e2]; simp only [Builtin.firstCells]; exact this) (fun x hx => by
      obtain ⟨y, H', g1, g2⟩ := ho x hx
      exact ⟨_, H', g1, g2⟩)
     refine val_ok (s := Builtin.append_ argTypes ty #[a.eval s, a.eval x]) l f (fun c => by simp) ?_ (by simpa using g2) g1 hK
     simp [execOp, resolve, invoke, builtin, hargs]
    ·exact ho.elim
   ·rename_i sv xv h1 h2
    obtain ⟨v, H', g1, g2⟩ := appendE_ok (ty := ty) (K := fun v H' => k (.v v) L H') hE h (cV_ok f h1) (flat_ok (s := .v xv) f h2) (fun x hx => by
     obtain ⟨y, H', g1, g2⟩ := ho x hx
     exact ⟨_, H', g1, g2⟩)
    refine val_ok (s := Builtin.append_ argTypes ty #[a.eval s, a.eval x]) l f (fun c => by simp) ?_ (by simpa using g2) g1 hK
    simp [execOp, resolve, invoke, builtin, hargs]
   ·exact ho.elim
  ·exact ho.elim
 ·
  split at ho
  ·rename_i d x hx
   obtain ⟨y, H', g1, g2⟩ := ho
   have hvs := cVs_ok f hx
   obtain ⟨s', us, e1, hs, ht⟩ := hvs.of_cons
   obtain ⟨x', us', e2, hx', ht'⟩ := ht.of_cons
   have := ht'.of_nil; subst this; subst e2
   refine val_ok (s := Builtin.copy_ argTypes ty #[s', x']) l f (fun c => by simp) ?_ (copy_ok hE h (ty := ty) hs hx' g1) g2 hK
   have : args.map a.eval = #[s', x'] := by apply Array.ext'; simpa using e1
   simp [execOp, resolve, invoke, builtin, this]
  ·exact ho.elim
 ·
  split at ho
  ·rename_i x r hx
   split at ho
   ·rename_i v hv
    have hvs := cVs_ok f hx
    obtain ⟨x', us, e1, hx', ht⟩ := hvs.of_cons
    refine val_ok (s := Builtin.min_ argTypes ty (x' :: us).toArray) l f (fun c => by simp) ?_ (min_ok (mx := false) (ts := argTypes) (ty := ty) h hx' ht hv) ho hK
    have : args.map a.eval = (x' :: us).toArray := by apply Array.ext'; simpa using e1
    simp only [execOp, resolve, invoke, builtin, this, pure_bind]
   ·exact ho.elim
  ·exact ho.elim
 ·split at ho
  ·rename_i x r hx
   split at ho
   ·rename_i v hv
    have hvs := cVs_ok f hx
    obtain ⟨x', us, e1, hx', ht⟩ := hvs.of_cons
    refine val_ok (s := Builtin.max_ argTypes ty (x' :: us).toArray) l f (fun c => by simp) ?_ (min_ok (mx := true) (ts := argTypes) (ty := ty) h hx' ht hv) ho hK
    have : args.map a.eval = (x' :: us).toArray := by apply Array.ext'; simpa using e1
    simp only [execOp, resolve, invoke, builtin, this, pure_bind]
   ·exact ho.elim
  ·exact ho.elim
 ·
  split at ho
  ·rename_i x hx
   obtain ⟨H', g1, g2⟩ := ho
   have hvs := cVs_ok f hx
   obtain ⟨x', us, e1, hx', ht⟩ := hvs.of_cons
   have := ht.of_nil; subst this
   refine val_ok (s := Builtin.clear_ argTypes ty #[x']) l f (fun c => by simp) ?_ (clear_ok hE h (ty := ty) hx' g1) g2 hK
   have : args.map a.eval = #[x'] := by apply Array.ext'; simpa using e1
   simp [execOp, resolve, invoke, builtin, this]
  ·exact ho.elim
 ·exact ho.elim
end Go.Proofs.YtolekmhhkopooaaGreatDoor.Zq
end
section
namespace Go.Proofs.YtolekmhhkopooaaGreatDoor.Zq
variable {C : CEnv} {M M' : Mp} {H H' : Heap} {w w' : World} {L : Loc} {ML : Ml} {fr : CFr} {a : Act} {ro : Option Nat} {n : Nat} {Q : Exit -> Act -> World -> Prop} {Kw : Act -> World -> Prop} {loc : List Nat}
 {dst : Option Nat} {ty : TypeId} {pos : String} {after : Array Edge} {guard : Option (Nat × Bool)} {k : Sv -> Loc -> Heap -> Prop}
theorem newLocal_ok (h : HR M H w) (l : LR M H L ML w) (f : FS M ML fr a.tmps) {P : Program} {o : Oper} {s : Sem Value} {u : Value} {cs : List Value} {c : Array Value} {t : TypeId} {sv : Sv} (sz : Nat) (hd : ∀ c, o.op ≠ .defer c) (hs : execOp a.eval o = (do pure (.value (← s))))
  (hr : s.run P w = .ok u (w.alloc (.cells c t (0, 0)))) (hn : cs.length ≤ c.size) (hv : VL M cs (c.toList.take cs.length)) (hk : k sv (L ++ [(0, cs)]) H)
  (hu : SvR M (ML ++ [some ⟨w.heap.size, 0, false, cs.length, sz, c.size⟩]) sv u) (hK : Cont M H L ML w fr a o.dst k Kw) : o.wpIn (Fw ro) n P a w Kw Q := by
 obtain ⟨q1, q2⟩ := LR.new h l t sz hn hv
 exact wp_of_run hd hs hr (hK sv _ H M _ _ u hk ⟨q1, q2, f.app, .app L _, ⟨_, rfl⟩, fun j hj => by
  have : j < L.length := by rw [← l.len]; exact (List.getElem?_eq_some_iff.1 hj).1
  rw [List.getElem?_append_left this]⟩ hu)
theorem cOp_ok (hE : C.E.Ok C.P) (h : HR M H w) (l : LR M H L ML w) (f : FS M ML fr a.tmps) {op : Op} (ho : cOp C loc dst ty op fr L H k)
  (hK : Cont M H L ML w fr a dst k Kw) : (Oper.mk dst op ty pos after guard).wpIn (Fw ro) n C.P a w Kw Q := by
 cases op with
 | move x =>
  simp only [cOp] at ho
  split at ho
  ·rename_i s hs
   exact wp_of_run (s := pure (a.eval x)) (fun c => by simp) (by simp [execOp]) rfl (hK s L H M ML w _ ho (aft_refl h l f) (flat_ok f hs))
  ·exact ho.elim
 | assign x =>
  simp only [cOp] at ho
  split at ho
  ·rename_i s hs
   exact wp_of_run (s := pure (a.eval x)) (fun c => by simp) (by simp [execOp]) rfl (hK s L H M ML w _ ho (aft_refl h l f) (flat_ok f hs))
  ·exact ho.elim
 | pick c x y =>
  simp only [cOp] at ho
  split at ho
  ·rename_i g hg
   have hc := (cV_ok f hg).of_bool
   cases g with
   | true =>
    simp only [ifB] at ho
    split at ho
    ·rename_i s hs
     exact wp_of_run (s := pure (a.eval x)) (fun c => by simp) (by simp [execOp, hc, asBool]) rfl (hK s L H M ML w _ ho (aft_refl h l f) (flat_ok f hs))
    ·exact ho.elim
   | false =>
    simp only [ifB] at ho
    split at ho
    ·rename_i s hs
     exact wp_of_run (s := pure (a.eval y)) (fun c => by simp) (by simp [execOp, hc, asBool]) rfl (hK s L H M ML w _ ho (aft_refl h l f) (flat_ok f hs))
    ·exact ho.elim
  ·exact ho.elim
 | alloc t =>
  simp only [cOp] at ho
  split at ho
  ·rename_i ti ht
   split at ho
   ·obtain ⟨c, q1, q2, q3⟩ := alloc_run (M := M) (w := w) hE ht
    refine newLocal_ok (s := Instr.alloc t true (.tuple #[])) h l f ti.size (fun c => by simp) rfl q1 q2 q3 ho ?_ hK
    exact ⟨_, by rw [← l.len]; exact List.getElem?_concat_length, rfl⟩
   ·exact val_ok (s := Instr.alloc t true (.tuple #[])) l f (fun c => by simp) rfl (alloc_ok hE h (by simp [aAlloc, ht])) ho hK
  ·exact ho.elim
 | box t x =>
  simp only [cOp] at ho
  split at ho
  ·rename_i v hv
   split at ho
   ·obtain ⟨q1, q2, q3⟩ := box_run (P := C.P) (w := w) (t := t) (cV_ok f hv)
    refine newLocal_ok (s := Instr.box t (a.eval x)) h l f v.cells.toList.length (fun c => by simp) rfl q1 q2 q3 ho ?_ hK
    exact ⟨_, by rw [← l.len]; exact List.getElem?_concat_length, rfl⟩
   ·exact val_ok (s := Instr.box t (a.eval x)) l f (fun c => by simp) rfl (box_ok h (cV_ok f hv) rfl) ho hK
  ·exact ho.elim
 | build t ps =>
  simp only [cOp] at ho
  split at ho
  ·rename_i qs hqs
   split at ho
   ·rename_i v hv
    exact val_ok (s := Instr.build t (ps.map fun (i, x) => (i, a.eval x))) l f (fun c => by simp) rfl (build_ok hE h (qs := ps.map fun (i, x) => (i, a.eval x)) (by simpa using cPs_ok f hqs) hv) ho hK
   ·exact ho.elim
  ·exact ho.elim
 | buildSlice t m ps =>
  simp only [cOp] at ho
  split at ho
  ·rename_i qs hqs
   have hp : PL M qs (ps.map fun (i, x) => (i, a.eval x)).toList := by simpa using cPs_ok f hqs
   have he : execOp a.eval ⟨dst, .buildSlice t m ps, ty, pos, after, guard⟩ = (do pure (.value (← Instr.buildSlice t m (ps.map fun (i, x) => (i, a.eval x))))) := rfl
   split at ho
   ·rename_i v cs sz hb
    split at ho
    ·obtain ⟨cs', sz', c, ct, q0, q1, q2, q3, q4⟩ := buildSlice_run (M := M) (w := w) hE hp hb
     simp [mk] at q1
     obtain ⟨rfl, rfl⟩ := q1
     refine newLocal_ok h l f sz (fun c => by simp) he q2 q3 q4 ho ?_ hK
     exact ⟨_, by rw [← l.len]; exact List.getElem?_concat_length, rfl⟩
    ·exact val_ok l f (fun c => by simp) he (buildSlice_ok hE h hp (buildSlice_at hb)) ho hK
   ·exact ho.elim
  ·exact ho.elim
 | load t x =>
  simp only [cOp] at ho
  split at ho
  ·rename_i i off hx
   obtain ⟨e, e1, e2⟩ := flat_ok f hx
   split at ho
   ·rename_i m cs ti hL ht
    split at ho
    ·rename_i hlen
     split at ho
     ·rename_i v hv
      obtain ⟨u, g1, g2⟩ := locLoad_ok hE l e1 hL ht hlen hv
      exact wp_of_run (s := Instr.loadAt t (a.eval x)) (fun c => by simp) rfl (by rw [e2]; simp [Instr.loadAt, Instr.sureAddr, g1]) (hK (.v v) L H M ML w u ho (aft_refl h l f) g2)
     ·exact ho.elim
    ·exact ho.elim
   ·exact ho.elim
  ·rename_i b off hx
   split at ho
   ·rename_i ti ht
    split at ho
    ·rename_i hc
     obtain ⟨hc1, hc2, hc3⟩ := hc
     obtain ⟨y, g1, g2⟩ := ho
     rw [← hc1] at g1
     refine val_ok (s := Instr.loadAt t (a.eval x)) l f (fun c => by simp) rfl (load_ok hE h (flat_ok (s := .v (.pointer (some ⟨b, off, none⟩))) f hx) ?_) g2 hK
     simp only [aLoad, ht, Option.bind_some, g1]
     refine ofCells_enc hc2 ?_
     rcases hc3 with h3 | h3
     ·exact .inl h3
     ·exact .inr (by rw [rd_len g1]; exact h3)
    ·exact ho.elim
   ·exact ho.elim
  ·exact ho.elim
 | store t x y =>
  simp only [cOp] at ho
  split at ho
  ·rename_i v ti hv ht
   split at ho
   ·rename_i hlen
    split at ho
    ·rename_i i off hx
     obtain ⟨e, e1, e2⟩ := flat_ok f hx
     split at ho
     ·rename_i m cs hL
      split at ho
      ·rename_i hc
       obtain ⟨w', g1, g2, g3⟩ := locStore_ok hE h l e1 hL ht hlen hc.1 hc.2 (cV_ok f hv)
       exact wp_of_unit (s := Instr.storeAt t (a.eval x) (a.eval y)) (fun c => by simp) rfl (by rw [e2]; exact g1) (hK (.v undef) _ H M ML w' undef ho ⟨g2, g3, f, .set hL, ⟨[], by simp⟩, fun j hj => by
        have : i ≠ j := fun e0 => by subst e0; rw [e1] at hj; simp at hj
        rw [List.getElem?_set_ne this]⟩ (.undef M))
      ·exact ho.elim
     ·exact ho.elim
    ·rename_i b off hx
     obtain ⟨H', g1, g2⟩ := ho
     exact unit_ok (s := Instr.storeAt t (a.eval x) (a.eval y)) l f (fun c => by simp) rfl (store_ok hE h (flat_ok (s := .v (.pointer (some ⟨b, off, none⟩))) f hx) (cV_ok f hv) (by simp only [aStore, ht, Option.bind_some, if_pos hlen]; exact g1)) g2 hK
    ·exact ho.elim
   ·exact ho.elim
  ·exact ho.elim
 | nilCheck x =>
  simp only [cOp] at ho
  split at ho
  ·rename_i i off hx
   obtain ⟨e, e1, e2⟩ := flat_ok f hx
   exact wp_of_run (s := pure (a.eval x)) (fun c => by simp) (by simp [execOp, e2]) rfl (hK (.lp i off) L H M ML w _ ho (aft_refl h l f) ⟨e, e1, e2⟩)
  ·rename_i p hx
   have hp := flat_ok (s := .v (.pointer p)) f hx
   unfold NIL at ho
   split at ho
   ·rename_i b off
    refine val_ok (s := pure (a.eval x)) l f (fun c => by simp) ?_ (Gives.pure h rfl hp) ho hK
    obtain ⟨e, _, e2⟩ := VR.of_ptr hp
    simp [execOp, e2]
   ·exact ho.elim
  ·rename_i g xs ys hx
   have hp := flat_ok (s := .v (.func (.func g) xs ys)) f hx
   refine val_ok (s := pure (a.eval x)) l f (fun c => by simp) ?_ (Gives.pure h rfl hp) ho hK
   obtain ⟨g', us, vs, hb'⟩ : ∃ f us vs, a.eval x = .func (.func f) us vs := by
    generalize hq : a.eval x = q at hp
    cases hp; exact ⟨_, _, _, rfl⟩
   simp [execOp, hb']
  ·rename_i ll hx
   have hp := flat_ok (s := .v (.func (.yield ll) #[] #[])) f hx
   refine val_ok (s := pure (a.eval x)) l f (fun c => by simp) ?_ (Gives.pure h rfl hp) ho hK
   obtain ⟨l', hb'⟩ : ∃ l, a.eval x = .func (.yield l) #[] #[] := by
    generalize hq : a.eval x = q at hp
    cases hp; exact ⟨_, rfl⟩
   simp [execOp, hb']
  ·exact ho.elim
 | binOp op t x y t2 =>
  simp only [cOp] at ho
  split at ho
  ·rename_i u v hu hv
   obtain ⟨r, g1, g2⟩ := cBin_ok ho
   exact val_ok (s := do eqGuard op t x y (a.eval x) (a.eval y); binOp op t (a.eval x) (a.eval y)) l f (fun c => by simp) rfl (bin_ok hE h (cV_ok f hu) (cV_ok f hv) g1) g2 hK
  ·exact ho.elim
 | unOp op t x =>
  simp only [cOp] at ho
  split at ho
  ·rename_i u hu
   split at ho
   ·rename_i v hv
    exact val_ok (s := Op.unary op (a.eval x)) l f (fun c => by simp) rfl (unary_ok h (cV_ok f hu) hv) ho hK
   ·exact ho.elim
  ·exact ho.elim
 | convert s d x =>
  simp only [cOp] at ho
  split at ho
  ·rename_i u hu
   split at ho
   ·rename_i v hv
    exact val_ok (s := convert s d (a.eval x)) l f (fun c => by simp) rfl (convert_ok hE h (cV_ok f hu) hv) ho hK
   ·exact ho.elim
  ·exact ho.elim
 | makeFunc g first caps =>
  cases g with
  | func g =>
   simp only [cOp] at ho
   split at ho
   ·rename_i xs ys h1 h2
    have g1 := cVs_ok f h1
    have g2 := cVs_ok f h2
    refine val_ok l f (fun c => by simp) rfl (Gives.pure h rfl ?_) ho hK
    refine .func (by simpa using g1.1) (by simpa using g2.1) ?_ ?_
    ·intro i x u hx hu
     exact g1.2 i x u (by simpa using hx) (by simpa using hu)
    ·intro i x u hx hu
     exact g2.2 i x u (by simpa using hx) (by simpa using hu)
   ·exact ho.elim
  | _ => simp [cOp] at ho
 | fieldAddr t x i =>
  simp only [cOp] at ho
  split at ho
  ·rename_i j off hx
   obtain ⟨e, e1, e2⟩ := flat_ok f hx
   split at ho
   ·rename_i fs b1 b2 b3 ht
    split at ho
    ·rename_i o ft hi
     split at ho
     ·rename_i te hte
      split at ho
      ·exact ho.elim
      ·rename_i h0
       have := fieldAt_run (w := w) (b := e.blk) (off := e.base + off) hE ht rfl hi hte h0
       exact wp_of_run (s := Instr.fieldAt t (a.eval x) i) (fun c => by simp) rfl (by rw [e2]; exact this) (hK (.lp j (off + o)) L H M ML w _ ho (aft_refl h l f) ⟨e, e1, by rw [Nat.add_assoc]⟩)
     ·exact ho.elim
    ·exact ho.elim
   ·exact ho.elim
  ·rename_i v hx
   split at ho
   ·rename_i v2 hv
    exact val_ok (s := Instr.fieldAt t (a.eval x) i) l f (fun c => by simp) rfl (fieldAt_ok hE h (flat_ok (s := .v v) f hx) hv) ho hK
   ·exact ho.elim
  ·exact ho.elim
 | field t x i =>
  simp only [cOp] at ho
  split at ho
  ·rename_i v hx
   split at ho
   ·rename_i v2 hv
    exact val_ok (s := Instr.field t (a.eval x) i) l f (fun c => by simp) rfl (field_ok hE h (cV_ok f hx) hv) ho hK
   ·exact ho.elim
  ·exact ho.elim
 | indexAddr t x i =>
  simp only [cOp] at ho
  split at ho
  ·rename_i j off kk m hx hi
   obtain ⟨e, e1, e2⟩ := flat_ok f hx
   have hiv := (cV_ok f hi).of_int
   split at ho
   ·rename_i len el b1 b2 b3 ht
    split at ho
    ·rename_i te hte
     split at ho
     ·rename_i hb
      have := indexAt_run (w := w) (b := e.blk) (off := e.base + off) (kk := kk) hE ht rfl hte hb
      exact wp_of_run (s := Instr.indexAt t (a.eval x) (a.eval i)) (fun c => by simp) rfl (by rw [e2, hiv]; exact this) (hK (.lp j (off + m.toNat * te.size)) L H M ML w _ ho (aft_refl h l f) ⟨e, e1, by rw [Nat.add_assoc]⟩)
     ·exact ho.elim
    ·exact ho.elim
   ·exact ho.elim
  ·rename_i p len cap kk m hx hi
   split at ho
   ·rename_i el b1 b2 b3 ht
    split at ho
    ·rename_i te hte
     unfold IDX NIL at ho
     split at ho
     ·rename_i b off
      obtain ⟨hb, ho⟩ := ho
      exact val_ok (s := Instr.indexAt t (a.eval x) (a.eval i)) l f (fun c => by simp) rfl (indexAt_ok hE h (flat_ok (s := .v (.slice (some ⟨b, off, none⟩) len cap)) f hx) (cV_ok f hi) (by simp [aIndexAddr, ht, hte, hb])) ho hK
     ·exact ho.elim
    ·exact ho.elim
   ·exact ho.elim
  ·rename_i b off kk m hx hi
   split at ho
   ·rename_i len el b1 b2 b3 ht
    split at ho
    ·rename_i te hte
     obtain ⟨hb, ho⟩ := ho
     exact val_ok (s := Instr.indexAt t (a.eval x) (a.eval i)) l f (fun c => by simp) rfl (indexAt_ok hE h (flat_ok (s := .v (.pointer (some ⟨b, off, none⟩))) f hx) (cV_ok f hi) (by simp [aIndexAddr, ht, hte, hb])) ho hK
    ·exact ho.elim
   ·exact ho.elim
  ·exact ho.elim
 | extract x i =>
  simp only [cOp] at ho
  split at ho
  ·rename_i v hx
   split at ho
   ·rename_i v2 hv
    exact val_ok (s := Instr.extract (a.eval x) i) l f (fun c => by simp) rfl (extract_ok h (cV_ok f hx) hv) ho hK
   ·exact ho.elim
  ·exact ho.elim
 | call c =>
  simp only [cOp] at ho
  exact cCall_ok hE h l f ho hK
 | mapUpdate t m i x =>
  simp only [cOp] at ho
  split at ho
  ·rename_i mv iv xv h1 h2 h3
   obtain ⟨H', g1, g2⟩ := ho
   exact unit_ok l f (fun c => by simp) rfl (mapUpdate_ok hE h (cV_ok f h1) (cV_ok f h2) (cV_ok f h3) g1) g2 hK
  ·exact ho.elim
 | index t x i =>
  simp only [cOp] at ho
  split at ho
  ·rename_i xv iv h1 h2
   obtain ⟨y, g1, g2⟩ := ho
   exact val_ok (s := Instr.index t (a.eval x) (a.eval i)) l f (fun c => by simp) rfl (index_ok hE h (cV_ok f h1) (cV_ok f h2) g1) g2 hK
  ·exact ho.elim
 | slice t x lo hi mx =>
  simp only [cOp] at ho
  split at ho
  ·rename_i v lov hiv mxv h1 h2 h3 h4
   obtain ⟨y, g1, g2⟩ := ho
   exact val_ok (s := Instr.sliceAt t (a.eval x) (lo.map a.eval) (hi.map a.eval) (mx.map a.eval)) l f (fun c => by simp) rfl (sliceAt_ok hE h (cV_ok f h1) (cVo_ok f h2) (cVo_ok f h3) (cVo_ok f h4) g1) g2 hK
  ·exact ho.elim
 | makeSlice t ln cp =>
  simp only [cOp] at ho
  split at ho
  ·rename_i lv cv h1 h2
   obtain ⟨y, H', g1, g2⟩ := ho
   exact val_ok (s := Instr.makeSlice t (a.eval ln) (a.eval cp)) l f (fun c => by simp) rfl (makeSlice_ok hE h (cV_ok f h1) (cV_ok f h2) g1) g2 hK
  ·exact ho.elim
 | makeMap t r =>
  cases r with
  | none =>
   simp only [cOp] at ho
   exact val_ok (s := Instr.makeMap t none) l f (fun c => by simp) rfl (makeMap_ok h) ho hK
  | some r => simp [cOp] at ho
 | lookup t x i ok =>
  simp only [cOp] at ho
  split at ho
  ·rename_i xv iv h1 h2
   cases ok with
   | true =>
    simp only [if_true] at ho
    split at ho
    ·rename_i T hT
     obtain ⟨y, b, g1, g2⟩ := ho
     exact val_ok (s := Instr.lookup t (a.eval x) (a.eval i) true) l f (fun c => by simp) rfl (lookup_ok hE h (cV_ok f h1) (cV_ok f h2) g1) g2 hK
    ·exact ho.elim
   | false =>
    simp only [Bool.false_eq_true, if_false] at ho
    obtain ⟨y, g1, g2⟩ := ho
    exact val_ok (s := Instr.lookup t (a.eval x) (a.eval i) false) l f (fun c => by simp) rfl (lookup_ok hE h (cV_ok f h1) (cV_ok f h2) g1) g2 hK
  ·exact ho.elim
 | range t x =>
  simp only [cOp] at ho
  split at ho
  ·rename_i v hx
   obtain ⟨y, H', g1, g2⟩ := ho
   exact val_ok (s := Instr.range t (a.eval x)) l f (fun c => by simp) rfl (rangeStr_ok hE h (cV_ok f hx) g1) g2 hK
  ·exact ho.elim
 | next x b =>
  cases b with
  | true =>
   simp only [cOp] at ho
   split at ho
   ·rename_i v hx
    rcases ho with ⟨i, r, H', g1, g2⟩ | ⟨H', g1, g2⟩
    ·exact val_ok (s := Instr.next (a.eval x) true ty) l f (fun c => by simp) rfl (nextStr_ok h (cV_ok f hx) g1) g2 hK
    ·exact val_ok (s := Instr.next (a.eval x) true ty) l f (fun c => by simp) rfl (nextStr_ok h (cV_ok f hx) g1) g2 hK
   ·exact ho.elim
  | false => simp [cOp] at ho
 | _ => simp [cOp] at ho
end Go.Proofs.YtolekmhhkopooaaGreatDoor.Zq
end
section
namespace Go.Proofs.YtolekmhhkopooaaGreatDoor.Zq
variable {C : CEnv} {M M' : Mp} {H H' : Heap} {w w' : World} {L L' : Loc} {ML ML' : Ml} {fr fr' : CFr} {a a' : Act} {ro : Option Nat} {n : Nat} {Q : Exit -> Act -> World -> Prop} {Kw : Act -> World -> Prop} {loc : List Nat}
def Suf (fr fr' : CFr) : Prop := fr'.n = fr.n ∧ ∃ news, fr'.l = news ++ fr.l
theorem Suf.refl (fr : CFr) : Suf fr fr := ⟨rfl, [], rfl⟩
theorem Suf.trans {fr'' : CFr} (h : Suf fr fr') (k : Suf fr' fr'') : Suf fr fr'' := by
 obtain ⟨h1, x, h2⟩ := h
 obtain ⟨k1, y, k2⟩ := k
 exact ⟨k1.trans h1, y ++ x, by rw [k2, h2, List.append_assoc]⟩
theorem Suf.put (fr : CFr) (d : Nat) (s : Sv) : Suf fr (fr.put d s) := ⟨rfl, [(d, some s)], rfl⟩
theorem Suf.put? (fr : CFr) (d : Option Nat) (s : Sv) : Suf fr (fr.put? d s) := by
 cases d with
 | none => exact .refl fr
 | some d => exact .put fr d s
theorem deferred_keptL (hr : HR M H w) (l : LR M H L ML w) (hs : StpL M H ML w M' H' w') {r : Nat} {ds : Option (List Deferred)} (h : w.heap[r]? = some (.deferred ds)) : w'.heap[r]? = some (.deferred ds) := by
 rw [hs.frame r (Array.getElem?_eq_some_iff.1 h).1 ?_ ?_]
 ·exact h
 ·intro b e hb hw he
  exact hr.not_deferred hb hw.live h he
 ·intro i e hi he
  have hiL : i < L.length := by rw [← l.len]; exact (List.getElem?_eq_some_iff.1 hi).1
  obtain ⟨_, _, _, _, h4⟩ := l.loc i e _ _ hi (List.getElem?_eq_getElem hiL)
  obtain ⟨c, t, fz, g, _⟩ := h4 rfl
  rw [he, h] at g; simp at g
theorem Marks.transL {M2 : Mp} {H2 : Heap} {w2 : World} {ds ds1 ds2 : List Deferred} (h : Marks w w' ds ds1) (hr : HR M' H' w') (l : LR M' H' L' ML' w') (hs : StpL M' H' ML' w' M2 H2 w2) (h0 : w.heap.size ≤ w'.heap.size) (k : Marks w' w2 ds1 ds2) : Marks w w2 ds ds2 := by
 obtain ⟨rs, e1, n1, a1⟩ := h
 obtain ⟨qs, e2, n2, a2⟩ := k
 refine ⟨qs ++ rs, by rw [e2, e1]; simp, ?_, ?_⟩
 ·rw [List.nodup_append]
  refine ⟨n2, n1, fun a ha b hb hab => ?_⟩
  subst hab
  have := (a2 a ha).1
  have := (Array.getElem?_eq_some_iff.1 (a1 a hb).2).1
  omega
 ·intro r hr'
  rcases List.mem_append.1 hr' with h | h
  ·exact ⟨by have := (a2 r h).1; omega, (a2 r h).2⟩
  ·exact ⟨(a1 r h).1, deferred_keptL hr l hs (a1 r h).2⟩
structure Behind (M : Mp) (H : Heap) (L : Loc) (ML : Ml) (w : World) (fr : CFr) (a : Act) (M' : Mp) (H' : Heap) (L' : Loc) (ML' : Ml) (w' : World) (fr' : CFr) (a' : Act) : Prop where
 st : LSt M H ML w M' H' ML' w'
 lr : LR M' H' L' ML' w'
 fs : FS M' ML' fr' a'.tmps
 rel : LRel L L'
 suf : Suf fr fr'
 mlx : ∃ N, ML' = ML ++ N
 defers : Marks w w' a.defers a'.defers
theorem Behind.refl (h : HR M H w) (l : LR M H L ML w) (f : FS M ML fr a.tmps) : Behind M H L ML w fr a M H L ML w fr a := ⟨.refl h ML, l, f, .refl L, .refl fr, ⟨[], by simp⟩, .refl _ _ _⟩
theorem Behind.trans {M'' : Mp} {H'' : Heap} {L'' : Loc} {ML'' : Ml} {w'' : World} {fr'' : CFr} {a'' : Act} (h : Behind M H L ML w fr a M' H' L' ML' w' fr' a') (k : Behind M' H' L' ML' w' fr' a' M'' H'' L'' ML'' w'' fr'' a'') :
  Behind M H L ML w fr a M'' H'' L'' ML'' w'' fr'' a'' := ⟨h.st.trans k.st, k.lr, k.fs, h.rel.trans k.rel, h.suf.trans k.suf, by
  obtain ⟨N, e1⟩ := h.mlx
  obtain ⟨N', e2⟩ := k.mlx
  exact ⟨N ++ N', by rw [e2, e1, List.append_assoc]⟩, h.defers.transL h.st.st.hr h.lr k.st.st h.st.st.size k.defers⟩
def wantB (v : Value) (want : Bool) : Bool :=
 match v with
 | .bool b => b == want
 | _ => false
theorem cWanted {ops : Array Oper} {o : Oper} {j d : Nat} {want : Bool} {v : Value} (hg : o.guard = some (j, want)) (hd : (ops[j]?).bind (·.dst) = some d) (hv : VR M v (a.tmps.getD d undef)) :
  Region.wanted o (yielded ops a.tmps) = wantB v want := by
 have hf : FR M ⟨a.tmps.size, [(d, some v)]⟩ a.tmps := ⟨rfl, fun t u hu => by
  simp only [AFr.get, look] at hu
  split at hu
  ·rename_i e; subst e; simp at hu; subst hu; exact hv
  ·simp at hu⟩
 refine wanted_ok (M := M) (fr := ⟨a.tmps.size, [(d, some v)]⟩) hf ?_
 simp only [aWanted, hg, hd, AFr.get, look, if_true, Option.bind_some]
 cases v <;> rfl
theorem cWanted0 {ops : Array Oper} {o : Oper} (hg : o.guard = none) : Region.wanted o (yielded ops a.tmps) = true := by unfold Region.wanted; rw [hg]
theorem cWantedN {ops : Array Oper} {o : Oper} {j : Nat} {want : Bool} (hg : o.guard = some (j, want)) (hd : (ops[j]?).bind (·.dst) = none) : Region.wanted o (yielded ops a.tmps) = false := by
 unfold Region.wanted; rw [hg]; simp [yielded, hd]
theorem cOper_ok (hE : C.E.Ok C.P) (h : HR M H w) (l : LR M H L ML w) (f : FS M ML fr a.tmps) {ops : Array Oper} {o : Oper} {i : Nat} {K : CFr -> Loc -> Heap -> Prop} (hi : ops[i]? = some o) (ho : cOper C loc ops o fr L H K)
  (hK : ∀ fr' L' H' M' ML' a' w', K fr' L' H' -> Behind M H L ML w fr a M' H' L' ML' w' fr' a' -> Kw a' w') : wpOpIn (Fw ro) n C.P ops Q i Kw a w := by
 unfold cOper at ho
 split at ho
 ·rename_i hp
  unfold wpOpIn
  rw [hi]
  simp only
  have done : ∀ fr1 : CFr, Suf fr fr1 -> FS M ML fr1 a.tmps -> (cOp C loc o.dst o.type o.op fr1 L H fun s L H => K (fr1.put? o.dst s) L H) -> o.wpIn (Fw ro) n C.P a w Kw Q := by
   intro fr1 hs1 f1 hop
   have hp1 : cPutOk fr1 o.dst = true := by
    unfold cPutOk at hp ⊢
    rw [hs1.1]; exact hp
   have := cOp_ok (ro := ro) (n := n) (Q := Q) (Kw := Kw) (pos := o.pos) (after := o.after) (guard := o.guard) hE h l f1 hop
   exact this fun s L' H' M' ML' w' u hk ha hu => hK _ _ _ M' ML' _ w' hk ⟨ha.1, ha.2.1, ha.2.2.1.put? hp1 hu, ha.2.2.2.1, hs1.trans (.put? _ _ _), ha.2.2.2.2.1, .of_eq (put_defers _ _ _)⟩
  have skip : ∀ fr1 : CFr, Suf fr fr1 -> FS M ML fr1 a.tmps -> K (fr1.put? o.dst (.v undef)) L H -> Kw (a.put o.dst undef) w := by
   intro fr1 hs1 f1 hk
   have hp1 : cPutOk fr1 o.dst = true := by
    unfold cPutOk at hp ⊢
    rw [hs1.1]; exact hp
   exact hK _ _ _ M ML _ w hk ⟨.refl h ML, l, f1.put? hp1 (VR.undef M), .refl L, hs1.trans (.put? _ _ _), ⟨[], by simp⟩, .of_eq (put_defers _ _ _)⟩
  split at ho
  ·rename_i hg
   rw [cWanted0 hg]
   exact done fr (.refl fr) f ho
  ·rename_i j want hg
   split at ho
   ·rename_i hd
    rw [cWantedN hg hd]
    exact ⟨fun _ _ => trivial, skip fr (.refl fr) f ho⟩
   ·rename_i d hd
    split at ho
    ·rename_i g hgd
     have hv : VR M (.bool g) (a.tmps.getD d undef) := f.get d _ hgd
     rw [cWanted hg hd hv]; unfold wantB
     have f1 : FS M ML (fr.put d (.v (.bool g))) a.tmps := f.again hv
     cases g with
     | true =>
      simp only [ifB] at ho
      cases want with
      | true =>
       simp only [if_true] at ho
       exact done _ (.put _ _ _) f1 ho
      | false =>
       simp at ho
       exact ⟨fun _ _ => trivial, skip _ (.put _ _ _) f1 ho⟩
     | false =>
      simp only [ifB] at ho
      cases want with
      | true =>
       simp at ho
       exact ⟨fun _ _ => trivial, skip _ (.put _ _ _) f1 ho⟩
      | false =>
       simp only [if_true] at ho
       exact done _ (.put _ _ _) f1 ho
    ·rename_i xs hgd
     have hv : VR M (.tuple xs) (a.tmps.getD d undef) := f.get d _ hgd
     rw [cWanted hg hd hv]; unfold wantB
     exact ⟨fun _ _ => trivial, skip fr (.refl fr) f ho⟩
    ·exact ho.elim
 ·exact ho.elim
theorem cOps_ok (hE : C.E.Ok C.P) {ops : Array Oper} {K : CFr -> Loc -> Heap -> Prop} : ∀ (os : List Oper) (j : Nat) (fr : CFr) (L : Loc) (H : Heap) (M : Mp) (ML : Ml) (a : Act) (w : World), ops.toList.drop j = os -> cOps C loc ops os fr L H K -> HR M H w -> LR M H L ML w -> FS M ML fr a.tmps →
  (∀ fr' L' H' M' ML' a' w', K fr' L' H' -> Behind M H L ML w fr a M' H' L' ML' w' fr' a' -> Q .normal a' w') -> wpOpsIn (Fw ro) n C.P ops Q (List.range' j os.length) a w
 | [], j, fr, L, H, M, ML, a, w, _, ho, h, l, f, hQ => hQ fr L H M ML a w ho (.refl h l f)
 | o :: os, j, fr, L, H, M, ML, a, w, hd, ho, h, l, f, hQ => by
  have hi : ops[j]? = some o := by
   have := congrArg (·[0]?) hd
   simpa using this
  have hd' : ops.toList.drop (j + 1) = os := by
   rw [← List.drop_drop, hd]; rfl
  simp only [List.length_cons, List.range'_succ]
  rw [wpOpsIn_cons]
  refine cOper_ok hE h l f hi ho fun fr1 L1 H1 M1 ML1 a1 w1 hk b1 => ?_
  exact cOps_ok hE os (j + 1) fr1 L1 H1 M1 ML1 a1 w1 hd' hk b1.st.st.hr b1.lr b1.fs fun fr' L' H' M' ML' a' w' hk' b' => hQ fr' L' H' M' ML' a' w' hk' (b1.trans b')
theorem text_ok (hE : C.E.Ok C.P) {ops : Array Oper} {id : Nat} {K : CFr -> Loc -> Heap -> Prop} (ho : cOps C loc ops ops.toList fr L H K) (h : HR M H w) (l : LR M H L ML w) (f : FS M ML fr a.tmps)
  (hQ : ∀ fr' L' H' M' ML' a' w', K fr' L' H' -> Behind M H L ML w fr a M' H' L' ML' w' fr' a' -> Q .normal a' w') : (Code.region id ops false).wpIn (Fw ro) n C.P Q a w := by
 refine wpIn_region ?_
 have := cOps_ok (ro := ro) (n := n) (Q := Q) hE ops.toList 0 fr L H M ML a w (by simp) ho h l f hQ
 rw [List.range_eq_range']
 simpa using this
end Go.Proofs.YtolekmhhkopooaaGreatDoor.Zq
end
section
namespace Go.Proofs.YtolekmhhkopooaaGreatDoor.Zq
section
variable {C : CEnv} {M M' : Mp} {H H' : Heap} {w w' : World} {L L' : Loc} {ML ML' : Ml} {fr fr' : CFr} {a a' : Act} {ro : Option Nat} {n : Nat} {Q : Exit -> Act -> World -> Prop} {Kw : Act -> World -> Prop} {loc : List Nat}
 {dst : Option Nat} {ty : TypeId} {op : Op} {k : Sv -> Loc -> Heap -> Prop}
theorem opS_congr {x : Operand} (h : ∀ t, x = .tmp t -> cget fr.l t = cget fr'.l t) : opS fr x = opS fr' x := by
 cases x with
 | tmp t => exact h t rfl
 | _ => rfl
theorem opV_congr {x : Operand} (h : ∀ t, x = .tmp t -> cget fr.l t = cget fr'.l t) : opV fr x = opV fr' x := by unfold opV; rw [opS_congr h]
theorem opVs_congr : ∀ {l : List Operand}, (∀ t, Operand.tmp t ∈ l -> cget fr.l t = cget fr'.l t) -> opVs fr l = opVs fr' l
 | [], _ => rfl
 | x :: r, h => by simp only [opVs]; rw [opV_congr (x := x) (fun t e => h t (by simp [e])), opVs_congr (l := r) (fun t e => h t (by simp [e]))]
theorem opPs_congr : ∀ {l : List (Nat × Operand)}, (∀ t, Operand.tmp t ∈ l.map (·.2) -> cget fr.l t = cget fr'.l t) -> opPs fr l = opPs fr' l
 | [], _ => rfl
 | (i, x) :: r, h => by simp only [opPs]; rw [opV_congr (x := x) (fun t e => h t (by simp [e])), opPs_congr (l := r) (fun t e => h t (by simp at e ⊢; exact .inr e))]
theorem opVo_congr {x : Option Operand} (h : ∀ t, x = some (.tmp t) -> cget fr.l t = cget fr'.l t) : opVo fr x = opVo fr' x := by
 cases x with
 | none => rfl
 | some x => simp only [opVo]; rw [opV_congr (x := x) (fun t e => h t (by rw [e]))]
theorem cCall_congr {c : Call} (h : ∀ t, Operand.tmp t ∈ c.operands.toList -> cget fr.l t = cget fr'.l t) : cCall C fr c ty L H k = cCall C fr' c ty L H k := by
 obtain ⟨callee, args, ts⟩ := c
 have ha : ∀ t, Operand.tmp t ∈ args.toList -> cget fr.l t = cget fr'.l t := fun t e => h t (by simp [Call.operands]; right; simpa using e)
 have hvs : opVs fr args.toList = opVs fr' args.toList := opVs_congr ha
 have h1 : ∀ x, x ∈ args.toList -> opV fr x = opV fr' x := fun x hx => opV_congr fun t e => ha t (by rw [← e]; exact hx)
 have h2 : ∀ x, x ∈ args.toList -> opS fr x = opS fr' x := fun x hx => opS_congr fun t e => ha t (by rw [← e]; exact hx)
 cases callee with
 | value f =>
  have hf : opV fr f = opV fr' f := opV_congr fun t e => h t (by simp [Call.operands, e])
  cases f <;> simp only [cCall, hvs, hf]
 | builtin b =>
  cases b with
  | len =>
   simp only [cCall]
   split
   ·rename_i x t hx _; rw [h1 x (by rw [hx]; simp)]
   ·rfl
  | cap =>
   simp only [cCall]
   split
   ·rename_i x t hx _; rw [h1 x (by rw [hx]; simp)]
   ·rfl
  | append =>
   simp only [cCall]
   split
   ·rename_i s x hx; rw [h1 s (by rw [hx]; simp), h2 x (by rw [hx]; simp)]
   ·rfl
  | copy => simp only [cCall, hvs]
  | min => simp only [cCall, hvs]
  | max => simp only [cCall, hvs]
  | clear => simp only [cCall, hvs]
  | _ => rfl
 | invoke r m => rfl
theorem cOp_congr (h : ∀ t, Operand.tmp t ∈ op.operands.toList -> cget fr.l t = cget fr'.l t) : cOp C loc dst ty op fr L H k = cOp C loc dst ty op fr' L H k := by
 cases op with
 | makeFunc f first caps =>
  cases f <;> simp only [cOp]
  rw [opVs_congr (l := first.toList) (fun t e => h t (by simp [Op.operands]; left; simpa using e)), opVs_congr (l := caps.toList) (fun t e => h t (by simp [Op.operands]; right; simpa using e))]
 | call c =>
  simp only [cOp]
  exact cCall_congr fun t e => h t (by simpa [Op.operands] using e)
 | build t ps =>
  simp only [cOp]
  rw [opPs_congr (fun t e => h t (by simpa [Op.operands] using e))]
 | buildSlice t n ps =>
  simp only [cOp]
  rw [opPs_congr (fun t e => h t (by simpa [Op.operands] using e))]
 | slice t x lo hi mx =>
  simp only [cOp]
  rw [opV_congr (x := x) (fun t e => h t (by simp [Op.operands, e])), opVo_congr (x := lo) (fun t e => h t (by simp [Op.operands, e])), opVo_congr (x := hi) (fun t e => h t (by simp [Op.operands, e])), opVo_congr (x := mx) (fun t e => h t (by simp [Op.operands, e]))]
 | move x | assign x | load _ x | nilCheck x =>
  simp only [cOp]
  rw [opS_congr (x := x) (fun t e => h t (by simp [Op.operands, e]))]
 | fieldAddr _ x _ =>
  simp only [cOp]
  rw [opS_congr (x := x) (fun t e => h t (by simp [Op.operands, e]))]
 | box _ x | unOp _ _ x | convert _ _ x | field _ x _ | extract x _ =>
  simp only [cOp]
  rw [opV_congr (x := x) (fun t e => h t (by simp [Op.operands, e]))]
 | pick c x y =>
  simp only [cOp]
  rw [opV_congr (x := c) (fun t e => h t (by simp [Op.operands, e])), opS_congr (x := x) (fun t e => h t (by simp [Op.operands, e])), opS_congr (x := y) (fun t e => h t (by simp [Op.operands, e]))]
 | makeMap t r => cases r <;> rfl
 | mapUpdate t m k x =>
  simp only [cOp]
  rw [opV_congr (x := m) (fun t e => h t (by simp [Op.operands, e])), opV_congr (x := k) (fun t e => h t (by simp [Op.operands, e])), opV_congr (x := x) (fun t e => h t (by simp [Op.operands, e]))]
 | store _ x y =>
  simp only [cOp]
  rw [opS_congr (x := x) (fun t e => h t (by simp [Op.operands, e])), opV_congr (x := y) (fun t e => h t (by simp [Op.operands, e]))]
 | indexAddr _ x y =>
  simp only [cOp]
  rw [opS_congr (x := x) (fun t e => h t (by simp [Op.operands, e])), opV_congr (x := y) (fun t e => h t (by simp [Op.operands, e]))]
 | binOp _ _ x y _ | makeSlice _ x y | index _ x y | lookup _ x y _ =>
  simp only [cOp]
  rw [opV_congr (x := x) (fun t e => h t (by simp [Op.operands, e])), opV_congr (x := y) (fun t e => h t (by simp [Op.operands, e]))]
 | range _ x =>
  simp only [cOp]
  rw [opV_congr (x := x) (fun t e => h t (by simp [Op.operands, e]))]
 | next x b =>
  cases b with
  | true =>
   simp only [cOp]
   rw [opV_congr (x := x) (fun t e => h t (by simp [Op.operands, e]))]
  | false => rfl
 | _ => rfl
def SameS (s : Sv) (L : Loc) (H : Heap) : Sv -> Loc -> Heap -> Prop := fun s' L' H' => s' = s ∧ L' = L ∧ H' = H
def Vals (C : CEnv) (loc : List Nat) (dst : Option Nat) (ty : TypeId) (op : Op) (fr : CFr) (L : Loc) (H : Heap) (s : Sv) : Prop :=
 cOp C loc dst ty op fr L H (SameS s L H)
theorem len_vals {c : Call} (hc : c.callee = .builtin .len ∨ c.callee = .builtin .min ∨ c.callee = .builtin .max) (ho : cCall C fr c ty L H k) : ∃ s, cCall C fr c ty L H (SameS s L H) ∧ k s L H := by
 obtain ⟨callee, args, ts⟩ := c
 simp only at hc
 rcases hc with rfl | rfl | rfl
 ·simp only [cCall] at ho ⊢
  split at ho
  ·split at ho
   ·exact ⟨_, ⟨rfl, rfl, rfl⟩, ho⟩
   ·obtain ⟨y, g1, g2⟩ := ho
    exact ⟨_, ⟨y, g1, rfl, rfl, rfl⟩, g2⟩
   ·exact ho.elim
  ·exact ho.elim
 all_goals
  simp only [cCall] at ho ⊢
  split at ho
  ·rename_i x r hx
   split at ho
   ·exact ⟨_, ⟨rfl, rfl, rfl⟩, ho⟩
   ·exact ho.elim
  ·exact ho.elim
theorem cBin_mono {E : Env} {o : BinOp} {t : TypeId} {x y : Value} {k k' : Value -> Prop} (hk : ∀ v, k v -> k' v) (h : cBin E o t x y k) : cBin E o t x y k' := by
 unfold cBin at h ⊢
 repeat' split at h
 all_goals first
  | exact ⟨h.1, hk _ h.2⟩
  | exact hk _ h
  | exact h.elim
  | (rename_i hc; rw [if_pos hc]; exact ⟨h.1, hk _ h.2⟩)
theorem cBin_vals {E : Env} {o : BinOp} {t : TypeId} {x y : Value} {k : Value -> Prop} (h : cBin E o t x y k) : ∃ v, cBin E o t x y (fun v' => v' = v) ∧ k v := by
 unfold cBin at h ⊢
 repeat' split at h
 all_goals first
  | exact ⟨_, ⟨h.1, rfl⟩, h.2⟩
  | exact ⟨_, rfl, h⟩
  | exact h.elim
  | (rename_i hc; simp only [if_pos hc]; exact ⟨_, ⟨h.1, rfl⟩, h.2⟩)
theorem cOp_vals (ht : turns op = false) (ho : cOp C loc dst ty op fr L H k) : ∃ s, Vals C loc dst ty op fr L H s ∧ k s L H := by
 unfold Vals
 cases op with
 | move x | assign x =>
  simp only [cOp] at ho ⊢
  split at ho
  ·exact ⟨_, ⟨rfl, rfl, rfl⟩, ho⟩
  ·exact ho.elim
 | pick c x y =>
  simp only [cOp] at ho ⊢
  split at ho
  ·rename_i g hg
   cases g with
   | true =>
    simp only [ifB] at ho ⊢
    split at ho
    ·exact ⟨_, ⟨rfl, rfl, rfl⟩, ho⟩
    ·exact ho.elim
   | false =>
    simp only [ifB] at ho ⊢
    split at ho
    ·exact ⟨_, ⟨rfl, rfl, rfl⟩, ho⟩
    ·exact ho.elim
  ·exact ho.elim
 | build t ps =>
  simp only [cOp] at ho ⊢
  split at ho
  ·split at ho
   ·exact ⟨_, ⟨rfl, rfl, rfl⟩, ho⟩
   ·exact ho.elim
  ·exact ho.elim
 | load t x =>
  simp only [cOp] at ho ⊢
  split at ho
  ·split at ho
   ·rename_i hL ht2
    split at ho
    ·rename_i hlen
     split at ho
     ·simp only [if_pos hlen]; exact ⟨_, ⟨rfl, rfl, rfl⟩, ho⟩
     ·exact ho.elim
    ·exact ho.elim
   ·exact ho.elim
  ·split at ho
   ·rename_i ti hti
    split at ho
    ·rename_i hc
     obtain ⟨y, g1, g2⟩ := ho
     simp only [if_pos hc]
     exact ⟨_, ⟨y, g1, rfl, rfl, rfl⟩, g2⟩
    ·exact ho.elim
   ·exact ho.elim
  ·exact ho.elim
 | nilCheck x =>
  simp only [cOp] at ho ⊢
  split at ho
  ·exact ⟨_, ⟨rfl, rfl, rfl⟩, ho⟩
  ·unfold NIL at ho ⊢
   split at ho
   ·exact ⟨_, ⟨rfl, rfl, rfl⟩, ho⟩
   ·exact ho.elim
  ·exact ⟨_, ⟨rfl, rfl, rfl⟩, ho⟩
  ·exact ⟨_, ⟨rfl, rfl, rfl⟩, ho⟩
  ·exact ho.elim
 | binOp o t x y t2 =>
  simp only [cOp] at ho ⊢
  split at ho
  ·obtain ⟨v, h1, h2⟩ := cBin_vals ho
   exact ⟨.v v, cBin_mono (fun u hu => (⟨by rw [hu], rfl, rfl⟩ : SameS _ _ _ _ _ _)) h1, h2⟩
  ·exact ho.elim
 | unOp o t x =>
  simp only [cOp] at ho ⊢
  split at ho
  ·split at ho
   ·exact ⟨_, ⟨rfl, rfl, rfl⟩, ho⟩
   ·exact ho.elim
  ·exact ho.elim
 | convert s d x =>
  simp only [cOp] at ho ⊢
  split at ho
  ·split at ho
   ·exact ⟨_, ⟨rfl, rfl, rfl⟩, ho⟩
   ·exact ho.elim
  ·exact ho.elim
 | makeFunc g first caps =>
  cases g with
  | func g =>
   simp only [cOp] at ho ⊢
   split at ho
   ·exact ⟨_, ⟨rfl, rfl, rfl⟩, ho⟩
   ·exact ho.elim
  | _ => simp [cOp] at ho
 | slice t x lo hi mx =>
  simp only [cOp] at ho ⊢
  split at ho
  ·obtain ⟨y, g1, g2⟩ := ho
   exact ⟨_, ⟨y, g1, rfl, rfl, rfl⟩, g2⟩
  ·exact ho.elim
 | fieldAddr t x i =>
  simp only [cOp] at ho ⊢
  split at ho
  ·split at ho
   ·rename_i hty
    split at ho
    ·rename_i hi
     split at ho
     ·rename_i te hte
      split at ho
      ·exact ho.elim
      ·rename_i h0
       simp only [if_neg h0]
       exact ⟨_, ⟨rfl, rfl, rfl⟩, ho⟩
     ·exact ho.elim
    ·exact ho.elim
   ·exact ho.elim
  ·split at ho
   ·exact ⟨_, ⟨rfl, rfl, rfl⟩, ho⟩
   ·exact ho.elim
  ·exact ho.elim
 | field t x i =>
  simp only [cOp] at ho ⊢
  split at ho
  ·split at ho
   ·exact ⟨_, ⟨rfl, rfl, rfl⟩, ho⟩
   ·exact ho.elim
  ·exact ho.elim
 | indexAddr t x i =>
  simp only [cOp] at ho ⊢
  split at ho
  ·split at ho
   ·split at ho
    ·rename_i te hte
     split at ho
     ·rename_i hb
      simp only [if_pos hb]
      exact ⟨_, ⟨rfl, rfl, rfl⟩, ho⟩
     ·exact ho.elim
    ·exact ho.elim
   ·exact ho.elim
  ·split at ho
   ·split at ho
    ·rename_i te hte
     unfold IDX NIL at ho ⊢
     split at ho
     ·exact ⟨_, ⟨ho.1, rfl, rfl, rfl⟩, ho.2⟩
     ·exact ho.elim
    ·exact ho.elim
   ·exact ho.elim
  ·split at ho
   ·split at ho
    ·rename_i te hte
     exact ⟨_, ⟨ho.1, rfl, rfl, rfl⟩, ho.2⟩
    ·exact ho.elim
   ·exact ho.elim
  ·exact ho.elim
 | index t x i =>
  simp only [cOp] at ho ⊢
  split at ho
  ·obtain ⟨y, g1, g2⟩ := ho
   exact ⟨_, ⟨y, g1, rfl, rfl, rfl⟩, g2⟩
  ·exact ho.elim
 | extract x i =>
  simp only [cOp] at ho ⊢
  split at ho
  ·split at ho
   ·exact ⟨_, ⟨rfl, rfl, rfl⟩, ho⟩
   ·exact ho.elim
  ·exact ho.elim
 | lookup t x i ok =>
  simp only [cOp] at ho ⊢
  split at ho
  ·cases ok with
   | true =>
    simp only [if_true] at ho ⊢
    split at ho
    ·obtain ⟨y, b, g1, g2⟩ := ho
     exact ⟨_, ⟨y, b, g1, rfl, rfl, rfl⟩, g2⟩
    ·exact ho.elim
   | false =>
    simp only [Bool.false_eq_true, if_false] at ho ⊢
    obtain ⟨y, g1, g2⟩ := ho
    exact ⟨_, ⟨y, g1, rfl, rfl, rfl⟩, g2⟩
  ·exact ho.elim
 | call c =>
  simp only [cOp] at ho ⊢
  refine len_vals ?_ ho
  obtain ⟨callee, args, ts⟩ := c
  cases callee with
  | builtin b => cases b <;> first | (simp [turns] at ht; done) | simp
  | _ => simp [turns] at ht
 | _ => simp [turns] at ht
end
section
variable {C : CEnv} {M M' : Mp} {H H' : Heap} {w w' : World} {L L' : Loc} {ML ML' : Ml} {fr fr' : CFr} {a a' : Act} {ro : Option Nat} {n : Nat} {Q : Exit -> Act -> World -> Prop} {Kw : Act -> World -> Prop} {loc : List Nat}
 {dst : Option Nat} {ty : TypeId} {op : Op} {k : Sv -> Loc -> Heap -> Prop} {ops : Array Oper}
theorem vals_pure {s : Sv} (hr : reads op = false) (h : Vals C loc dst ty op fr L H s) (ht : turns op = false) : Vals C loc dst ty op fr L' H' s := by
 unfold Vals SameS at *
 cases op with
 | call c =>
  obtain ⟨callee, args, ts⟩ := c
  cases callee with
  | builtin b => cases b <;> first | (simp [turns] at ht; done) | (simp [reads] at hr; done) | (simp only [cOp, cCall, and_self, and_true] at h ⊢; exact h)
  | _ => simp [turns] at ht
 | makeFunc g first caps =>
  cases g with
  | func g => simp only [cOp, and_self, and_true] at h ⊢; exact h
  | _ => simp [cOp] at h
 | load _ _ | slice _ _ _ _ _ | lookup _ _ _ _ => simp [reads] at hr
 | move _ | assign _ | pick _ _ _ | build _ _ | nilCheck _ | binOp _ _ _ _ _ | unOp _ _ _ | convert _ _ _ | fieldAddr _ _ _ | field _ _ _ | indexAddr _ _ _ | index _ _ _ | extract _ _ =>
  simp only [cOp, and_self, and_true] at h ⊢; exact h
 | _ => simp [turns] at ht
theorem vals_app {s : Sv} {x : Nat × List Value} (ht : turns op = false) (h : Vals C loc dst ty op fr L H s) : Vals C loc dst ty op fr (L ++ [x]) H s := by
 cases hr : reads op with
 | false => exact vals_pure hr h ht
 | true =>
  unfold Vals SameS at *
  cases op with
  | load t y =>
   simp only [cOp, and_self, and_true] at h ⊢
   split at h
   ·rename_i i off hx
    split at h
    ·rename_i m cs ti hL hti
     have := (List.getElem?_eq_some_iff.1 hL).1
     simp only [List.getElem?_append_left this, hL, hti]
     exact h
    ·exact h.elim
   ·exact h
   ·exact h.elim
  | slice t y lo hi mx => simp only [cOp, and_self, and_true] at h ⊢; exact h
  | lookup t y i ok => simp only [cOp, and_self, and_true] at h ⊢; exact h
  | call c =>
   obtain ⟨callee, args, ts⟩ := c
   cases callee with
   | builtin b => cases b <;> first | (simp [turns] at ht; done) | (simp [reads] at hr; done) | (simp only [cOp, cCall, and_self, and_true] at h ⊢; exact h)
   | _ => simp [turns] at ht
  | _ => simp [reads] at hr
theorem LR.fill (h : HR M H w) (l : LR M H L ML w) {i m : Nat} {cs : List Value} {c : Array Value} (t : TypeId) (sz : Nat) (hi : ML[i]? = some none) (hL : L[i]? = some (m, cs)) (hn : cs.length ≤ c.size) (hv : VL M cs (c.toList.take cs.length)) :
  LSt M H ML w M H (ML.set i (some ⟨w.heap.size, 0, false, cs.length, sz, c.size⟩)) (w.alloc (.cells c t (0, 0))) ∧
  LR M H L (ML.set i (some ⟨w.heap.size, 0, false, cs.length, sz, c.size⟩)) (w.alloc (.cells c t (0, 0))) := by
 have hs := Stp.hidden h (.cells c t (0, 0))
 have l' := l.step hs
 have hlt : i < ML.length := (List.getElem?_eq_some_iff.1 hi).1
 have hnew : ∀ (j : Nat) (e : Ent), (ML.set i (some (⟨w.heap.size, 0, false, cs.length, sz, c.size⟩ : Ent)))[j]? = some (some e) -> (ML[j]? = some (some e) ∧ j ≠ i) ∨ (j = i ∧ e = ⟨w.heap.size, 0, false, cs.length, sz, c.size⟩) := by
  intro j e hj
  by_cases hji : j = i
  ·subst hji
   rw [List.getElem?_set_self hlt] at hj
   simp at hj; exact .inr ⟨rfl, hj.symm⟩
  ·rw [List.getElem?_set_ne (Ne.symm hji)] at hj; exact .inl ⟨hj, hji⟩
 have hw : (w.alloc (.cells c t (0, 0))).heap[w.heap.size]? = some (.cells c t (0, 0)) := by
  show (w.heap.push _)[w.heap.size]? = _
  rw [Array.getElem?_push, if_pos rfl]
 refine ⟨⟨hs.toL ML, fun j e hj => ?_⟩, by simp [l.len], fun j e m' cs' hj hLj => ?_, fun j j' e e' hne hj hj' => ?_, fun j e hj b e' hb hl => ?_⟩
 ·rcases hnew j e hj with ⟨h1, _⟩ | ⟨_, rfl⟩
  ·exact .inl ⟨j, h1⟩
  ·exact .inr (Nat.le_refl _)
 ·rcases hnew j e hj with ⟨h1, _⟩ | ⟨rfl, rfl⟩
  ·exact l'.loc j e m' cs' h1 hLj
  ·rw [hL] at hLj
   simp at hLj; obtain ⟨_, rfl⟩ := hLj
   exact ⟨rfl, rfl, rfl, rfl, fun _ => ⟨c, t, (0, 0), hw, rfl, by simpa using hn, by simpa using hv, fun _ => rfl⟩⟩
 ·rcases hnew j e hj with ⟨h1, _⟩ | ⟨q1, q2⟩ <;> rcases hnew j' e' hj' with ⟨h3, _⟩ | ⟨q3, q4⟩
  ·exact l.sep1 j j' e e' hne h1 h3
  ·have := l.lt h1; rw [q4]; simp; omega
  ·have := l.lt h3; rw [q2]; simp; omega
  ·exact absurd (q1.trans q3.symm) hne
 ·rcases hnew j e hj with ⟨h1, _⟩ | ⟨_, rfl⟩
  ·exact l.sep2 j e h1 b e' hb hl
  ·have := h.blk_lt hb hl
   show e'.blk ≠ w.heap.size; omega
theorem SvR.fill {i : Nat} {x : Option Ent} {s : Sv} {u : Value} (hi : ML[i]? = some none) (h : SvR M ML s u) : SvR M (ML.set i x) s u := by
 cases s with
 | v v => exact h
 | lp j off =>
  obtain ⟨e, h1, h2⟩ := h
  have : i ≠ j := fun e => by subst e; rw [hi] at h1; simp at h1
  exact ⟨e, by rw [List.getElem?_set_ne this]; exact h1, h2⟩
 | ls j n =>
  obtain ⟨e, h1, h2⟩ := h
  have : i ≠ j := fun e => by subst e; rw [hi] at h1; simp at h1
  exact ⟨e, by rw [List.getElem?_set_ne this]; exact h1, h2⟩
theorem LR.keep (l : LR M H L ML w) (x : Nat × List Value) : LR M H (L ++ [x]) (ML ++ [none]) w := by
 have hold : ∀ (i : Nat) (e : Ent), (ML ++ [none])[i]? = some (some e) -> ML[i]? = some (some e) := by
  intro i e hi
  by_cases hl : i < ML.length
  ·rw [List.getElem?_append_left hl] at hi; exact hi
  ·rw [List.getElem?_append_right (by omega)] at hi
   cases hq : i - ML.length with
   | zero => rw [hq] at hi; simp at hi
   | succ q => rw [hq] at hi; simp at hi
 refine ⟨by simp [l.len], fun i e m cs hi hL => ?_, fun i j e e' hne hi hj => l.sep1 i j e e' hne (hold i e hi) (hold j e' hj), fun i e hi => l.sep2 i e (hold i e hi)⟩
 have h1 := hold i e hi
 have hlt : i < L.length := by rw [← l.len]; exact (List.getElem?_eq_some_iff.1 h1).1
 rw [List.getElem?_append_left hlt] at hL
 exact l.loc i e m cs h1 hL
theorem takeWhile_mem {t j : Nat} : ∀ {l : List Nat}, j ∈ l -> l.findIdx (· == j) < l.findIdx (· == t) -> j ∈ l.takeWhile (· != t)
 | [], h, _ => by simp at h
 | x :: r, h, hlt => by
  rw [List.findIdx_cons, List.findIdx_cons] at hlt
  by_cases hx : x = t
  ·subst hx; simp at hlt
  ·have ht : (x == t) = false := by simpa using hx
   have htn : (x != t) = true := by simpa using hx
   rw [List.takeWhile_cons, if_pos htn]
   by_cases hj : x = j
   ·subst hj; simp
   ·have hjf : (x == j) = false := by simpa using hj
    rw [ht, hjf] at hlt
    simp only [cond_false] at hlt
    have : j ∈ r := by
     rcases List.mem_cons.1 h with e | e
     ·exact absurd e.symm hj
     ·exact e
    exact List.mem_cons_of_mem _ (takeWhile_mem this (by omega))
theorem mapM_mem {α β : Type} {f : α -> Option β} : ∀ {l : List α} {r : List β}, l.mapM f = some r -> ∀ x ∈ l, ∃ y ∈ r, f x = some y
 | [], r, h, x, hx => by simp at hx
 | z :: l, r, h, x, hx => by
  rw [List.mapM_cons] at h
  cases h1 : f z with
  | none => rw [h1] at h; simp at h
  | some y =>
   rw [h1] at h
   cases h2 : l.mapM f with
   | none => rw [h2] at h; simp at h
   | some r' =>
    rw [h2] at h
    simp at h; subst h
    rcases List.mem_cons.1 hx with rfl | hx
    ·exact ⟨y, by simp, h1⟩
    ·obtain ⟨y', q1, q2⟩ := mapM_mem h2 x hx
     exact ⟨y', by simp [q1], q2⟩
theorem mkSteps_ok {b : Array Nat} {tau : List Nat} : ∀ {l : List Nat} {S : List Step}, mkSteps loc ops b tau l = some S -> S.length = l.length ∧ ∀ q i : Nat, l[q]? = some i -> ∃ (o : Oper) (as : List Oper), ops[i]? = some o ∧ S[q]? = some (Step.mk i o as) ∧
  (if isT loc ops b i then (asksL loc ops b tau i).mapM (fun j => ops[j]?) else some []) = some as
 | [], S, h => by simp [mkSteps] at h; subst h; exact ⟨rfl, fun q i hq => by simp at hq⟩
 | x :: r, S, h => by
  simp only [mkSteps] at h
  split at h
  ·rename_i o as s h1 h2 h3
   simp at h; subst h
   obtain ⟨g1, g2⟩ := mkSteps_ok h3
   refine ⟨by simp [g1], fun q i hq => ?_⟩
   cases q with
   | zero => simp at hq; subst hq; exact ⟨o, as, h1, rfl, h2⟩
   | succ q => exact g2 q i (by simpa using hq)
  ·simp at h
structure Good (loc : List Nat) (ops : Array Oper) (A : Nat -> Nat -> Prop) (T : Nat -> Prop) (pos : Nat -> Nat) (S : List Step) : Prop where
 back : ∀ (i : Nat) (o : Oper) (e : Edge), ops[i]? = some o -> e ∈ o.after.toList -> Region.binds .any e = true -> e.on < i
 edge : ∀ i j, A i j -> ∃ (o : Oper) (e : Edge), ops[i]? = some o ∧ e ∈ o.after.toList ∧ Region.binds .any e = true ∧ (j = e.on ∨ A e.on j)
 slen : S.length = ops.size
 sat : ∀ (i : Nat) (o : Oper), ops[i]? = some o -> ∃ as, S[pos i]? = some (Step.mk i o as) ∧ (¬ T i -> as = []) ∧ (T i -> ∀ (j : Nat) (oj : Oper), ops[j]? = some oj -> pos j < pos i -> reads oj.op = true -> ¬ A i j -> ¬ T j -> oj ∈ as)
 lt : ∀ (i : Nat) (o : Oper), ops[i]? = some o -> pos i < ops.size
 inv : ∀ q : Nat, q < ops.size -> ∃ (i : Nat) (o : Oper), ops[i]? = some o ∧ pos i = q
 ord : ∀ i j, i < ops.size -> j < ops.size -> A i j -> pos j < pos i
 tt : ∀ i j, i < ops.size -> j < ops.size -> T j -> pos j < pos i -> A i j
 dsts : ∀ (i j : Nat) (oi oj : Oper) (d : Nat), ops[i]? = some oi -> ops[j]? = some oj -> oi.dst = some d -> oj.dst = some d -> i = j
 use : ∀ (p : Nat) (o : Oper) (t q : Nat) (oq : Oper), ops[p]? = some o -> t ∈ useOf ops o -> ops[q]? = some oq -> oq.dst = some t -> A p q ∨ (T q ∧ (q = p ∨ A q p))
 nt : ∀ (i : Nat) (o : Oper), ops[i]? = some o -> ¬ T i -> isFl loc o = true ∨ turns o.op = false
 inj : ∀ i j, i < ops.size -> j < ops.size -> pos i = pos j -> i = j
theorem nodupN_ok : ∀ {l : List Nat}, nodupN l = true -> l.Nodup
 | [], _ => List.nodup_nil
 | x :: r, h => by
  simp only [nodupN, Bool.and_eq_true, Bool.not_eq_true'] at h
  exact List.nodup_cons.2 ⟨by simpa using h.1, nodupN_ok h.2⟩
theorem filterMap_inj {β : Type} {f : β -> Option Nat} : ∀ {l : List β}, (l.filterMap f).Nodup -> ∀ (i j : Nat) (x y : β) (d : Nat), l[i]? = some x -> l[j]? = some y -> f x = some d -> f y = some d -> i = j
 | [], _, i, j, x, y, d, hi, _, _, _ => by simp at hi
 | z :: r, hn, i, j, x, y, d, hi, hj, hx, hy => by
  have key : ∀ (q : Nat) (u : β), r[q]? = some u -> f u = some d -> d ∈ r.filterMap f := fun q u hq hu => List.mem_filterMap.2 ⟨u, List.mem_of_getElem? hq, hu⟩
  cases i with
  | zero =>
   cases j with
   | zero => rfl
   | succ j =>
    simp at hi hj; subst hi
    rw [List.filterMap_cons, hx] at hn
    exact absurd (key j y hj hy) (List.nodup_cons.1 hn).1
  | succ i =>
   cases j with
   | zero =>
    simp at hi hj; subst hj
    rw [List.filterMap_cons, hy] at hn
    exact absurd (key i x hi hx) (List.nodup_cons.1 hn).1
   | succ j =>
    have hn' : (r.filterMap f).Nodup := by
     rw [List.filterMap_cons] at hn
     split at hn
     ·exact hn
     ·exact (List.nodup_cons.1 hn).2
    rw [filterMap_inj hn' i j x y d (by simpa using hi) (by simpa using hj) hx hy]
theorem good_of {S : List Step} (h : drawOrd loc ops = some S) : ∃ (A : Nat -> Nat -> Prop) (T : Nat -> Prop) (pos : Nat -> Nat), Good loc ops A T pos S := by
 unfold drawOrd at h
 simp only at h
 generalize htau : tauL ops (Region.before ops) ((List.range ops.size).filter (isT loc ops (Region.before ops))) ((List.range ops.size).filter (isT loc ops (Region.before ops))) 0 = tau at h
 generalize hb : Region.before ops = b at h
 split at h
 ·rename_i hg
  unfold drawGood at hg
  simp only [Bool.and_eq_true] at hg
  obtain ⟨⟨⟨⟨⟨⟨⟨h1, hnd⟩, h2⟩, h3⟩, h4⟩, h5⟩, h6⟩, h7⟩ := hg
  have h2 : tau.length = ops.size := by simpa using h2
  have hmem : ∀ i, i < ops.size -> i ∈ tau := fun i hi => by simpa using List.all_eq_true.1 h3 i (by simpa using hi)
  obtain ⟨g1, g2⟩ := mkSteps_ok h
  have hlt : ∀ i, i < ops.size -> tau.findIdx (· == i) < ops.size := fun i hi => by
   rw [← h2]; exact List.findIdx_lt_length_of_exists ⟨i, hmem i hi, by simp⟩
  have hget : ∀ i, i < ops.size -> tau[tau.findIdx (· == i)]? = some i := fun i hi => by
   have hl := hlt i hi
   rw [List.getElem?_eq_getElem (by rw [h2]; exact hl)]
   have := List.findIdx_getElem (w := by rw [h2]; exact hl) (xs := tau) (p := (· == i))
   simpa using this
  have hinj : ∀ i j, i < ops.size -> j < ops.size -> tau.findIdx (· == i) = tau.findIdx (· == j) -> i = j := fun i j hi hj e => by
   have a1 := hget i hi
   have a2 := hget j hj
   rw [e, a2] at a1; simpa using a1.symm
  have ilt : ∀ i o, ops[i]? = some o -> i < ops.size := fun i o hi => (Array.getElem?_eq_some_iff.1 hi).1
  refine ⟨fun i j => ahead b i j = true, fun i => isT loc ops b i = true, fun i => tau.findIdx (· == i), fun i o e hi he hbd => ?_, fun i j hij => ?_, by rw [g1, h2], fun i o hi => ?_, fun i o hi => hlt i (ilt i o hi), fun q hq => ?_,
   fun i j hi hj hA => ?_, fun i j hi hj hT hp => ?_, fun i j oi oj d hi hj hdi hdj => ?_, fun p o t q oq hp ht hq hd => ?_, fun i o hi hT => ?_, hinj⟩
  ·have := backB_ok ops.toList 0 h1 i o e (by simpa using hi) he hbd
   simpa using this
  ·subst hb; exact before_edge hij
  ·obtain ⟨o', as, q1, q2, q3⟩ := g2 _ i (hget i (ilt i o hi))
   rw [hi] at q1; simp at q1; subst q1
   refine ⟨as, q2, fun hT => ?_, fun hT j oj hj hp hr hA hTj => ?_⟩
   ·rw [if_neg hT] at q3; simpa using q3.symm
   ·rw [if_pos hT] at q3
    have hjm : j ∈ asksL loc ops b tau i := by
     unfold asksL
     rw [List.mem_filter]
     refine ⟨takeWhile_mem (hmem j (ilt j oj hj)) hp, ?_⟩
     simp only [hj, hr, Bool.true_and, Bool.and_eq_true, Bool.not_eq_true']
     exact ⟨by simpa using hA, by simpa using hTj⟩
    obtain ⟨y, y1, y2⟩ := mapM_mem q3 j hjm
    rw [hj] at y2; simp at y2; subst y2; exact y1
  ·have hq' : q < tau.length := by rw [h2]; exact hq
   obtain ⟨o, as, q1, q2, _⟩ := g2 q tau[q] (List.getElem?_eq_getElem hq')
   refine ⟨tau[q], o, q1, ?_⟩
   have hil := ilt _ o q1
   have hq2 := hget _ hil
   exact filterMap_inj (f := some) (l := tau) (by rw [List.filterMap_some]; exact nodupN_ok hnd) _ q tau[q] tau[q] tau[q] hq2 (List.getElem?_eq_getElem hq') rfl rfl
  ·have := List.all_eq_true.1 (List.all_eq_true.1 h4 i (by simpa using hi)) j (by simpa using hj)
   simp only [hA, Bool.not_true, Bool.false_or, decide_eq_true_eq] at this
   exact this
  ·have := List.all_eq_true.1 (List.all_eq_true.1 h5 i (by simpa using hi)) j (by simpa using hj)
   simpa [hT, hp] using this
  ·exact filterMap_inj (f := (·.dst)) (nodupN_ok h6) i j oi oj d (by simpa using hi) (by simpa using hj) hdi hdj
  ·have := List.all_eq_true.1 (List.all_eq_true.1 (List.all_eq_true.1 h7 (o, p) (mem_zipIdx hp)) t ht) (oq, q) (mem_zipIdx hq)
   simp only [hd, bne_self_eq_false, Bool.false_or, Bool.or_eq_true, Bool.and_eq_true, beq_iff_eq] at this
   rcases this with h | ⟨h, h'⟩
   ·exact .inl h
   ·exact .inr ⟨h, h'⟩
  ·unfold isT at hT
   rw [hi] at hT
   simp only [Bool.and_eq_true, Bool.or_eq_true, Bool.not_eq_true', not_and, not_or] at hT
   cases hf : isFl loc o with
   | true => exact .inl rfl
   | false => exact .inr (by simpa using (hT hf).1)
 ·simp at h
end
section
variable {C : CEnv} {M M' M0 : Mp} {H H' H0 : Heap} {w w' w0 : World} {L L' L0 : Loc} {ML ML' ML0 : Ml} {fr fr' fr0 : CFr} {a a' a0 : Act} {ro : Option Nat} {n : Nat} {Q : Exit -> Act -> World -> Prop} {Kw : Act -> World -> Prop} {loc : List Nat}
 {ops : Array Oper} {A : Nat -> Nat -> Prop} {T : Nat -> Prop} {pos : Nat -> Nat} {S : List Step} {K0 : CFr -> Loc -> Heap -> Prop} {lst : Nat -> Bool} {p : Nat} {idf : Nat -> Nat}
def Wan (ops : Array Oper) (o : Oper) (fr : CFr) : Prop := o.guard = none ∨ ∃ j want d, o.guard = some (j, want) ∧ (ops[j]?).bind (·.dst) = some d ∧ cget fr.l d = some (.v (.bool want))
def Unw (ops : Array Oper) (o : Oper) (fr : CFr) : Prop := ∃ j want, o.guard = some (j, want) ∧ ((ops[j]?).bind (·.dst) = none ∨ ∃ d v, (ops[j]?).bind (·.dst) = some d ∧ cget fr.l d = some (.v v) ∧ wantB v want = false)
theorem cget_put {d : Nat} {s : Sv} {t : Nat} : cget (fr.put d s).l t = if d = t then some s else cget fr.l t := rfl
theorem put_again {d : Nat} {s : Sv} (h : cget fr.l d = some s) (t : Nat) : cget (fr.put d s).l t = cget fr.l t := by
 rw [cget_put]; split
 ·rename_i e; subst e; exact h.symm
 ·rfl
theorem cOper_split {o : Oper} {K : CFr -> Loc -> Heap -> Prop} (h : cOper C loc ops o fr L H K) : cPutOk fr o.dst = true ∧ ∃ fr1, Suf fr fr1 ∧ (∀ t, cget fr1.l t = cget fr.l t) ∧
  ((Unw ops o fr ∧ K (fr1.put? o.dst (.v undef)) L H) ∨ (Wan ops o fr ∧ cOp C loc o.dst o.type o.op fr1 L H fun s L H => K (fr1.put? o.dst s) L H)) := by
 unfold cOper at h
 split at h
 ·rename_i hp
  refine ⟨hp, ?_⟩
  split at h
  ·rename_i hg
   exact ⟨fr, .refl fr, fun _ => rfl, .inr ⟨.inl hg, h⟩⟩
  ·rename_i j want hg
   split at h
   ·rename_i hd
    exact ⟨fr, .refl fr, fun _ => rfl, .inl ⟨⟨j, want, hg, .inl hd⟩, h⟩⟩
   ·rename_i d hd
    split at h
    ·rename_i g hgd
     cases g with
     | true =>
      simp only [ifB] at h
      refine ⟨_, .put fr d (.v (.bool true)), put_again hgd, ?_⟩
      cases want with
      | true => simp only [if_true] at h; exact .inr ⟨.inr ⟨j, true, d, hg, hd, hgd⟩, h⟩
      | false => simp at h; exact .inl ⟨⟨j, false, hg, .inr ⟨d, _, hd, hgd, rfl⟩⟩, h⟩
     | false =>
      simp only [ifB] at h
      refine ⟨_, .put fr d (.v (.bool false)), put_again hgd, ?_⟩
      cases want with
      | true => simp at h; exact .inl ⟨⟨j, true, hg, .inr ⟨d, _, hd, hgd, rfl⟩⟩, h⟩
      | false => simp only [if_true] at h; exact .inr ⟨.inr ⟨j, false, d, hg, hd, hgd⟩, h⟩
    ·rename_i xs hgd
     exact ⟨fr, .refl fr, fun _ => rfl, .inl ⟨⟨j, want, hg, .inr ⟨d, _, hd, hgd, rfl⟩⟩, h⟩⟩
    ·exact h.elim
 ·exact h.elim
def Pend (C : CEnv) (loc : List Nat) (ops : Array Oper) (fr : CFr) (L : Loc) (H : Heap) (ML0 ML : Ml) (id : Nat) (o : Oper) : Prop :=
 cPutOk fr o.dst = true ∧ ((Unw ops o fr ∧ ∀ d, o.dst = some d -> cget fr.l d = some (.v undef)) ∨
  (Wan ops o fr ∧ ((∃ t ti m, o.op = .alloc t ∧ C.E.ty t = some ti ∧ (∀ d, o.dst = some d -> cget fr.l d = some (.lp id 0)) ∧ ML0.length ≤ id ∧ ML[id]? = some none ∧ L[id]? = some (m, ti.zero)) ∨
   (∃ s, (∀ d, o.dst = some d -> cget fr.l d = some s) ∧ turns o.op = false ∧ Vals C loc o.dst o.type o.op fr L H s))))
structure J (C : CEnv) (loc : List Nat) (ops : Array Oper) (A : Nat -> Nat -> Prop) (T : Nat -> Prop) (pos : Nat -> Nat) (S : List Step) (K0 : CFr -> Loc -> Heap -> Prop) (M0 : Mp) (H0 : Heap) (L0 : Loc) (ML0 : Ml) (w0 : World) (fr0 : CFr) (a0 : Act)
  (lst : Nat -> Bool) (p : Nat) (fr : CFr) (L : Loc) (H : Heap) (M : Mp) (ML : Ml) (idf : Nat -> Nat) (a : Act) (w : World) : Prop where
 le : p ≤ ops.size
 t1 : ∀ (i : Nat) (o : Oper), ops[i]? = some o -> T i -> (lst i = true ↔ pos i < p)
 t2 : ∀ (i : Nat) (o : Oper), ops[i]? = some o -> lst i = true -> pos i < p
 cl : ∀ i j, lst i = true -> A i j -> lst j = true
 run : cSteps C loc ops (S.drop p) fr L H K0
 st : LSt M0 H0 ML0 w0 M H ML w
 rel : LRel L0 L
 suf : Suf fr0 fr
 mlx : ∃ N, ML = ML0 ++ N
 defers : a.defers = a0.defers
 size : a.tmps.size = fr.n
 slots : ∀ t s, cget fr.l t = some s -> (∀ (i : Nat) (o : Oper), ops[i]? = some o -> o.dst = some t -> pos i < p -> lst i = true) -> SvR M ML s (a.tmps.getD t undef)
 lr : LR M H L ML w
 pend : ∀ (i : Nat) (o : Oper), ops[i]? = some o -> pos i < p -> lst i = false -> Pend C loc ops fr L H ML0 ML (idf i) o
 ids : ∀ (i i' : Nat) (o o' : Oper) (t t' : TypeId), ops[i]? = some o -> ops[i']? = some o' -> pos i < p -> pos i' < p -> lst i = false -> lst i' = false -> o.op = .alloc t -> o'.op = .alloc t' -> Wan ops o fr -> Wan ops o' fr -> idf i = idf i' -> i = i'
theorem vals_congr {o : Oper} {s : Sv} (h : ∀ t, t ∈ useOf ops o -> cget fr'.l t = cget fr.l t) (hv : Vals C loc o.dst o.type o.op fr L H s) : Vals C loc o.dst o.type o.op fr' L H s := by
 unfold Vals at *
 rw [cOp_congr (fr' := fr) fun t ht => h t ?_]
 ·exact hv
 ·unfold useOf tmpsOf; simp only [List.mem_append, List.mem_filterMap]; exact .inl ⟨_, ht, rfl⟩
theorem guard_use {o : Oper} {j : Nat} {want : Bool} {d : Nat} (hg : o.guard = some (j, want)) (hd : (ops[j]?).bind (·.dst) = some d) : d ∈ useOf ops o := by
 unfold useOf; rw [hg]; simp [hd]
theorem Wan.congr {o : Oper} (h : ∀ t, t ∈ useOf ops o -> cget fr'.l t = cget fr.l t) (hw : Wan ops o fr) : Wan ops o fr' := by
 rcases hw with hg | ⟨j, want, d, hg, hd, hc⟩
 ·exact .inl hg
 ·exact .inr ⟨j, want, d, hg, hd, by rw [h d (guard_use hg hd)]; exact hc⟩
theorem Unw.congr {o : Oper} (h : ∀ t, t ∈ useOf ops o -> cget fr'.l t = cget fr.l t) (hw : Unw ops o fr) : Unw ops o fr' := by
 obtain ⟨j, want, hg, hh⟩ := hw
 refine ⟨j, want, hg, ?_⟩
 rcases hh with hd | ⟨d, v, hd, hc, he⟩
 ·exact .inl hd
 ·exact .inr ⟨d, v, hd, by rw [h d (guard_use hg hd)]; exact hc, he⟩
theorem Wan.not {o : Oper} (h : Wan ops o fr) (k : Unw ops o fr) : False := by
 obtain ⟨j, want, hg, hh⟩ := k
 rcases h with h | ⟨j', want', d', hg', hd', hc'⟩
 ·rw [h] at hg; simp at hg
 ·rw [hg'] at hg; simp at hg; obtain ⟨rfl, rfl⟩ := hg
  rcases hh with hd | ⟨d, v, hd, hc, he⟩
  ·rw [hd'] at hd; simp at hd
  ·rw [hd'] at hd; simp at hd; subst hd
   rw [hc'] at hc; simp at hc; subst hc
   simp [wantB] at he
theorem op_lt {i : Nat} {o : Oper} (hi : ops[i]? = some o) : i < ops.size := (Array.getElem?_eq_some_iff.1 hi).1
theorem J.adv1 (g : Good loc ops A T pos S) (j : J C loc ops A T pos S K0 M0 H0 L0 ML0 w0 fr0 a0 lst p fr L H M ML idf a w) {i : Nat} {o : Oper} (hi : ops[i]? = some o) (hp : pos i = p) (hT : ¬ T i) (hl : lst i = false) :
  ∃ fr' L' ML' idf', J C loc ops A T pos S K0 M0 H0 L0 ML0 w0 fr0 a0 lst (p + 1) fr' L' H M ML' idf' a w := by
 obtain ⟨as, hS, has, _⟩ := g.sat i o hi
 have := has hT; subst this
 rw [hp] at hS
 have hlt : p < ops.size := by rw [← hp]; exact g.lt i o hi
 have hdrop : S.drop p = ⟨i, o, []⟩ :: S.drop (p + 1) := by
  obtain ⟨h1, h2⟩ := List.getElem?_eq_some_iff.1 hS
  rw [List.drop_eq_getElem_cons h1, h2]
 have hrun := j.run
 rw [hdrop] at hrun
 simp only [cSteps, cAsks] at hrun
 obtain ⟨hput, fr1, hs1, hc1, hcase⟩ := cOper_split hrun
 have hone : ∀ (q : Nat) (oq : Oper), ops[q]? = some oq -> pos q < p + 1 -> pos q < p ∨ q = i := fun q oq hq hlt => by
  by_cases e : pos q = p
  ·exact .inr (g.inj q i (op_lt hq) (op_lt hi) (e.trans hp.symm))
  ·exact .inl (by omega)
 have hnouse : ∀ (q : Nat) (oq : Oper) (d : Nat), ops[q]? = some oq -> pos q < p + 1 -> o.dst = some d -> d ∉ useOf ops oq := fun q oq d hq hlt hd hmem => by
  rcases g.use q oq d i o hq hmem hi hd with hA | ⟨hTi, _⟩
  ·have := g.ord q i (op_lt hq) (op_lt hi) hA
   omega
  ·exact hT hTi
 have huse : ∀ (s : Sv) (q : Nat) (oq : Oper), ops[q]? = some oq -> pos q < p + 1 -> ∀ t, t ∈ useOf ops oq -> cget (fr1.put? o.dst s).l t = cget fr.l t := fun s q oq hq hlt t ht => by
  cases hd : o.dst with
  | none => exact hc1 t
  | some d =>
   show cget (fr1.put d s).l t = _
   rw [cget_put, if_neg (fun e => hnouse q oq d hq hlt hd (by rw [e]; exact ht))]
   exact hc1 t
 have hdstne : ∀ (s : Sv) (q : Nat) (oq : Oper) (d : Nat), ops[q]? = some oq -> q ≠ i -> oq.dst = some d -> cget (fr1.put? o.dst s).l d = cget fr.l d := fun s q oq d hq hne hdq => by
  cases hd : o.dst with
  | none => exact hc1 d
  | some d' =>
   show cget (fr1.put d' s).l d = _
   rw [cget_put, if_neg (fun e => hne (g.dsts q i oq o d hq hi hdq (by rw [hd, e])))]
   exact hc1 d
 have hself : ∀ (s : Sv) (d : Nat), o.dst = some d -> cget (fr1.put? o.dst s).l d = some s := fun s d hd => by
  rw [hd]; show cget (fr1.put d s).l d = _
  rw [cget_put, if_pos rfl]
 have hn : ∀ s : Sv, (fr1.put? o.dst s).n = fr.n := fun s => ((hs1.trans (.put? _ _ _)).1)
 have hputn : ∀ (s : Sv) (oq : Oper), cPutOk fr oq.dst = true -> cPutOk (fr1.put? o.dst s) oq.dst = true := fun s oq h => by unfold cPutOk at h ⊢; rw [hn s]; exact h
 have hslots : ∀ (s : Sv) (ML2 : Ml), (∃ N, ML2 = ML ++ N) -> ∀ t s', cget (fr1.put? o.dst s).l t = some s' -> (∀ (q : Nat) (oq : Oper), ops[q]? = some oq -> oq.dst = some t -> pos q < p + 1 -> lst q = true) -> SvR M ML2 s' (a.tmps.getD t undef) := by
  intro s ML2 hML t s' hs' hall
  have hne : o.dst ≠ some t := fun hd => by
   have := hall i o hi hd (by omega)
   rw [hl] at this; simp at this
  have hold : cget fr.l t = some s' := by
   cases hd : o.dst with
   | none => rw [hd] at hs'; rw [← hc1 t]; exact hs'
   | some d =>
    rw [hd] at hs'
    have hs2 : cget (fr1.put d s).l t = some s' := hs'
    rw [cget_put, if_neg (fun e => hne (by rw [hd, e]))] at hs2
    rw [← hc1 t]; exact hs2
  obtain ⟨N, rfl⟩ := hML
  exact (j.slots t s' hold fun q oq hq hdq hlt => hall q oq hq hdq (by omega)).app
 have ht1 : ∀ (q : Nat) (oq : Oper), ops[q]? = some oq -> T q -> (lst q = true ↔ pos q < p + 1) := fun q oq hq hTq => by
  rw [j.t1 q oq hq hTq]
  constructor
  ·intro h; omega
  ·intro h
   rcases hone q oq hq h with h | h
   ·exact h
   ·exact absurd (h ▸ hTq) hT
 have hpend : ∀ (s : Sv) (L2 : Loc) (ML2 : Ml) (idf2 : Nat -> Nat), (∀ q, q ≠ i -> idf2 q = idf q) -> (∀ k : Nat, ML[k]? = some none -> ML2[k]? = some none ∧ L2[k]? = L[k]?) -> (∀ (oq : Oper) (s : Sv), turns oq.op = false -> Vals C loc oq.dst oq.type oq.op fr L H s -> Vals C loc oq.dst oq.type oq.op fr L2 H s) →
   ∀ (q : Nat) (oq : Oper), ops[q]? = some oq -> pos q < p + 1 -> lst q = false -> q ≠ i -> Pend C loc ops (fr1.put? o.dst s) L2 H ML0 ML2 (idf2 q) oq := by
  intro s L2 ML2 idf2 hidf hk hv q oq hq hlt hlq hne
  have hq' : pos q < p := (hone q oq hq hlt).resolve_right hne
  obtain ⟨h1, h2⟩ := j.pend q oq hq hq' hlq
  rw [hidf q hne]
  refine ⟨hputn s oq h1, ?_⟩
  rcases h2 with ⟨h2, h3⟩ | ⟨h2, h3⟩
  ·exact .inl ⟨h2.congr (huse s q oq hq hlt), fun d hd => by rw [hdstne s q oq d hq hne hd]; exact h3 d hd⟩
  ·refine .inr ⟨h2.congr (huse s q oq hq hlt), ?_⟩
   rcases h3 with ⟨t, ti, m, e1, e2, e3, e4, e5, e6⟩ | ⟨s', e1, e2, e3⟩
   ·obtain ⟨k1, k2⟩ := hk _ e5
    exact .inl ⟨t, ti, m, e1, e2, fun d hd => by rw [hdstne s q oq d hq hne hd]; exact e3 d hd, e4, k1, by rw [k2]; exact e6⟩
   ·exact .inr ⟨s', fun d hd => by rw [hdstne s q oq d hq hne hd]; exact e1 d hd, e2, vals_congr (huse s q oq hq hlt) (hv oq s' e2 e3)⟩
 have hids : ∀ (s : Sv) (idf2 : Nat -> Nat), (∀ q, q ≠ i -> idf2 q = idf q) -> (∀ (q : Nat) (oq : Oper) (t : TypeId), ops[q]? = some oq -> q ≠ i -> pos q < p -> lst q = false -> oq.op = .alloc t -> Wan ops oq fr -> (∃ t', o.op = .alloc t') -> Wan ops o (fr1.put? o.dst s) -> idf2 i ≠ idf q) →
   ∀ (q q' : Nat) (oq oq' : Oper) (t t' : TypeId), ops[q]? = some oq -> ops[q']? = some oq' -> pos q < p + 1 -> pos q' < p + 1 -> lst q = false -> lst q' = false -> oq.op = .alloc t -> oq'.op = .alloc t' -> Wan ops oq (fr1.put? o.dst s) -> Wan ops oq' (fr1.put? o.dst s) -> idf2 q = idf2 q' -> q = q' := by
  intro s idf2 hidf hnew q q' oq oq' t t' hq hq' h1 h2 h3 h4 h5 h6 h7 h8 he
  by_cases e1 : q = i
  ·by_cases e2 : q' = i
   ·rw [e1, e2]
   ·exfalso
    subst e1
    rw [hi] at hq; simp at hq; subst hq
    rw [hidf q' e2] at he
    exact hnew q' oq' t' hq' e2 ((hone q' oq' hq' h2).resolve_right e2) h4 h6 (h8.congr fun t ht => (huse s q' oq' hq' h2 t ht).symm) ⟨t, h5⟩ h7 he
  ·by_cases e2 : q' = i
   ·exfalso
    subst e2
    rw [hi] at hq'; simp at hq'; subst hq'
    rw [hidf q e1] at he
    exact hnew q oq t hq e1 ((hone q oq hq h1).resolve_right e1) h3 h5 (h7.congr fun t ht => (huse s q oq hq h1 t ht).symm) ⟨t', h6⟩ h8 he.symm
   ·rw [hidf q e1, hidf q' e2] at he
    exact j.ids q q' oq oq' t t' hq hq' ((hone q oq hq h1).resolve_right e1) ((hone q' oq' hq' h2).resolve_right e2) h3 h4 h5 h6 (h7.congr fun t ht => (huse s q oq hq h1 t ht).symm)
     (h8.congr fun t ht => (huse s q' oq' hq' h2 t ht).symm) he
 have hvals0 : ∀ (oq : Oper) (s : Sv), turns oq.op = false -> Vals C loc oq.dst oq.type oq.op fr L H s -> Vals C loc oq.dst oq.type oq.op fr L H s := fun _ _ _ h => h
 rcases hcase with ⟨hu, hk⟩ | ⟨hw, hop⟩
 ·
  refine ⟨fr1.put? o.dst (.v undef), L, ML, idf, by omega, ht1, fun q oq hq hlq => by have := j.t2 q oq hq hlq; omega, j.cl, hk, j.st, j.rel, j.suf.trans (hs1.trans (.put? _ _ _)), j.mlx, j.defers, by rw [j.size, hn], hslots _ ML ⟨[], by simp⟩, j.lr, fun q oq hq hlt hlq => ?_,
   hids _ idf (fun _ _ => rfl) fun q oq t hq hne hlt hlq ho hwq _ hwi => (hwi.not (hu.congr (huse _ i o hi (by omega)))).elim⟩
  by_cases e : q = i
  ·subst e
   rw [hi] at hq; simp at hq; subst hq
   exact ⟨hputn _ o hput, .inl ⟨hu.congr (huse _ q o hi (by omega)), fun d hd => hself _ d hd⟩⟩
  ·exact hpend _ L ML idf (fun _ _ => rfl) (fun k hk => ⟨hk, rfl⟩) hvals0 q oq hq hlt hlq e
 ·by_cases hfl : isFl loc o = true
  ·
   unfold isFl at hfl
   cases hoop : o.op with
   | alloc t =>
    rw [hoop] at hfl hop
    simp only at hfl
    simp only [cOp] at hop
    split at hop
    ·rename_i ti hti
     rw [if_pos hfl] at hop
     have hlen := j.lr.len
     have hkeep : ∀ k : Nat, ML[k]? = some none -> (ML ++ [none])[k]? = some none ∧ (L ++ [(0, ti.zero)])[k]? = L[k]? := fun k hk => by
      have h1 := (List.getElem?_eq_some_iff.1 hk).1
      exact ⟨by rw [List.getElem?_append_left h1]; exact hk, by rw [List.getElem?_append_left (by omega)]⟩
     refine ⟨_, L ++ [(0, ti.zero)], ML ++ [none], fun q => if q = i then L.length else idf q, by omega, ht1, fun q oq hq hlq => by have := j.t2 q oq hq hlq; omega, j.cl, hop, ⟨j.st.st, fun q e hq => ?_⟩, j.rel.trans (.app _ _),
      j.suf.trans (hs1.trans (.put? _ _ _)), ?_, j.defers, by rw [j.size, hn], hslots _ _ ⟨_, rfl⟩, j.lr.keep _, fun q oq hq hlt hlq => ?_, hids _ _ (fun q hq => by simp [hq]) fun q oq t' hq hne hlt hlq ho hwq _ _ => ?_⟩
     ·refine j.st.mx q e ?_
      by_cases h : q < ML.length
      ·rw [List.getElem?_append_left h] at hq; exact hq
      ·rw [List.getElem?_append_right (by omega)] at hq
       cases hx : q - ML.length with
       | zero => rw [hx] at hq; simp at hq
       | succ x => rw [hx] at hq; simp at hq
     ·obtain ⟨N, hN⟩ := j.mlx
      exact ⟨N ++ [none], by rw [hN, List.append_assoc]⟩
     ·by_cases e : q = i
      ·subst e
       rw [hi] at hq; simp at hq; subst hq
       refine ⟨hputn _ o hput, .inr ⟨hw.congr (huse _ q o hi (by omega)), .inl ⟨t, ti, 0, hoop, hti, fun d hd => by simpa using hself _ d hd, ?_, ?_, ?_⟩⟩⟩
       ·obtain ⟨N, hN⟩ := j.mlx
        simp only [if_true]
        rw [← hlen, hN]; simp
       ·simp only [if_true]; rw [← hlen]; simp
       ·simp
      ·exact hpend _ _ _ (fun q => if q = i then L.length else idf q) (fun q hq => if_neg hq) hkeep (fun oq s h1 h2 => vals_app h1 h2) q oq hq hlt hlq e
     ·have hp1 := j.pend q oq hq hlt hlq
      simp only [if_true]
      rcases hp1.2 with ⟨hu, _⟩ | ⟨_, ⟨t2, ti2, m, e1, e2, e3, e4, e5, e6⟩ | ⟨s', e1, e2, e3⟩⟩
      ·exact (hwq.not hu).elim
      ·have := (List.getElem?_eq_some_iff.1 e6).1
       omega
      ·rw [ho] at e2; simp [turns] at e2
    ·exact hop.elim
   | _ => rw [hoop] at hfl; simp at hfl
  ·have htu : turns o.op = false := (g.nt i o hi hT).resolve_left hfl
   obtain ⟨s, hv, hk⟩ := cOp_vals htu hop
   refine ⟨fr1.put? o.dst s, L, ML, idf, by omega, ht1, fun q oq hq hlq => by have := j.t2 q oq hq hlq; omega, j.cl, hk, j.st, j.rel, j.suf.trans (hs1.trans (.put? _ _ _)), j.mlx, j.defers, by rw [j.size, hn], hslots _ ML ⟨[], by simp⟩, j.lr, fun q oq hq hlt hlq => ?_,
    hids _ idf (fun _ _ => rfl) fun q oq t hq hne hlt hlq ho hwq he _ => by obtain ⟨t', he⟩ := he; rw [he] at htu; simp [turns] at htu⟩
   by_cases e : q = i
   ·subst e
    rw [hi] at hq; simp at hq; subst hq
    refine ⟨hputn _ o hput, .inr ⟨hw.congr (huse _ q o hi (by omega)), .inr ⟨s, fun d hd => hself _ d hd, htu, ?_⟩⟩⟩
    exact vals_congr (huse _ q o hi (by omega)) (vals_congr (ops := ops) (fr := fr1) (fun t _ => (hc1 t).symm) hv)
   ·exact hpend _ L ML idf (fun _ _ => rfl) (fun k hk => ⟨hk, rfl⟩) hvals0 q oq hq hlt hlq e
end
section
variable {C : CEnv} {M M' M0 : Mp} {H H' H0 : Heap} {w w' w0 : World} {L L' L0 : Loc} {ML ML' ML0 : Ml} {fr fr' fr0 : CFr} {a a' a0 : Act} {ro : Option Nat} {n : Nat} {Q : Exit -> Act -> World -> Prop} {Kw : Act -> World -> Prop} {loc : List Nat}
 {ops : Array Oper} {A : Nat -> Nat -> Prop} {T : Nat -> Prop} {pos : Nat -> Nat} {S : List Step} {K0 : CFr -> Loc -> Heap -> Prop} {lst : Nat -> Bool} {p : Nat} {idf : Nat -> Nat}
def useFr (ops : Array Oper) (o : Oper) (fr : CFr) : CFr := ⟨fr.n, (useOf ops o).map fun t => (t, cget fr.l t)⟩
theorem cget_map : ∀ {l : List Nat} {t : Nat} {f : Nat -> Option Sv}, cget (l.map fun t => (t, f t)) t = if t ∈ l then f t else none
 | [], t, f => by simp [cget]
 | x :: r, t, f => by
  simp only [List.map_cons, cget, cget_map (l := r)]
  by_cases h : x = t
  ·subst h; simp
  ·rw [if_neg h]
   have : t ∈ x :: r ↔ t ∈ r := by simp [Ne.symm h]
   simp only [this]
theorem useFr_get {o : Oper} {t : Nat} (h : t ∈ useOf ops o) : cget (useFr ops o fr).l t = cget fr.l t := by unfold useFr; rw [cget_map, if_pos h]
theorem useFr_fs {o : Oper} (hs : a.tmps.size = fr.n) (h : ∀ t s, t ∈ useOf ops o -> cget fr.l t = some s -> SvR M ML s (a.tmps.getD t undef)) : FS M ML (useFr ops o fr) a.tmps :=
 ⟨hs, fun t s hg => by
  unfold useFr at hg; rw [cget_map] at hg
  split at hg
  ·rename_i hm; exact h t s hm hg
  ·simp at hg⟩
theorem wan_ok {o : Oper} (h : Wan ops o fr) (hs : ∀ t s, t ∈ useOf ops o -> cget fr.l t = some s -> SvR M ML s (a.tmps.getD t undef)) : Region.wanted o (yielded ops a.tmps) = true := by
 rcases h with hg | ⟨j, want, d, hg, hd, hc⟩
 ·exact cWanted0 hg
 ·rw [cWanted hg hd (hs d _ (guard_use hg hd) hc)]; simp [wantB]
theorem unw_ok {o : Oper} (h : Unw ops o fr) (hs : ∀ t s, t ∈ useOf ops o -> cget fr.l t = some s -> SvR M ML s (a.tmps.getD t undef)) : Region.wanted o (yielded ops a.tmps) = false := by
 obtain ⟨j, want, hg, hh⟩ := h
 rcases hh with hd | ⟨d, v, hd, hc, he⟩
 ·exact cWantedN hg hd
 ·rw [cWanted hg hd (hs d _ (guard_use hg hd) hc)]; exact he
theorem putD_ne {d : Option Nat} {u : Value} {t : Nat} (h : d ≠ some t) : (a.put d u).tmps.getD t undef = a.tmps.getD t undef := put_getD h
theorem putD_eq {u : Value} {t : Nat} (h : t < a.tmps.size) : (a.put (some t) u).tmps.getD t undef = u := put_getD' h
theorem put_size (a : Act) (d : Option Nat) (u : Value) : (a.put d u).tmps.size = a.tmps.size := by cases d <;> simp [Act.put]
theorem SvR.mono2 {s : Sv} {u : Value} (h : SvR M ML s u) (x : Ext M M') (e : ∃ N, ML' = ML ++ N) : SvR M' ML' s u := by
 obtain ⟨N, rfl⟩ := e
 exact (h.mono x).app
theorem J.sees (g : Good loc ops A T pos S) (j : J C loc ops A T pos S K0 M0 H0 L0 ML0 w0 fr0 a0 lst p fr L H M ML idf a w) {i : Nat} {o : Oper} (hi : ops[i]? = some o) (hA : ∀ q, A i q -> lst q = true) :
  ∀ t s, t ∈ useOf ops o -> cget fr.l t = some s -> SvR M ML s (a.tmps.getD t undef) := fun t s ht hc =>
 j.slots t s hc fun q oq hq hd hlt => by
  rcases g.use i o t q oq hi ht hq hd with h | ⟨hT, _⟩
  ·exact hA q h
  ·exact (j.t1 q oq hq hT).2 hlt
theorem useFr_cOp {o : Oper} {k : Sv -> Loc -> Heap -> Prop} {fr1 : CFr} (h1 : ∀ t, cget fr1.l t = cget fr.l t) (h : cOp C loc o.dst o.type o.op fr1 L H k) : cOp C loc o.dst o.type o.op (useFr ops o fr) L H k := by
 rw [cOp_congr (fr' := fr1) fun t ht => ?_]
 ·exact h
 ·rw [useFr_get (by unfold useOf tmpsOf; simp only [List.mem_append, List.mem_filterMap]; exact .inl ⟨_, ht, rfl⟩), h1 t]
theorem J.exP (g : Good loc ops A T pos S) (hE : C.E.Ok C.P) (j : J C loc ops A T pos S K0 M0 H0 L0 ML0 w0 fr0 a0 lst p fr L H M ML idf a w) {i : Nat} {o : Oper} (hi : ops[i]? = some o) (hp : pos i < p) (hT : ¬ T i) (hl : lst i = false) (hA : ∀ q, A i q -> lst q = true)
  (hK : ∀ M' ML' a' w', J C loc ops A T pos S K0 M0 H0 L0 ML0 w0 fr0 a0 (fun q => lst q || q == i) p fr L H M' ML' idf a' w' -> Kw a' w') : wpOpIn (Fw ro) n C.P ops Q i Kw a w := by
 obtain ⟨hput, hcase⟩ := j.pend i o hi hp hl
 have hsee := j.sees g hi hA
 have fin : ∀ (M' : Mp) (ML' : Ml) (w' : World) (u : Value), LSt M H ML w M' H ML' w' -> LR M' H L ML' w' -> (∃ N, ML' = ML0 ++ N) -> (∀ s u, SvR M ML s u -> SvR M' ML' s u) -> (∀ d, o.dst = some d -> ∃ s, cget fr.l d = some s ∧ SvR M' ML' s u) →
   (∀ (q : Nat) (oq : Oper), ops[q]? = some oq -> pos q < p -> lst q = false -> q ≠ i -> ∀ t, oq.op = .alloc t -> Wan ops oq fr -> ML'[idf q]? = some none) →
   J C loc ops A T pos S K0 M0 H0 L0 ML0 w0 fr0 a0 (fun q => lst q || q == i) p fr L H M' ML' idf (a.put o.dst u) w' := by
  intro M' ML' w' u hst hlr hmlx hsv hdst hkeep
  refine ⟨j.le, fun q oq hq hTq => ?_, fun q oq hq hlq => ?_, fun x y hx hxy => ?_, j.run, j.st.trans hst, j.rel, j.suf, hmlx, by rw [put_defers]; exact j.defers, by rw [put_size]; exact j.size, fun t s hs hall => ?_, hlr, fun q oq hq hlt hlq => ?_,
   fun q q' oq oq' t t' hq hq' h1 h2 h3 h4 => ?_⟩
  ·have hne : q ≠ i := fun e => hT (e ▸ hTq)
   have : (q == i) = false := by simpa using hne
   simp only [this, Bool.or_false]
   exact j.t1 q oq hq hTq
  ·simp only [Bool.or_eq_true, beq_iff_eq] at hlq
   rcases hlq with h | h
   ·exact j.t2 q oq hq h
   ·subst h; exact hp
  ·simp only [Bool.or_eq_true, beq_iff_eq] at hx ⊢
   rcases hx with h | h
   ·exact .inl (j.cl x y h hxy)
   ·subst h; exact .inl (hA y hxy)
  ·by_cases e : o.dst = some t
   ·obtain ⟨s', c1, c2⟩ := hdst t e
    rw [hs] at c1; simp at c1; subst c1
    have hlt : t < a.tmps.size := by
     have hput' := hput
     unfold cPutOk at hput'
     rw [e] at hput'
     rw [j.size]; simpa using hput'
    rw [e, putD_eq hlt]; exact c2
   ·rw [putD_ne e]
    exact hsv s _ (j.slots t s hs fun q oq hq hd hlt => by
     have := hall q oq hq hd hlt
     simp only [Bool.or_eq_true, beq_iff_eq] at this
     rcases this with h | h
     ·exact h
     ·subst h; rw [hi] at hq; simp at hq; subst hq; exact absurd hd e)
  ·simp only [Bool.or_eq_false_iff, beq_eq_false_iff_ne] at hlq
   obtain ⟨h1, h2⟩ := j.pend q oq hq hlt hlq.1
   refine ⟨h1, ?_⟩
   rcases h2 with h2 | ⟨h2, h3⟩
   ·exact .inl h2
   ·refine .inr ⟨h2, ?_⟩
    rcases h3 with ⟨t, ti, m, e1, e2, e3, e4, e5, e6⟩ | h3
    ·exact .inl ⟨t, ti, m, e1, e2, e3, e4, hkeep q oq hq hlt hlq.1 hlq.2 t e1 h2, e6⟩
    ·exact .inr h3
  ·simp only [Bool.or_eq_false_iff] at h3 h4
   exact j.ids q q' oq oq' t t' hq hq' h1 h2 h3.1 h4.1
 have hkeep0 : ∀ (q : Nat) (oq : Oper), ops[q]? = some oq -> pos q < p -> lst q = false -> ∀ t, oq.op = .alloc t -> Wan ops oq fr -> ML[idf q]? = some none := fun q oq hq hlt hlq t ho hw => by
  obtain ⟨_, h2⟩ := j.pend q oq hq hlt hlq
  rcases h2 with ⟨hu, _⟩ | ⟨_, ⟨t2, ti, m, e1, e2, e3, e4, e5, e6⟩ | ⟨s, e1, e2, e3⟩⟩
  ·exact (hw.not hu).elim
  ·exact e5
  ·rw [ho] at e2; simp [turns] at e2
 unfold wpOpIn
 rw [hi]
 simp only
 rcases hcase with ⟨hu, hd⟩ | ⟨hw, hval⟩
 ·rw [unw_ok hu hsee]
  refine ⟨fun _ _ => trivial, hK M ML _ w (fin M ML w undef (.refl j.st.st.hr ML) j.lr j.mlx (fun _ _ h => h) (fun d he => ⟨_, hd d he, VR.undef M⟩) fun q oq hq hlt hlq _ t ho hwq => hkeep0 q oq hq hlt hlq t ho hwq)⟩
 ·rw [wan_ok hw hsee]
  rcases hval with ⟨t, ti, m, e1, e2, e3, e4, e5, e6⟩ | ⟨s, e1, e2, e3⟩
  ·obtain ⟨c, q1, q2, q3⟩ := alloc_run (M := M) (w := w) hE e2
   obtain ⟨f1, f2⟩ := j.lr.fill j.st.st.hr t ti.size e5 e6 q2 q3
   have hid := (List.getElem?_eq_some_iff.1 e5).1
   obtain ⟨dst, op, ty, ps, after, guard⟩ := o
   simp only at e1; subst e1
   refine wp_of_run (s := Instr.alloc t true (.tuple #[])) (fun c => by simp) rfl q1 (hK M _ _ _ (fin M _ _ _ f1 f2 ?_ (fun _ _ h => h.fill e5) (fun d he => ⟨_, e3 d he, _, List.getElem?_set_self hid, rfl⟩) fun q oq hq hlt hlq hne t' ho hwq => ?_))
   ·obtain ⟨N, hN⟩ := j.mlx
    refine ⟨N.set (idf i - ML0.length) (some ⟨w.heap.size, 0, false, ti.zero.length, ti.size, c.size⟩), ?_⟩
    rw [hN, List.set_append, if_neg (by omega)]
   ·have hidne : idf i ≠ idf q := fun e => hne (j.ids i q _ oq t t' hi hq hp hlt hl hlq rfl ho hw hwq e).symm
    rw [List.getElem?_set_ne hidne]
    exact hkeep0 q oq hq hlt hlq t' ho hwq
  ·have hop := useFr_cOp (ops := ops) (fr := fr) (fun _ => rfl) e3
   exact cOp_ok (ro := ro) (n := n) (Q := Q) (pos := o.pos) (after := o.after) (guard := o.guard) hE j.st.st.hr j.lr (useFr_fs j.size hsee) hop fun s' L' H' M' ML' w' u hk ha hu => by
    obtain ⟨rfl, rfl, rfl⟩ := hk
    obtain ⟨h1, h2, _, _, ⟨N, hN⟩, _⟩ := ha
    have hN0 : N = [] := by
     have l1 := h2.len
     have l2 := j.lr.len
     rw [hN] at l1; simp at l1
     exact List.length_eq_zero_iff.1 (by omega)
    subst hN0
    simp at hN; subst hN
    exact hK M' _ _ w' (fin M' _ w' u h1 h2 j.mlx (fun _ _ h => h.mono h1.st.ext) (fun d he => ⟨_, e1 d he, hu⟩) fun q oq hq hlt hlq _ t ho hwq => hkeep0 q oq hq hlt hlq t ho hwq)
def Asked (C : CEnv) (ops : Array Oper) (fr : CFr) (L : Loc) (H : Heap) (o : Oper) : Prop :=
 Wan ops o fr -> match o.op, o.dst with
  | .load t x, some d => match opS fr x, cget fr.l d, C.E.ty t with
   | some (.v (.pointer (some ⟨b, off, none⟩))), some (.v v), some _ => LD (C.tag t) H b off fun x => (C.tag t).enc x = v
   | some (.lp i off), some (.v v), some ti => match L[i]? with
    | some (_, cs) => off + ti.size ≤ cs.length ∧ ofCells ti.k ((cs.drop off).take ti.size) = some v
    | none => False
   | _, _, _ => False
  | .slice t x lo hi mx, some d => match opV fr x, opVo fr lo, opVo fr hi, opVo fr mx, cget fr.l d with
   | some v, some lo, some hi, some mx, some (.v u) => aSlice C.E t v lo hi mx H = some u
   | _, _, _, _, _ => False
  | .lookup t x i ok, some d => match opV fr x, opV fr i, cget fr.l d with
   | some x, some i, some (.v u) => aLookup C.E t x i ok H = some u
   | _, _, _ => False
  | .call ⟨.builtin .len, args, ts⟩, some _ => match args.toList, ts.toList with
   | [x], [t] => match opV fr x, C.E.ty t with
    | some (.slice _ _ _), some ⟨.slice _, _, _, _⟩ => True
    | _, _ => False
   | _, _ => False
  | _, _ => False
theorem cAsk_split {o : Oper} {k : Prop} (h : cAsk C ops fr L H o k) : k ∧ Asked C ops fr L H o := by
 unfold cAsk at h
 have key : ∀ {q : Prop}, (match o.op, o.dst with
  | .load t x, some d => match opS fr x, cget fr.l d, C.E.ty t with
   | some (.v (.pointer (some ⟨b, off, none⟩))), some (.v v), some _ => LD (C.tag t) H b off fun x => REQ ((C.tag t).enc x = v) q
   | some (.lp i off), some (.v v), some ti => match L[i]? with
    | some (_, cs) => if off + ti.size ≤ cs.length then REQ (ofCells ti.k ((cs.drop off).take ti.size) = some v) q else False
    | none => False
   | _, _, _ => False
  | .slice t x lo hi mx, some d => match opV fr x, opVo fr lo, opVo fr hi, opVo fr mx, cget fr.l d with
   | some v, some lo, some hi, some mx, some (.v u) => REQ (aSlice C.E t v lo hi mx H = some u) q
   | _, _, _, _, _ => False
  | .lookup t x i ok, some d => match opV fr x, opV fr i, cget fr.l d with
   | some x, some i, some (.v u) => REQ (aLookup C.E t x i ok H = some u) q
   | _, _, _ => False
  | .call ⟨.builtin .len, args, ts⟩, some _ => match args.toList, ts.toList with
   | [x], [t] => match opV fr x, C.E.ty t with
    | some (.slice _ _ _), some ⟨.slice _, _, _, _⟩ => q
    | _, _ => False
   | _, _ => False
  | _, _ => False) -> q ∧ Asked C ops fr L H o := by
  intro q hq
  unfold Asked
  split at hq
  ·rename_i t x d ho hd
   split at hq
   ·rename_i b off v ti h1 h2 h3
    obtain ⟨y, g1, g2, g3⟩ := hq
    refine ⟨g3, fun _ => ?_⟩
    exact ⟨y, g1, g2⟩
   ·rename_i i off v ti h1 h2 h3
    split at hq
    ·rename_i m cs hL
     split at hq
     ·rename_i hlen
      obtain ⟨g1, g2⟩ := hq
      refine ⟨g2, fun _ => ?_⟩
      exact ⟨hlen, g1⟩
     ·exact hq.elim
    ·exact hq.elim
   ·exact hq.elim
  ·split at hq
   ·exact ⟨hq.2, fun _ => hq.1⟩
   ·exact hq.elim
  ·split at hq
   ·exact ⟨hq.2, fun _ => hq.1⟩
   ·exact hq.elim
  ·split at hq
   ·split at hq
    ·exact ⟨hq, fun _ => trivial⟩
    ·exact hq.elim
   ·exact hq.elim
  ·exact hq.elim
 simp only at h
 split at h
 ·exact key h
 ·rename_i j want hg
  split at h
  ·rename_i hd
   refine ⟨h, fun hw => ?_⟩
   exact (hw.not ⟨j, want, hg, .inl hd⟩).elim
  ·rename_i d hd
   split at h
   ·rename_i b hc
    cases want with
    | true =>
     simp only [if_true] at h
     cases b with
     | true => exact key h
     | false => exact ⟨h, fun hw => (hw.not ⟨j, true, hg, .inr ⟨d, _, hd, hc, rfl⟩⟩).elim⟩
    | false =>
     simp only [Bool.false_eq_true, if_false] at h
     cases b with
     | true => exact ⟨h, fun hw => (hw.not ⟨j, false, hg, .inr ⟨d, _, hd, hc, rfl⟩⟩).elim⟩
     | false => exact key h
   ·rename_i xs hc
    exact ⟨h, fun hw => (hw.not ⟨j, want, hg, .inr ⟨d, _, hd, hc, rfl⟩⟩).elim⟩
   ·exact h.elim
theorem cAsks_split : ∀ {as : List Oper} {k : Prop}, cAsks C ops fr L H as k -> k ∧ ∀ o ∈ as, Asked C ops fr L H o
 | [], k, h => ⟨h, fun o ho => by simp at ho⟩
 | o :: r, k, h => by
  obtain ⟨h1, h2⟩ := cAsk_split h
  obtain ⟨h3, h4⟩ := cAsks_split h1
  refine ⟨h3, fun o' ho' => ?_⟩
  rcases List.mem_cons.1 ho' with rfl | ho'
  ·exact h2
  ·exact h4 o' ho'
theorem vals_asked {o : Oper} {s : Sv} (hv : Vals C loc o.dst o.type o.op fr L H s) (hu : ∀ t, t ∈ useOf ops o -> cget fr'.l t = cget fr.l t) (hd : ∀ d, o.dst = some d -> cget fr'.l d = some s) (hw : Wan ops o fr') (ha : Asked C ops fr' L' H' o) :
  Vals C loc o.dst o.type o.op fr' L' H' s := by
 have ha := ha hw
 have hv := vals_congr hu hv
 split at ha
 ·rename_i t x d ho hdst
  unfold Vals SameS at *
  rw [ho] at hv ⊢
  simp only [cOp, and_self, and_true] at hv ⊢
  have hcd := hd d hdst
  split at ha
  ·rename_i b off v ti h1 h2 h3
   rw [h2] at hcd; simp at hcd; subst hcd
   simp only [h1, h3] at hv ⊢
   split at hv
   ·rename_i hc
    rw [if_pos hc]
    obtain ⟨y, g1, g2⟩ := ha
    exact ⟨y, g1, by simp [g2]⟩
   ·exact hv.elim
  ·rename_i i off v ti h1 h2 h3
   rw [h2] at hcd; simp at hcd; subst hcd
   simp only [h1, h3] at hv ⊢
   split at ha
   ·rename_i m cs hL
    simp only [hL, if_pos ha.1, ha.2]
   ·exact ha.elim
  ·exact ha.elim
 ·rename_i t x lo hi mx d ho hdst
  unfold Vals SameS at *
  rw [ho] at hv ⊢
  simp only [cOp, and_self, and_true] at hv ⊢
  have hcd := hd d hdst
  split at ha
  ·rename_i v lo' hi' mx' u h1 h2 h3 h4 h5
   rw [h5] at hcd; simp at hcd; subst hcd
   simp only [h1, h2, h3, h4] at hv ⊢
   obtain ⟨y, _, g2⟩ := hv
   have g2 : Sv.v u = .v ((C.tag o.type).enc y) := by first | exact g2.symm | exact g2.1.symm
   injection g2 with g2
   exact ⟨y, by rw [ha, g2], by rw [g2]⟩
  ·exact ha.elim
 ·rename_i t x i ok d ho hdst
  unfold Vals SameS at *
  rw [ho] at hv ⊢
  simp only [cOp, and_self, and_true] at hv ⊢
  have hcd := hd d hdst
  split at ha
  ·rename_i v i' u h1 h2 h3
   rw [h3] at hcd; simp at hcd; subst hcd
   simp only [h1, h2] at hv ⊢
   split at hv
   ·rename_i hok
    subst hok
    split at hv
    ·rename_i T hT
     rw [if_pos rfl]
     obtain ⟨y, b, _, g2⟩ := hv
     have g2 : Sv.v u = .v (.tuple #[T.enc y, .bool b]) := by first | exact g2.symm | exact g2.1.symm
     injection g2 with g2
     exact ⟨y, b, by rw [ha, g2], by rw [g2]⟩
    ·exact hv.elim
   ·rename_i hok
    rw [if_neg hok]
    obtain ⟨y, _, g2⟩ := hv
    have g2 : Sv.v u = .v ((C.tag o.type).enc y) := by first | exact g2.symm | exact g2.1.symm
    injection g2 with g2
    exact ⟨y, by rw [ha, g2], by rw [g2]⟩
  ·exact ha.elim
 ·rename_i args ts d ho hdst
  unfold Vals SameS at *
  rw [ho] at hv ⊢
  simp only [cOp, cCall, and_self, and_true] at hv ⊢
  split at ha
  ·rename_i x t ea et
   split at ha
   ·rename_i p m c e1 e2 e3 h1 h2
    simp only [ea, et, h1, h2] at hv ⊢
    exact hv
   ·exact ha.elim
  ·exact ha.elim
 ·exact ha.elim
end
section
variable {C : CEnv} {M M' M0 : Mp} {H H' H0 : Heap} {w w' w0 : World} {L L' L0 : Loc} {ML ML' ML0 : Ml} {fr fr' fr0 : CFr} {a a' a0 : Act} {ro : Option Nat} {n : Nat} {Q : Exit -> Act -> World -> Prop} {Kw : Act -> World -> Prop} {loc : List Nat}
 {ops : Array Oper} {A : Nat -> Nat -> Prop} {T : Nat -> Prop} {pos : Nat -> Nat} {S : List Step} {K0 : CFr -> Loc -> Heap -> Prop} {lst : Nat -> Bool} {p : Nat} {idf : Nat -> Nat}
theorem J.exT (g : Good loc ops A T pos S) (hE : C.E.Ok C.P) (j : J C loc ops A T pos S K0 M0 H0 L0 ML0 w0 fr0 a0 lst p fr L H M ML idf a w) {i : Nat} {o : Oper} (hi : ops[i]? = some o) (hp : pos i = p) (hT : T i) (hl : lst i = false) (hA : ∀ q, A i q -> lst q = true)
  (hK : ∀ fr' L' H' M' ML' a' w', J C loc ops A T pos S K0 M0 H0 L0 ML0 w0 fr0 a0 (fun q => lst q || q == i) (p + 1) fr' L' H' M' ML' idf a' w' -> Kw a' w') : wpOpIn (Fw ro) n C.P ops Q i Kw a w := by
 obtain ⟨as, hS, _, has⟩ := g.sat i o hi
 have has := has hT
 rw [hp] at hS has
 have hlt : p < ops.size := by rw [← hp]; exact g.lt i o hi
 have hdrop : S.drop p = ⟨i, o, as⟩ :: S.drop (p + 1) := by
  obtain ⟨h1, h2⟩ := List.getElem?_eq_some_iff.1 hS
  rw [List.drop_eq_getElem_cons h1, h2]
 have hrun := j.run
 rw [hdrop] at hrun
 simp only [cSteps] at hrun
 obtain ⟨hput, fr1, hs1, hc1, hcase⟩ := cOper_split hrun
 have hsee := j.sees g hi hA
 have hone : ∀ (q : Nat) (oq : Oper), ops[q]? = some oq -> q ≠ i -> pos q < p + 1 -> pos q < p := fun q oq hq hne hlt => by
  have : pos q ≠ p := fun e => hne (g.inj q i (op_lt hq) (op_lt hi) (e.trans hp.symm))
  omega
 have huse : ∀ (s : Sv) (q : Nat) (oq : Oper), ops[q]? = some oq -> q ≠ i -> pos q < p -> lst q = false -> ∀ t, t ∈ useOf ops oq -> cget (fr1.put? o.dst s).l t = cget fr.l t := fun s q oq hq hne hlt hlq t ht => by
  cases hd : o.dst with
  | none => exact hc1 t
  | some d =>
   show cget (fr1.put d s).l t = _
   rw [cget_put, if_neg fun e => ?_]
   ·exact hc1 t
   ·subst e
    rcases g.use q oq d i o hq ht hi hd with h | ⟨_, h | h⟩
    ·have := g.ord q i (op_lt hq) (op_lt hi) h; omega
    ·exact hne h.symm
    ·have := hA q h; rw [hlq] at this; simp at this
 have hdstne : ∀ (s : Sv) (q : Nat) (oq : Oper) (d : Nat), ops[q]? = some oq -> q ≠ i -> oq.dst = some d -> cget (fr1.put? o.dst s).l d = cget fr.l d := fun s q oq d hq hne hdq => by
  cases hd : o.dst with
  | none => exact hc1 d
  | some d' =>
   show cget (fr1.put d' s).l d = _
   rw [cget_put, if_neg (fun e => hne (g.dsts q i oq o d hq hi hdq (by rw [hd, e])))]
   exact hc1 d
 have hn : ∀ s : Sv, (fr1.put? o.dst s).n = fr.n := fun s => ((hs1.trans (.put? _ _ _)).1)
 have fin : ∀ (s : Sv) (L' : Loc) (H' : Heap) (M' : Mp) (ML' : Ml) (w' : World) (u : Value), LSt M H ML w M' H' ML' w' -> LR M' H' L' ML' w' -> (∃ N, ML' = ML ++ N) -> LRel L L' -> (∀ k : Nat, ML[k]? = some none -> L'[k]? = L[k]?) →
   cAsks C ops (fr1.put? o.dst s) L' H' as (cSteps C loc ops (S.drop (p + 1)) (fr1.put? o.dst s) L' H' K0) -> SvR M' ML' s u →
   J C loc ops A T pos S K0 M0 H0 L0 ML0 w0 fr0 a0 (fun q => lst q || q == i) (p + 1) (fr1.put? o.dst s) L' H' M' ML' idf (a.put o.dst u) w' := by
  intro s L' H' M' ML' w' u hst hlr hml hrel hkeep hasks hu
  obtain ⟨hrun', hasked⟩ := cAsks_split hasks
  have hml0 : ∀ k : Nat, ML[k]? = some none -> ML'[k]? = some none := fun k hk => by
   obtain ⟨N, rfl⟩ := hml
   rw [List.getElem?_append_left (List.getElem?_eq_some_iff.1 hk).1]; exact hk
  refine ⟨by omega, fun q oq hq hTq => ?_, fun q oq hq hlq => ?_, fun x y hx hxy => ?_, hrun', j.st.trans hst, j.rel.trans hrel, j.suf.trans (hs1.trans (.put? _ _ _)), ?_, by rw [put_defers]; exact j.defers, by rw [put_size, hn]; exact j.size,
   fun t s' hs' hall => ?_, hlr, fun q oq hq hlt hlq => ?_, fun q q' oq oq' t t' hq hq' h1 h2 h3 h4 h5 h6 h7 h8 he => ?_⟩
  ·by_cases e : q = i
   ·subst e; simp [hp]
   ·have : (q == i) = false := by simpa using e
    simp only [this, Bool.or_false]
    rw [j.t1 q oq hq hTq]
    exact ⟨fun h => by omega, fun h => hone q oq hq e h⟩
  ·simp only [Bool.or_eq_true, beq_iff_eq] at hlq
   rcases hlq with h | h
   ·have := j.t2 q oq hq h; omega
   ·subst h; omega
  ·simp only [Bool.or_eq_true, beq_iff_eq] at hx ⊢
   rcases hx with h | h
   ·exact .inl (j.cl x y h hxy)
   ·subst h; exact .inl (hA y hxy)
  ·obtain ⟨N, hN⟩ := j.mlx
   obtain ⟨N', hN'⟩ := hml
   exact ⟨N ++ N', by rw [hN', hN, List.append_assoc]⟩
  ·by_cases e : o.dst = some t
   ·rw [e] at hs'
    have hs2 : cget (fr1.put t s).l t = some s' := hs'
    rw [cget_put, if_pos rfl] at hs2
    simp at hs2; subst hs2
    have hlt : t < a.tmps.size := by
     have hput' := hput
     unfold cPutOk at hput'
     rw [e] at hput'
     rw [j.size]; simpa using hput'
    rw [e, putD_eq hlt]; exact hu
   ·rw [putD_ne e]
    have hold : cget fr.l t = some s' := by
     cases hd : o.dst with
     | none => rw [hd] at hs'; rw [← hc1 t]; exact hs'
     | some d =>
      rw [hd] at hs'
      have hs2 : cget (fr1.put d s).l t = some s' := hs'
      rw [cget_put, if_neg (fun e' => e (by rw [hd, e']))] at hs2
      rw [← hc1 t]; exact hs2
    refine (j.slots t s' hold fun q oq hq hd hlt => ?_).mono2 hst.st.ext hml
    have := hall q oq hq hd (by omega)
    simp only [Bool.or_eq_true, beq_iff_eq] at this
    rcases this with h | h
    ·exact h
    ·subst h; rw [hi] at hq; simp at hq; subst hq; exact absurd hd e
  ·simp only [Bool.or_eq_false_iff, beq_eq_false_iff_ne] at hlq
   obtain ⟨hlq, hne⟩ := hlq
   have hlt' := hone q oq hq hne hlt
   obtain ⟨h1, h2⟩ := j.pend q oq hq hlt' hlq
   refine ⟨by unfold cPutOk at h1 ⊢; rw [hn]; exact h1, ?_⟩
   rcases h2 with ⟨h2, h3⟩ | ⟨h2, h3⟩
   ·exact .inl ⟨h2.congr (huse s q oq hq hne hlt' hlq), fun d hd => by rw [hdstne s q oq d hq hne hd]; exact h3 d hd⟩
   ·have hw' := h2.congr (huse s q oq hq hne hlt' hlq)
    refine .inr ⟨hw', ?_⟩
    rcases h3 with ⟨t, ti, m, e1, e2, e3, e4, e5, e6⟩ | ⟨s', e1, e2, e3⟩
    ·exact .inl ⟨t, ti, m, e1, e2, fun d hd => by rw [hdstne s q oq d hq hne hd]; exact e3 d hd, e4, hml0 _ e5, by rw [hkeep _ e5]; exact e6⟩
    ·have hd' : ∀ d, oq.dst = some d -> cget (fr1.put? o.dst s).l d = some s' := fun d hd => by rw [hdstne s q oq d hq hne hd]; exact e1 d hd
     refine .inr ⟨s', hd', e2, ?_⟩
     cases hr : reads oq.op with
     | false => exact vals_pure hr (vals_congr (huse s q oq hq hne hlt' hlq) e3) e2
     | true =>
      have hnT : ¬ T q := fun hTq => by
       have := (j.t1 q oq hq hTq).2 hlt'
       rw [hlq] at this; simp at this
      have hnA : ¬ A i q := fun h => by have := hA q h; rw [hlq] at this; simp at this
      exact vals_asked e3 (huse s q oq hq hne hlt' hlq) hd' hw' (hasked oq (has q oq hq hlt' hr hnA hnT))
  ·simp only [Bool.or_eq_false_iff, beq_eq_false_iff_ne] at h3 h4
   have k1 := hone q oq hq h3.2 h1
   have k2 := hone q' oq' hq' h4.2 h2
   exact j.ids q q' oq oq' t t' hq hq' k1 k2 h3.1 h4.1 h5 h6 (h7.congr fun t ht => (huse s q oq hq h3.2 k1 h3.1 t ht).symm) (h8.congr fun t ht => (huse s q' oq' hq' h4.2 k2 h4.1 t ht).symm) he
 unfold wpOpIn
 rw [hi]
 simp only
 rcases hcase with ⟨hu, hk⟩ | ⟨hw, hop⟩
 ·rw [unw_ok hu hsee]
  exact ⟨fun _ _ => trivial, hK _ _ _ _ _ _ _ (fin _ L H M ML w undef (.refl j.st.st.hr ML) j.lr ⟨[], by simp⟩ (.refl L) (fun _ _ => rfl) hk (VR.undef M))⟩
 ·rw [wan_ok hw hsee]
  exact cOp_ok (ro := ro) (n := n) (Q := Q) (pos := o.pos) (after := o.after) (guard := o.guard) hE j.st.st.hr j.lr (useFr_fs j.size hsee) (useFr_cOp hc1 hop) fun s L' H' M' ML' w' u hk ha hu =>
   hK _ _ _ _ _ _ _ (fin s L' H' M' ML' w' u ha.1 ha.2.1 ha.2.2.2.2.1 ha.2.2.2.1 ha.2.2.2.2.2 hk hu)
theorem J.adv (g : Good loc ops A T pos S) : ∀ (m p : Nat) (fr : CFr) (L : Loc) (ML : Ml) (idf : Nat -> Nat), J C loc ops A T pos S K0 M0 H0 L0 ML0 w0 fr0 a0 lst p fr L H M ML idf a w -> p + m ≤ ops.size -> (∀ i o, ops[i]? = some o -> p ≤ pos i -> pos i < p + m -> ¬ T i ∧ lst i = false) →
  ∃ fr' L' ML' idf', J C loc ops A T pos S K0 M0 H0 L0 ML0 w0 fr0 a0 lst (p + m) fr' L' H M ML' idf' a w
 | 0, p, fr, L, ML, idf, j, _, _ => ⟨fr, L, ML, idf, j⟩
 | m + 1, p, fr, L, ML, idf, j, hle, hno => by
  obtain ⟨i, o, hi, hp⟩ := g.inv p (by omega)
  obtain ⟨h1, h2⟩ := hno i o hi (by omega) (by omega)
  obtain ⟨fr1, L1, ML1, idf1, j1⟩ := j.adv1 g hi hp h1 h2
  obtain ⟨fr2, L2, ML2, idf2, j2⟩ := J.adv g m (p + 1) fr1 L1 ML1 idf1 j1 (by omega) (fun i o hi h1 h2 => hno i o hi (by omega) (by omega))
  exact ⟨fr2, L2, ML2, idf2, by rw [show p + (m + 1) = p + 1 + m by omega]; exact j2⟩
def JJ (C : CEnv) (loc : List Nat) (ops : Array Oper) (A : Nat -> Nat -> Prop) (T : Nat -> Prop) (pos : Nat -> Nat) (S : List Step) (K0 : CFr -> Loc -> Heap -> Prop) (M0 : Mp) (H0 : Heap) (L0 : Loc) (ML0 : Ml) (w0 : World) (fr0 : CFr) (a0 : Act) (lst : Nat -> Bool) (a : Act) (w : World) : Prop :=
 ∃ p fr L H M ML idf, J C loc ops A T pos S K0 M0 H0 L0 ML0 w0 fr0 a0 lst p fr L H M ML idf a w
theorem JJ.step (g : Good loc ops A T pos S) (hE : C.E.Ok C.P) (jj : JJ C loc ops A T pos S K0 M0 H0 L0 ML0 w0 fr0 a0 lst a w) {i : Nat} {o : Oper} (hi : ops[i]? = some o) (hl : lst i = false) (he : ∀ e ∈ o.after.toList, Region.binds .any e = true -> lst e.on = true)
  (hK : ∀ a' w', JJ C loc ops A T pos S K0 M0 H0 L0 ML0 w0 fr0 a0 (fun q => lst q || q == i) a' w' -> Kw a' w') : wpOpIn (Fw ro) n C.P ops Q i Kw a w := by
 obtain ⟨p, fr, L, H, M, ML, idf, j⟩ := jj
 have hA : ∀ q, A i q -> lst q = true := fun q hq => by
  obtain ⟨o', e, h1, h2, h3, h4⟩ := g.edge i q hq
  rw [hi] at h1; simp at h1; subst h1
  have := he e h2 h3
  rcases h4 with rfl | h4
  ·exact this
  ·exact j.cl _ _ this h4
 have hno : ∀ (q : Nat) (oq : Oper), ops[q]? = some oq -> p ≤ pos q -> pos q < pos i -> ¬ T q ∧ lst q = false := fun q oq hq h1 h2 => by
  have hlq : lst q = false := by
   cases h : lst q with
   | false => rfl
   | true => have := j.t2 q oq hq h; omega
  refine ⟨fun hTq => ?_, hlq⟩
  have := hA q (g.tt i q (op_lt hi) (op_lt hq) hTq h2)
  rw [hlq] at this; simp at this
 have hpi := g.lt i o hi
 by_cases hT : T i
 ·have hge : p ≤ pos i := by
   rcases Nat.lt_or_ge (pos i) p with h | h
   ·have := (j.t1 i o hi hT).2 h
    rw [hl] at this; simp at this
   ·exact h
  obtain ⟨fr1, L1, ML1, idf1, j1⟩ := J.adv g (pos i - p) p fr L ML idf j (by omega) (fun q oq hq h1 h2 => hno q oq hq h1 (by omega))
  rw [show p + (pos i - p) = pos i by omega] at j1
  exact j1.exT g hE hi rfl hT hl hA fun fr' L' H' M' ML' a' w' j' => hK a' w' ⟨_, _, _, _, _, _, _, j'⟩
 ·by_cases hlt : pos i < p
  ·exact j.exP g hE hi hlt hT hl hA fun M' ML' a' w' j' => hK a' w' ⟨_, _, _, _, _, _, _, j'⟩
  ·obtain ⟨fr1, L1, ML1, idf1, j1⟩ := J.adv g (pos i + 1 - p) p fr L ML idf j (by omega) (fun q oq hq h1 h2 => by
    by_cases e : pos q = pos i
    ·have := g.inj q i (op_lt hq) (op_lt hi) e
     subst this
     exact ⟨hT, hl⟩
    ·exact hno q oq hq h1 (by omega))
   rw [show p + (pos i + 1 - p) = pos i + 1 by omega] at j1
   exact j1.exP g hE hi (by omega) hT hl hA fun M' ML' a' w' j' => hK a' w' ⟨_, _, _, _, _, _, _, j'⟩
theorem any_gen {P : Program} {I : (Nat -> Bool) -> Act -> World -> Prop} (back : ∀ (i : Nat) (o : Oper) (e : Edge), ops[i]? = some o -> e ∈ o.after.toList -> Region.binds .any e = true -> e.on < i)
  (step : ∀ (lst : Nat -> Bool) (a : Act) (w : World) (i : Nat) (o : Oper) (K : Act -> World -> Prop), I lst a w -> ops[i]? = some o -> lst i = false -> (∀ e ∈ o.after.toList, Region.binds .any e = true -> lst e.on = true) -> (∀ a' w', I (fun q => lst q || q == i) a' w' -> K a' w') -> wpOpIn (Fw ro) n P ops Q i K a w)
  (hQ : ∀ lst a w, (∀ q, q < ops.size -> lst q = true) -> I lst a w -> Q .normal a w) :
  ∀ (fuel : Nat) (listed : Array Bool) (a : Act) (w : World), listed.size = ops.size -> (List.range ops.size).countP (fun i => !Lof listed i) ≤ fuel -> I (Lof listed) a w -> wpAnyIn (Fw ro) n P .any ops Q fuel listed a w := by
 have allListed : ∀ (listed : Array Bool), listed.size = ops.size -> Region.ready .any ops listed = [] -> ∀ q, q < ops.size -> Lof listed q = true := by
  intro listed hls hr q
  induction q using Nat.strongRecOn with
  | _ q ih =>
   intro hq
   cases hL : Lof listed q with
   | true => rfl
   | false =>
    exfalso
    have : q ∈ Region.ready .any ops listed := by
     rw [mem_ready]
     refine ⟨?_, ops[q], Array.getElem?_eq_getElem hq, fun e he hb => ?_⟩
     ·unfold Lof at hL
      have hql : q < listed.size := by omega
      simp only [Array.getD_eq_getD_getElem?, Array.getElem?_eq_getElem hql, Option.getD_some] at hL ⊢
      exact hL
     ·have hlt := back q _ e (Array.getElem?_eq_getElem hq) (by simpa using he) hb
      exact ih e.on hlt (by omega)
    rw [hr] at this; simp at this
 intro fuel
 induction fuel with
 | zero =>
  intro listed a w hls hcnt d
  have hall : ∀ q, q < ops.size -> Lof listed q = true := by
   intro q hq
   have h0 : (List.range ops.size).countP (fun i => !Lof listed i) = 0 := by omega
   have := List.countP_eq_zero.1 h0 q (by simpa using hq)
   simpa using this
  refine ⟨?_, hQ _ a w hall d⟩
  apply List.eq_nil_iff_forall_not_mem.2
  intro i hi
  rw [mem_ready] at hi
  obtain ⟨h1, o, h2, _⟩ := hi
  have hin : i < ops.size := (Array.getElem?_eq_some_iff.1 h2).1
  have := hall i hin
  unfold Lof at this
  have hql : i < listed.size := by omega
  simp only [Array.getD_eq_getD_getElem?, Array.getElem?_eq_getElem hql, Option.getD_some] at h1 this
  rw [h1] at this; simp at this
 | succ fuel ih =>
  intro listed a w hls hcnt d
  refine ⟨fun hr => hQ _ a w (allListed listed hls hr) d, fun i hi => ?_⟩
  rw [mem_ready] at hi
  obtain ⟨h1, o, h2, h3⟩ := hi
  have hin : i < ops.size := (Array.getElem?_eq_some_iff.1 h2).1
  have hql : i < listed.size := by omega
  have hL : Lof listed i = false := by
   unfold Lof
   simp only [Array.getD_eq_getD_getElem?, Array.getElem?_eq_getElem hql, Option.getD_some] at h1 ⊢
   exact h1
  refine step _ a w i o _ d h2 hL (fun e he hb => h3 e (by simpa using he) hb) fun a' w' d' => ?_
  have hLe : (fun q => Lof listed q || q == i) = Lof (listed.setIfInBounds i true) := by
   funext q
   unfold Lof
   by_cases e : i = q
   ·subst e
    simp [hql]
   ·rw [getD_set_ne false e]
    have : (q == i) = false := by simpa using Ne.symm e
    rw [this, Bool.or_false]
  rw [hLe] at d'
  refine ih _ a' w' (by simpa using hls) ?_ d'
  have := countP_lt (l := List.range ops.size) (p := fun i => !Lof listed i) (q := fun q => !Lof (listed.setIfInBounds i true) q) (i := i) ?_ (by simpa using hin) (by simp [hL]) (by rw [← hLe]; simp)
  ·omega
  ·intro x hx
   rw [← hLe] at hx
   simp at hx ⊢
   exact hx.1
theorem LR.drew (l : LR M H L ML w) : LR M H L ML w.drew :=
 ⟨l.len, fun i e n cs hi hL => l.loc i e n cs hi hL, l.sep1, l.sep2⟩
theorem drawn_ok (hE : C.E.Ok C.P) {id : Nat} (hS : drawOrd loc ops = some S) (ho : cSteps C loc ops S fr L H K0) (h : HR M H w) (l : LR M H L ML w) (f : FS M ML fr a.tmps)
  (hQ : ∀ fr' L' H' M' ML' a' w', K0 fr' L' H' -> Behind M H L ML w fr a M' H' L' ML' w' fr' a' -> Q .normal a' w') : (Code.region id ops true).wpIn (Fw ro) n C.P Q a w := by
 obtain ⟨A, T, pos, g⟩ := good_of hS
 refine wpIn_region_any hE.ord ?_
 have hL0 : ∀ q, Lof (Array.replicate ops.size false) q = false := by
  intro q
  unfold Lof
  rcases Nat.lt_or_ge q ops.size with hq | hq
  ·simp [hq]
  ·simp [hq]
 refine any_gen (I := JJ C loc ops A T pos S K0 M H L ML w fr a) g.back (fun lst a' w' i o K jj hi hl he hK => jj.step g hE hi hl he hK) (fun lst a' w' hall jj => ?_) ops.size _ a _ (by simp) ?_ ?_
 ·obtain ⟨p, fr', L', H', M', ML', idf, j⟩ := jj
  have hp : p = ops.size := by
   rcases Nat.lt_or_ge p ops.size with h | h
   ·obtain ⟨i, o, hi, hpi⟩ := g.inv p h
    have := j.t2 i o hi (hall i (op_lt hi))
    omega
   ·have := j.le; omega
  subst hp
  have hrun := j.run
  rw [List.drop_of_length_le (by rw [g.slen]; exact Nat.le_refl _)] at hrun
  exact hQ fr' L' H' M' ML' a' w' hrun ⟨j.st, j.lr, ⟨j.size, fun t s hs => j.slots t s hs fun i o hi _ _ => hall i (op_lt hi)⟩, j.rel, j.suf, j.mlx, .of_eq j.defers⟩
 ·have := List.countP_le_length (p := fun i => !Lof (Array.replicate ops.size false) i) (l := List.range ops.size)
  simpa using this
 ·refine ⟨0, fr, L, H, M, ML, fun _ => 0, Nat.zero_le _, fun i o hi _ => ?_, fun i o hi hl => ?_, fun i q hi => ?_, ho, (Stp.drew h).toLSt ML, .refl L, .refl fr, ⟨[], by simp⟩, rfl, f.size, fun t s hs _ => f.get t s hs, l.drew, fun i o hi hlt => by omega, fun i i' o o' t t' hi hi' h1 => by omega⟩
  ·rw [hL0]; simp
  ·rw [hL0] at hl; simp at hl
  ·rw [hL0] at hi; simp at hi
theorem reg_ok (hE : C.E.Ok C.P) {id : Nat} {draw : Bool} (ho : cReg C loc ops draw fr L H K0) (h : HR M H w) (l : LR M H L ML w) (f : FS M ML fr a.tmps)
  (hQ : ∀ fr' L' H' M' ML' a' w', K0 fr' L' H' -> Behind M H L ML w fr a M' H' L' ML' w' fr' a' -> Q .normal a' w') : (Code.region id ops draw).wpIn (Fw ro) n C.P Q a w := by
 unfold cReg at ho
 cases draw with
 | false => simp at ho; exact text_ok hE ho h l f hQ
 | true =>
  simp only [if_true] at ho
  split at ho
  ·rename_i S hS; exact drawn_ok hE hS ho h l f hQ
  ·exact ho.elim
end
end Go.Proofs.YtolekmhhkopooaaGreatDoor.Zq
end
