/- What a code comes to, as a proposition over typed values; a function's own variables stand beside the heap. Definitions alone. -/
import Derived.Test.YthgfjbafhjkhnaaGreatZqFn
namespace Go.Proofs.YthgfjbafhjkhnaaGreat.Zq

/-! ### Typed values -/
/-- A Lean type for a Go type: its cells. 'agg': a struct or an array. -/
structure Tag where
  α : Type
  agg : Bool
  n : Nat
  cells : α → List Value
  of : List Value → Option α
  ok : ∀ cs x, of cs = some x → cs = cells x

def encC (agg : Bool) (cs : List Value) : Value := if agg then .agg cs.toArray else match cs with | [v] => v | _ => undef
def Tag.enc (T : Tag) (x : T.α) : Value := encC T.agg (T.cells x)
def Tag.dec (T : Tag) (v : Value) : Option T.α :=
  match v with
  | .agg cs => if T.agg then T.of cs.toList else none
  | .tuple _ => none
  | v => if T.agg then none else T.of [v]

def Tup : List Tag → Type
  | [] => Unit
  | t :: r => t.α × Tup r
def encs : (ts : List Tag) → Tup ts → List Value
  | [], _ => []
  | t :: r, x => t.enc x.1 :: encs r x.2

/-! ### What a slot holds -/
inductive Sv where
  | v (v : Value)
  | lp (i off : Nat)
  | ls (i n : Nat)

structure CFr where
  n : Nat
  l : List (Nat × Option Sv)

def cget : List (Nat × Option Sv) → Nat → Option Sv
  | [], _ => none
  | (i, v) :: r, t => if i = t then v else cget r t
def CFr.put (fr : CFr) (d : Nat) (s : Sv) : CFr := ⟨fr.n, (d, some s) :: fr.l⟩
def CFr.put? (fr : CFr) (d : Option Nat) (s : Sv) : CFr :=
  match d with
  | some d => fr.put d s
  | none => fr

/-- A function's own variables: how often each was written, its cells. -/
abbrev Loc := List (Nat × List Value)

def opS (fr : CFr) : Operand → Option Sv
  | .tmp t => cget fr.l t
  | .const v => if flat v then some (.v v) else none
  | .global _ => none
  | .func f => some (.v (.func (.func f) #[] #[]))
def opV (fr : CFr) (x : Operand) : Option Value :=
  match opS fr x with
  | some (.v v) => some v
  | _ => none
def opVs (fr : CFr) : List Operand → Option (List Value)
  | [] => some []
  | x :: r => match opV fr x, opVs fr r with | some v, some vs => some (v :: vs) | _, _ => none
def opPs (fr : CFr) : List (Nat × Operand) → Option (List (Nat × Value))
  | [] => some []
  | (i, x) :: r => match opV fr x, opPs fr r with | some v, some vs => some ((i, v) :: vs) | _, _ => none
def opVo (fr : CFr) : Option Operand → Option (Option Value)
  | none => some none
  | some x => match opV fr x with | some v => some (some v) | none => none

/-! ### The words of the propositions -/
/-- The call of a function: it returns, and what it hands back is as Q says. -/
def EV (P : Program) (g : FuncId) (args : List Value) (H : Heap) (Q : Value → Heap → Prop) : Prop :=
  (∃ fn, P.funcs[g]? = some fn ∧ fn.body.isSome = true ∧ (fn.name == "runtime.NumGoroutine") = false) ∧
  ∀ (n : Nat) (M : Mp) (w : World) (args' : List Value), HR M H w → VL M args args' →
    CallsIn Fence.wide n P g args'.toArray w fun e w' => ∃ v v' M' H', e = .returned v' ∧ Stp M H w M' H' w' ∧ VR M' v v' ∧ Q v H'

/-- A round of a loop over a function, asked for through its yield. -/
def EVY (P : Program) (l : Nat) (args : List Value) (H : Heap) (Q : Value → Heap → Prop) : Prop :=
  ∀ (n : Nat) (M : Mp) (w : World) (args' : List Value) (e : Ent), HR M H w → VL M args args' → M[l]? = some (some e) →
    ∃ L : Loop, w.heap[e.blk]? = some (.loop L) ∧ args'.length = L.params.size ∧
      RoundIn Fence.wide n P e.blk L.fn ((L.params.zip args'.toArray).foldl (fun tmps (t, a) => tmps.setIfInBounds t a) L.tmps) L.assign L.body w fun e w' => ∃ v v' M' H', e = .returned v' ∧ Stp M H w M' H' w' ∧ VR M' v v' ∧ Q v H'
/-- What is asked behind a round's body. -/
def RK (lb : LoopState → Option Ex → ABlk) (l : Nat) (k : Value → Heap → Prop) (e : Ex) (H : Heap) : Prop :=
  H[l]? = some (lb .busy none) ∧ match e with | .normal => k (.bool true) (H.set l (lb .ready none)) | e => k (.bool false) (H.set l (lb .done (some e)))

def CALL (P : Program) (rs : List Tag) (g : FuncId) (args : List Value) (H : Heap) (k : Tup rs → Heap → Prop) : Prop :=
  EV P g args H fun v H' => ∃ x : Tup rs, v = tupleOf (encs rs x) ∧ k x H'
/-- The call of a function value. -/
def CALLV (P : Program) (rs : List Tag) (f : Value) (args : List Value) (H : Heap) (k : Tup rs → Heap → Prop) : Prop :=
  (∃ g xs ys, f = .func (.func g) xs ys ∧ CALL P rs g (xs.toList ++ args ++ ys.toList) H k) ∨ (∃ l, f = .func (.yield l) #[] #[] ∧ EVY P l args H fun v H' => ∃ x : Tup rs, v = tupleOf (encs rs x) ∧ k x H')
/-- One of the ways out. -/
def RFX : List Ex → Ex → (Ex → Prop) → Prop
  | [], _, _ => False
  | x :: r, e, K => (e = x ∧ K x) ∨ RFX r e K
/-- A loop over a function: B is a round's body. -/
def RF (P : Program) (ts : List Tag) (g : FuncId) (xs ys : List Value) (H : Heap) (B : (LoopState → Option Ex → ABlk) → Tup ts → Heap → (Ex → Heap → Prop) → Prop) (K : Ex → Heap → Prop) : Prop :=
  ∀ lb : LoopState → Option Ex → ABlk, (∀ (x : Tup ts) H1 k, H1[H.length]? = some (lb .ready none) ∧ B lb x H1 (RK lb H.length k) → EVY P H.length (encs ts x) H1 k) →
    EV P g (xs ++ [.func (.yield H.length) #[] #[]] ++ ys) (H ++ [lb .ready none]) fun _ H2 => ∃ st pend, H2[H.length]? = some (lb st pend) ∧ st ≠ .busy ∧ K (pend.getD .normal) (H2.set H.length (lb .exhausted pend))
def RFV (P : Program) (ts : List Tag) (f : Value) (H : Heap) (B : (LoopState → Option Ex → ABlk) → Tup ts → Heap → (Ex → Heap → Prop) → Prop) (K : Ex → Heap → Prop) : Prop :=
  ∃ g xs ys, f = .func (.func g) xs ys ∧ RF P ts g xs.toList ys.toList H B K
/-- A load. -/
def LD (T : Tag) (H : Heap) (b off : Nat) (k : T.α → Prop) : Prop := ∃ x, rd H b off T.n = some (T.cells x) ∧ k x
/-- A store. -/
def ST (H : Heap) (b off : Nat) (cs : List Value) (k : Heap → Prop) : Prop := ∃ H', wr H b off cs = some H' ∧ k H'
/-- A pointer is not nil. -/
def NIL (p : Option Addr) (k : Nat → Nat → Prop) : Prop := match p with | some ⟨b, off, none⟩ => k b off | _ => False
/-- An index into a slice. -/
def IDX (p : Option Addr) (len : Nat) (i : Int) (sz : Nat) (k : Nat → Nat → Prop) : Prop := NIL p fun b off => (0 ≤ i ∧ i < len) ∧ k b (off + i.toNat * sz)
/-- An index into an array in memory. -/
def IDXA (len : Nat) (i : Int) (k : Prop) : Prop := (0 ≤ i ∧ i < len) ∧ k
/-- What another operation gives: a value and a heap; a value; a heap. -/
def GEN (T : Tag) (x : Option (Value × Heap)) (k : T.α → Heap → Prop) : Prop := ∃ y H', x = some (T.enc y, H') ∧ k y H'
def GENV (T : Tag) (x : Option Value) (k : T.α → Prop) : Prop := ∃ y, x = some (T.enc y) ∧ k y
def GENH (x : Option Heap) (k : Heap → Prop) : Prop := ∃ H', x = some H' ∧ k H'
/-- What a map holds at a key, and whether it does. -/
def LKP (T : Tag) (x : Option Value) (k : T.α → Bool → Prop) : Prop := ∃ y b, x = some (.tuple #[T.enc y, .bool b]) ∧ k y b
/-- An append that grows, where nothing before lies open: x more are behind it. -/
def growE (E : Env) (ts : List TypeId) (len n : Nat) (old xs : List Value) (H : Heap) (x : Nat) : Option (Value × Heap) :=
  match ts with
  | [ts, tx] => match E.ty ts, E.ty tx with
    | some ti, some tj => match ti.k, tj.k with
      | _, .int _ => none
      | .slice e, _ => match E.ty e with
        | some te => if te.size = 0 ∨ xs.length ≠ n * te.size ∨ old.length ≠ len * te.size then none
          else if 2 * (len + n) * te.bytes ≤ 281474976710656 ∧ te.bytes ≠ 0 then some (.slice (some ⟨H.length, 0, none⟩) (len + n) (len + n + x), mk H (old ++ xs ++ rep x te.zero) te.size false) else none
        | none => none
      | _, _ => none
    | _, _ => none
  | _ => none
def eltE (E : Env) (ts : List TypeId) : Nat :=
  match ts with
  | ts :: _ => match E.ty ts with
    | some ti => match ti.k with
      | .slice e => match E.ty e with | some te => te.size | none => 0
      | _ => 0
    | none => 0
  | [] => 0
/-- Append; x: what lies behind if it grows. -/
def aAppE (E : Env) (ts : List TypeId) (s : Value) (n : Nat) (xs : List Value) (H : Heap) (x : Nat) : Option (Value × Heap) :=
  match s with
  | .slice none 0 0 => if n = 0 then aAppX E ts s n xs H else growE E ts 0 n [] xs H x
  | .slice (some ⟨b, off, none⟩) len cap =>
    if n ≠ 0 ∧ cap < len + n ∧ exact H b off cap = true then match rd H b off (len * eltE E ts) with | some old => growE E ts len n old xs H x | none => none
    else aAppX E ts s n xs H
  | s => aAppX E ts s n xs H
def aAppendE (E : Env) (ts : List TypeId) (s x : Value) (H : Heap) (y : Nat) : Option (Value × Heap) :=
  match ts with
  | [t1, t2] => match E.ty t1 with
    | some ti => match ti.k with
      | .slice e => match E.ty e with
        | some te => match lenX x with
          | some n => match firstOf x n te.size H with
            | some xs => aAppE E [t1, t2] s n xs H y
            | none => none
          | none => none
        | none => none
      | _ => none
    | none => none
  | _ => none
def lenV : Value → Nat
  | .slice _ n _ => n
  | _ => 0
/-- Whatever lies behind. -/
def APP (T : Tag) (m : Nat) (f : Nat → Option (Value × Heap)) (k : T.α → Heap → Prop) : Prop := ∀ x, (x = 0 ∨ m + x ≤ 9223372036854775807) → GEN T (f x) k
/-- A condition, ahead. -/
def REQ (c : Prop) (k : Prop) : Prop := c ∧ k
/-- Ways meet. -/
def JOIN {S : Type} (A : (S → Heap → Prop) → Prop) (B : S → Heap → Prop) : Prop := A B
/-- A loop: m rounds at most. -/
def itP {S : Type} (F : (S → Heap → Prop) → S → Heap → Prop) : Nat → S → Heap → Prop
  | 0, _, _ => False
  | m + 1, s, H => F (itP F m) s H
def LOOP {S : Type} (F : (S → Heap → Prop) → S → Heap → Prop) (s : S) (H : Heap) : Prop := ∃ m, itP F m s H

/-- A choice; a known bool decides it at once. -/
def ifB (g : Bool) (a b : Prop) : Prop := match g with | true => a | false => b

/-! ### Equality of structs and arrays, without a way out -/
mutual
def cEqV (E : Env) : Nat → TypeId → Value → Value → Option Bool
  | 0, _, _, _ => none
  | d + 1, t, x, y =>
    match E.ty t with
    | none => none
    | some ti =>
      match ti.k, x, y with
      | .struct fs, .agg xs, .agg ys => cEqF E d fs xs.toList ys.toList
      | .array n e, .agg xs, .agg ys => match E.ty e with | some te => cEqE E d e te.size n 0 xs.toList ys.toList | none => none
      | k, x, y => eq1 k x y
def cEqF (E : Env) : Nat → List (Nat × TypeId) → List Value → List Value → Option Bool
  | 0, _, _, _ => none
  | _ + 1, [], _, _ => some true
  | d + 1, (o, t) :: r, xs, ys =>
    match aPart E t xs o, aPart E t ys o with
    | some x, some y => match cEqV E d t x y, cEqF E d r xs ys with | some b, some c => some (b && c) | _, _ => none
    | _, _ => none
def cEqE (E : Env) : Nat → TypeId → Nat → Nat → Nat → List Value → List Value → Option Bool
  | 0, _, _, _, _, _, _ => none
  | d + 1, e, size, n, i, xs, ys =>
    match n with
    | 0 => some true
    | n + 1 =>
      match aPart E e xs (i * size), aPart E e ys (i * size) with
      | some x, some y => match cEqV E d e x y, cEqE E d e size n (i + 1) xs ys with | some b, some c => some (b && c) | _, _ => none
      | _, _ => none
end

/-- A binary operation. -/
def cBin (E : Env) (op : BinOp) (t : TypeId) (x y : Value) (k : Value → Prop) : Prop :=
  match x, y with
  | .int ka a, .int kb b =>
    match op with
    | .shl => REQ (0 ≤ b) (k (.int ka (ka.wrap (a * 2 ^ (min b.toNat ka.bits)))))
    | .shr => REQ (0 ≤ b) (k (.int ka (a.fdiv (2 ^ (min b.toNat ka.bits)))))
    | .quo => if ka = kb then REQ (b ≠ 0) (k (.int ka (ka.wrap (a.tdiv b)))) else False
    | .rem => if ka = kb then REQ (b ≠ 0) (k (.int ka (a.tmod b))) else False
    | op => match aBin E op t (.int ka a) (.int kb b) with | some v => k v | none => False
  | .string a, .string b =>
    match op with
    | .add => REQ (a.size + b.size ≤ 9223372036854775807) (k (.string (a ++ b)))
    | op => match aBin E op t (.string a) (.string b) with | some v => k v | none => False
  | .pointer p, .pointer none =>
    match E.ty t with
    | some ⟨.pointer _, _, _, _⟩ =>
      match op with
      | .eql => k (.bool p.isNone)
      | .neq => k (.bool !p.isNone)
      | _ => False
    | _ => False
  | .slice p _ _, .slice none 0 0 =>
    match E.ty t with
    | some ⟨.slice _, _, _, _⟩ =>
      match op with
      | .eql => k (.bool p.isNone)
      | .neq => k (.bool !p.isNone)
      | _ => False
    | _ => False
  | x, y =>
    match op with
    | .eql => match cEqV E 100 t x y with | some b => k (.bool b) | none => False
    | .neq => match cEqV E 100 t x y with | some b => k (.bool !b) | none => False
    | _ => False

/-! ### Operations -/
structure CEnv where
  E : Env
  P : Program
  tag : TypeId → Tag
  res : FuncId → List Tag
  lkp : TypeId → Option Tag
  rt : TypeId → List Tag

def cCall (C : CEnv) (fr : CFr) (c : Call) (ty : TypeId) (L : Loc) (H : Heap) (k : Sv → Loc → Heap → Prop) : Prop :=
  match c.callee with
  | .value (.func g) => match opVs fr c.args.toList with
    | some vs => CALL C.P (C.res g) g vs H fun x H' => k (.v (tupleOf (encs (C.res g) x))) L H'
    | none => False
  | .value f => match opV fr f, opVs fr c.args.toList with
    | some f, some vs => CALLV C.P (C.rt ty) f vs H fun x H' => k (.v (tupleOf (encs (C.rt ty) x))) L H'
    | _, _ => False
  | .builtin .len => match c.args.toList, c.argTypes.toList with
    | [x], [t] => match opV fr x, C.E.ty t with
      | some (.slice _ n _), some ⟨.slice _, _, _, _⟩ => k (.v (.int .i64 n)) L H
      | some v, some _ => GENV (C.tag ty) (aLen C.E t v H) fun x => k (.v ((C.tag ty).enc x)) L H
      | _, _ => False
    | _, _ => False
  | .builtin .cap => match c.args.toList, c.argTypes.toList with
    | [x], [t] => match opV fr x with
      | some v => GENV (C.tag ty) (aCap C.E t v H) fun x => k (.v ((C.tag ty).enc x)) L H
      | _ => False
    | _, _ => False
  | .builtin .append => match c.args.toList with
    | [s, x] => match opV fr s, opS fr x with
      | some s, some (.ls i n) => match L[i]? with
        | some (_, cs) => APP (C.tag ty) (lenV s + n) (aAppE C.E c.argTypes.toList s n cs H) fun x H' => k (.v ((C.tag ty).enc x)) L H'
        | none => False
      | some s, some (.v x) => APP (C.tag ty) (lenV s + (lenX x).getD 0) (aAppendE C.E c.argTypes.toList s x H) fun x H' => k (.v ((C.tag ty).enc x)) L H'
      | _, _ => False
    | _ => False
  | .builtin .copy => match opVs fr c.args.toList with
    | some [d, x] => GEN (C.tag ty) (aCopy C.E c.argTypes.toList d x H) fun x H' => k (.v ((C.tag ty).enc x)) L H'
    | _ => False
  | .builtin .min => match opVs fr c.args.toList with | some (x :: r) => (match aMinL false x r with | some v => k (.v v) L H | none => False) | _ => False
  | .builtin .max => match opVs fr c.args.toList with | some (x :: r) => (match aMinL true x r with | some v => k (.v v) L H | none => False) | _ => False
  | _ => False

def cOp (C : CEnv) (loc : List Nat) (dst : Option Nat) (ty : TypeId) (op : Op) (fr : CFr) (L : Loc) (H : Heap) (k : Sv → Loc → Heap → Prop) : Prop :=
  match op with
  | .move x | .assign x => match opS fr x with | some s => k s L H | none => False
  | .pick c a b => match opV fr c with
    | some (.bool g) => ifB g (match opS fr a with | some s => k s L H | none => False) (match opS fr b with | some s => k s L H | none => False)
    | _ => False
  | .alloc t => match C.E.ty t with
    | some ti => if loc.contains (dst.getD 0) then k (.lp L.length 0) (L ++ [(0, ti.zero)]) H else k (.v (.pointer (some ⟨H.length, 0, none⟩))) L (mk H ti.zero ti.size false)
    | none => False
  | .box _ x => match opV fr x with
    | some v => if loc.contains (dst.getD 0) then k (.lp L.length 0) (L ++ [(0, v.cells.toList)]) H else k (.v (.pointer (some ⟨H.length, 0, none⟩))) L (mk H v.cells.toList v.cells.toList.length false)
    | none => False
  | .build t ps => match opPs fr ps.toList with
    | some ps => match aBuild C.E t ps with | some v => k (.v v) L H | none => False
    | none => False
  | .buildSlice t n ps => match opPs fr ps.toList with
    | some qs => match aBuildSlice C.E t n qs [] with
      | some (_, [.row cs sz false false true]) => if loc.contains (dst.getD 0) then k (.ls L.length n) (L ++ [(0, cs)]) H else k (.v (.slice (some ⟨H.length, 0, none⟩) n n)) L (mk H cs sz false)
      | _ => False
    | none => False
  | .load t x => match opS fr x with
    | some (.lp i off) => match L[i]?, C.E.ty t with
      | some (_, cs), some ti => if off + ti.size ≤ cs.length then match ofCells ti.k ((cs.drop off).take ti.size) with | some v => k (.v v) L H | none => False else False
      | _, _ => False
    | some (.v (.pointer (some ⟨b, off, none⟩))) => match C.E.ty t with
      | some ti => if ti.size = (C.tag t).n ∧ isAggK ti.k = (C.tag t).agg ∧ ((C.tag t).agg = true ∨ ti.size = 1) then LD (C.tag t) H b off fun x => k (.v ((C.tag t).enc x)) L H else False
      | none => False
    | _ => False
  | .store t x y => match opV fr y, C.E.ty t with
    | some v, some ti => if v.cells.toList.length = ti.size then
      match opS fr x with
      | some (.lp i off) => match L[i]? with
        | some (n, cs) => if off + ti.size ≤ cs.length ∧ v.cells.toList.all cell1 = true then k (.v undef) (L.set i (n + 1, patch cs off v.cells.toList)) H else False
        | none => False
      | some (.v (.pointer (some ⟨b, off, none⟩))) => ST H b off v.cells.toList fun H' => k (.v undef) L H'
      | _ => False else False
    | _, _ => False
  | .nilCheck x => match opS fr x with
    | some (.lp i off) => k (.lp i off) L H
    | some (.v (.pointer p)) => NIL p fun b off => k (.v (.pointer (some ⟨b, off, none⟩))) L H
    | some (.v (.func (.func f) xs ys)) => k (.v (.func (.func f) xs ys)) L H
    | some (.v (.func (.yield l) ⟨[]⟩ ⟨[]⟩)) => k (.v (.func (.yield l) #[] #[])) L H
    | _ => False
  | .binOp op t x y _ => match opV fr x, opV fr y with
    | some a, some b => cBin C.E op t a b fun v => k (.v v) L H
    | _, _ => False
  | .unOp op _ x => match opV fr x with
    | some a => match aUn op a with | some v => k (.v v) L H | none => False
    | none => False
  | .convert s d x => match opV fr x with
    | some a => match aConv C.E s d a with | some v => k (.v v) L H | none => False
    | none => False
  | .makeFunc (.func f) first caps => match opVs fr first.toList, opVs fr caps.toList with
    | some xs, some ys => k (.v (.func (.func f) xs.toArray ys.toArray)) L H
    | _, _ => False
  | .fieldAddr t x i => match opS fr x with
    | some (.lp j off) => match C.E.ty t with
      | some ⟨.struct fs, _, _, _⟩ => match fs[i]? with
        | some (o, ft) => match C.E.ty ft with
          | some te => if te.size = 0 then False else k (.lp j (off + o)) L H
          | none => False
        | none => False
      | _ => False
    | some (.v v) => match aFieldAddr C.E t v i with | some v => k (.v v) L H | none => False
    | _ => False
  | .field t x i => match opV fr x with
    | some v => match aField C.E t v i with | some v => k (.v v) L H | none => False
    | none => False
  | .indexAddr t x i => match opS fr x, opV fr i with
    | some (.lp j off), some (.int _ n) => match C.E.ty t with
      | some ⟨.array len e, _, _, _⟩ => match C.E.ty e with
        | some te => if 0 ≤ n ∧ n < len then k (.lp j (off + n.toNat * te.size)) L H else False
        | none => False
      | _ => False
    | some (.v (.slice p len _)), some (.int _ n) => match C.E.ty t with
      | some ⟨.slice e, _, _, _⟩ => match C.E.ty e with
        | some te => IDX p len n te.size fun b off => k (.v (.pointer (some ⟨b, off, none⟩))) L H
        | none => False
      | _ => False
    | some (.v (.pointer (some ⟨b, off, none⟩))), some (.int _ n) => match C.E.ty t with
      | some ⟨.array len e, _, _, _⟩ => match C.E.ty e with
        | some te => IDXA len n (k (.v (.pointer (some ⟨b, off + n.toNat * te.size, none⟩))) L H)
        | none => False
      | _ => False
    | _, _ => False
  | .extract x i => match opV fr x with
    | some v => match aExtract v i with | some v => k (.v v) L H | none => False
    | none => False
  | .call c => cCall C fr c ty L H k
  | .mapUpdate t m i x => match opV fr m, opV fr i, opV fr x with
    | some m, some i, some x => GENH (aMapUpdate C.E t m i x H) fun H' => k (.v undef) L H'
    | _, _, _ => False
  | .index t x i => match opV fr x, opV fr i with
    | some x, some i => GENV (C.tag ty) (aIndex C.E t x i) fun x => k (.v ((C.tag ty).enc x)) L H
    | _, _ => False
  | .slice t x lo hi mx => match opV fr x, opVo fr lo, opVo fr hi, opVo fr mx with
    | some v, some lo, some hi, some mx => GENV (C.tag ty) (aSlice C.E t v lo hi mx H) fun x => k (.v ((C.tag ty).enc x)) L H
    | _, _, _, _ => False
  | .makeSlice t l c => match opV fr l, opV fr c with
    | some l, some c => GEN (C.tag ty) (aMakeSlice C.E t l c H) fun x H' => k (.v ((C.tag ty).enc x)) L H'
    | _, _ => False
  | .makeMap _ none => k (.v (.map (some H.length))) L (H ++ [.map [] 0])
  | .lookup t x i ok => match opV fr x, opV fr i with
    | some x, some i => if ok then (match C.lkp t with | some T => LKP T (aLookup C.E t x i true H) fun y b => k (.v (.tuple #[T.enc y, .bool b])) L H | none => False)
        else GENV (C.tag ty) (aLookup C.E t x i ok H) fun x => k (.v ((C.tag ty).enc x)) L H
    | _, _ => False
  | _ => False

def cPutOk (fr : CFr) : Option Nat → Bool
  | some d => decide (d < fr.n)
  | none => true

/-! ### Joins -/
structure Jn where
  sl : List (Nat × Tag)
  lo : List (Nat × Tag)
  clr : List Nat

def TupP : List (Nat × Tag) → Type
  | [] => Unit
  | (_, T) :: r => T.α × TupP r
def Jn.S (J : Jn) : Type := TupP J.sl × TupP J.lo

def jgetS (fr : CFr) : (sl : List (Nat × Tag)) → Option (TupP sl)
  | [] => some ()
  | (t, T) :: r =>
    match cget fr.l t with
    | some (.v v) => match T.dec v, jgetS fr r with | some x, some y => some (x, y) | _, _ => none
    | _ => none
def jgetL (L : Loc) : (lo : List (Nat × Tag)) → Option (TupP lo)
  | [] => some ()
  | (i, T) :: r =>
    match L[i]? with
    | some (_, cs) => match T.of cs, jgetL L r with | some x, some y => some (x, y) | _, _ => none
    | none => none
def jputS : (sl : List (Nat × Tag)) → TupP sl → List (Nat × Option Sv) → List (Nat × Option Sv)
  | [], _, l => l
  | (t, T) :: r, x, l => (t, some (.v (T.enc x.1))) :: jputS r x.2 l
def jputL : (lo : List (Nat × Tag)) → TupP lo → Loc → Loc
  | [], _, L => L
  | (i, T) :: r, x, L =>
    match L[i]? with
    | some (n, _) => (jputL r x.2 L).set i (n + 1, T.cells x.1)
    | none => jputL r x.2 L
def Jn.fr (J : Jn) (fr : CFr) (x : J.S) : CFr := ⟨fr.n, jputS J.sl x.1 (J.clr.map (fun t => (t, none)) ++ fr.l)⟩
def Jn.loc (J : Jn) (L : Loc) (x : J.S) : Loc := jputL J.lo x.2 L
def keptL : List (Nat × Tag) → Nat → Loc → Loc → Bool
  | _, _, [], _ => true
  | _, _, _ :: _, [] => false
  | lo, i, (n, _) :: r, (m, _) :: r' => (n == m || lo.any fun p => p.1 == i) && keptL lo (i + 1) r r'
/-- Of what was known before only that is another which the join names. -/
def Jn.ok (J : Jn) (fr fr' : CFr) (L L' : Loc) : Bool :=
  (fr'.l.take (fr'.l.length - fr.l.length)).all (fun p => (J.sl.any fun q => q.1 == p.1) || J.clr.contains p.1) && keptL J.lo 0 L L' && J.lo.all (fun p => decide (p.1 < L.length))
def jexit (J : Jn) (fr fr' : CFr) (L L' : Loc) (k : J.S → Prop) : Prop :=
  if J.ok fr fr' L L' then match jgetS fr' J.sl, jgetL L' J.lo with | some a, some b => k (a, b) | _, _ => False else False

inductive Hnt where
  | leaf
  | seq (a b : Hnt)
  | reg (j : Jn)
  | cond (j : Option Jn) (a b : Hnt)
  | blk (j : Option Jn) (a : Hnt)
  | loop (j : Jn) (a : Hnt)

def Hnt.a : Hnt → Hnt
  | .seq a _ | .cond _ a _ | .blk _ a | .loop _ a => a
  | h => h
def Hnt.b : Hnt → Hnt
  | .seq _ b | .cond _ _ b => b
  | h => h
def Hnt.cj : Hnt → Option Jn
  | .cond j _ _ | .blk j _ => j
  | .reg j | .loop j _ => some j
  | _ => none

/-- A frame's values, if no slot is a local. -/
def cVals : List (Nat × Option Sv) → Option (List (Nat × Option Value))
  | [] => some []
  | (t, none) :: r => match cVals r with | some q => some ((t, none) :: q) | none => none
  | (t, some (.v v)) :: r => match cVals r with | some q => some ((t, some v) :: q) | none => none
  | _ => none
def jputA : (sl : List (Nat × Tag)) → Tup (sl.map (·.2)) → List (Nat × Option Sv) → List (Nat × Option Sv)
  | [], _, l => l
  | (t, T) :: r, x, l => jputA r x.2 ((t, some (.v (T.enc x.1))) :: l)

/-- Is there no loop over a function in it? -/
def noRF : Code → Bool
  | .seq a b | .cond _ a b => noRF a && noRF b
  | .block _ a | .loop a | .scope a => noRF a
  | .rangeFunc .. => false
  | _ => true

abbrev CK := Ex → CFr → Loc → Heap → Prop

/-! ### Regions whose order is drawn -/
/-- Is it a local's making, which may come whenever it likes? -/
def isFl (loc : List Nat) (o : Oper) : Bool :=
  match o.op with
  | .alloc _ => loc.contains (o.dst.getD 0)
  | _ => false
/-- Does it turn the heap or a local, whatever it meets? -/
def turns : Op → Bool
  | .move _ | .assign _ | .pick .. | .build .. | .load .. | .nilCheck _ | .binOp .. | .unOp .. | .convert .. | .makeFunc .. | .slice .. | .fieldAddr .. | .field .. | .indexAddr .. | .index .. | .extract .. | .lookup .. => false
  | .call { callee := .builtin .len, .. } | .call { callee := .builtin .min, .. } | .call { callee := .builtin .max, .. } => false
  | _ => true
/-- Does its value hang on the heap or a local? -/
def reads : Op → Bool
  | .load .. | .slice .. | .lookup .. => true
  | .call { callee := .builtin .len, .. } => true
  | _ => false
/-- The slots that an operation looks at. -/
def useOf (ops : Array Oper) (o : Oper) : List Tmp :=
  tmpsOf o.op.operands.toList ++ (match o.guard with | some (j, _) => ((ops[j]?).bind (·.dst)).toList | none => [])
/-- Does it write what others, or it itself, must have looked at? -/
def overs (ops : Array Oper) (b : Array Nat) (o : Oper) : Bool :=
  match o.dst with
  | some d => ops.toList.zipIdx.any fun p => (useOf ops p.1).contains d && !ahead b p.2 (ops.toList.findIdx fun q => q.dst == some d)
  | none => false
def isT (loc : List Nat) (ops : Array Oper) (b : Array Nat) (i : Nat) : Bool :=
  match ops[i]? with
  | some o => !isFl loc o && (turns o.op || overs ops b o)
  | none => false
/-- The order in which they are looked at: each as early as may be, as those that turn something stand. -/
def tauL (ops : Array Oper) (b : Array Nat) (ts : List Nat) : List Nat → Nat → List Nat
  | [], i => (List.range ops.size).filter fun j => !ts.contains j && ((ts.zipIdx.foldl (fun m p => if ahead b j p.1 then p.2 + 1 else m) 0) == i)
  | t :: r, i => ((List.range ops.size).filter fun j => !ts.contains j && ((ts.zipIdx.foldl (fun m p => if ahead b j p.1 then p.2 + 1 else m) 0) == i)) ++ t :: tauL ops b ts r (i + 1)
/-- The reads that are to be asked again behind t: those ahead of it in that order which it need not wait for. -/
def asksL (loc : List Nat) (ops : Array Oper) (b : Array Nat) (tau : List Nat) (t : Nat) : List Nat :=
  (tau.takeWhile (· != t)).filter fun j => (match ops[j]? with | some o => reads o.op | none => false) && !ahead b t j && !isT loc ops b j

structure Step where
  i : Nat
  o : Oper
  asks : List Oper

def mkSteps (loc : List Nat) (ops : Array Oper) (b : Array Nat) (tau : List Nat) : List Nat → Option (List Step)
  | [] => some []
  | i :: r =>
    match ops[i]?, (if isT loc ops b i then (asksL loc ops b tau i).mapM (fun j => ops[j]?) else some []), mkSteps loc ops b tau r with
    | some o, some as, some s => some (⟨i, o, as⟩ :: s)
    | _, _, _ => none

def nodupN : List Nat → Bool
  | [] => true
  | x :: r => !r.contains x && nodupN r
/-- All that is asked of the order: it is one; what turns something stands in it as it must run; the rest comes behind those alone for which it waits; a slot is written once. -/
def drawGood (loc : List Nat) (ops : Array Oper) (b : Array Nat) (tau : List Nat) : Bool :=
  let n := ops.size
  let pos := fun i => tau.findIdx (· == i)
  backB ops.toList 0 && nodupN tau && tau.length == n && (List.range n).all (fun i => tau.contains i)
    && (List.range n).all (fun i => (List.range n).all fun j => !ahead b i j || decide (pos j < pos i))
    && (List.range n).all (fun i => (List.range n).all fun j => !(isT loc ops b j && decide (pos j < pos i)) || ahead b i j)
    && nodupN (ops.toList.filterMap (·.dst))
    && ops.toList.zipIdx.all (fun p => (useOf ops p.1).all fun t => ops.toList.zipIdx.all fun q => q.1.dst != some t || ahead b p.2 q.2 || (isT loc ops b q.2 && (q.2 == p.2 || ahead b q.2 p.2)))

def drawOrd (loc : List Nat) (ops : Array Oper) : Option (List Step) :=
  let b := Region.before ops
  let tau := tauL ops b ((List.range ops.size).filter (isT loc ops b)) ((List.range ops.size).filter (isT loc ops b)) 0
  if drawGood loc ops b tau then mkSteps loc ops b tau tau else none

/-- A read, asked again. -/
def cAsk (C : CEnv) (ops : Array Oper) (fr : CFr) (L : Loc) (H : Heap) (o : Oper) (k : Prop) : Prop :=
  let go : Prop := match o.op, o.dst with
    | .load t x, some d => match opS fr x, cget fr.l d, C.E.ty t with
      | some (.v (.pointer (some ⟨b, off, none⟩))), some (.v v), some _ => LD (C.tag t) H b off fun x => REQ ((C.tag t).enc x = v) k
      | some (.lp i off), some (.v v), some ti => match L[i]? with
        | some (_, cs) => if off + ti.size ≤ cs.length then REQ (ofCells ti.k ((cs.drop off).take ti.size) = some v) k else False
        | none => False
      | _, _, _ => False
    | .slice t x lo hi mx, some d => match opV fr x, opVo fr lo, opVo fr hi, opVo fr mx, cget fr.l d with
      | some v, some lo, some hi, some mx, some (.v u) => REQ (aSlice C.E t v lo hi mx H = some u) k
      | _, _, _, _, _ => False
    | .lookup t x i ok, some d => match opV fr x, opV fr i, cget fr.l d with
      | some x, some i, some (.v u) => REQ (aLookup C.E t x i ok H = some u) k
      | _, _, _ => False
    | .call ⟨.builtin .len, args, ts⟩, some _ => match args.toList, ts.toList with
      | [x], [t] => match opV fr x, C.E.ty t with
        | some (.slice _ _ _), some ⟨.slice _, _, _, _⟩ => k
        | _, _ => False
      | _, _ => False
    | _, _ => False
  match o.guard with
  | none => go
  | some (j, want) =>
    match (ops[j]?).bind (·.dst) with
    | none => k
    | some d => match cget fr.l d with
      | some (.v (.bool g)) => if want then ifB g go k else ifB g k go
      | some (.v (.tuple _)) => k
      | _ => False
def cAsks (C : CEnv) (ops : Array Oper) (fr : CFr) (L : Loc) (H : Heap) : List Oper → Prop → Prop
  | [], k => k
  | o :: r, k => cAsk C ops fr L H o (cAsks C ops fr L H r k)

/-- One operation. -/
def cOper (C : CEnv) (loc : List Nat) (ops : Array Oper) (o : Oper) (fr : CFr) (L : Loc) (H : Heap) (K : CFr → Loc → Heap → Prop) : Prop :=
  if cPutOk fr o.dst then
    match o.guard with
    | none => cOp C loc o.dst o.type o.op fr L H fun s L H => K (fr.put? o.dst s) L H
    | some (j, want) =>
      match (ops[j]?).bind (·.dst) with
      | none => K (fr.put? o.dst (.v undef)) L H
      | some d =>
        match cget fr.l d with
        | some (.v (.bool g)) =>
          ifB g
            (if want = true then cOp C loc o.dst o.type o.op (fr.put d (.v (.bool true))) L H fun s L H => K ((fr.put d (.v (.bool true))).put? o.dst s) L H
              else K ((fr.put d (.v (.bool true))).put? o.dst (.v undef)) L H)
            (if want = false then cOp C loc o.dst o.type o.op (fr.put d (.v (.bool false))) L H fun s L H => K ((fr.put d (.v (.bool false))).put? o.dst s) L H
              else K ((fr.put d (.v (.bool false))).put? o.dst (.v undef)) L H)
        | some (.v (.tuple _)) => K (fr.put? o.dst (.v undef)) L H
        | _ => False
  else False
/-- Operations, one behind the other; where a guard is not known, both ways. -/
def cOps (C : CEnv) (loc : List Nat) (ops : Array Oper) : List Oper → CFr → Loc → Heap → (CFr → Loc → Heap → Prop) → Prop
  | [], fr, L, H, K => K fr L H
  | o :: os, fr, L, H, K => cOper C loc ops o fr L H fun fr L H => cOps C loc ops os fr L H K
def cSteps (C : CEnv) (loc : List Nat) (ops : Array Oper) : List Step → CFr → Loc → Heap → (CFr → Loc → Heap → Prop) → Prop
  | [], fr, L, H, K => K fr L H
  | s :: r, fr, L, H, K => cOper C loc ops s.o fr L H fun fr L H => cAsks C ops fr L H s.asks (cSteps C loc ops r fr L H K)

/-- A region. -/
def cReg (C : CEnv) (loc : List Nat) (ops : Array Oper) (draw : Bool) (fr : CFr) (L : Loc) (H : Heap) (K : CFr → Loc → Heap → Prop) : Prop :=
  if draw then (match drawOrd loc ops with | some s => cSteps C loc ops s fr L H K | none => False) else cOps C loc ops ops.toList fr L H K

def jK (J : Jn) (fr : CFr) (L : Loc) (j : J.S → Heap → Prop) (K : CK) : CK := fun e fr' L' H' =>
  match e with
  | .normal => jexit J fr fr' L L' fun x => j x H'
  | e => K e fr' L' H'

def comp (C : CEnv) (loc : List Nat) : Code → Hnt → CFr → Loc → Heap → CK → Prop
  | .skip, _, fr, L, H, K => K .normal fr L H
  | .label _, _, fr, L, H, K => K .normal fr L H
  | .region _ ops draw, h, fr, L, H, K =>
    match h.cj with
    | none => cReg C loc ops draw fr L H fun fr L H => K .normal fr L H
    | some J => JOIN (fun j => cReg C loc ops draw fr L H fun fr' L' H' => jexit J fr fr' L L' fun x => j x H') fun x H' => K .normal (J.fr fr x) (J.loc L x) H'
  | .seq a b, h, fr, L, H, K => comp C loc a h.a fr L H fun e fr L H =>
    match e with
    | .normal => comp C loc b h.b fr L H K
    | e => K e fr L H
  | .cond c x y, h, fr, L, H, K =>
    match opV fr c with
    | some (.bool g) =>
      match h.cj with
      | none => ifB g (comp C loc x h.a fr L H K) (comp C loc y h.b fr L H K)
      | some J => JOIN (fun j => ifB g (comp C loc x h.a fr L H (jK J fr L j K)) (comp C loc y h.b fr L H (jK J fr L j K))) fun x H' => K .normal (J.fr fr x) (J.loc L x) H'
    | _ => False
  | .block id c, h, fr, L, H, K =>
    match h.cj with
    | none => comp C loc c h.a fr L H fun e fr L H =>
      match e with
      | .exit i => if i = id then K .normal fr L H else K (.exit i) fr L H
      | e => K e fr L H
    | some J => JOIN (fun j => comp C loc c h.a fr L H fun e fr' L' H' =>
      match e with
      | .normal => jexit J fr fr' L L' fun x => j x H'
      | .exit i => if i = id then jexit J fr fr' L L' fun x => j x H' else K (.exit i) fr' L' H'
      | e => K e fr' L' H') fun x H' => K .normal (J.fr fr x) (J.loc L x) H'
  | .loop c, h, fr, L, H, K =>
    match h.cj with
    | some J =>
      match jgetS fr J.sl, jgetL L J.lo with
      | some a, some b => LOOP (fun rec (s : J.S) H => comp C loc c h.a (J.fr fr s) (J.loc L s) H (jK J (J.fr fr s) (J.loc L s) rec K)) (a, b) H
      | _, _ => False
    | none => False
  | .rangeFunc g ps asg body, h, fr, L, H, K =>
    match L, opV fr g, cVals fr.l, h.cj with
    | [], some f, some _, some J =>
      if (J.sl.map (·.1) == ps.toList && (ps.toList.all fun t => decide (t < fr.n)) && (noRF asg && noRF body)) = true then
        RFV C.P (J.sl.map (·.2)) f H (fun lb x H1 k => comp C loc asg .leaf ⟨fr.n, jputA J.sl x fr.l⟩ [] H1 fun e fr2 L2 H2 => match e with
          | .normal => REQ (H2[H.length]? = some (lb .ready none)) (comp C loc body h.a fr2 L2 (H2.set H.length (lb .busy none)) fun e _ _ H3 => k e H3)
          | _ => False) fun e H' => RFX (.normal :: J.clr.map .exit) e fun x => K x fr [] H'
      else False
    | _, _, _, _ => False
  | .exit id, _, fr, L, H, K => K (.exit id) fr L H
  | .ret, _, fr, L, H, K => K .ret fr L H
  | _, _, _, _, _, _ => False

/-! ### Functions -/
def cRes (C : CEnv) (fr : CFr) (L : Loc) : List ResultVar → Option (List Value)
  | [] => some []
  | .tmp t :: r => match cget fr.l t, cRes C fr L r with | some (.v v), some vs => some (v :: vs) | _, _ => none
  | .cell a t :: r =>
    match cget fr.l a, C.E.ty t, cRes C fr L r with
    | some (.lp i off), some ti, some vs =>
      match L[i]? with
      | some (_, cs) => if off + ti.size ≤ cs.length then match ofCells ti.k ((cs.drop off).take ti.size) with | some v => some (v :: vs) | none => none else none
      | none => none
    | _, _, _ => none

def decs : (ts : List Tag) → List Value → Option (Tup ts)
  | [], [] => some ()
  | t :: r, v :: vs => match t.dec v, decs r vs with | some x, some y => some (x, y) | _, _ => none
  | _, _ => none
def cRet (rs : List Tag) (vs : List Value) (k : Tup rs → Prop) : Prop := match decs rs vs with | some x => k x | none => False

def cEnterL : Nat → List Value → List (Nat × Option Sv)
  | _, [] => []
  | i, v :: r => (i, some (.v v)) :: cEnterL (i + 1) r
def cEnter (ntmps : Nat) (args : List Value) : CFr := ⟨args.length + (ntmps - args.length), cEnterL 0 args⟩

def cFn (C : CEnv) (loc : List Nat) (ntmps : Nat) (rvs : List ResultVar) (rs : List Tag) (c : Code) (h : Hnt) (args : List Value) (H : Heap) (Q : Tup rs → Heap → Prop) : Prop :=
  comp C loc c h (cEnter ntmps args) [] H fun e fr L H =>
    match e with
    | .exit _ => False
    | _ => match cRes C fr L rvs with
      | some vs => cRet rs vs fun x => Q x H
      | none => False
end Go.Proofs.YthgfjbafhjkhnaaGreat.Zq
