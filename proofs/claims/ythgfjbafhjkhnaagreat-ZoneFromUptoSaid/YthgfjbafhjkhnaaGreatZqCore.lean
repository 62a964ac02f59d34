/- The abstract evaluator: definitions alone (no program in sight). -/
import GoSem.Step
import Derived.CallsIn
namespace Go.Proofs.YthgfjbafhjkhnaaGreat.Zq

/-- What is known of a type: its kind, cells, bytes, the cells of its zero value. -/
inductive TK where
  | bool | int (k : IntKind) | string
  | pointer (e : TypeId) | slice (e : TypeId) | array (n : Nat) (e : TypeId)
  | map (k e : TypeId)
  | struct (fs : List (Nat × TypeId))
  | func | iface | other
  deriving Inhabited

structure TI where
  k : TK
  size : Nat
  bytes : Nat
  zero : List Value
  deriving Inhabited

/-- An abstract frame: how many slots there are, and those that are known (the last written first). -/
structure AFr where
  n : Nat
  l : List (Nat × Option Value)
  deriving Inhabited

def look : List (Nat × Option Value) → Nat → Option Value
  | [], _ => none
  | (i, v) :: r, t => if i = t then v else look r t

def AFr.get (fr : AFr) (t : Nat) : Option Value := look fr.l t
def AFr.put (fr : AFr) (t : Nat) (v : Value) : AFr := { fr with l := (t, some v) :: fr.l }
def AFr.put? (fr : AFr) (d : Option Nat) (v : Value) : AFr :=
  match d with
  | some t => fr.put t v
  | none => fr

/-- Where joins stand in a code, and which slots live behind them. -/
inductive Hint where
  | leaf
  | seq (a b : Hint)
  | cond (j : Option (List Nat)) (a b : Hint)
  | sub (j : Option (List Nat)) (a : Hint)
  | loop (live : List Nat) (a : Hint)
  deriving Inhabited

def Hint.a : Hint → Hint
  | .seq a _ | .cond _ a _ | .sub _ a | .loop _ a => a
  | .leaf => .leaf
def Hint.b : Hint → Hint
  | .seq _ b | .cond _ _ b => b
  | _ => .leaf
def Hint.j : Hint → Option (List Nat)
  | .cond j _ _ | .sub j _ => j
  | .loop j _ => some j
  | _ => none

/-- The ways out of a code. -/
inductive Ex where
  | normal
  | exit (id : Nat)
  | ret
  deriving DecidableEq, Inhabited

/-- An abstract block. 'opn': behind its known cells there may be more; 'ro': not to be written; 'live': may be read. -/
inductive ABlk where
  | row (cells : List Value) (sz : Nat) (opn ro live : Bool)
  | map (es : List MapEntry) (clock : Nat)
  | iter (s : ByteArray) (pos : Nat)
  | loop (st : LoopState) (pend : Option Ex) (fr : AFr) (ps : List Nat) (asg body : Code) (hb : Hint)
  deriving Inhabited

abbrev Heap := List ABlk

/-- What is called: a function, or a round of a loop over a function. -/
inductive Tgt where
  | fn (f : FuncId)
  | round (l : Nat)
abbrev CallT := Tgt → List Value → Heap → Option (Value × Heap)

/-- What the evaluator knows of a program. -/
structure Env where
  ty : TypeId → Option TI
  fn : FuncId → Option Func
  hint : FuncId → Hint
  ext : FuncId → Option (List Value → Heap → Option (Value × Heap))

/-- Values that one cell holds. -/
def cell1 : Value → Bool
  | .agg _ | .tuple _ => false
  | _ => true

/-- Constants without addresses. -/
def flat1 : Value → Bool
  | .bool _ | .int _ _ | .string _ | .pointer none | .slice none 0 0 | .map none | .nilFunc | .nilIface => true
  | _ => false
def flat : Value → Bool
  | .agg cs => cs.toList.all flat1
  | .tuple cs => cs.toList.all flat1
  | v => flat1 v

def opv (fr : AFr) : Operand → Option Value
  | .tmp t => fr.get t
  | .const v => if flat v then some v else none
  | .global _ => none
  | .func f => some (.func (.func f) #[] #[])

def opvs (fr : AFr) : List Operand → Option (List Value)
  | [] => some []
  | x :: r => (opv fr x).bind fun v => (opvs fr r).bind fun vs => some (v :: vs)

/-- Cells of a row. -/
def rd (H : Heap) (b off n : Nat) : Option (List Value) :=
  match H[b]? with
  | some (.row c _ _ _ true) => if off + n ≤ c.length then some ((c.drop off).take n) else none
  | _ => none

def patch (l : List Value) (off : Nat) (vs : List Value) : List Value := l.take off ++ vs ++ l.drop (off + vs.length)

def wr (H : Heap) (b off : Nat) (vs : List Value) : Option Heap :=
  match H[b]? with
  | some (.row c sz o false true) =>
    if off + vs.length ≤ c.length then (if vs.all cell1 then some (H.set b (.row (patch c off vs) sz o false true)) else none) else none
  | _ => none

/-- A new row: its number is the heap's length. -/
def mk (H : Heap) (cells : List Value) (sz : Nat) (opn : Bool) : Heap := H ++ [.row cells sz opn false true]

def isAggK : TK → Bool
  | .struct _ | .array _ _ => true
  | _ => false

/-- The value of a type out of its cells. -/
def ofCells (k : TK) (cs : List Value) : Option Value :=
  if isAggK k then some (.agg cs.toArray) else
  match cs with
  | [v] => some v
  | _ => none

def aLoad (E : Env) (t : TypeId) (addr : Value) (H : Heap) : Option Value :=
  match addr with
  | .pointer (some ⟨b, off, none⟩) => (E.ty t).bind fun ti => (rd H b off ti.size).bind fun cs => ofCells ti.k cs
  | _ => none

def aStore (E : Env) (t : TypeId) (addr v : Value) (H : Heap) : Option Heap :=
  match addr with
  | .pointer (some ⟨b, off, none⟩) => (E.ty t).bind fun ti => if v.cells.toList.length = ti.size then wr H b off v.cells.toList else none
  | _ => none

def aAlloc (E : Env) (t : TypeId) (H : Heap) : Option (Value × Heap) :=
  (E.ty t).bind fun ti => some (.pointer (some ⟨H.length, 0, none⟩), mk H ti.zero ti.size false)

def aBox (v : Value) (H : Heap) : Option (Value × Heap) :=
  some (.pointer (some ⟨H.length, 0, none⟩), mk H v.cells.toList v.cells.toList.length false)

/-- Parts laid over cells: (place, size, cells). -/
def aFill (place : Nat → Option (Nat × Nat)) : List Value → List (Nat × Value) → Option (List Value)
  | cs, [] => some cs
  | cs, (i, v) :: r =>
    match place i with
    | none => none
    | some (off, size) =>
      if v.cells.toList.length = size then (if off + size ≤ cs.length then aFill place (patch cs off v.cells.toList) r else none) else none

def aParts (fr : AFr) : List (Nat × Operand) → Option (List (Nat × Value))
  | [] => some []
  | (i, x) :: r => (opv fr x).bind fun v => (aParts fr r).bind fun vs => some ((i, v) :: vs)

def fieldPlaces (E : Env) (fs : List (Nat × TypeId)) (i : Nat) : Option (Nat × Nat) :=
  match fs[i]? with
  | some (off, t) => (E.ty t).bind fun ti => some (off, ti.size)
  | none => none

def aBuild (E : Env) (t : TypeId) (parts : List (Nat × Value)) : Option Value :=
  (E.ty t).bind fun ti =>
    match ti.k with
    | .struct fs => (aFill (fieldPlaces E fs) ti.zero parts).bind fun cs => some (.agg cs.toArray)
    | .array _ e => (E.ty e).bind fun te => (aFill (fun i => some (i * te.size, te.size)) ti.zero parts).bind fun cs => some (.agg cs.toArray)
    | _ => none

def rep (n : Nat) (z : List Value) : List Value :=
  match n with
  | 0 => []
  | n + 1 => z ++ rep n z

def aBuildSlice (E : Env) (t : TypeId) (len : Nat) (parts : List (Nat × Value)) (H : Heap) : Option (Value × Heap) :=
  (E.ty t).bind fun ti =>
    match ti.k with
    | .slice e => (E.ty e).bind fun te =>
      if len * te.size ≤ 16777216 then
        (aFill (fun i => some (i * te.size, te.size)) (rep len te.zero) parts).bind fun cs => some (.slice (some ⟨H.length, 0, none⟩) len len, mk H cs te.size false)
      else none
    | _ => none

def aMakeSlice (E : Env) (t : TypeId) (len cap : Value) (H : Heap) : Option (Value × Heap) :=
  match len, cap with
  | .int _ l, .int _ c =>
    (E.ty t).bind fun ti =>
      match ti.k with
      | .slice e => (E.ty e).bind fun te =>
        if 0 ≤ l ∧ l ≤ c ∧ te.bytes * c ≤ 281474976710656 ∧ c ≤ 9223372036854775807 then
          some (.slice (some ⟨H.length, 0, none⟩) l.toNat c.toNat, mk H (rep c.toNat te.zero) te.size false)
        else none
      | _ => none
  | _, _ => none

def aFieldAddr (E : Env) (t : TypeId) (x : Value) (i : Nat) : Option Value :=
  match x with
  | .pointer (some ⟨b, off, none⟩) =>
    (E.ty t).bind fun ti =>
      match ti.k with
      | .struct fs =>
        match fs[i]? with
        | some (o, ft) => (E.ty ft).bind fun te => if te.size = 0 then none else some (.pointer (some ⟨b, off + o, none⟩))
        | none => none
      | _ => none
  | _ => none

def aPart (E : Env) (t : TypeId) (cs : List Value) (off : Nat) : Option Value :=
  (E.ty t).bind fun ti => if off + ti.size ≤ cs.length then ofCells ti.k ((cs.drop off).take ti.size) else none

def aField (E : Env) (t : TypeId) (x : Value) (i : Nat) : Option Value :=
  match x with
  | .agg cs =>
    (E.ty t).bind fun ti =>
      match ti.k with
      | .struct fs =>
        match fs[i]? with
        | some (o, ft) => aPart E ft cs.toList o
        | none => none
      | _ => none
  | _ => none

def aIndexAddr (E : Env) (t : TypeId) (x i : Value) : Option Value :=
  match i with
  | .int _ n =>
    (E.ty t).bind fun ti =>
      match ti.k, x with
      | .array len e, .pointer (some ⟨b, off, none⟩) => (E.ty e).bind fun te =>
        if 0 ≤ n ∧ n < len then some (.pointer (some ⟨b, off + n.toNat * te.size, none⟩)) else none
      | .slice e, .slice (some ⟨b, off, none⟩) len _ => (E.ty e).bind fun te =>
        if 0 ≤ n ∧ n < len then some (.pointer (some ⟨b, off + n.toNat * te.size, none⟩)) else none
      | _, _ => none
  | _ => none

def aIndex (E : Env) (t : TypeId) (x i : Value) : Option Value :=
  match i with
  | .int _ n =>
    (E.ty t).bind fun ti =>
      match ti.k, x with
      | .array len e, .agg cs => (E.ty e).bind fun te => if 0 ≤ n ∧ n < len then aPart E e cs.toList (n.toNat * te.size) else none
      | .string, .string s => if 0 ≤ n then (match s[n.toNat]? with | some c => some (.int .u8 c.toNat) | none => none) else none
      | _, _ => none
  | _ => none

/-- Is the capacity of a slice (b, off, cap) known? -/
def exact (H : Heap) (b off cap : Nat) : Bool :=
  match H[b]? with
  | some (.row c sz opn _ _) => !opn || decide (off + cap * sz < c.length)
  | _ => false

/-- Has the row this element size? -/
def hasSz (H : Heap) (b size : Nat) : Bool :=
  match H[b]? with
  | some (.row _ sz _ _ _) => decide (sz = size)
  | _ => false

def natOf : Option Value → Nat → Option Nat
  | none, d => some d
  | some (.int _ n), _ => if 0 ≤ n then some n.toNat else none
  | some _, _ => none

def opvo (fr : AFr) : Option Operand → Option (Option Value)
  | none => some none
  | some x => (opv fr x).bind fun v => some (some v)

/-- The slice expression. -/
def aSlice (E : Env) (t : TypeId) (x : Value) (lo hi mx : Option Value) (H : Heap) : Option Value :=
  if mx.isSome && hi.isNone then none else
  (E.ty t).bind fun ti =>
    match ti.k, x with
    | .array n e, .pointer (some ⟨b, off, none⟩) => (E.ty e).bind fun te =>
      (natOf mx n).bind fun m => (natOf hi n).bind fun h => (natOf lo 0).bind fun l =>
        if m ≤ n ∧ h ≤ m ∧ l ≤ h then some (.slice (some ⟨b, if m = l then off else off + l * te.size, none⟩) (h - l) (m - l)) else none
    | .slice e, .slice (some ⟨b, off, none⟩) len cap => (E.ty e).bind fun te =>
      (natOf mx cap).bind fun m => (natOf hi len).bind fun h => (natOf lo 0).bind fun l =>
        if m ≤ cap ∧ h ≤ m ∧ l ≤ h then
          (if mx.isSome ∨ exact H b off cap = true then
            some (.slice (some ⟨b, if m = l then off else off + l * te.size, none⟩) (h - l) (m - l))
          else if hasSz H b te.size then
            (if l < m then some (.slice (some ⟨b, off + l * te.size, none⟩) (h - l) (m - l))
            else some (.slice (some ⟨b, off, some 0⟩) 0 0))
          else none)
        else none
    | .slice e, .slice none 0 0 => (E.ty e).bind fun _ =>
      (natOf mx 0).bind fun m => (natOf hi 0).bind fun h => (natOf lo 0).bind fun l => if m ≤ 0 ∧ h ≤ m ∧ l ≤ h then some (.slice none 0 0) else none
    | .slice e, .slice (some ⟨b, off, some 0⟩) 0 0 => (E.ty e).bind fun _ =>
      if mx.isSome then none else
      (natOf hi 0).bind fun h => (natOf lo 0).bind fun l => if h ≤ 0 ∧ l ≤ h then some (.slice (some ⟨b, off, some 0⟩) 0 0) else none
    | .string, .string s =>
      if mx.isSome then none else
      (natOf hi s.size).bind fun h => (natOf lo 0).bind fun l => if h ≤ s.size ∧ l ≤ h then some (.string (s.extract l h)) else none
    | _, _ => none

def aLen (E : Env) (t : TypeId) (x : Value) (H : Heap) : Option Value :=
  (E.ty t).bind fun ti =>
    match ti.k, x with
    | .string, .string s => some (.int .i64 s.size)
    | .array n _, _ => some (.int .i64 n)
    | .slice _, .slice _ n _ => some (.int .i64 n)
    | .map _ _, .map none => some (.int .i64 0)
    | .map _ _, .map (some r) =>
      match H[r]? with
      | some (.map es _) => some (.int .i64 es.length)
      | _ => none
    | _, _ => none

def aCap (E : Env) (t : TypeId) (x : Value) (H : Heap) : Option Value :=
  (E.ty t).bind fun ti =>
    match ti.k, x with
    | .array n _, _ => some (.int .i64 n)
    | .slice _, .slice none 0 0 => some (.int .i64 0)
    | .slice _, .slice (some ⟨b, off, none⟩) _ cap =>
      if exact H b off cap then some (.int .i64 cap) else none
    | _, _ => none

/-- The first n elements of what is appended or copied. -/
def firstOf (x : Value) (n size : Nat) (H : Heap) : Option (List Value) :=
  match x with
  | .slice none _ _ => if n = 0 then some [] else none
  | .slice (some ⟨b, off, none⟩) _ _ => rd H b off (n * size)
  | .slice (some ⟨_, _, some 0⟩) 0 0 => if n = 0 then some [] else none
  | .string s => if n ≤ s.size then some ((s.data.toList.take n).map fun b => .int .u8 b.toNat) else none
  | _ => none

def lenX : Value → Option Nat
  | .slice _ n _ => some n
  | .string s => some s.size
  | _ => none

def kill (H : Heap) (b : Nat) : Heap :=
  match H[b]? with
  | some (.row c sz o r _) => H.set b (.row c sz o r false)
  | _ => H

/-- Appended: n elements, whose cells are xs. -/
def aAppX (E : Env) (ts : List TypeId) (s : Value) (n : Nat) (xs : List Value) (H : Heap) : Option (Value × Heap) :=
  match ts with
  | [ts, tx] =>
  (E.ty ts).bind fun ti => (E.ty tx).bind fun tj =>
    match ti.k, tj.k with
    | _, .int _ => none
    | .slice e, _ => (E.ty e).bind fun te =>
        if te.size = 0 ∨ xs.length ≠ n * te.size then none else
        match s with
        | .slice none 0 0 =>
          if n = 0 then some (.slice none 0 0, H)
          else if 2 * n * te.bytes ≤ 281474976710656 ∧ te.bytes ≠ 0 ∧ xs.all cell1 = true then some (.slice (some ⟨H.length, 0, none⟩) n n, mk H xs te.size true) else none
        | .slice (some ⟨b, off, none⟩) len cap =>
          if n = 0 then (if len ≤ cap then some (s, H) else none)
          else if len + n ≤ cap then (wr H b (off + len * te.size) xs).bind fun H' => some (.slice (some ⟨b, off, none⟩) (len + n) cap, H')
          else if 2 * (len + n) * te.bytes ≤ 281474976710656 ∧ te.bytes ≠ 0 ∧ xs.all cell1 = true then
            (rd H b off (len * te.size)).bind fun old =>
              if exact H b off cap then
                some (.slice (some ⟨H.length, 0, none⟩) (len + n) (len + n), mk H (old ++ xs) te.size true)
              else
                match H[b]? with
                | some (.row _ sz _ false true) => if sz = te.size then some (.slice (some ⟨H.length, 0, none⟩) (len + n) (len + n), mk (kill H b) (old ++ xs) te.size true) else none
                | _ => none
          else none
        | .slice (some ⟨b, off, some 0⟩) 0 0 => if n = 0 then some (.slice (some ⟨b, off, some 0⟩) 0 0, H) else none
        | _ => none
    | _, _ => none
  | _ => none

def aAppend (E : Env) (ts : List TypeId) (s x : Value) (H : Heap) : Option (Value × Heap) :=
  match ts with
  | [t1, t2] =>
  (E.ty t1).bind fun ti =>
    match ti.k with
    | .slice e => (E.ty e).bind fun te => (lenX x).bind fun n => (firstOf x n te.size H).bind fun xs => aAppX E [t1, t2] s n xs H
    | _ => none
  | _ => none

def aCopy (E : Env) (ts : List TypeId) (d x : Value) (H : Heap) : Option (Value × Heap) :=
  match ts with
  | td :: _ =>
  (E.ty td).bind fun ti =>
    match ti.k, d with
    | .slice e, .slice base dl _ => (E.ty e).bind fun te => (lenX x).bind fun n =>
      (firstOf x (min n dl) te.size H).bind fun xs =>
        match base with
        | none => some (.int .i64 ↑(min n dl), H)
        | some ⟨_, _, some _⟩ => if min n dl = 0 then some (.int .i64 0, H) else none
        | some ⟨b, off, none⟩ => if min n dl = 0 then some (.int .i64 0, H) else (wr H b off xs).bind fun H' => some (.int .i64 ↑(min n dl), H')
    | _, _ => none
  | _ => none

/-- A slice's elements are set to zero. -/
def aClear (E : Env) (ts : List TypeId) (x : Value) (H : Heap) : Option Heap :=
  match ts with
  | t :: _ => (E.ty t).bind fun ti =>
    match ti.k, x with
    | .slice _, .slice none _ _ => some H
    | .slice e, .slice (some ⟨b, off, none⟩) n _ => (E.ty e).bind fun te => if n = 0 then some H else wr H b off (rep n te.zero)
    | .slice _, .slice (some ⟨_, _, some 0⟩) 0 _ => some H
    | _, _ => none
  | _ => none

/-- Equal scalars. -/
def eq1 : TK → Value → Value → Option Bool
  | .bool, .bool a, .bool b => some (a == b)
  | .int _, .int k a, .int k' b => if k = k' then some (a == b) else none
  | .string, .string a, .string b => some (a.toList == b.toList)
  | .pointer _, .pointer none, .pointer b => some b.isNone
  | .pointer _, .pointer (some _), .pointer none => some false
  | .slice _, .slice none _ _, .slice b _ _ => some b.isNone
  | .slice _, .slice (some _) _ _, .slice none _ _ => some false
  | .map _ _, .map none, .map b => some b.isNone
  | .map _ _, .map (some _), .map none => some false
  | .func, .nilFunc, .nilFunc => some true
  | .func, .nilFunc, .func _ _ _ => some false
  | .func, .func _ _ _, .nilFunc => some false
  | .iface, .nilIface, .iface _ _ => some false
  | .iface, .iface _ _, .nilIface => some false
  | _, _, _ => none

mutual
/-- Equal values of a type. 'd' bounds the nesting. -/
def eqV (E : Env) : Nat → TypeId → Value → Value → Option Bool
  | 0, _, _, _ => none
  | d + 1, t, x, y => (E.ty t).bind fun ti =>
    match ti.k, x, y with
    | .struct fs, .agg xs, .agg ys => eqFields E d fs xs.toList ys.toList
    | .array n e, .agg xs, .agg ys => (E.ty e).bind fun te => eqElems E d e te.size n 0 xs.toList ys.toList
    | k, x, y => eq1 k x y
def eqFields (E : Env) : Nat → List (Nat × TypeId) → List Value → List Value → Option Bool
  | 0, _, _, _ => none
  | _ + 1, [], _, _ => some true
  | d + 1, (o, t) :: r, xs, ys => (aPart E t xs o).bind fun x => (aPart E t ys o).bind fun y => (eqV E d t x y).bind fun b =>
    if b then eqFields E d r xs ys else some false
def eqElems (E : Env) : Nat → TypeId → Nat → Nat → Nat → List Value → List Value → Option Bool
  | 0, _, _, _, _, _, _ => none
  | d + 1, e, size, n, i, xs, ys =>
    match n with
    | 0 => some true
    | n + 1 => (aPart E e xs (i * size)).bind fun x => (aPart E e ys (i * size)).bind fun y => (eqV E d e x y).bind fun b =>
      if b then eqElems E d e size n (i + 1) xs ys else some false
end

def aBin (E : Env) (op : BinOp) (t : TypeId) (x y : Value) : Option Value :=
  match x, y with
  | .int k a, .int k' b =>
    match op with
    | .shl => if 0 ≤ b then some (.int k (k.wrap (a * 2 ^ (min b.toNat k.bits)))) else none
    | .shr => if 0 ≤ b then some (.int k (a.fdiv (2 ^ (min b.toNat k.bits)))) else none
    | op => if k = k' then
        match op with
        | .add => some (.int k (k.wrap (a + b)))
        | .sub => some (.int k (k.wrap (a - b)))
        | .mul => some (.int k (k.wrap (a * b)))
        | .quo => if b = 0 then none else some (.int k (k.wrap (a.tdiv b)))
        | .rem => if b = 0 then none else some (.int k (a.tmod b))
        | .and => some (.int k (k.wrap (BitVec.ofInt k.bits a &&& BitVec.ofInt k.bits b).toNat))
        | .or => some (.int k (k.wrap (BitVec.ofInt k.bits a ||| BitVec.ofInt k.bits b).toNat))
        | .xor => some (.int k (k.wrap (BitVec.ofInt k.bits a ^^^ BitVec.ofInt k.bits b).toNat))
        | .andNot => some (.int k (k.wrap (BitVec.ofInt k.bits a &&& ~~~BitVec.ofInt k.bits b).toNat))
        | .eql => some (.bool (a == b))
        | .neq => some (.bool (a != b))
        | .lss => some (.bool (decide (a < b)))
        | .leq => some (.bool (decide (a ≤ b)))
        | .gtr => some (.bool (decide (a > b)))
        | .geq => some (.bool (decide (a ≥ b)))
        | _ => none
      else none
  | .string a, .string b =>
    match op with
    | .add => if a.size + b.size ≤ 9223372036854775807 then some (.string (a ++ b)) else none
    | .eql => some (.bool (a.toList == b.toList))
    | .neq => some (.bool (!(a.toList == b.toList)))
    | .lss => some (.bool (Op.bytesLess a.toList b.toList))
    | .leq => some (.bool (Op.bytesLess a.toList b.toList || a.toList == b.toList))
    | .gtr => some (.bool (!(Op.bytesLess a.toList b.toList || a.toList == b.toList)))
    | .geq => some (.bool (!Op.bytesLess a.toList b.toList))
    | _ => none
  | x, y =>
    match op with
    | .eql => (eqV E 100 t x y).bind fun b => some (.bool b)
    | .neq => (eqV E 100 t x y).bind fun b => some (.bool !b)
    | _ => none

def aUn (op : UnOp) (x : Value) : Option Value :=
  match op, x with
  | .neg, .int k n => some (.int k (k.wrap (0 - n)))
  | .not, .bool b => some (.bool !b)
  | _, _ => none

def aConv (E : Env) (src dst : TypeId) (x : Value) : Option Value :=
  (E.ty src).bind fun _ => (E.ty dst).bind fun td =>
    match td.k, x with
    | .int k, .int _ n => some (.int k (k.wrap n))
    | .string, .string s => some (.string s)
    | _, _ => none

def aExtract (x : Value) (i : Nat) : Option Value :=
  match x with
  | .tuple vs => vs[i]?
  | _ => none

def aMin2 (mx : Bool) : Value → Value → Option Value
  | .int k a, .int _ b => some (.int k (if mx then (if b > a then b else a) else (if b < a then b else a)))
  | _, _ => none
def aMinL (mx : Bool) : Value → List Value → Option Value
  | v, [] => some v
  | v, x :: r => (aMin2 mx v x).bind fun u => aMinL mx u r

/-! ### Maps with plain keys -/
def sameKey : Value → Value → Option Bool
  | .int k a, .int k' b => if k = k' then some (a == b) else none
  | .string a, .string b => some (a.data.toList == b.data.toList)
  | .bool a, .bool b => some (a == b)
  | _, _ => none
def findK (k : Value) : List MapEntry → Nat → Option (Option (Nat × Value))
  | [], _ => some none
  | e :: es, i =>
    match sameKey k e.key with
    | some true => some (some (i, e.val))
    | some false => findK k es (i + 1)
    | none => none
def keyOk : TK → Value → Bool
  | .int _, .int _ _ => true
  | .string, .string _ => true
  | .bool, .bool _ => true
  | _, _ => false

def entriesOf (x : Value) (H : Heap) : Option (List MapEntry) :=
  match x with
  | .map none => some []
  | .map (some r) => match H[r]? with | some (.map es _) => some es | _ => none
  | _ => none

def aLookup (E : Env) (t : TypeId) (x i : Value) (ok : Bool) (H : Heap) : Option Value :=
  (E.ty t).bind fun ti =>
    match ti.k with
    | .map kt et => (E.ty kt).bind fun tk => (E.ty et).bind fun te => (entriesOf x H).bind fun es =>
      if keyOk tk.k i then
        (findK i es 0).bind fun r => (ofCells te.k te.zero).bind fun z =>
          match r with
          | some (_, v) => some (if ok then .tuple #[v, .bool true] else v)
          | none => some (if ok then .tuple #[z, .bool false] else z)
      else none
    | _ => none

def aMapUpdate (E : Env) (t : TypeId) (m k v : Value) (H : Heap) : Option Heap :=
  match m with
  | .map (some r) =>
    match H[r]? with
    | some (.map es clock) =>
      (E.ty t).bind fun ti =>
        match ti.k with
        | .map kt _ => (E.ty kt).bind fun tk =>
          if keyOk tk.k k then
            (findK k es 0).bind fun q =>
              match q with
              | some (i, _) => some (H.set r (.map (es.modify i fun e => { e with key := k, val := v }) clock))
              | none => some (H.set r (.map (es ++ [{ key := k, val := v, born := clock }]) (clock + 1)))
          else none
        | _ => none
    | _ => none
  | _ => none

/-! ### Ranges over strings -/
def aRange (E : Env) (t : TypeId) (v : Value) (H : Heap) : Option (Value × Heap) :=
  match v with
  | .string s => (E.ty t).bind fun ti =>
    match ti.k with
    | .string => some (.pointer (some ⟨H.length, 0, none⟩), H ++ [.iter s 0])
    | _ => none
  | _ => none
def nextOf (s : ByteArray) (pos : Nat) : Option (Value × ABlk) :=
  if pos < s.size then some (.tuple #[.bool true, .int .i64 pos, .int .i32 (Utf8.decode s pos).1], .iter s (pos + (Utf8.decode s pos).2)) else none
def aNext (v : Value) (H : Heap) : Option (Value × Heap) :=
  match v with
  | .pointer (some ⟨b, 0, none⟩) =>
    match H[b]? with
    | some (.iter s pos) =>
      match nextOf s pos with
      | some x => some (x.1, H.set b x.2)
      | none => some (.tuple #[.bool false], H)
    | _ => none
  | _ => none

/-- A choice by a bool. -/
def ifV {R : Type} (v : Value) (x y : Option R) : Option R :=
  match v with
  | .bool true => x
  | .bool false => y
  | _ => none

/-- What one operation does: its value (none: it has no result), the heap. Calls go through 'call'. -/
def aOp (E : Env) (call : CallT) (fr : AFr) (o : Op) (H : Heap) : Option (Value × Heap) :=
  match o with
  | .move x | .assign x => (opv fr x).bind fun v => some (v, H)
  | .pick c a b => (opv fr c).bind fun c => ifV c ((opv fr a).bind fun v => some (v, H)) ((opv fr b).bind fun v => some (v, H))
  | .alloc t => aAlloc E t H
  | .box _ x => (opv fr x).bind fun v => aBox v H
  | .build t ps => (aParts fr ps.toList).bind fun ps => (aBuild E t ps).bind fun v => some (v, H)
  | .buildSlice t n ps => (aParts fr ps.toList).bind fun ps => aBuildSlice E t n ps H
  | .load t x => (opv fr x).bind fun a => (aLoad E t a H).bind fun v => some (v, H)
  | .store t x y => (opv fr x).bind fun a => (opv fr y).bind fun v => (aStore E t a v H).bind fun H => some (undef, H)
  | .nilCheck x => (opv fr x).bind fun v =>
    match v with
    | .pointer (some a) => some (.pointer (some a), H)
    | .func (.func f) xs ys => some (.func (.func f) xs ys, H)
    | .func (.yield l) ⟨[]⟩ ⟨[]⟩ => some (.func (.yield l) #[] #[], H)
    | _ => none
  | .binOp op t x y _ => (opv fr x).bind fun a => (opv fr y).bind fun b => (aBin E op t a b).bind fun v => some (v, H)
  | .unOp op _ x => (opv fr x).bind fun a => (aUn op a).bind fun v => some (v, H)
  | .convert s d x => (opv fr x).bind fun a => (aConv E s d a).bind fun v => some (v, H)
  | .makeFunc (.func f) first caps => (opvs fr first.toList).bind fun xs => (opvs fr caps.toList).bind fun ys => some (.func (.func f) xs.toArray ys.toArray, H)
  | .makeSlice t l c => (opv fr l).bind fun l => (opv fr c).bind fun c => aMakeSlice E t l c H
  | .slice t x lo hi mx => (opv fr x).bind fun v => (opvo fr lo).bind fun lo => (opvo fr hi).bind fun hi => (opvo fr mx).bind fun mx =>
    (aSlice E t v lo hi mx H).bind fun v => some (v, H)
  | .makeMap _ none => some (.map (some H.length), H ++ [.map [] 0])
  | .lookup t x i ok => (opv fr x).bind fun a => (opv fr i).bind fun i => (aLookup E t a i ok H).bind fun v => some (v, H)
  | .mapUpdate t m k x => (opv fr m).bind fun m => (opv fr k).bind fun k => (opv fr x).bind fun x => (aMapUpdate E t m k x H).bind fun H => some (undef, H)
  | .fieldAddr t x i => (opv fr x).bind fun a => (aFieldAddr E t a i).bind fun v => some (v, H)
  | .field t x i => (opv fr x).bind fun a => (aField E t a i).bind fun v => some (v, H)
  | .indexAddr t x i => (opv fr x).bind fun a => (opv fr i).bind fun i => (aIndexAddr E t a i).bind fun v => some (v, H)
  | .index t x i => (opv fr x).bind fun a => (opv fr i).bind fun i => (aIndex E t a i).bind fun v => some (v, H)
  | .extract x i => (opv fr x).bind fun a => (aExtract a i).bind fun v => some (v, H)
  | .range t x => (opv fr x).bind fun v => aRange E t v H
  | .next x true => (opv fr x).bind fun v => aNext v H
  | .insert t m k x => (opv fr m).bind fun m => (opv fr k).bind fun k => (opv fr x).bind fun x => (aMapUpdate E t m k x H).bind fun H => some (undef, H)
  | .call c => (opvs fr c.args.toList).bind fun vs =>
    match c.callee with
    | .value f => (opv fr f).bind fun f =>
      match f with
      | .func (.func g) xs ys => call (.fn g) (xs.toList ++ vs ++ ys.toList) H
      | .func (.yield l) ⟨[]⟩ ⟨[]⟩ => call (.round l) vs H
      | _ => none
    | .builtin .append => match vs with | [s, x] => aAppend E c.argTypes.toList s x H | _ => none
    | .builtin .copy => match vs with | [d, x] => aCopy E c.argTypes.toList d x H | _ => none
    | .builtin .len => match vs, c.argTypes.toList with | [x], [t] => (aLen E t x H).bind fun v => some (v, H) | _, _ => none
    | .builtin .cap => match vs, c.argTypes.toList with | [x], [t] => (aCap E t x H).bind fun v => some (v, H) | _, _ => none
    | .builtin .min => match vs with | x :: r => (aMinL false x r).bind fun v => some (v, H) | _ => none
    | .builtin .max => match vs with | x :: r => (aMinL true x r).bind fun v => some (v, H) | _ => none
    | .builtin .clear => match vs with | [x] => (aClear E c.argTypes.toList x H).bind fun H => some (undef, H) | _ => none
    | _ => none
  | _ => none

/-- Is an operation wanted? none: not known. -/
def aWanted (ops : Array Oper) (fr : AFr) (o : Oper) : Option Bool :=
  match o.guard with
  | none => some true
  | some (j, want) =>
    match (ops[j]?).bind (·.dst) with
    | none => some false
    | some d => (fr.get d).bind fun v =>
      match v with
      | .bool b => some (b == want)
      | _ => some false

def putOk (fr : AFr) : Option Nat → Bool
  | some d => decide (d < fr.n)
  | none => true

def aOper (E : Env) (call : CallT) (ops : Array Oper) (o : Oper) (fr : AFr) (H : Heap) : Option (AFr × Heap) :=
  if putOk fr o.dst then
    (aWanted ops fr o).bind fun b =>
      if b then (aOp E call fr o.op H).bind fun r => some (fr.put? o.dst r.1, r.2)
      else some (fr.put? o.dst undef, H)
  else none

def aOps (E : Env) (call : CallT) (ops : Array Oper) : List Oper → AFr → Heap → Option (AFr × Heap)
  | [], fr, H => some (fr, H)
  | o :: r, fr, H => (aOper E call ops o fr H).bind fun x => aOps E call ops r x.1 x.2

/-! ### A region whose order is drawn -/

/-- Does it leave the heap alone, whatever it meets? -/
def isX : Op → Bool
  | .move _ | .assign _ | .pick .. | .build .. | .load .. | .lookup .. | .nilCheck _ | .binOp .. | .unOp .. | .convert .. | .makeFunc .. | .slice .. | .fieldAddr .. | .field .. | .indexAddr .. | .index .. | .extract .. => false
  | .call { callee := .builtin .len, .. } | .call { callee := .builtin .cap, .. } | .call { callee := .builtin .min, .. } | .call { callee := .builtin .max, .. } => false
  | _ => true
/-- Of those: does its value hang on the operands alone? -/
def isPure : Op → Bool
  | .move _ | .assign _ | .pick .. | .build .. | .nilCheck _ | .binOp .. | .unOp .. | .convert .. | .makeFunc .. | .fieldAddr .. | .field .. | .indexAddr .. | .index .. | .extract .. => true
  | .call { callee := .builtin .min, .. } | .call { callee := .builtin .max, .. } => true
  | _ => false

def tmpsOf (xs : List Operand) : List Tmp := xs.filterMap fun | .tmp t => some t | _ => none
/-- The slots that an operation looks at or writes. -/
def namesOf (ops : Array Oper) (o : Oper) : List Tmp :=
  o.dst.toList ++ tmpsOf o.op.operands.toList ++ (match o.guard with | some (j, _) => ((ops[j]?).bind (·.dst)).toList | none => [])

def backB : List Oper → Nat → Bool
  | [], _ => true
  | o :: r, i => (o.after.toList.all fun e => !Region.binds .any e || decide (e.on < i)) && backB r (i + 1)

/-- Of the mask of what must have gone before: is j ahead of i? -/
def ahead (b : Array Nat) (i j : Nat) : Bool := (b.getD i 0).testBit j

/-- Does it but take new memory? In a drawn region such an operation runs whenever it may: its place is kept from the start. -/
def isAl : Op → Bool
  | .alloc _ => true
  | _ => false
/-- In a drawn region: does it change the heap, an alloc apart? -/
def isXD (o : Op) : Bool := isX o && !isAl o

/-- The rows of the region's allocs, in the text's order; of each operation its pointer, if it is one. -/
def aResv (E : Env) : List Oper → Heap → Option (List (Option Value) × Heap)
  | [], H => some ([], H)
  | o :: r, H =>
    match o.op with
    | .alloc t => (aAlloc E t H).bind fun x => (aResv E r x.2).bind fun y => some (some x.1 :: y.1, y.2)
    | _ => (aResv E r H).bind fun y => some (none :: y.1, y.2)

def aOpD (E : Env) (call : CallT) (p : Option Value) (fr : AFr) (o : Op) (H : Heap) : Option (Value × Heap) :=
  match p with
  | some v => some (v, H)
  | none => aOp E call fr o H

def aOperD (E : Env) (call : CallT) (ops : Array Oper) (p : Option Value) (o : Oper) (fr : AFr) (H : Heap) : Option (AFr × Heap) :=
  if putOk fr o.dst then
    (aWanted ops fr o).bind fun b =>
      if b then (aOpD E call p fr o.op H).bind fun r => some (fr.put? o.dst r.1, r.2)
      else some (fr.put? o.dst undef, H)
  else none

/-- The places of those that change the heap. -/
def xsOf : List Oper → Nat → List Nat
  | [], _ => []
  | o :: r, i => if isXD o.op then i :: xsOf r (i + 1) else xsOf r (i + 1)

/-- The order of what changes the heap is fixed; so is that of two operations one of which writes a slot that the other one names. -/
def drawOk (ops : Array Oper) : Bool :=
  let b := Region.before ops
  let l := ops.toList.zipIdx
  let xs := xsOf ops.toList 0
  backB ops.toList 0
    && xs.all (fun i => xs.all fun j => !decide (i < j) || ahead b j i)
    && l.all (fun p => (namesOf ops p.1).all fun t => l.all fun q => q.1.dst != some t || q.2 == p.2 || (if q.2 < p.2 then ahead b p.2 q.2 else ahead b q.2 p.2))

/-- Behind which places a reading operation j may run, where its heap is not the text's. -/
def placesOf (b : Array Nat) (xs : List Nat) (j : Nat) : List Nat :=
  (0 :: (xs.filter fun x => !ahead b x j).map (· + 1)).filter fun c =>
    (xs.all fun x => !ahead b j x || decide (x < c)) && (xs.any fun x => (decide (c ≤ x) && decide (x < j)) || (decide (j ≤ x) && decide (x < c)))

/-- Which reads are to be asked again, and ahead of which operations' heaps. -/
def drawPlan (ops : Array Oper) : List (Nat × List Nat) :=
  let b := Region.before ops
  let xs := xsOf ops.toList 0
  ops.toList.zipIdx.filterMap fun p =>
    if isXD p.1.op || isAl p.1.op || isPure p.1.op then none else
    match placesOf b xs p.2 with
    | [] => none
    | cs => some (p.2, cs)

def same1 : Value → Value → Bool
  | .bool a, .bool b => a == b
  | .int k a, .int l b => decide (k = l) && a == b
  | .string a, .string b => a.data.toList == b.data.toList
  | .pointer a, .pointer b => decide (a = b)
  | .slice a n c, .slice b m d => decide (a = b) && n == m && c == d
  | .map a, .map b => decide (a = b)
  | .nilFunc, .nilFunc => true
  | .nilIface, .nilIface => true
  | _, _ => false
def sameL : List Value → List Value → Bool
  | [], [] => true
  | a :: x, b :: y => same1 a b && sameL x y
  | _, _ => false
def sameV : Value → Value → Bool
  | .agg a, .agg b => sameL a.toList b.toList
  | a, b => same1 a b

/-- The run in the text's order, with what it met: of each operation its frame and its heap. -/
def aOpsT (E : Env) (call : CallT) (ops : Array Oper) : List Oper → List (Option Value) → AFr → Heap → Option (List (AFr × Heap))
  | [], _, fr, H => some [(fr, H)]
  | o :: r, ps, fr, H => (aOperD E call ops (ps.headD none) o fr H).bind fun x => (aOpsT E call ops r ps.tail x.1 x.2).bind fun y => some ((fr, H) :: y)

def aAgain (E : Env) (ops : Array Oper) (tr : List (AFr × Heap)) (j c : Nat) : Bool :=
  match ops[j]?, tr[j]?, tr[j + 1]?, tr[c]? with
  | some o, some (fr, _), some (fr', _), some (_, H) =>
    match aWanted ops fr o with
    | some true =>
      match aOp E (fun _ _ _ => none) fr o.op H, o.dst with
      | some (v, _), some d => (match fr'.get d with | some u => sameV v u | none => false)
      | _, _ => false
    | some false => true
    | none => false
  | _, _, _, _ => false

def aDraw (E : Env) (call : CallT) (ops : Array Oper) (fr : AFr) (H : Heap) : Option (AFr × Heap) :=
  if drawOk ops then
    (aResv E ops.toList H).bind fun rs => (aOpsT E call ops ops.toList rs.1 fr rs.2).bind fun tr =>
      if (drawPlan ops).all (fun p => p.2.all fun c => aAgain E ops tr p.1 c) then tr.getLast? else none
  else none

/-! ### Codes -/

structure St where
  e : Ex
  s : List (Option Value)
  H : Heap

def mkL : List Nat → Nat → List (Option Value) → List (Nat × Option Value)
  | [], _, _ => []
  | t :: r, j, s => (t, (s[j]?).join) :: mkL r (j + 1) s
/-- The frame in which only the slots 'live' are known. -/
def mkFr (n : Nat) (live : List Nat) (s : List (Option Value)) : AFr := { n, l := mkL live 0 s }

def aIter {σ : Type} : Nat → (σ → Option (Ex × σ)) → σ → Option (Ex × σ)
  | 0, _, _ => none
  | k + 1, f, s => (f s).bind fun r =>
    match r.1 with
    | .normal => aIter k f r.2
    | e => some (e, r.2)

def joinK {R : Type} (n : Nat) (j : Option (List Nat)) (m : ∀ R : Type, (Ex → AFr → Heap → Option R) → Option R) (K : Ex → AFr → Heap → Option R) : Option R :=
  match j with
  | none => m R K
  | some live => (m St fun e fr H => some ⟨e, live.map fr.get, H⟩).bind fun s => K s.e (mkFr n live s.s) s.H

def aCode (E : Env) (call : CallT) (k : Nat) (out : Bool) : Code → Hint → AFr → Heap → (R : Type) → (Ex → AFr → Heap → Option R) → Option R
  | .skip, _, fr, H, _, K => K .normal fr H
  | .label _, _, fr, H, _, K => K .normal fr H
  | .region _ ops false, _, fr, H, _, K => (aOps E call ops ops.toList fr H).bind fun x => K .normal x.1 x.2
  | .region _ ops true, _, fr, H, _, K => (aDraw E call ops fr H).bind fun x => K .normal x.1 x.2
  | .seq a b, h, fr, H, R, K =>
    aCode E call k out a h.a fr H R fun e fr H =>
      match e with
      | .normal => aCode E call k out b h.b fr H R K
      | e => K e fr H
  | .cond c x y, h, fr, H, _, K =>
    joinK fr.n h.j (fun R K => (opv fr c).bind fun v => ifV v (aCode E call k out x h.a fr H R K) (aCode E call k out y h.b fr H R K)) K
  | .block id c, h, fr, H, _, K =>
    joinK fr.n h.j (fun R K => aCode E call k out c h.a fr H R fun e fr H =>
      match e with
      | .exit i => if i = id then K .normal fr H else K (.exit i) fr H
      | e => K e fr H) K
  | .loop c, h, fr, H, _, K =>
    match h.j with
    | some live =>
      (aIter k (fun s : List (Option Value) × Heap => aCode E call k out c h.a (mkFr fr.n live s.1) s.2 (Ex × List (Option Value) × Heap) fun e fr H => some (e, live.map fr.get, H)) (live.map fr.get, H)).bind fun r =>
        K r.1 (mkFr fr.n live r.2.1) r.2.2
    | _ => none
  | .exit id, _, fr, H, _, K => K (.exit id) fr H
  | .ret, _, fr, H, _, K => K .ret fr H
  | .scope c, h, fr, H, R, K => aCode E call k out c h.a fr H R K
  | .rangeFunc f ps asg body, h, fr, H, _, K =>
    if out then (opv fr f).bind fun fv =>
      match fv with
      | .func (.func g) xs ys =>
        (call (.fn g) (xs.toList ++ [.func (.yield H.length) #[] #[]] ++ ys.toList) (H ++ [.loop .ready none fr ps.toList asg body h.a])).bind fun r =>
          match r.2[H.length]? with
          | some (.loop st pend fr' ps' asg' body' hb) =>
            if st = .busy then none else K (pend.getD .normal) fr (r.2.set H.length (.loop .exhausted pend fr' ps' asg' body' hb))
          | _ => none
      | _ => none
    else none
  | _, _, _, _, _, _ => none

def aResult (E : Env) (fr : AFr) (H : Heap) : ResultVar → Option Value
  | .tmp t => fr.get t
  | .cell a t => (fr.get a).bind fun v => aLoad E t v H

def aResultL (E : Env) (fr : AFr) (H : Heap) : List ResultVar → Option (List Value)
  | [] => some []
  | r :: rs => (aResult E fr H r).bind fun v => (aResultL E fr H rs).bind fun vs => some (v :: vs)

def tupleOf : List Value → Value
  | [v] => v
  | vs => .tuple vs.toArray

def enterL : Nat → List Value → List (Nat × Option Value)
  | _, [] => []
  | i, v :: r => (i, some v) :: enterL (i + 1) r

def enterFr (fn : Func) (args : List Value) : AFr := { n := args.length + (fn.ntmps - args.length), l := enterL 0 args }

def putL (fr : AFr) : List Nat → List Value → Option AFr
  | [], [] => some fr
  | t :: ts, v :: vs => if t < fr.n then putL (fr.put t v) ts vs else none
  | _, _ => none

/-- The call of a function; a round. -/
def aFn (E : Env) : Nat → CallT
  | 0, _, _, _ => none
  | k + 1, .fn f, args, H =>
    match E.ext f with
    | some x => x args H
    | none => (E.fn f).bind fun fn => fn.body.bind fun c =>
      aCode E (aFn E k) k true c (E.hint f) (enterFr fn args) H (Value × Heap) fun e fr H =>
        match e with
        | .exit _ => none
        | _ => (aResultL E fr H fn.results.toList).bind fun vs => some (tupleOf vs, H)
  | k + 1, .round l, args, H =>
    match H[l]? with
    | some (.loop _ _ fr ps asg body hb) => (putL fr ps args).bind fun fr =>
      aCode E (aFn E k) k false asg .leaf fr H (Value × Heap) fun e fr H =>
        match e, H[l]? with
        | .normal, some (.loop .ready p fr0 ps0 asg0 body0 hb0) =>
          aCode E (aFn E k) k false body hb fr (H.set l (.loop .busy p fr0 ps0 asg0 body0 hb0)) (Value × Heap) fun e _ H =>
            match H[l]? with
            | some (.loop _ _ fr1 ps1 asg1 body1 hb1) =>
              if e = .normal then some (.bool true, H.set l (.loop .ready none fr1 ps1 asg1 body1 hb1))
              else some (.bool false, H.set l (.loop .done (some e) fr1 ps1 asg1 body1 hb1))
            | _ => none
        | _, _ => none
    | _ => none

end Go.Proofs.YthgfjbafhjkhnaaGreat.Zq
