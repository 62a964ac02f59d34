/- The evaluator once more, in the form in which the kernel runs it fast: the heap is a tree, recursors stand open, what comes next is handed on. Definitions. -/
import Derived.Test.YtjanjgegchgjiaaGreatDoorZqFn
namespace Go.Proofs.YtjanjgegchgjiaaGreatDoor.Zq

noncomputable def ob {α β : Type} (x : Option α) (f : α → Option β) : Option β := Option.rec none f x

abbrev FL := List (Nat × Option Value)
noncomputable def flook (l : FL) (t : Nat) : Option Value := List.rec none (fun p _ ih => Prod.rec (fun i v => Bool.rec ih v (Nat.beq i t)) p) l
noncomputable def fput (l : FL) (d : Option Nat) (v : Value) : FL := Option.rec l (fun t => (t, some v) :: l) d

/-- What a run answers in the end. -/
abbrev R := Bool

/-! ### The heap as a tree -/
inductive Tr where
  | nil
  | node (v : Option ABlk) (a b : Tr)

noncomputable def tget (t : Tr) : Nat → Option ABlk :=
  Tr.rec (fun _ => none) (fun v _ _ fa fb i => Bool.rec (Bool.rec (fb (Nat.sub (Nat.div i 2) 1)) (fa (Nat.div i 2)) (Nat.beq (Nat.mod i 2) 1)) v (Nat.beq i 0)) t

noncomputable def tset (d : Nat) : Tr → Nat → ABlk → Tr :=
  Nat.rec (fun t _ _ => t) (fun _ ih t i x =>
    Tr.rec
      (Bool.rec (Bool.rec (.node none .nil (ih .nil (Nat.sub (Nat.div i 2) 1) x)) (.node none (ih .nil (Nat.div i 2) x) .nil) (Nat.beq (Nat.mod i 2) 1)) (.node (some x) .nil .nil) (Nat.beq i 0))
      (fun v a b _ _ => Bool.rec (Bool.rec (.node v a (ih b (Nat.sub (Nat.div i 2) 1) x)) (.node v (ih a (Nat.div i 2) x) b) (Nat.beq (Nat.mod i 2) 1)) (.node (some x) a b) (Nat.beq i 0)) t) d

/-- What an operation does to the heap. -/
inductive Dl where
  | keep
  | push (x : ABlk)
  | set (b : Nat) (x : ABlk)
  | kpush (b : Nat) (k x : ABlk)

def applyL (H : Heap) : Dl → Heap
  | .keep => H
  | .push x => H ++ [x]
  | .set b x => H.set b x
  | .kpush b k x => (H.set b k) ++ [x]

noncomputable def fApp (n : Nat) (t : Tr) (d : Dl) (K : Nat → Tr → Option R) : Option R :=
  Dl.rec (K n t) (fun x => Bool.rec none (K (Nat.succ n) (tset 25 t n x)) (Nat.ble (Nat.succ n) 16777216)) (fun b x => Bool.rec none (K n (tset 25 t b x)) (Nat.ble (Nat.succ b) n))
    (fun b k x => Bool.rec none (Bool.rec none (K (Nat.succ n) (tset 25 (tset 25 t b k) n x)) (Nat.ble (Nat.succ b) n)) (Nat.ble (Nat.succ n) 16777216)) d

/-! ### Cells -/
noncomputable def fdrop (l : List Value) : Nat → Option (List Value) :=
  List.rec (fun n => Nat.rec (some []) (fun _ _ => none) n) (fun x r ih n => Nat.rec (some (x :: r)) (fun n _ => ih n) n) l
noncomputable def ftake (l : List Value) : Nat → Option (List Value) :=
  List.rec (fun n => Nat.rec (some []) (fun _ _ => none) n) (fun x _ ih n => Nat.rec (some []) (fun n _ => ob (ih n) fun q => some (x :: q)) n) l
noncomputable def fover (l : List Value) : List Value → Option (List Value) :=
  List.rec (fun vs => List.rec (some []) (fun _ _ _ => none) vs) (fun x r ih vs => List.rec (some (x :: r)) (fun v vs _ => ob (ih vs) fun q => some (v :: q)) vs) l
noncomputable def fsetO (l : List Value) : Nat → List Value → Option (List Value) :=
  List.rec (fun n vs => Nat.rec (fover [] vs) (fun _ _ => none) n) (fun x r ih n vs => Nat.rec (fover (x :: r) vs) (fun n _ => ob (ih n vs) fun q => some (x :: q)) n) l

noncomputable def frdB (m off : Nat) : Option ABlk → Option (List Value)
  | some (.row c _ _ _ true) => (fdrop c off).bind fun c => ftake c m
  | _ => none
noncomputable def frd (t : Tr) (b off m : Nat) : Option (List Value) := frdB m off (tget t b)
noncomputable def fwrB (b off : Nat) (vs : List Value) : Option ABlk → Option Dl
  | some (.row c sz o false true) => if vs.all cell1 then (fsetO c off vs).bind fun c => some (.set b (.row c sz o false true)) else none
  | _ => none
noncomputable def fwr (t : Tr) (b off : Nat) (vs : List Value) : Option Dl := fwrB b off vs (tget t b)

/-! ### Operations -/
noncomputable def fopvR (x : Operand) : FL → Option Value :=
  Operand.rec (fun t l => flook l t) (fun v _ => Bool.rec none (some v) (flat v)) (fun _ _ => none) (fun f _ => some (.func (.func f) #[] #[])) x
noncomputable def fopv (l : FL) (x : Operand) : Option Value := fopvR x l
noncomputable def fopvs (l : FL) : List Operand → Option (List Value)
  | [] => some []
  | x :: r => ob (fopv l x) fun v => ob (fopvs l r) fun vs => some (v :: vs)
noncomputable def fopvo (l : FL) : Option Operand → Option (Option Value)
  | none => some none
  | some x => ob (fopv l x) fun v => some (some v)
noncomputable def fparts (l : FL) : List (Nat × Operand) → Option (List (Nat × Value))
  | [] => some []
  | (i, x) :: r => ob (fopv l x) fun v => ob (fparts l r) fun vs => some ((i, v) :: vs)

noncomputable def fLoad (E : Env) (ty : TypeId) (addr : Value) (t : Tr) : Option Value :=
  match addr with
  | .pointer (some ⟨b, off, none⟩) => (E.ty ty).bind fun ti => (frd t b off ti.size).bind fun cs => ofCells ti.k cs
  | _ => none
noncomputable def fStore (E : Env) (ty : TypeId) (addr v : Value) (t : Tr) : Option Dl :=
  match addr with
  | .pointer (some ⟨b, off, none⟩) => (E.ty ty).bind fun ti => if v.cells.toList.length = ti.size then fwr t b off v.cells.toList else none
  | _ => none
noncomputable def fAlloc (E : Env) (ty : TypeId) (n : Nat) : Option (Value × Dl) :=
  (E.ty ty).bind fun ti => some (.pointer (some ⟨n, 0, none⟩), .push (.row ti.zero ti.size false false true))
noncomputable def fBox (v : Value) (n : Nat) : Option (Value × Dl) :=
  some (.pointer (some ⟨n, 0, none⟩), .push (.row v.cells.toList v.cells.toList.length false false true))
noncomputable def fBuildSlice (E : Env) (ty : TypeId) (len : Nat) (parts : List (Nat × Value)) (n : Nat) : Option (Value × Dl) :=
  (E.ty ty).bind fun ti =>
    match ti.k with
    | .slice e => (E.ty e).bind fun te =>
      if len * te.size ≤ 16777216 then
        (aFill (fun i => some (i * te.size, te.size)) (rep len te.zero) parts).bind fun cs => some (.slice (some ⟨n, 0, none⟩) len len, .push (.row cs te.size false false true))
      else none
    | _ => none
noncomputable def fMakeSlice (E : Env) (ty : TypeId) (len cap : Value) (n : Nat) : Option (Value × Dl) :=
  match len, cap with
  | .int _ l, .int _ c =>
    (E.ty ty).bind fun ti =>
      match ti.k with
      | .slice e => (E.ty e).bind fun te =>
        if 0 ≤ l ∧ l ≤ c ∧ te.bytes * c ≤ 281474976710656 ∧ c ≤ 9223372036854775807 then
          some (.slice (some ⟨n, 0, none⟩) l.toNat c.toNat, .push (.row (rep c.toNat te.zero) te.size false false true))
        else none
      | _ => none
  | _, _ => none
noncomputable def fExact (t : Tr) (b off cap : Nat) : Option Bool :=
  match tget t b with
  | some (.row c sz opn _ _) => some (!opn || decide (off + cap * sz < c.length))
  | _ => none
noncomputable def fHasSz (t : Tr) (b size : Nat) : Option Bool :=
  match tget t b with
  | some (.row _ sz _ _ _) => some (decide (sz = size))
  | _ => none
noncomputable def fSlice (E : Env) (ty : TypeId) (x : Value) (lo hi mx : Option Value) (t : Tr) : Option Value :=
  if mx.isSome && hi.isNone then none else
  (E.ty ty).bind fun ti =>
    match ti.k, x with
    | .array n e, .pointer (some ⟨b, off, none⟩) => (E.ty e).bind fun te =>
      (natOf mx n).bind fun m => (natOf hi n).bind fun h => (natOf lo 0).bind fun l =>
        if m ≤ n ∧ h ≤ m ∧ l ≤ h then some (.slice (some ⟨b, if m = l then off else off + l * te.size, none⟩) (h - l) (m - l)) else none
    | .slice e, .slice (some ⟨b, off, none⟩) len cap => (E.ty e).bind fun te =>
      (natOf mx cap).bind fun m => (natOf hi len).bind fun h => (natOf lo 0).bind fun l =>
        if m ≤ cap ∧ h ≤ m ∧ l ≤ h then
          (if mx.isSome then some (.slice (some ⟨b, if m = l then off else off + l * te.size, none⟩) (h - l) (m - l))
          else (fExact t b off cap).bind fun ex => if ex then
            some (.slice (some ⟨b, if m = l then off else off + l * te.size, none⟩) (h - l) (m - l))
          else (fHasSz t b te.size).bind fun hs => if hs then
            (if l < m then some (.slice (some ⟨b, off + l * te.size, none⟩) (h - l) (m - l))
            else some (.slice (some ⟨b, off, some 0⟩) 0 0))
          else none)
        else none
    | .slice e, .slice none 0 0 => (E.ty e).bind fun _ =>
      (natOf mx 0).bind fun m => (natOf hi 0).bind fun h => (natOf lo 0).bind fun l => if m ≤ 0 ∧ h ≤ m ∧ l ≤ h then some (.slice none 0 0) else none
    | .slice e, .slice (some ⟨b, off, some 0⟩) 0 0 => (E.ty e).bind fun _ =>
      if mx.isSome then none else
      (natOf hi 0).bind fun h => (natOf lo 0).bind fun l => if h ≤ 0 ∧ l ≤ h then some (.slice (some ⟨b, off, some 0⟩) 0 0) else none
    | .string, .string s =>
      if mx.isSome then none else
      (natOf hi s.size).bind fun h => (natOf lo 0).bind fun l => if h ≤ s.size ∧ l ≤ h then some (.string (s.extract l h)) else none
    | _, _ => none
noncomputable def fLen (E : Env) (ty : TypeId) (x : Value) (t : Tr) : Option Value :=
  (E.ty ty).bind fun ti =>
    match ti.k, x with
    | .string, .string s => some (.int .i64 s.size)
    | .array n _, _ => some (.int .i64 n)
    | .slice _, .slice _ n _ => some (.int .i64 n)
    | .map _ _, .map none => some (.int .i64 0)
    | .map _ _, .map (some r) =>
      match tget t r with
      | some (.map es _) => some (.int .i64 es.length)
      | _ => none
    | _, _ => none
noncomputable def fCap (E : Env) (ty : TypeId) (x : Value) (t : Tr) : Option Value :=
  (E.ty ty).bind fun ti =>
    match ti.k, x with
    | .array n _, _ => some (.int .i64 n)
    | .slice _, .slice none 0 0 => some (.int .i64 0)
    | .slice _, .slice (some ⟨b, off, none⟩) _ cap =>
      (fExact t b off cap).bind fun ex => if ex then some (.int .i64 cap) else none
    | _, _ => none
noncomputable def fFirst (x : Value) (n size : Nat) (t : Tr) : Option (List Value) :=
  match x with
  | .slice none _ _ => if n = 0 then some [] else none
  | .slice (some ⟨b, off, none⟩) _ _ => frd t b off (n * size)
  | .slice (some ⟨_, _, some 0⟩) 0 0 => if n = 0 then some [] else none
  | .string s => if n ≤ s.size then some ((s.data.toList.take n).map fun b => .int .u8 b.toNat) else none
  | _ => none
noncomputable def fAppX (E : Env) (ts : List TypeId) (s : Value) (n : Nat) (xs : List Value) (hn : Nat) (t : Tr) : Option (Value × Dl) :=
  match ts with
  | [ts, tx] =>
  (E.ty ts).bind fun ti => (E.ty tx).bind fun tj =>
    match ti.k, tj.k with
    | _, .int _ => none
    | .slice e, _ => (E.ty e).bind fun te =>
        if te.size = 0 ∨ xs.length ≠ n * te.size then none else
        match s with
        | .slice none 0 0 =>
          if n = 0 then some (.slice none 0 0, .keep)
          else if 2 * n * te.bytes ≤ 281474976710656 ∧ te.bytes ≠ 0 ∧ xs.all cell1 = true then some (.slice (some ⟨hn, 0, none⟩) n n, .push (.row xs te.size true false true)) else none
        | .slice (some ⟨b, off, none⟩) len cap =>
          if n = 0 then (if len ≤ cap then some (s, .keep) else none)
          else if len + n ≤ cap then (fwr t b (off + len * te.size) xs).bind fun d => some (.slice (some ⟨b, off, none⟩) (len + n) cap, d)
          else if 2 * (len + n) * te.bytes ≤ 281474976710656 ∧ te.bytes ≠ 0 ∧ xs.all cell1 = true then
            (frd t b off (len * te.size)).bind fun old =>
              (fExact t b off cap).bind fun ex => if ex then
                some (.slice (some ⟨hn, 0, none⟩) (len + n) (len + n), .push (.row (old ++ xs) te.size true false true))
              else
                match tget t b with
                | some (.row c sz o false true) => if sz = te.size then some (.slice (some ⟨hn, 0, none⟩) (len + n) (len + n), .kpush b (.row c sz o false false) (.row (old ++ xs) te.size true false true)) else none
                | _ => none
          else none
        | .slice (some ⟨b, off, some 0⟩) 0 0 => if n = 0 then some (.slice (some ⟨b, off, some 0⟩) 0 0, .keep) else none
        | _ => none
    | _, _ => none
  | _ => none
noncomputable def fAppend (E : Env) (ts : List TypeId) (s x : Value) (hn : Nat) (t : Tr) : Option (Value × Dl) :=
  match ts with
  | [t1, t2] =>
  (E.ty t1).bind fun ti =>
    match ti.k with
    | .slice e => (E.ty e).bind fun te => (lenX x).bind fun n => (fFirst x n te.size t).bind fun xs => fAppX E [t1, t2] s n xs hn t
    | _ => none
  | _ => none
noncomputable def fCopy (E : Env) (ts : List TypeId) (d x : Value) (t : Tr) : Option (Value × Dl) :=
  match ts with
  | td :: _ =>
  (E.ty td).bind fun ti =>
    match ti.k, d with
    | .slice e, .slice base dl _ => (E.ty e).bind fun te => (lenX x).bind fun n =>
      (fFirst x (min n dl) te.size t).bind fun xs =>
        match base with
        | none => some (.int .i64 ↑(min n dl), .keep)
        | some ⟨_, _, some _⟩ => if min n dl = 0 then some (.int .i64 0, .keep) else none
        | some ⟨b, off, none⟩ => if min n dl = 0 then some (.int .i64 0, .keep) else (fwr t b off xs).bind fun d => some (.int .i64 ↑(min n dl), d)
    | _, _ => none
  | _ => none
noncomputable def fClear (E : Env) (ts : List TypeId) (x : Value) (t : Tr) : Option Dl :=
  match ts with
  | ty :: _ => (E.ty ty).bind fun ti =>
    match ti.k, x with
    | .slice _, .slice none _ _ => some .keep
    | .slice e, .slice (some ⟨b, off, none⟩) n _ => (E.ty e).bind fun te => if n = 0 then some .keep else fwr t b off (rep n te.zero)
    | .slice _, .slice (some ⟨_, _, some 0⟩) 0 _ => some .keep
    | _, _ => none
  | _ => none
noncomputable def fEntries (x : Value) (t : Tr) : Option (List MapEntry) :=
  match x with
  | .map none => some []
  | .map (some r) => match tget t r with | some (.map es _) => some es | _ => none
  | _ => none
noncomputable def fLookup (E : Env) (ty : TypeId) (x i : Value) (ok : Bool) (t : Tr) : Option Value :=
  (E.ty ty).bind fun ti =>
    match ti.k with
    | .map kt et => (E.ty kt).bind fun tk => (E.ty et).bind fun te => (fEntries x t).bind fun es =>
      if keyOk tk.k i then
        (findK i es 0).bind fun r => (ofCells te.k te.zero).bind fun z =>
          match r with
          | some (_, v) => some (if ok then .tuple #[v, .bool true] else v)
          | none => some (if ok then .tuple #[z, .bool false] else z)
      else none
    | _ => none
noncomputable def fMapUpdate (E : Env) (ty : TypeId) (m k v : Value) (t : Tr) : Option Dl :=
  match m with
  | .map (some r) =>
    match tget t r with
    | some (.map es clock) =>
      (E.ty ty).bind fun ti =>
        match ti.k with
        | .map kt _ => (E.ty kt).bind fun tk =>
          if keyOk tk.k k then
            (findK k es 0).bind fun q =>
              match q with
              | some (i, _) => some (.set r (.map (es.modify i fun e => { e with key := k, val := v }) clock))
              | none => some (.set r (.map (es ++ [{ key := k, val := v, born := clock }]) (clock + 1)))
          else none
        | _ => none
    | _ => none
  | _ => none

noncomputable def fRange (E : Env) (ty : TypeId) (v : Value) (n : Nat) : Option (Value × Dl) :=
  match v with
  | .string s => (E.ty ty).bind fun ti =>
    match ti.k with
    | .string => some (.pointer (some ⟨n, 0, none⟩), .push (.iter s 0))
    | _ => none
  | _ => none
noncomputable def fNext (v : Value) (t : Tr) : Option (Value × Dl) :=
  match v with
  | .pointer (some ⟨b, 0, none⟩) =>
    match tget t b with
    | some (.iter s pos) =>
      match nextOf s pos with
      | some x => some (x.1, .set b x.2)
      | none => some (.tuple #[.bool false], .keep)
    | _ => none
  | _ => none

def keepV (v : Value) : Option (Value × Dl) := some (v, .keep)
noncomputable def fNil (v : Value) : Option (Value × Dl) :=
  match v with
  | .pointer (some a) => some (.pointer (some a), .keep)
  | .func (.func f) xs ys => some (.func (.func f) xs ys, .keep)
  | .func (.yield l) ⟨[]⟩ ⟨[]⟩ => some (.func (.yield l) #[] #[], .keep)
  | _ => none
noncomputable def fBuiltin (c : Call) (E : Env) (l : FL) (n : Nat) (t : Tr) : Option (Value × Dl) :=
  match c.callee with
  | .builtin .append => ob (fopvs l c.args.toList) fun vs => match vs with | [s, x] => fAppend E c.argTypes.toList s x n t | _ => none
  | .builtin .copy => ob (fopvs l c.args.toList) fun vs => match vs with | [d, x] => fCopy E c.argTypes.toList d x t | _ => none
  | .builtin .len => ob (fopvs l c.args.toList) fun vs => match vs, c.argTypes.toList with | [x], [ty] => ob (fLen E ty x t) keepV | _, _ => none
  | .builtin .cap => ob (fopvs l c.args.toList) fun vs => match vs, c.argTypes.toList with | [x], [ty] => ob (fCap E ty x t) keepV | _, _ => none
  | .builtin .min => ob (fopvs l c.args.toList) fun vs => match vs with | x :: r => ob (aMinL false x r) keepV | _ => none
  | .builtin .max => ob (fopvs l c.args.toList) fun vs => match vs with | x :: r => ob (aMinL true x r) keepV | _ => none
  | .builtin .clear => ob (fopvs l c.args.toList) fun vs => match vs with | [x] => ob (fClear E c.argTypes.toList x t) fun d => some (undef, d) | _ => none
  | _ => none
/-- What one operation does that is no call of a function: as a match. -/
noncomputable def fOpS (E : Env) (l : FL) (n : Nat) (t : Tr) (o : Op) : Option (Value × Dl) :=
  match o with
  | .move x | .assign x => ob (fopv l x) keepV
  | .pick c a b => ob (fopv l c) fun c => ifV c (ob (fopv l a) keepV) (ob (fopv l b) keepV)
  | .alloc ty => fAlloc E ty n
  | .box _ x => ob (fopv l x) fun v => fBox v n
  | .build ty ps => ob (fparts l ps.toList) fun ps => ob (aBuild E ty ps) keepV
  | .buildSlice ty m ps => ob (fparts l ps.toList) fun ps => fBuildSlice E ty m ps n
  | .load ty x => ob (fopv l x) fun a => ob (fLoad E ty a t) keepV
  | .store ty x y => ob (fopv l x) fun a => ob (fopv l y) fun v => ob (fStore E ty a v t) fun d => some (undef, d)
  | .nilCheck x => ob (fopv l x) fNil
  | .binOp op ty x y _ => ob (fopv l x) fun a => ob (fopv l y) fun b => ob (aBin E op ty a b) keepV
  | .unOp op _ x => ob (fopv l x) fun a => ob (aUn op a) keepV
  | .convert s d x => ob (fopv l x) fun a => ob (aConv E s d a) keepV
  | .makeFunc (.func f) first caps => ob (fopvs l first.toList) fun xs => ob (fopvs l caps.toList) fun ys => some (.func (.func f) xs.toArray ys.toArray, .keep)
  | .makeSlice ty a c => ob (fopv l a) fun a => ob (fopv l c) fun c => fMakeSlice E ty a c n
  | .slice ty x lo hi mx => ob (fopv l x) fun v => ob (fopvo l lo) fun lo => ob (fopvo l hi) fun hi => ob (fopvo l mx) fun mx => ob (fSlice E ty v lo hi mx t) keepV
  | .makeMap _ none => some (.map (some n), .push (.map [] 0))
  | .lookup ty x i ok => ob (fopv l x) fun a => ob (fopv l i) fun i => ob (fLookup E ty a i ok t) keepV
  | .mapUpdate ty m k x => ob (fopv l m) fun m => ob (fopv l k) fun k => ob (fopv l x) fun x => ob (fMapUpdate E ty m k x t) fun d => some (undef, d)
  | .fieldAddr ty x i => ob (fopv l x) fun a => ob (aFieldAddr E ty a i) keepV
  | .field ty x i => ob (fopv l x) fun a => ob (aField E ty a i) keepV
  | .indexAddr ty x i => ob (fopv l x) fun a => ob (fopv l i) fun i => ob (aIndexAddr E ty a i) keepV
  | .index ty x i => ob (fopv l x) fun a => ob (fopv l i) fun i => ob (aIndex E ty a i) keepV
  | .extract x i => ob (fopv l x) fun a => ob (aExtract a i) keepV
  | .range ty x => ob (fopv l x) fun v => fRange E ty v n
  | .next x true => ob (fopv l x) fun v => fNext v t
  | .insert ty m k x => ob (fopv l m) fun m => ob (fopv l k) fun k => ob (fopv l x) fun x => ob (fMapUpdate E ty m k x t) fun d => some (undef, d)
  | .call c => fBuiltin c E l n t
  | _ => none

abbrev FOp := Env → FL → Nat → Tr → Option (Value × Dl)
noncomputable def k_move (x : Operand) : FOp := fun _ l _ _ => ob (fopv l x) keepV
noncomputable def k_assign (x : Operand) : FOp := fun _ l _ _ => ob (fopv l x) keepV
noncomputable def k_pick (c a b : Operand) : FOp := fun _ l _ _ => ob (fopv l c) fun c => ifV c (ob (fopv l a) keepV) (ob (fopv l b) keepV)
noncomputable def k_alloc (ty : TypeId) : FOp := fun E _ n _ => fAlloc E ty n
noncomputable def k_box (_ty : TypeId) (x : Operand) : FOp := fun _ l n _ => ob (fopv l x) fun v => fBox v n
noncomputable def k_build (ty : TypeId) (ps : Array (Nat × Operand)) : FOp := fun E l _ _ => ob (fparts l ps.toList) fun ps => ob (aBuild E ty ps) keepV
noncomputable def k_buildSlice (ty : TypeId) (m : Nat) (ps : Array (Nat × Operand)) : FOp := fun E l n _ => ob (fparts l ps.toList) fun ps => fBuildSlice E ty m ps n
noncomputable def k_insert (ty : TypeId) (m k x : Operand) : FOp := fun E l _ t => ob (fopv l m) fun m => ob (fopv l k) fun k => ob (fopv l x) fun x => ob (fMapUpdate E ty m k x t) fun d => some (undef, d)
noncomputable def k_load (ty : TypeId) (x : Operand) : FOp := fun E l _ t => ob (fopv l x) fun a => ob (fLoad E ty a t) keepV
noncomputable def k_store (ty : TypeId) (x y : Operand) : FOp := fun E l _ t => ob (fopv l x) fun a => ob (fopv l y) fun v => ob (fStore E ty a v t) fun d => some (undef, d)
noncomputable def k_ready (_g : Nat) : FOp := fun _ _ _ _ => none
noncomputable def k_waits (_g : Nat) : FOp := fun _ _ _ _ => none
noncomputable def k_nilCheck (x : Operand) : FOp := fun _ l _ _ => ob (fopv l x) fNil
noncomputable def k_binOp (op : BinOp) (ty : TypeId) (x y : Operand) (_u : TypeId) : FOp := fun E l _ _ => ob (fopv l x) fun a => ob (fopv l y) fun b => ob (aBin E op ty a b) keepV
noncomputable def k_unOp (op : UnOp) (_ty : TypeId) (x : Operand) : FOp := fun _ l _ _ => ob (fopv l x) fun a => ob (aUn op a) keepV
noncomputable def k_convert (s d : TypeId) (x : Operand) : FOp := fun E l _ _ => ob (fopv l x) fun a => ob (aConv E s d a) keepV
noncomputable def k_sliceToArrayPointer (_d : TypeId) (_x : Operand) : FOp := fun _ _ _ _ => none
noncomputable def k_makeInterface (_ty : TypeId) (_x : Operand) : FOp := fun _ _ _ _ => none
noncomputable def k_makeFunc (f : Fn) (first caps : Array Operand) : FOp := fun _ l _ _ => match f with | .func f => ob (fopvs l first.toList) fun xs => ob (fopvs l caps.toList) fun ys => some (.func (.func f) xs.toArray ys.toArray, .keep) | _ => none
noncomputable def k_makeMap (_ty : TypeId) (r : Option Operand) : FOp := fun _ _ n _ => match r with | none => some (.map (some n), .push (.map [] 0)) | _ => none
noncomputable def k_makeChan (_ty : TypeId) (_x : Operand) : FOp := fun _ _ _ _ => none
noncomputable def k_makeSlice (ty : TypeId) (a c : Operand) : FOp := fun E l n _ => ob (fopv l a) fun a => ob (fopv l c) fun c => fMakeSlice E ty a c n
noncomputable def k_slice (ty : TypeId) (x : Operand) (lo hi mx : Option Operand) : FOp := fun E l _ t => ob (fopv l x) fun v => ob (fopvo l lo) fun lo => ob (fopvo l hi) fun hi => ob (fopvo l mx) fun mx => ob (fSlice E ty v lo hi mx t) keepV
noncomputable def k_fieldAddr (ty : TypeId) (x : Operand) (i : Nat) : FOp := fun E l _ _ => ob (fopv l x) fun a => ob (aFieldAddr E ty a i) keepV
noncomputable def k_field (ty : TypeId) (x : Operand) (i : Nat) : FOp := fun E l _ _ => ob (fopv l x) fun a => ob (aField E ty a i) keepV
noncomputable def k_indexAddr (ty : TypeId) (x i : Operand) : FOp := fun E l _ _ => ob (fopv l x) fun a => ob (fopv l i) fun i => ob (aIndexAddr E ty a i) keepV
noncomputable def k_index (ty : TypeId) (x i : Operand) : FOp := fun E l _ _ => ob (fopv l x) fun a => ob (fopv l i) fun i => ob (aIndex E ty a i) keepV
noncomputable def k_lookup (ty : TypeId) (x i : Operand) (ok : Bool) : FOp := fun E l _ t => ob (fopv l x) fun a => ob (fopv l i) fun i => ob (fLookup E ty a i ok t) keepV
noncomputable def k_mapUpdate (ty : TypeId) (m k x : Operand) : FOp := fun E l _ t => ob (fopv l m) fun m => ob (fopv l k) fun k => ob (fopv l x) fun x => ob (fMapUpdate E ty m k x t) fun d => some (undef, d)
noncomputable def k_mapEntry (_ty : TypeId) (_m _k : Operand) : FOp := fun _ _ _ _ => none
noncomputable def k_entryStore (_ty : TypeId) (_m _s _x : Operand) : FOp := fun _ _ _ _ => none
noncomputable def k_range (ty : TypeId) (x : Operand) : FOp := fun E l n _ => ob (fopv l x) fun v => fRange E ty v n
noncomputable def k_next (x : Operand) (st : Bool) : FOp := fun _ l _ t => match st with | true => ob (fopv l x) fun v => fNext v t | false => none
noncomputable def k_entry (_x : Operand) : FOp := fun _ _ _ _ => none
noncomputable def k_typeAssert (_x : Operand) (_a _b : TypeId) (_ok : Bool) : FOp := fun _ _ _ _ => none
noncomputable def k_extract (x : Operand) (i : Nat) : FOp := fun _ l _ _ => ob (fopv l x) fun a => ob (aExtract a i) keepV
noncomputable def k_call (c : Call) : FOp := fun E l n t => fBuiltin c E l n t
noncomputable def k_go (_c : Call) : FOp := fun _ _ _ _ => none
noncomputable def k_defer (_c : Call) : FOp := fun _ _ _ _ => none
noncomputable def k_panic (_x : Operand) : FOp := fun _ _ _ _ => none
noncomputable def k_send (_c _x : Operand) : FOp := fun _ _ _ _ => none
noncomputable def k_recv (_ty : TypeId) (_c : Operand) (_ok : Bool) : FOp := fun _ _ _ _ => none
noncomputable def k_select (_cs : Array SelectCase) (_b : Bool) : FOp := fun _ _ _ _ => none
/-- The same, by its kind at once. -/
noncomputable def fOpR (o : Op) : FOp :=
  Op.rec (motive := fun _ => FOp) k_move k_assign k_pick k_alloc k_box k_build k_buildSlice k_insert k_load k_store k_ready k_waits k_nilCheck k_binOp k_unOp k_convert k_sliceToArrayPointer k_makeInterface k_makeFunc k_makeMap k_makeChan k_makeSlice k_slice k_fieldAddr k_field k_indexAddr k_index k_lookup k_mapUpdate k_mapEntry k_entryStore k_range k_next k_entry k_typeAssert k_extract k_call k_go k_defer k_panic k_send k_recv k_select o
noncomputable def fOp (E : Env) (l : FL) (n : Nat) (t : Tr) (o : Op) : Option (Value × Dl) := fOpR o E l n t

abbrev VC := Option (Operand × Array Operand)
noncomputable def vcC (c : Call) : VC := Callee.rec (motive := fun _ => VC) (fun f => some (f, c.args)) (fun _ _ => none) (fun _ => none) c.callee
/-- Is it the call of a function value? -/
noncomputable def isVC (o : Op) : VC :=
  Op.rec (motive := fun _ => VC) (fun _ => none) (fun _ => none) (fun _ _ _ => none) (fun _ => none) (fun _ _ => none) (fun _ _ => none) (fun _ _ _ => none) (fun _ _ _ _ => none) (fun _ _ => none) (fun _ _ _ => none) (fun _ => none) (fun _ => none) (fun _ => none) (fun _ _ _ _ _ => none) (fun _ _ _ => none) (fun _ _ _ => none) (fun _ _ => none) (fun _ _ => none) (fun _ _ _ => none) (fun _ _ => none) (fun _ _ => none) (fun _ _ _ => none) (fun _ _ _ _ _ => none) (fun _ _ _ => none) (fun _ _ _ => none) (fun _ _ _ => none) (fun _ _ _ => none) (fun _ _ _ _ => none) (fun _ _ _ _ => none) (fun _ _ _ => none) (fun _ _ _ _ => none) (fun _ _ => none) (fun _ _ => none) (fun _ => none) (fun _ _ _ _ => none) (fun _ _ => none) vcC (fun _ => none) (fun _ => none) (fun _ => none) (fun _ _ => none) (fun _ _ _ => none) (fun _ _ => none) o

abbrev FCall := Tgt → List Value → Nat → Tr → (Value → Nat → Tr → Option R) → Option R
abbrev FK := Ex → FL → Nat → Tr → Option R

noncomputable def fWantedR (g : Option (Nat × Bool)) : Array Oper → FL → Option Bool :=
  Option.rec (motive := fun _ => Array Oper → FL → Option Bool) (fun _ _ => some true) (fun g ops l =>
    match (ops[g.1]?).bind (·.dst) with
    | none => some false
    | some d => ob (flook l d) fun v =>
      match v with
      | .bool b => some (b == g.2)
      | _ => some false) g
noncomputable def fWanted (ops : Array Oper) (l : FL) (o : Oper) : Option Bool := fWantedR o.guard ops l
noncomputable def fPutOk (N : Nat) (d : Option Nat) : Bool := Option.rec true (fun d => Nat.ble (Nat.succ d) N) d

noncomputable def fGo (call : FCall) (l : FL) (n : Nat) (t : Tr) (d : Option Nat) (vs : List Value) (f : Value) (K : FL → Nat → Tr → Option R) : Option R :=
  match f with
  | .func (.func g) xs ys => call (.fn g) (xs.toList ++ vs ++ ys.toList) n t fun v n t => K (fput l d v) n t
  | .func (.yield q) ⟨[]⟩ ⟨[]⟩ => call (.round q) vs n t fun v n t => K (fput l d v) n t
  | _ => none
abbrev FOpK := Op → Env → FCall → FL → Nat → Tr → Option Nat → (FL → Nat → Tr → Option R) → Option R
noncomputable def fOpKR (x : VC) : FOpK :=
  Option.rec (motive := fun _ => FOpK) (fun o E _ l n t d K => ob (fOp E l n t o) fun x => Prod.rec (fun v dl => fApp n t dl fun n t => K (fput l d v) n t) x)
    (fun x _ _ call l n t d K => ob (fopvs l x.2.toList) fun vs => ob (fopv l x.1) fun f => fGo call l n t d vs f K) x
noncomputable def fOpK (E : Env) (call : FCall) (l : FL) (n : Nat) (t : Tr) (d : Option Nat) (o : Op) (K : FL → Nat → Tr → Option R) : Option R := fOpKR (isVC o) o E call l n t d K

noncomputable def fOper (E : Env) (call : FCall) (N : Nat) (ops : Array Oper) (o : Oper) (l : FL) (n : Nat) (t : Tr) (K : FL → Nat → Tr → Option R) : Option R :=
  Bool.rec none (ob (fWanted ops l o) fun b => Bool.rec (K (fput l o.dst undef) n t) (fOpK E call l n t o.dst o.op K) b) (fPutOk N o.dst)

abbrev FOps := Env → FCall → Nat → Array Oper → FL → Nat → Tr → (FL → Nat → Tr → Option R) → Option R
noncomputable def fOpsR (os : List Oper) : FOps :=
  List.rec (motive := fun _ => FOps) (fun _ _ _ _ l n t K => K l n t) (fun o _ ih E call N ops l n t K => fOper E call N ops o l n t fun l n t => ih E call N ops l n t K) os
noncomputable def fOps (E : Env) (call : FCall) (N : Nat) (ops : Array Oper) (os : List Oper) (l : FL) (n : Nat) (t : Tr) (K : FL → Nat → Tr → Option R) : Option R := fOpsR os E call N ops l n t K

/-! ### Drawn regions -/
noncomputable def fResv (E : Env) (os : List Oper) : Nat → Tr → (List (Option Value) → Nat → Tr → Option R) → Option R :=
  List.rec (fun n t K => K [] n t) (fun o _ ih n t K =>
    match o.op with
    | .alloc ty => ob (fAlloc E ty n) fun x => fApp n t x.2 fun n t => ih n t fun ps n t => K (some x.1 :: ps) n t
    | _ => ih n t fun ps n t => K (none :: ps) n t) os
noncomputable def fOperD (E : Env) (call : FCall) (N : Nat) (ops : Array Oper) (p : Option Value) (o : Oper) (l : FL) (n : Nat) (t : Tr) (K : FL → Nat → Tr → Option R) : Option R :=
  Bool.rec none (ob (fWanted ops l o) fun b => Bool.rec (K (fput l o.dst undef) n t) (Option.rec (fOpK E call l n t o.dst o.op K) (fun v => K (fput l o.dst v) n t) p) b) (fPutOk N o.dst)
noncomputable def fOpsT (E : Env) (call : FCall) (N : Nat) (ops : Array Oper) (os : List Oper) : List (Option Value) → FL → Nat → Tr → (List (FL × Nat × Tr) → Option R) → Option R :=
  List.rec (fun _ l n t K => K [(l, n, t)]) (fun o _ ih ps l n t K => fOperD E call N ops (ps.headD none) o l n t fun l' n' t' => ih ps.tail l' n' t' fun tr => K ((l, n, t) :: tr)) os
noncomputable def fAgain (E : Env) (ops : Array Oper) (tr : List (FL × Nat × Tr)) (j c : Nat) : Bool :=
  match ops[j]?, tr[j]?, tr[j + 1]?, tr[c]? with
  | some o, some (l, _, _), some (l', _, _), some (_, n, t) =>
    match fWanted ops l o with
    | some true =>
      match fOp E l n t o.op, o.dst with
      | some (v, _), some d => (match flook l' d with | some u => sameV v u | none => false)
      | _, _ => false
    | some false => true
    | none => false
  | _, _, _, _ => false
noncomputable def fDraw (E : Env) (call : FCall) (N : Nat) (ops : Array Oper) (l : FL) (n : Nat) (t : Tr) (K : FL → Nat → Tr → Option R) : Option R :=
  Bool.rec none (fResv E ops.toList n t fun ps n t => fOpsT E call N ops ops.toList ps l n t fun tr =>
    Bool.rec none (ob tr.getLast? fun x => K x.1 x.2.1 x.2.2) ((drawPlan ops).all (fun p => p.2.all fun c => fAgain E ops tr p.1 c))) (drawOk ops)

/-! ### Codes -/
noncomputable def fmk (live : List Nat) (l : FL) : FL := List.rec [] (fun t _ ih => (t, flook l t) :: ih) live
noncomputable def fJoin (j : Option (List Nat)) (K : FK) : FK := Option.rec K (fun live e l n t => K e (fmk live l) n t) j
noncomputable def fIter (k : Nat) (f : FL → Nat → Tr → FK → Option R) (live : List Nat) : FL → Nat → Tr → FK → Option R :=
  Nat.rec (fun _ _ _ _ => none) (fun _ ih l n t K => f (fmk live l) n t fun e l n t => Ex.rec (ih l n t K) (fun i => K (.exit i) (fmk live l) n t) (K .ret (fmk live l) n t) e) k
noncomputable def fIf (v : Value) (x y : Option R) : Option R := ifV v x y

abbrev FCode := Env → FCall → Nat → Nat → Bool → Hint → FL → Nat → Tr → FK → Option R
noncomputable def c_region (ops : Array Oper) (d : Bool) : FCode := fun E call N _ _ _ l n t K => Bool.rec (fOps E call N ops ops.toList l n t (K .normal)) (fDraw E call N ops l n t (K .normal)) d
noncomputable def c_range (f : Operand) (ps : Array Tmp) (asg body : Code) : FCode := fun _ call N _ out h l n t K => Bool.rec none (ob (fopv l f) fun fv =>
      match fv with
      | .func (.func g) xs ys =>
        fApp n t (.push (.loop .ready none ⟨N, l⟩ ps.toList asg body h.a)) fun n1 t1 => call (.fn g) (xs.toList ++ [.func (.yield n) #[] #[]] ++ ys.toList) n1 t1 fun _ n2 t2 =>
          match tget t2 n with
          | some (.loop st pend fr' ps' asg' body' hb') =>
            if st = .busy then none else fApp n2 t2 (.set n (.loop .exhausted pend fr' ps' asg' body' hb')) fun n3 t3 => K (pend.getD .normal) l n3 t3
          | _ => none
      | _ => none) out
noncomputable def fCodeR (c : Code) : FCode :=
  Code.rec (motive := fun _ => FCode)
    (fun _ _ _ _ _ _ l n t K => K .normal l n t)
    (fun _ ops d => c_region ops d)
    (fun _ _ fa fb E call N k out h l n t K => fa E call N k out h.a l n t fun e l n t => Ex.rec (fb E call N k out h.b l n t K) (fun i => K (.exit i) l n t) (K .ret l n t) e)
    (fun c _ _ fx fy E call N k out h l n t K => ob (fopv l c) fun v => fIf v (fx E call N k out h.a l n t (fJoin h.j K)) (fy E call N k out h.b l n t (fJoin h.j K)))
    (fun id _ fc E call N k out h l n t K => fc E call N k out h.a l n t fun e l n t => fJoin h.j K (Ex.rec .normal (fun i => Bool.rec (.exit i) .normal (Nat.beq i id)) .ret e) l n t)
    (fun _ fc E call N k out h l n t K => Option.rec none (fun live => fIter k (fc E call N k out h.a) live l n t K) h.j)
    (fun f ps asg body _ _ => c_range f ps asg body)
    (fun id _ _ _ _ _ _ l n t K => K (.exit id) l n t)
    (fun _ fc E call N k out h l n t K => fc E call N k out h.a l n t K)
    (fun _ _ _ _ _ _ _ l n t K => K .normal l n t)
    (fun _ _ _ _ _ _ _ _ _ _ _ => none)
    (fun _ _ _ _ _ _ l n t K => K .ret l n t)
    (fun _ _ _ _ _ _ _ _ _ _ _ => none)
    c
noncomputable def fCode (E : Env) (call : FCall) (N k : Nat) (out : Bool) (c : Code) (h : Hint) (l : FL) (n : Nat) (t : Tr) (K : FK) : Option R := fCodeR c E call N k out h l n t K

noncomputable def fResL (E : Env) (l : FL) (t : Tr) : List ResultVar → Option (List Value)
  | [] => some []
  | .tmp a :: rs => ob (flook l a) fun v => ob (fResL E l t rs) fun vs => some (v :: vs)
  | .cell a ty :: rs => ob (flook l a) fun p => ob (fLoad E ty p t) fun v => ob (fResL E l t rs) fun vs => some (v :: vs)

/-- One call; the calls in it by 'ih'. -/
noncomputable def fStep (E : Env) (k : Nat) (ih : FCall) : FCall := fun tg args n t K => Tgt.rec
    (fun f => Option.rec (ob (E.fn f) fun fn => ob fn.body fun c =>
        fCode E ih (args.length + (fn.ntmps - args.length)) k true c (E.hint f) (enterL 0 args) n t fun e l n t => Ex.rec (ob (fResL E l t fn.results.toList) fun vs => K (tupleOf vs) n t) (fun _ => none) (ob (fResL E l t fn.results.toList) fun vs => K (tupleOf vs) n t) e)
      (fun _ => none) (E.ext f))
    (fun q =>
      match tget t q with
      | some (.loop _ _ fr ps asg body hb) => ob (putL fr ps args) fun fr =>
        fCode E ih fr.n k false asg .leaf fr.l n t fun e l n t =>
          match e, tget t q with
          | .normal, some (.loop .ready p fr0 ps0 asg0 body0 hb0) =>
            fApp n t (.set q (.loop .busy p fr0 ps0 asg0 body0 hb0)) fun n t => fCode E ih fr.n k false body hb l n t fun e _ n t =>
              match tget t q with
              | some (.loop _ _ fr1 ps1 asg1 body1 hb1) =>
                Ex.rec (fApp n t (.set q (.loop .ready none fr1 ps1 asg1 body1 hb1)) fun n t => K (.bool true) n t)
                  (fun i => fApp n t (.set q (.loop .done (some (.exit i)) fr1 ps1 asg1 body1 hb1)) fun n t => K (.bool false) n t)
                  (fApp n t (.set q (.loop .done (some .ret) fr1 ps1 asg1 body1 hb1)) fun n t => K (.bool false) n t) e
              | _ => none
          | _, _ => none
      | _ => none) tg
noncomputable def fFn (E : Env) (k : Nat) : FCall :=
  Nat.rec (fun _ _ _ _ _ => none) (fun k ih => fStep E k ih) k

/-- Does a call answer true? -/
def trueK : Value → Nat → Tr → Option Bool
  | .bool b, _, _ => some b
  | _, _, _ => none
def yes : Option Bool → Bool
  | some b => b
  | none => false
end Go.Proofs.YtjanjgegchgjiaaGreatDoor.Zq
