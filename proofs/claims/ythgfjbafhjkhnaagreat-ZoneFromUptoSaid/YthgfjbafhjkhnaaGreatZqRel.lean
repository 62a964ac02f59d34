/- Values, heaps and worlds held against each other; the steps that turn them. -/
import Derived.Test.YthgfjbafhjkhnaaGreatZqCore
import Derived.Laws.CopyRow
import Derived.Laws.World
namespace Go.Proofs.YthgfjbafhjkhnaaGreat.Zq

/-- Where an abstract block lies: the block, its place there, may there be more behind it, its cells, its elements' size, the whole block's cells. -/
structure Ent where
  blk : Nat
  base : Nat
  opn : Bool
  n : Nat
  sz : Nat
  csz : Nat

abbrev Mp := List (Option Ent)

/-- What the capacity of a slice is worth. -/
def CapOk (e : Ent) (off cap c : Nat) : Prop :=
  c = cap ∨ (e.opn = true ∧ e.n ≤ off + cap * e.sz ∧ cap ≤ c ∧ e.base + off + c * e.sz ≤ e.csz)

inductive VR (M : Mp) : Value → Value → Prop
  | bool (b) : VR M (.bool b) (.bool b)
  | int (k n) : VR M (.int k n) (.int k n)
  | float (k n) : VR M (.float k n) (.float k n)
  | string (s) : VR M (.string s) (.string s)
  | ptr0 : VR M (.pointer none) (.pointer none)
  | ptr {b off e} (h : M[b]? = some (some e)) : VR M (.pointer (some ⟨b, off, none⟩)) (.pointer (some ⟨e.blk, e.base + off, none⟩))
  | slice0 : VR M (.slice none 0 0) (.slice none 0 0)
  | slice {b off e len cap c} (h : M[b]? = some (some e)) (hc : CapOk e off cap c) : VR M (.slice (some ⟨b, off, none⟩) len cap) (.slice (some ⟨e.blk, e.base + off, none⟩) len c)
  | sliceE {b off a c} : VR M (.slice (some ⟨b, off, some 0⟩) 0 0) (.slice (some a) 0 c)
  | map0 : VR M (.map none) (.map none)
  | map {r e} (h : M[r]? = some (some e)) : VR M (.map (some r)) (.map (some e.blk))
  | nilFunc : VR M .nilFunc .nilFunc
  | nilIface : VR M .nilIface .nilIface
  | func {f xs ys us vs} (hx : xs.size = us.size) (hy : ys.size = vs.size)
      (gx : ∀ (i : Nat) (x u : Value), xs[i]? = some x → us[i]? = some u → VR M x u) (gy : ∀ (i : Nat) (y v : Value), ys[i]? = some y → vs[i]? = some v → VR M y v) :
      VR M (.func (.func f) xs ys) (.func (.func f) us vs)
  | yield {l e} (h : M[l]? = some (some e)) : VR M (.func (.yield l) #[] #[]) (.func (.yield e.blk) #[] #[])
  | iface {t x u} (h : VR M x u) : VR M (.iface t x) (.iface t u)
  | agg {xs us} (hx : xs.size = us.size) (gx : ∀ (i : Nat) (x u : Value), xs[i]? = some x → us[i]? = some u → VR M x u) : VR M (.agg xs) (.agg us)
  | tuple {xs us} (hx : xs.size = us.size) (gx : ∀ (i : Nat) (x u : Value), xs[i]? = some x → us[i]? = some u → VR M x u) : VR M (.tuple xs) (.tuple us)

/-- Lists, one by one. -/
def VL (M : Mp) (xs us : List Value) : Prop := xs.length = us.length ∧ ∀ (i : Nat) (x u : Value), xs[i]? = some x → us[i]? = some u → VR M x u

/-- M' has what M has. -/
def Ext (M M' : Mp) : Prop := ∀ (b : Nat) (e : Ent), M[b]? = some (some e) → M'[b]? = some (some e)

theorem Ext.refl (M : Mp) : Ext M M := fun _ _ h => h
theorem Ext.trans {M M' M'' : Mp} (h : Ext M M') (k : Ext M' M'') : Ext M M'' := fun b e hb => k b e (h b e hb)
theorem Ext.app (M N : Mp) : Ext M (M ++ N) := fun b e h => by
  have hl : b < M.length := (List.getElem?_eq_some_iff.1 h).1
  rw [List.getElem?_append_left hl]; exact h

theorem VR.mono {M M' : Mp} (x : Ext M M') {v u : Value} (h : VR M v u) : VR M' v u := by
  induction h with
  | bool b => exact .bool b
  | int k n => exact .int k n
  | float k n => exact .float k n
  | string s => exact .string s
  | ptr0 => exact .ptr0
  | ptr h => exact .ptr (x _ _ h)
  | slice0 => exact .slice0
  | slice h hc => exact .slice (x _ _ h) hc
  | sliceE => exact .sliceE
  | map0 => exact .map0
  | map h => exact .map (x _ _ h)
  | nilFunc => exact .nilFunc
  | nilIface => exact .nilIface
  | func hx hy _ _ gx gy => exact .func hx hy gx gy
  | yield h => exact .yield (x _ _ h)
  | iface _ ih => exact .iface ih
  | agg hx _ gx => exact .agg hx gx
  | tuple hx _ gx => exact .tuple hx gx

theorem VL.mono {M M' : Mp} (x : Ext M M') {vs us : List Value} (h : VL M vs us) : VL M' vs us :=
  ⟨h.1, fun i a b ha hb => (h.2 i a b ha hb).mono x⟩

theorem VL.nil (M : Mp) : VL M [] [] := ⟨rfl, fun i x u h _ => by simp at h⟩
theorem VL.cons {M : Mp} {v u : Value} {vs us : List Value} (h : VR M v u) (hs : VL M vs us) : VL M (v :: vs) (u :: us) :=
  ⟨by simp [hs.1], fun i x y hx hy => by
    cases i with
    | zero => simp at hx hy; subst hx; subst hy; exact h
    | succ i => simp at hx hy; exact hs.2 i x y hx hy⟩
theorem VL.of_nil {M : Mp} {us : List Value} (h : VL M [] us) : us = [] := by
  have := h.1; simp at this; exact List.length_eq_zero_iff.1 this.symm
theorem VL.of_cons {M : Mp} {v : Value} {vs us : List Value} (h : VL M (v :: vs) us) : ∃ u us', us = u :: us' ∧ VR M v u ∧ VL M vs us' := by
  cases us with
  | nil => have := h.1; simp at this
  | cons u us' =>
    exact ⟨u, us', rfl, h.2 0 v u rfl rfl, by have := h.1; simpa using this, fun i x y hx hy => h.2 (i + 1) x y (by simpa using hx) (by simpa using hy)⟩
theorem VL.append {M : Mp} {as bs cs ds : List Value} (h : VL M as bs) (k : VL M cs ds) : VL M (as ++ cs) (bs ++ ds) := by
  refine ⟨by simp [h.1, k.1], fun i x u hx hu => ?_⟩
  by_cases hi : i < as.length
  · rw [List.getElem?_append_left hi] at hx
    rw [List.getElem?_append_left (h.1 ▸ hi)] at hu
    exact h.2 i x u hx hu
  · have hi' : as.length ≤ i := by omega
    rw [List.getElem?_append_right hi'] at hx
    rw [List.getElem?_append_right (h.1 ▸ hi'), ← h.1] at hu
    exact k.2 _ x u hx hu
theorem VL.take {M : Mp} {as bs : List Value} (h : VL M as bs) (n : Nat) : VL M (as.take n) (bs.take n) := by
  refine ⟨by simp [h.1], fun i x u hx hu => ?_⟩
  simp only [List.getElem?_take] at hx hu
  split at hx
  · rename_i hi; simp only [hi, if_true] at hu; exact h.2 i x u hx hu
  · simp at hx
theorem VL.drop {M : Mp} {as bs : List Value} (h : VL M as bs) (n : Nat) : VL M (as.drop n) (bs.drop n) := by
  refine ⟨by simp [h.1], fun i x u hx hu => ?_⟩
  simp only [List.getElem?_drop] at hx hu
  exact h.2 _ x u hx hu
theorem VL.patch {M : Mp} {as bs cs ds : List Value} (h : VL M as bs) (k : VL M cs ds) (off : Nat) : VL M (patch as off cs) (patch bs off ds) := by
  unfold Zq.patch; rw [k.1]; exact ((h.take off).append k).append (h.drop _)

theorem VR.of_agg {M : Mp} {xs : Array Value} {u : Value} (h : VR M (.agg xs) u) : ∃ us, u = .agg us ∧ VL M xs.toList us.toList := by
  cases h with
  | agg hx gx => exact ⟨_, rfl, by simpa using hx, fun i x u hx hu => gx i x u (by simpa using hx) (by simpa using hu)⟩
theorem VL.agg {M : Mp} {xs us : List Value} (h : VL M xs us) : VR M (.agg xs.toArray) (.agg us.toArray) :=
  .agg (by simpa using h.1) fun i x u hx hu => h.2 i x u (by simpa using hx) (by simpa using hu)
theorem VL.tuple {M : Mp} {xs us : List Value} (h : VL M xs us) : VR M (.tuple xs.toArray) (.tuple us.toArray) :=
  .tuple (by simpa using h.1) fun i x u hx hu => h.2 i x u (by simpa using hx) (by simpa using hu)
theorem VR.undef (M : Mp) : VR M undef undef := .tuple rfl fun i x u h _ => by simp at h

/-- The cells of a value, one by one. -/
theorem VR.cells {M : Mp} {v u : Value} (h : VR M v u) : VL M v.cells.toList u.cells.toList := by
  cases h with
  | agg hx gx => exact ⟨by simpa [Value.cells] using hx, fun i x u hx hu => gx i x u (by simpa [Value.cells] using hx) (by simpa [Value.cells] using hu)⟩
  | _ => first
    | (simp only [Value.cells]; exact VL.cons (by constructor <;> assumption) (VL.nil M))
    | (simp only [Value.cells]; exact VL.cons .sliceE (VL.nil M))

theorem VR.cell1 {M : Mp} {v u : Value} (h : VR M v u) : cell1 v = u.oneCell' := by cases h <;> rfl

theorem VR.flat1 {M : Mp} {v : Value} (h : flat1 v = true) : VR M v v := by
  unfold Zq.flat1 at h
  split at h <;> first | constructor | (simp at h)
theorem VR.flat {M : Mp} {v : Value} (h : flat v = true) : VR M v v := by
  unfold Zq.flat at h
  split at h
  · rename_i cs
    refine .agg rfl fun i x u hx hu => ?_
    rw [hx] at hu; simp at hu; subst hu
    exact VR.flat1 (List.all_eq_true.1 h x (by simpa using Array.mem_of_getElem? hx))
  · rename_i cs
    refine .tuple rfl fun i x u hx hu => ?_
    rw [hx] at hu; simp at hu; subst hu
    exact VR.flat1 (List.all_eq_true.1 h x (by simpa using Array.mem_of_getElem? hx))
  · exact VR.flat1 h

/-! ### Heaps -/

/-- A map's entry. -/
def ER (M : Mp) (a b : MapEntry) : Prop := VR M a.key b.key ∧ VR M a.val b.val ∧ a.born = b.born

structure FR (M : Mp) (fr : AFr) (tmps : Array Value) : Prop where
  size : tmps.size = fr.n
  get : ∀ t v, fr.get t = some v → VR M v (tmps.getD t undef)

theorem FR.mono {M M' : Mp} {fr : AFr} {tmps : Array Value} (h : FR M fr tmps) (x : Ext M M') : FR M' fr tmps :=
  ⟨h.size, fun t v hv => (h.get t v hv).mono x⟩

def PendR : Option Ex → Option Code → Prop
  | none, none => True
  | some .ret, some .ret => True
  | some (.exit i), some (.exit j) => i = j
  | _, _ => False

def BR (M : Mp) (e : Ent) (k : ABlk) (w : World) : Prop :=
  match k with
  | .row cells sz opn ro live => e.opn = opn ∧ e.n = cells.length ∧ e.sz = sz ∧
      (live = true → ∃ c t fz, w.heap[e.blk]? = some (.cells c t fz) ∧ c.size = e.csz ∧ e.base + cells.length ≤ c.size ∧
        VL M cells ((c.toList.drop e.base).take cells.length) ∧ (ro = false → fz = (0, 0)))
  | .map es clock => ∃ es' : Array MapEntry, w.heap[e.blk]? = some (.map es' clock) ∧ es.length = es'.size ∧ ∀ (i : Nat) (a b : MapEntry), es[i]? = some a → es'[i]? = some b → ER M a b
  | .iter s pos => e.base = 0 ∧ w.heap[e.blk]? = some (.stringIter s pos)
  | .loop st pend fr ps asg body _ => ∃ L : Loop, w.heap[e.blk]? = some (.loop L) ∧ L.state = st ∧ PendR pend L.pending ∧ FR M fr L.tmps ∧ L.params.toList = ps ∧ L.assign = asg ∧ L.body = body

def liveB (H : Heap) (b : Nat) : Prop :=
  match H[b]? with
  | some (.row _ _ _ _ l) => l = true
  | some _ => True
  | none => False
def writB (H : Heap) (b : Nat) : Prop :=
  match H[b]? with
  | some (.row _ _ _ ro l) => l = true ∧ ro = false
  | some _ => True
  | none => False

theorem writB.live {H : Heap} {b : Nat} (h : writB H b) : liveB H b := by
  unfold writB at h; unfold liveB; split at h <;> simp_all

structure HR (M : Mp) (H : Heap) (w : World) : Prop where
  len : M.length = H.length
  blk : ∀ (b : Nat) (e : Ent) (k : ABlk), M[b]? = some (some e) → H[b]? = some k → BR M e k w
  sep : ∀ (b b' : Nat) (e e' : Ent), b ≠ b' → M[b]? = some (some e) → M[b']? = some (some e') → writB H b → liveB H b' → e.blk ≠ e'.blk

/-- One step: what is known is known still; what was not to be written has not been. -/
structure Stp (M : Mp) (H : Heap) (w : World) (M' : Mp) (H' : Heap) (w' : World) : Prop where
  ext : Ext M M'
  hr : HR M' H' w'
  os : w'.os = w.os
  output : w'.output = w.output
  tape : w'.tape = w.tape
  size : w.heap.size ≤ w'.heap.size
  dr : w.drawn ≤ w'.drawn
  frame : ∀ c : Nat, c < w.heap.size → (∀ (b : Nat) (e : Ent), M[b]? = some (some e) → writB H b → e.blk ≠ c) → w'.heap[c]? = w.heap[c]?
  wm : ∀ (b : Nat) (e : Ent), M'[b]? = some (some e) → writB H' b → e.blk < w.heap.size → ∃ (b0 : Nat) (e0 : Ent), M[b0]? = some (some e0) ∧ writB H b0 ∧ e0.blk = e.blk
  keep : ∀ b : Nat, M[b]? = some none → M'[b]? = some none ∧ H'[b]? = H[b]?
  lm : ∀ (b : Nat) (e : Ent), M'[b]? = some (some e) → liveB H' b → e.blk < w.heap.size → ∃ (b0 : Nat) (e0 : Ent), M[b0]? = some (some e0) ∧ liveB H b0 ∧ e0.blk = e.blk

theorem Stp.refl {M : Mp} {H : Heap} {w : World} (h : HR M H w) : Stp M H w M H w :=
  ⟨.refl M, h, rfl, rfl, rfl, Nat.le_refl _, Nat.le_refl _, fun _ _ _ => rfl, fun b e hb hw _ => ⟨b, e, hb, hw, rfl⟩, fun _ h => ⟨h, rfl⟩, fun b e hb hw _ => ⟨b, e, hb, hw, rfl⟩⟩

theorem Stp.trans {M M' M'' : Mp} {H H' H'' : Heap} {w w' w'' : World} (h : Stp M H w M' H' w') (k : Stp M' H' w' M'' H'' w'') : Stp M H w M'' H'' w'' where
  ext := h.ext.trans k.ext
  hr := k.hr
  os := k.os.trans h.os
  output := k.output.trans h.output
  tape := k.tape.trans h.tape
  size := Nat.le_trans h.size k.size
  dr := Nat.le_trans h.dr k.dr
  frame c hc hn := by
    rw [k.frame c (Nat.lt_of_lt_of_le hc h.size) ?_, h.frame c hc hn]
    intro b e hb hw he
    obtain ⟨b0, e0, h0, w0, q⟩ := h.wm b e hb hw (by omega)
    exact hn b0 e0 h0 w0 (q.trans he)
  wm b e hb hw hlt := by
    obtain ⟨b1, e1, h1, w1, q1⟩ := k.wm b e hb hw (Nat.lt_of_lt_of_le hlt h.size)
    obtain ⟨b0, e0, h0, w0, q0⟩ := h.wm b1 e1 h1 w1 (by omega)
    exact ⟨b0, e0, h0, w0, q0.trans q1⟩
  keep b hb := by
    obtain ⟨h1, h2⟩ := h.keep b hb
    obtain ⟨k1, k2⟩ := k.keep b h1
    exact ⟨k1, k2.trans h2⟩
  lm b e hb hw hlt := by
    obtain ⟨b1, e1, h1, w1, q1⟩ := k.lm b e hb hw (Nat.lt_of_lt_of_le hlt h.size)
    obtain ⟨b0, e0, h0, w0, q0⟩ := h.lm b1 e1 h1 w1 (by omega)
    exact ⟨b0, e0, h0, w0, q0.trans q1⟩

/-- A draw. -/
theorem HR.drew {M : Mp} {H : Heap} {w : World} (h : HR M H w) : HR M H w.drew :=
  ⟨h.len, fun b e k hb hk => by have := h.blk b e k hb hk; cases k <;> exact this, h.sep⟩
theorem Stp.drew {M : Mp} {H : Heap} {w : World} (h : HR M H w) : Stp M H w M H w.drew :=
  ⟨.refl M, h.drew, rfl, rfl, rfl, Nat.le_refl _, Nat.le_succ _, fun _ _ _ => rfl, fun b e hb hw _ => ⟨b, e, hb, hw, rfl⟩, fun _ h => ⟨h, rfl⟩, fun b e hb hw _ => ⟨b, e, hb, hw, rfl⟩⟩

theorem BR.mono {M M' : Mp} (x : Ext M M') {e : Ent} {k : ABlk} {w : World} (h : BR M e k w) : BR M' e k w := by
  cases k with
  | row cells sz opn ro live =>
    obtain ⟨h1, h2, h3, h4⟩ := h
    exact ⟨h1, h2, h3, fun hl => let ⟨c, t, fz, a, b, d, f, g⟩ := h4 hl; ⟨c, t, fz, a, b, d, f.mono x, g⟩⟩
  | map es clock =>
    obtain ⟨es', h1, h2, h3⟩ := h
    exact ⟨es', h1, h2, fun i a b ha hb => let ⟨p, q, r⟩ := h3 i a b ha hb; ⟨p.mono x, q.mono x, r⟩⟩
  | iter s pos => exact h
  | loop st pend fr ps asg body hb =>
    obtain ⟨L, h1, h2, h3, h4, h5⟩ := h
    exact ⟨L, h1, h2, h3, h4.mono x, h5⟩

/-- The heap's block is what it was: so is what is said of it. -/
theorem BR.same {M : Mp} {e : Ent} {k : ABlk} {w w' : World} (h : BR M e k w) (hk : (match k with | .row _ _ _ _ l => l = true | _ => True) → w'.heap[e.blk]? = w.heap[e.blk]?) : BR M e k w' := by
  cases k with
  | row cells sz opn ro live =>
    obtain ⟨h1, h2, h3, h4⟩ := h
    exact ⟨h1, h2, h3, fun hl => let ⟨c, t, fz, a, r⟩ := h4 hl; ⟨c, t, fz, by rw [hk hl]; exact a, r⟩⟩
  | map es clock =>
    obtain ⟨es', h1, r⟩ := h
    exact ⟨es', by rw [hk trivial]; exact h1, r⟩
  | iter s pos => exact ⟨h.1, by rw [hk trivial]; exact h.2⟩
  | loop st pend fr ps asg body hb =>
    obtain ⟨L, h1, r⟩ := h
    exact ⟨L, by rw [hk trivial]; exact h1, r⟩

theorem HR.blk_lt {M : Mp} {H : Heap} {w : World} (h : HR M H w) {b : Nat} {e : Ent} (hb : M[b]? = some (some e)) (hl : liveB H b) : e.blk < w.heap.size := by
  unfold liveB at hl
  split at hl
  · rename_i cells sz opn ro l hk
    subst hl
    obtain ⟨_, _, _, h4⟩ := h.blk b e _ hb hk
    obtain ⟨c, t, fz, a, _⟩ := h4 rfl
    exact (Array.getElem?_eq_some_iff.1 a).1
  · rename_i k hnot hk
    have hbr := h.blk b e _ hb hk
    cases k with
    | row cells sz opn ro l => exact absurd rfl (hnot _ _ _ _ _)
    | map es clock =>
      obtain ⟨es', a, _⟩ := hbr
      exact (Array.getElem?_eq_some_iff.1 a).1
    | iter s pos => exact (Array.getElem?_eq_some_iff.1 hbr.2).1
    | loop =>
      obtain ⟨L, a, _⟩ := hbr
      exact (Array.getElem?_eq_some_iff.1 a).1
  · exact hl.elim

theorem HR.get' {M : Mp} {H : Heap} {w : World} (h : HR M H w) {b : Nat} {e : Ent} (hb : M[b]? = some (some e)) : ∃ k, H[b]? = some k := by
  have : b < M.length := (List.getElem?_eq_some_iff.1 hb).1
  rw [h.len] at this
  exact ⟨_, List.getElem?_eq_getElem this⟩

/-- A NEW BLOCK OF CELLS. 'c' holds at its head what 'cells' says. -/
theorem Stp.newRow {M : Mp} {H : Heap} {w : World} (h : HR M H w) {cells : List Value} {c : Array Value} (t : TypeId) (sz : Nat) (opn : Bool) (hn : cells.length ≤ c.size) (hv : VL M cells (c.toList.take cells.length)) :
    Stp M H w (M ++ [some ⟨w.heap.size, 0, opn, cells.length, sz, c.size⟩]) (Zq.mk H cells sz opn) (w.alloc (.cells c t (0, 0))) := by
  have hx := Ext.app M [some ⟨w.heap.size, 0, opn, cells.length, sz, c.size⟩]
  have old : ∀ (b : Nat) (e : Ent), (M ++ [some (⟨w.heap.size, 0, opn, cells.length, sz, c.size⟩ : Ent)])[b]? = some (some e) → (M[b]? = some (some e) ∧ b < M.length) ∨ (b = M.length ∧ e = ⟨w.heap.size, 0, opn, cells.length, sz, c.size⟩) := by
    intro b e hb
    by_cases hl : b < M.length
    · rw [List.getElem?_append_left hl] at hb; exact .inl ⟨hb, hl⟩
    · rw [List.getElem?_append_right (by omega)] at hb
      by_cases e0 : b = M.length
      · subst e0; simp at hb; exact .inr ⟨rfl, hb.symm⟩
      · have : b - M.length ≠ 0 := by omega
        cases hq : b - M.length with
        | zero => omega
        | succ q => rw [hq] at hb; simp at hb
  have hH : ∀ b : Nat, b < M.length → (Zq.mk H cells sz opn)[b]? = H[b]? := fun b hb => by
    unfold Zq.mk; rw [List.getElem?_append_left (by rw [← h.len]; exact hb)]
  have hHn : (Zq.mk H cells sz opn)[M.length]? = some (.row cells sz opn false true) := by
    unfold Zq.mk; rw [h.len, List.getElem?_append_right (Nat.le_refl _)]; simp
  have hlive : ∀ b, b < M.length → (liveB (Zq.mk H cells sz opn) b ↔ liveB H b) := fun b hb => by unfold liveB; rw [hH b hb]
  have hwrit : ∀ b, b < M.length → (writB (Zq.mk H cells sz opn) b ↔ writB H b) := fun b hb => by unfold writB; rw [hH b hb]
  have hheap : ∀ k, k < w.heap.size → (w.alloc (.cells c t (0, 0))).heap[k]? = w.heap[k]? := fun k hk => by
    show (w.heap.push _)[k]? = _
    rw [Array.getElem?_push, if_neg (by omega)]
  refine ⟨hx, ⟨by simp [Zq.mk, h.len], ?_, ?_⟩, rfl, rfl, rfl, by simp, Nat.le_refl _, fun k hk _ => hheap k hk, ?_, fun b hb => ?_, fun b e hb hw hlt => ?_⟩
  · intro b e k hb hk
    rcases old b e hb with ⟨hb', hl⟩ | ⟨rfl, rfl⟩
    · rw [hH b hl] at hk
      refine ((h.blk b e k hb' hk).mono hx).same fun hlv => hheap _ ?_
      refine h.blk_lt hb' ?_
      unfold liveB; rw [hk]; cases k <;> exact hlv
    · rw [hHn] at hk; simp at hk; subst hk
      refine ⟨rfl, rfl, rfl, fun _ => ⟨c, t, (0, 0), ?_, rfl, by simpa using hn, ?_, fun _ => rfl⟩⟩
      · show (w.heap.push _)[w.heap.size]? = _
        rw [Array.getElem?_push, if_pos rfl]
      · simpa using hv.mono hx
  · intro b b' e e' hne hb hb' hw hl
    rcases old b e hb with ⟨hb1, hl1⟩ | ⟨rfl, rfl⟩ <;> rcases old b' e' hb' with ⟨hb2, hl2⟩ | ⟨rfl, rfl⟩
    · exact h.sep b b' e e' hne hb1 hb2 ((hwrit b hl1).1 hw) ((hlive b' hl2).1 hl)
    · have := h.blk_lt hb1 ((hwrit b hl1).1 hw).live
      show e.blk ≠ w.heap.size; omega
    · have := h.blk_lt hb2 ((hlive b' hl2).1 hl)
      show w.heap.size ≠ e'.blk; omega
    · exact absurd rfl hne
  · intro b e hb hw hlt
    rcases old b e hb with ⟨hb1, hl1⟩ | ⟨rfl, rfl⟩
    · exact ⟨b, e, hb1, (hwrit b hl1).1 hw, rfl⟩
    · exact absurd hlt (by simp)
  · have hl : b < M.length := (List.getElem?_eq_some_iff.1 hb).1
    exact ⟨by rw [List.getElem?_append_left hl]; exact hb, hH b hl⟩
  · rcases old b e hb with ⟨hb1, hl1⟩ | ⟨rfl, rfl⟩
    · exact ⟨b, e, hb1, (hlive b hl1).1 hw, rfl⟩
    · exact absurd hlt (by simp)

/-- A BLOCK THAT IS NO CELLS IS SET. -/
theorem Stp.setBlk {M : Mp} {H : Heap} {w : World} (h : HR M H w) {b : Nat} {e : Ent} {k k' : ABlk} {o' : Obj} (hk : H[b]? = some k) (he : M[b]? = some (some e)) (hw : writB H b) (hw' : writB (H.set b k') b)
    (hb : BR M e k' { w with heap := w.heap.setIfInBounds e.blk o' }) : Stp M H w M (H.set b k') { w with heap := w.heap.setIfInBounds e.blk o' } := by
  have hblen : b < H.length := (List.getElem?_eq_some_iff.1 hk).1
  have hset : ∀ (j : Nat), j ≠ b → (H.set b k')[j]? = H[j]? := fun j hj => by rw [List.getElem?_set_ne (Ne.symm hj)]
  have hsetb : (H.set b k')[b]? = some k' := by rw [List.getElem?_set_self hblen]
  have hlive : ∀ j : Nat, liveB (H.set b k') j → liveB H j := by
    intro j hl; by_cases hj : j = b
    · subst hj; exact hw.live
    · unfold liveB at hl ⊢; rw [hset j hj] at hl; exact hl
  have hwrit : ∀ j : Nat, writB (H.set b k') j → writB H j := by
    intro j hl; by_cases hj : j = b
    · subst hj; exact hw
    · unfold writB at hl ⊢; rw [hset j hj] at hl; exact hl
  have hWo : ∀ j : Nat, j ≠ e.blk → (w.heap.setIfInBounds e.blk o')[j]? = w.heap[j]? := fun j hj => by
    rw [Array.getElem?_setIfInBounds_ne (Ne.symm hj)]
  refine ⟨.refl M, ⟨by simpa using h.len, ?_, ?_⟩, rfl, rfl, rfl, by simp, Nat.le_refl _, ?_, ?_, fun j hj => ⟨hj, hset j fun e0 => ?_⟩, fun j ej hj h1 _ => ⟨j, ej, hj, hlive j h1, rfl⟩⟩
  · intro j ej kj hj hkj
    by_cases hjb : j = b
    · subst hjb
      rw [he] at hj; simp at hj; subst hj
      rw [hsetb] at hkj; simp at hkj; subst hkj
      exact hb
    · rw [hset j hjb] at hkj
      refine (h.blk j ej kj hj hkj).same fun hlv => hWo _ ?_
      have : liveB H j := by unfold liveB; rw [hkj]; cases kj <;> first | exact hlv | trivial
      exact (h.sep b j e ej (Ne.symm hjb) he hj hw this).symm
  · intro j j' ej ej' hne hj hj' h1 h2
    exact h.sep j j' ej ej' hne hj hj' (hwrit j h1) (hlive j' h2)
  · intro j hj hn
    exact hWo j fun hje => hn b e he hw hje.symm
  · intro j ej hj h1 _
    exact ⟨j, ej, hj, hwrit j h1, rfl⟩
  · subst e0; rw [he] at hj; simp at hj

/-- A NEW BLOCK THAT IS NO CELLS. -/
theorem Stp.newBlk {M : Mp} {H : Heap} {w : World} (h : HR M H w) {k : ABlk} {o : Obj} (e : Ent) (he : e.blk = w.heap.size)
    (hb : BR (M ++ [some e]) e k (w.alloc o)) : Stp M H w (M ++ [some e]) (H ++ [k]) (w.alloc o) := by
  have hx := Ext.app M [some e]
  have old : ∀ (b : Nat) (e' : Ent), (M ++ [some e])[b]? = some (some e') → (M[b]? = some (some e') ∧ b < M.length) ∨ (b = M.length ∧ e' = e) := by
    intro b e' hb
    by_cases hl : b < M.length
    · rw [List.getElem?_append_left hl] at hb; exact .inl ⟨hb, hl⟩
    · rw [List.getElem?_append_right (by omega)] at hb
      by_cases e0 : b = M.length
      · subst e0; simp at hb; exact .inr ⟨rfl, hb.symm⟩
      · have : b - M.length ≠ 0 := by omega
        cases hq : b - M.length with
        | zero => omega
        | succ q => rw [hq] at hb; simp at hb
  have hH : ∀ b : Nat, b < M.length → (H ++ [k])[b]? = H[b]? := fun b hb => by
    rw [List.getElem?_append_left (by rw [← h.len]; exact hb)]
  have hHn : (H ++ [k])[M.length]? = some k := by
    rw [h.len, List.getElem?_append_right (Nat.le_refl _)]; simp
  have hlive : ∀ b, b < M.length → (liveB (H ++ [k]) b ↔ liveB H b) := fun b hb => by unfold liveB; rw [hH b hb]
  have hwrit : ∀ b, b < M.length → (writB (H ++ [k]) b ↔ writB H b) := fun b hb => by unfold writB; rw [hH b hb]
  have hheap : ∀ j, j < w.heap.size → (w.alloc o).heap[j]? = w.heap[j]? := fun j hj => by
    show (w.heap.push _)[j]? = _
    rw [Array.getElem?_push, if_neg (by omega)]
  refine ⟨hx, ⟨by simp [h.len], ?_, ?_⟩, rfl, rfl, rfl, by simp, Nat.le_refl _, fun j hj _ => hheap j hj, ?_, fun b hb => ?_, fun b e' hb' hw hlt => ?_⟩
  · intro b e' k' hb' hk
    rcases old b e' hb' with ⟨hb1, hl⟩ | ⟨rfl, rfl⟩
    · rw [hH b hl] at hk
      refine ((h.blk b e' k' hb1 hk).mono hx).same fun hlv => hheap _ ?_
      refine h.blk_lt hb1 ?_
      unfold liveB; rw [hk]; cases k' <;> first | exact hlv | trivial
    · rw [hHn] at hk; simp at hk; subst hk
      exact hb
  · intro b b' e1 e2 hne hb1 hb2 hw hl
    rcases old b e1 hb1 with ⟨q1, hl1⟩ | ⟨q1, p1⟩ <;> rcases old b' e2 hb2 with ⟨q2, hl2⟩ | ⟨q2, p2⟩
    · exact h.sep b b' e1 e2 hne q1 q2 ((hwrit b hl1).1 hw) ((hlive b' hl2).1 hl)
    · have := h.blk_lt q1 ((hwrit b hl1).1 hw).live
      rw [p2]; omega
    · have := h.blk_lt q2 ((hlive b' hl2).1 hl)
      rw [p1]; omega
    · exact absurd (q1.trans q2.symm) hne
  · intro b e' hb' hw hlt
    rcases old b e' hb' with ⟨hb1, hl1⟩ | ⟨rfl, rfl⟩
    · exact ⟨b, e', hb1, (hwrit b hl1).1 hw, rfl⟩
    · omega
  · have hl : b < M.length := (List.getElem?_eq_some_iff.1 hb).1
    exact ⟨by rw [List.getElem?_append_left hl]; exact hb, hH b hl⟩
  · rcases old b e' hb' with ⟨hb1, hl1⟩ | ⟨rfl, rfl⟩
    · exact ⟨b, e', hb1, (hlive b hl1).1 hw, rfl⟩
    · omega

end Go.Proofs.YthgfjbafhjkhnaaGreat.Zq
