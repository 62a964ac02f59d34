/- A function's own variables beside the heap: what they are in the world; steps that leave them be, and those that turn them. -/
import Derived.Test.YthgfjbafhjkhnaaGreatZwCore
namespace Go.Proofs.YthgfjbafhjkhnaaGreat.Zq
variable {P : Program} {M M' M'' : Mp} {H H' H'' : Heap} {w w' w'' : World}

abbrev Ml := List (Option Ent)

def SvR (M : Mp) (ML : Ml) : Sv → Value → Prop
  | .v v, u => VR M v u
  | .lp i off, u => ∃ e, ML[i]? = some (some e) ∧ u = .pointer (some ⟨e.blk, e.base + off, none⟩)
  | .ls i n, u => ∃ e, ML[i]? = some (some e) ∧ u = .slice (some ⟨e.blk, e.base, none⟩) n n

/-- Locals and the world. -/
structure LR (M : Mp) (H : Heap) (L : Loc) (ML : Ml) (w : World) : Prop where
  len : ML.length = L.length
  loc : ∀ (i : Nat) (e : Ent) (n : Nat) (cs : List Value), ML[i]? = some (some e) → L[i]? = some (n, cs) → e.opn = false ∧ BR M e (.row cs e.sz false false true) w
  sep1 : ∀ (i j : Nat) (e e' : Ent), i ≠ j → ML[i]? = some (some e) → ML[j]? = some (some e') → e.blk ≠ e'.blk
  sep2 : ∀ (i : Nat) (e : Ent), ML[i]? = some (some e) → ∀ (b : Nat) (e' : Ent), M[b]? = some (some e') → liveB H b → e'.blk ≠ e.blk

/-- Slots and the world. -/
structure FS (M : Mp) (ML : Ml) (fr : CFr) (tmps : Array Value) : Prop where
  size : tmps.size = fr.n
  get : ∀ t s, cget fr.l t = some s → SvR M ML s (tmps.getD t undef)

/-- A step, locals let alone to be written. -/
structure StpL (M : Mp) (H : Heap) (ML : Ml) (w : World) (M' : Mp) (H' : Heap) (w' : World) : Prop where
  ext : Ext M M'
  hr : HR M' H' w'
  os : w'.os = w.os
  output : w'.output = w.output
  tape : w'.tape = w.tape
  size : w.heap.size ≤ w'.heap.size
  dr : w.drawn ≤ w'.drawn
  frame : ∀ c : Nat, c < w.heap.size → (∀ (b : Nat) (e : Ent), M[b]? = some (some e) → writB H b → e.blk ≠ c) → (∀ (i : Nat) (e : Ent), ML[i]? = some (some e) → e.blk ≠ c) → w'.heap[c]? = w.heap[c]?
  wm : ∀ (b : Nat) (e : Ent), M'[b]? = some (some e) → writB H' b → e.blk < w.heap.size → ∃ (b0 : Nat) (e0 : Ent), M[b0]? = some (some e0) ∧ writB H b0 ∧ e0.blk = e.blk
  keep : ∀ b : Nat, M[b]? = some none → M'[b]? = some none ∧ H'[b]? = H[b]?
  lm : ∀ (b : Nat) (e : Ent), M'[b]? = some (some e) → liveB H' b → e.blk < w.heap.size → ∃ (b0 : Nat) (e0 : Ent), M[b0]? = some (some e0) ∧ liveB H b0 ∧ e0.blk = e.blk

/-- New locals lie in new blocks. -/
def MLx (ML ML' : Ml) (w : World) : Prop := ∀ (i : Nat) (e : Ent), ML'[i]? = some (some e) → (∃ j : Nat, ML[j]? = some (some e)) ∨ w.heap.size ≤ e.blk

theorem MLx.refl (ML : Ml) (w : World) : MLx ML ML w := fun i _ h => .inl ⟨i, h⟩
theorem MLx.trans {ML ML' ML'' : Ml} (h : MLx ML ML' w) (hs : w.heap.size ≤ w'.heap.size) (k : MLx ML' ML'' w') : MLx ML ML'' w := fun i e he => by
  rcases k i e he with ⟨j, hj⟩ | hj
  · exact h j e hj
  · exact .inr (by omega)

theorem Stp.toL (h : Stp M H w M' H' w') (ML : Ml) : StpL M H ML w M' H' w' :=
  ⟨h.ext, h.hr, h.os, h.output, h.tape, h.size, h.dr, fun c hc hn _ => h.frame c hc hn, h.wm, h.keep, h.lm⟩
theorem StpL.refl (h : HR M H w) (ML : Ml) : StpL M H ML w M H w := (Stp.refl h).toL ML
theorem StpL.toStp {ML : Ml} (h : StpL M H ML w M' H' w') (hn : ∀ (i : Nat) (e : Ent), ML[i]? = some (some e) → False) : Stp M H w M' H' w' :=
  ⟨h.ext, h.hr, h.os, h.output, h.tape, h.size, h.dr, fun c hc h1 => h.frame c hc h1 fun i e he => (hn i e he).elim, h.wm, h.keep, h.lm⟩
theorem StpL.trans {ML ML' : Ml} (h : StpL M H ML w M' H' w') (x : MLx ML ML' w) (k : StpL M' H' ML' w' M'' H'' w'') : StpL M H ML w M'' H'' w'' where
  ext := h.ext.trans k.ext
  hr := k.hr
  os := k.os.trans h.os
  output := k.output.trans h.output
  tape := k.tape.trans h.tape
  size := Nat.le_trans h.size k.size
  dr := Nat.le_trans h.dr k.dr
  frame c hc hn hl := by
    rw [k.frame c (Nat.lt_of_lt_of_le hc h.size) ?_ ?_, h.frame c hc hn hl]
    · intro b e hb hw he
      obtain ⟨b0, e0, h0, w0, q⟩ := h.wm b e hb hw (by omega)
      exact hn b0 e0 h0 w0 (q.trans he)
    · intro i e hi he
      rcases x i e hi with ⟨j, hj⟩ | hj
      · exact hl j e hj he
      · omega
  wm b e hb hw hlt := by
    obtain ⟨b1, e1, h1, w1, q1⟩ := k.wm b e hb hw (Nat.lt_of_lt_of_le hlt h.size)
    obtain ⟨b0, e0, h0, w0, q0⟩ := h.wm b1 e1 h1 w1 (by omega)
    exact ⟨b0, e0, h0, w0, q0.trans q1⟩
  keep b hb := by
    obtain ⟨h1, h2⟩ := h.keep b hb
    obtain ⟨k1, k2⟩ := k.keep b h1
    exact ⟨k1, k2.trans h2⟩
  lm b e hb hw hlt := by
    obtain ⟨b1, e1, h1, w1, q1⟩ := k.lm b e hb hw (Nat.lt_of_lt_of_le hlt h.size)
    obtain ⟨b0, e0, h0, w0, q0⟩ := h.lm b1 e1 h1 w1 (by omega)
    exact ⟨b0, e0, h0, w0, q0.trans q1⟩

/-- A step together with what became of the locals' places. -/
structure LSt (M : Mp) (H : Heap) (ML : Ml) (w : World) (M' : Mp) (H' : Heap) (ML' : Ml) (w' : World) : Prop where
  st : StpL M H ML w M' H' w'
  mx : MLx ML ML' w
theorem LSt.refl (h : HR M H w) (ML : Ml) : LSt M H ML w M H ML w := ⟨.refl h ML, .refl ML w⟩
theorem LSt.trans {ML ML' ML'' : Ml} (h : LSt M H ML w M' H' ML' w') (k : LSt M' H' ML' w' M'' H'' ML'' w'') : LSt M H ML w M'' H'' ML'' w'' :=
  ⟨h.st.trans h.mx k.st, h.mx.trans h.st.size k.mx⟩
theorem Stp.toLSt (h : Stp M H w M' H' w') (ML : Ml) : LSt M H ML w M' H' ML w' := ⟨h.toL ML, .refl ML w⟩

theorem row_lt {e : Ent} {cs : List Value} {sz : Nat} {o r : Bool} (h : BR M e (.row cs sz o r true) w) : e.blk < w.heap.size := by
  obtain ⟨_, _, _, h4⟩ := h
  obtain ⟨c, t, fz, a, _⟩ := h4 rfl
  exact (Array.getElem?_eq_some_iff.1 a).1

theorem LR.lt {L : Loc} {ML : Ml} (l : LR M H L ML w) {i : Nat} {e : Ent} (hi : ML[i]? = some (some e)) : e.blk < w.heap.size := by
  have h1 : i < ML.length := (List.getElem?_eq_some_iff.1 hi).1
  rw [l.len] at h1
  exact row_lt (l.loc i e (L[i]).1 (L[i]).2 hi (by rw [List.getElem?_eq_getElem h1])).2

/-- A step of the heap leaves the locals be. -/
theorem LR.step {L : Loc} {ML : Ml} (l : LR M H L ML w) (s : Stp M H w M' H' w') : LR M' H' L ML w' := by
  refine ⟨l.len, fun i e n cs hi hL => ?_, l.sep1, fun i e hi b e' hb hl he => ?_⟩
  · obtain ⟨q1, q2⟩ := l.loc i e n cs hi hL
    refine ⟨q1, (q2.mono s.ext).same fun _ => s.frame e.blk (row_lt q2) fun b e' hb hw => l.sep2 i e hi b e' hb hw.live⟩
  · have := l.lt hi
    obtain ⟨b0, e0, h0, w0, q⟩ := s.lm b e' hb hl (by omega)
    exact l.sep2 i e hi b0 e0 h0 w0 (q.trans he)
theorem SvR.mono {ML : Ml} {s : Sv} {u : Value} (h : SvR M ML s u) (x : Ext M M') : SvR M' ML s u := by
  cases s with
  | v v => exact VR.mono x h
  | lp i off => exact h
  | ls i n => exact h
theorem FS.step {ML : Ml} {fr : CFr} {tmps : Array Value} (f : FS M ML fr tmps) (x : Ext M M') : FS M' ML fr tmps := ⟨f.size, fun t s h => (f.get t s h).mono x⟩
theorem SvR.app {ML N : Ml} {s : Sv} {u : Value} (h : SvR M ML s u) : SvR M (ML ++ N) s u := by
  cases s with
  | v v => exact h
  | lp i off =>
    obtain ⟨e, h1, h2⟩ := h
    have := (List.getElem?_eq_some_iff.1 h1).1
    exact ⟨e, by rw [List.getElem?_append_left this]; exact h1, h2⟩
  | ls i n =>
    obtain ⟨e, h1, h2⟩ := h
    have := (List.getElem?_eq_some_iff.1 h1).1
    exact ⟨e, by rw [List.getElem?_append_left this]; exact h1, h2⟩
theorem FS.app {ML N : Ml} {fr : CFr} {tmps : Array Value} (f : FS M ML fr tmps) : FS M (ML ++ N) fr tmps := ⟨f.size, fun t s h => (f.get t s h).app⟩

theorem FS.put {ML : Ml} {fr : CFr} {tmps : Array Value} (f : FS M ML fr tmps) {d : Nat} (hd : d < fr.n) {s : Sv} {u : Value} (hs : SvR M ML s u) : FS M ML (fr.put d s) (tmps.setIfInBounds d u) := by
  refine ⟨by simpa [CFr.put] using f.size, fun t s' h => ?_⟩
  simp only [CFr.put, cget] at h
  split at h
  · rename_i e
    subst e
    simp at h; subst h
    have : d < tmps.size := by rw [f.size]; exact hd
    simpa [Array.getD, this] using hs
  · rename_i e
    have := f.get t s' h
    simpa only [Array.getD_eq_getD_getElem?, Array.getElem?_setIfInBounds, if_neg e] using this
/-- A slot that holds it already. -/
theorem FS.again {ML : Ml} {fr : CFr} {tmps : Array Value} (f : FS M ML fr tmps) {d : Nat} {s : Sv} (hs : SvR M ML s (tmps.getD d undef)) : FS M ML (fr.put d s) tmps := by
  refine ⟨by simpa [CFr.put] using f.size, fun t s' h => ?_⟩
  simp only [CFr.put, cget] at h
  split at h
  · rename_i e
    subst e
    simp at h; subst h
    exact hs
  · exact f.get t s' h
theorem FS.put? {ML : Ml} {fr : CFr} {a : Act} (f : FS M ML fr a.tmps) {d : Option Nat} (hd : cPutOk fr d = true) {s : Sv} {u : Value} (hs : SvR M ML s u) : FS M ML (fr.put? d s) (a.put d u).tmps := by
  cases d with
  | none => exact f
  | some d => exact f.put (by simpa [cPutOk] using hd) hs

/-! ### A local shown as a row, and hidden again -/
theorem expose {L : Loc} {ML : Ml} (h : HR M H w) (l : LR M H L ML w) {i n : Nat} {e : Ent} {cs : List Value} (hi : ML[i]? = some (some e)) (hL : L[i]? = some (n, cs)) :
    HR (M ++ [some e]) (H ++ [.row cs e.sz false false true]) w := by
  obtain ⟨_, hbr⟩ := l.loc i e n cs hi hL
  have hx := Ext.app M [some e]
  have old : ∀ (b : Nat) (e' : Ent), (M ++ [some e])[b]? = some (some e') → (M[b]? = some (some e') ∧ b < M.length) ∨ (b = M.length ∧ e' = e) := by
    intro b e' hb
    by_cases hl : b < M.length
    · rw [List.getElem?_append_left hl] at hb; exact .inl ⟨hb, hl⟩
    · rw [List.getElem?_append_right (by omega)] at hb
      by_cases e0 : b = M.length
      · subst e0; simp at hb; exact .inr ⟨rfl, hb.symm⟩
      · have : b - M.length ≠ 0 := by omega
        cases hq : b - M.length with
        | zero => omega
        | succ q => rw [hq] at hb; simp at hb
  have hH : ∀ b : Nat, b < M.length → (H ++ [ABlk.row cs e.sz false false true])[b]? = H[b]? := fun b hb => by
    rw [List.getElem?_append_left (by rw [← h.len]; exact hb)]
  have hHn : (H ++ [ABlk.row cs e.sz false false true])[M.length]? = some (.row cs e.sz false false true) := by
    rw [h.len, List.getElem?_append_right (Nat.le_refl _)]; simp
  refine ⟨by simp [h.len], fun b e' k hb hk => ?_, fun b b' e1 e2 hne hb hb' hw hl => ?_⟩
  · rcases old b e' hb with ⟨hb', hlt⟩ | ⟨rfl, rfl⟩
    · rw [hH b hlt] at hk
      exact (h.blk b e' k hb' hk).mono hx
    · rw [hHn] at hk; simp at hk; subst hk
      exact hbr.mono hx
  · have lv : ∀ b, b < M.length → liveB (H ++ [ABlk.row cs e.sz false false true]) b → liveB H b := fun b hb hl => by unfold liveB at hl ⊢; rw [hH b hb] at hl; exact hl
    have wv : ∀ b, b < M.length → writB (H ++ [ABlk.row cs e.sz false false true]) b → writB H b := fun b hb hl => by unfold writB at hl ⊢; rw [hH b hb] at hl; exact hl
    rcases old b e1 hb with ⟨q1, l1⟩ | ⟨q1, p1⟩ <;> rcases old b' e2 hb' with ⟨q2, l2⟩ | ⟨q2, p2⟩
    · exact h.sep b b' e1 e2 hne q1 q2 (wv b l1 hw) (lv b' l2 hl)
    · rw [p2]; exact l.sep2 i e hi b e1 q1 (wv b l1 hw).live
    · rw [p1]; exact (l.sep2 i e hi b' e2 q2 (lv b' l2 hl)).symm
    · exact absurd (q1.trans q2.symm) hne

/-! ### New locals -/
theorem LR.new {L : Loc} {ML : Ml} (h : HR M H w) (l : LR M H L ML w) {cs : List Value} {c : Array Value} (t : TypeId) (sz : Nat) (hn : cs.length ≤ c.size) (hv : VL M cs (c.toList.take cs.length)) :
    LSt M H ML w M H (ML ++ [some ⟨w.heap.size, 0, false, cs.length, sz, c.size⟩]) (w.alloc (.cells c t (0, 0))) ∧
    LR M H (L ++ [(0, cs)]) (ML ++ [some ⟨w.heap.size, 0, false, cs.length, sz, c.size⟩]) (w.alloc (.cells c t (0, 0))) := by
  have hs := Stp.hidden h (.cells c t (0, 0))
  have l' := l.step hs
  have hnew : ∀ (i : Nat) (e : Ent), (ML ++ [some (⟨w.heap.size, 0, false, cs.length, sz, c.size⟩ : Ent)])[i]? = some (some e) → (ML[i]? = some (some e) ∧ i < ML.length) ∨ (i = ML.length ∧ e = ⟨w.heap.size, 0, false, cs.length, sz, c.size⟩) := by
    intro i e hi
    by_cases hl : i < ML.length
    · rw [List.getElem?_append_left hl] at hi; exact .inl ⟨hi, hl⟩
    · rw [List.getElem?_append_right (by omega)] at hi
      by_cases e0 : i = ML.length
      · subst e0; simp at hi; exact .inr ⟨rfl, hi.symm⟩
      · cases hq : i - ML.length with
        | zero => omega
        | succ q => rw [hq] at hi; simp at hi
  have hw : (w.alloc (.cells c t (0, 0))).heap[w.heap.size]? = some (.cells c t (0, 0)) := by
    show (w.heap.push _)[w.heap.size]? = _
    rw [Array.getElem?_push, if_pos rfl]
  refine ⟨⟨hs.toL ML, fun i e hi => ?_⟩, by simp [l.len], fun i e n cs' hi hL => ?_, fun i j e e' hne hi hj => ?_, fun i e hi b e' hb hl => ?_⟩
  · rcases hnew i e hi with ⟨h1, _⟩ | ⟨_, rfl⟩
    · exact .inl ⟨i, h1⟩
    · exact .inr (Nat.le_refl _)
  · rcases hnew i e hi with ⟨h1, h2⟩ | ⟨rfl, rfl⟩
    · rw [List.getElem?_append_left (by rw [← l.len]; exact h2)] at hL
      exact l'.loc i e n cs' h1 hL
    · rw [l.len, List.getElem?_append_right (Nat.le_refl _)] at hL
      simp at hL; obtain ⟨_, rfl⟩ := hL
      exact ⟨rfl, rfl, rfl, rfl, fun _ => ⟨c, t, (0, 0), hw, rfl, by simpa using hn, by simpa using hv, fun _ => rfl⟩⟩
  · rcases hnew i e hi with ⟨h1, h2⟩ | ⟨q1, q2⟩ <;> rcases hnew j e' hj with ⟨h3, h4⟩ | ⟨q3, q4⟩
    · exact l.sep1 i j e e' hne h1 h3
    · have := l.lt h1; rw [q4]; simp; omega
    · have := l.lt h3; rw [q2]; simp; omega
    · exact absurd (q1.trans q3.symm) hne
  · rcases hnew i e hi with ⟨h1, h2⟩ | ⟨_, rfl⟩
    · exact l.sep2 i e h1 b e' hb hl
    · have := h.blk_lt hb hl
      show e'.blk ≠ w.heap.size; omega

theorem alloc_run {E : Env} (hE : E.Ok P) {t : TypeId} {ti : TI} (ht : E.ty t = some ti) :
    ∃ c : Array Value, (Instr.alloc t true (.tuple #[])).run P w = .ok (.pointer (some ⟨w.heap.size, 0, none⟩)) (w.alloc (.cells c t (0, 0))) ∧ ti.zero.length ≤ c.size ∧ VL M ti.zero (c.toList.take ti.zero.length) := by
  obtain ⟨i, d, z, T⟩ := hE.ty t ti ht
  have hz : ti.zero.length = z.cells.size := by rw [← T.cells]; simp
  refine ⟨z.cells, by simp [Instr.alloc, T.run_zero, newVar_run], Nat.le_of_eq hz, ?_⟩
  rw [hz, List.take_of_length_le (by simp)]; exact T.vl M
theorem box_run {t : TypeId} {x x' : Value} (hx : VR M x x') :
    (Instr.box t x').run P w = .ok (.pointer (some ⟨w.heap.size, 0, none⟩)) (w.alloc (.cells x'.cells t (0, 0))) ∧ x.cells.toList.length ≤ x'.cells.size ∧ VL M x.cells.toList (x'.cells.toList.take x.cells.toList.length) := by
  have hc := hx.cells
  have := hc.1
  refine ⟨by simp [Instr.box, newVar_run], by simp at this; simp; omega, ?_⟩
  rw [List.take_of_length_le (by simp at this; simp; omega)]; exact hc
theorem buildSlice_run {E : Env} (hE : E.Ok P) {t : TypeId} {n : Nat} {ps : List (Nat × Value)} {qs : Array (Nat × Value)} {v : Value} (hp : PL M ps qs.toList) (hl : aBuildSlice E t n ps H = some (v, H')) :
    ∃ cs sz c ty, v = .slice (some ⟨H.length, 0, none⟩) n n ∧ H' = mk H cs sz false ∧ (Instr.buildSlice t n qs).run P w = .ok (.slice (some ⟨w.heap.size, 0, none⟩) n n) (w.alloc (.cells c ty (0, 0))) ∧
      cs.length ≤ c.size ∧ VL M cs (c.toList.take cs.length) := by
  unfold aBuildSlice at hl
  obtain ⟨ti, ht, hl⟩ := some_bind hl
  obtain ⟨i, d, z, T⟩ := hE.ty _ _ ht
  have hk := T.k
  split at hl
  · rename_i e he
    rw [he] at hk
    obtain ⟨te, hte, hl⟩ := some_bind hl
    obtain ⟨i2, d2, z2, T2⟩ := hE.ty _ _ hte
    split at hl
    · rename_i hb
      obtain ⟨cs, hf, hl⟩ := some_bind hl
      simp at hl; obtain ⟨rfl, rfl⟩ := hl
      cases d with
      | slice e' =>
        have hk : e = e' := hk
        subst hk
        have hv := zeros_vl (M := M) T2 n
        obtain ⟨r', h1, h2⟩ := fill_ok (place' := fun i => some (i * te.size, te.size)) (us := madeCells z2.cells (n * te.size)) (M := M) (fun _ _ hx => hx) hp hv hf
        refine ⟨cs, te.size, r', e, rfl, rfl, ?_, Nat.le_of_eq (by have := h2.1; simpa using this), ?_⟩
        · have hb' : ¬ n * te.size > 2 ^ 24 := by omega
          by_cases h0 : n * te.size = 0
          · have hm : madeCells z2.cells (n * te.size) = #[] := by simp [madeCells, h0, Array.range_zero']
            rw [hm] at h1
            have hq : (Array.map (fun x => (#[] : Array Value)[x % (#[] : Array Value).size]!) (Array.range (n * te.size))) = #[] := by simp [h0, Array.range_zero']
            simp only [h0] at hq
            simp only [Instr.buildSlice, Sem.run_bind, T.run_und, Result.andThen_ok, T2.run_size, h0]
            rw [if_neg (by decide)]
            simp only [Sem.run_bind, Sem.run_pure, Result.andThen_ok, if_true, hq, h1, newRow, run_newObj]
            rfl
          · simp only [Instr.buildSlice, Sem.run_bind, T.run_und, Result.andThen_ok, T2.run_size, hb', if_false, Sem.run_pure, h0, T2.run_zero]
            unfold madeCells at h1
            simp only [h1, newRow, Sem.run_bind, run_newObj, Result.andThen_ok, Sem.run_pure]
            rfl
        · rw [List.take_of_length_le (by have := h2.1; simp at this ⊢; omega)]
          exact h2
      | _ => exact hk.elim
    · simp at hl
  · simp at hl

/-! ### Reading and writing a local -/
theorem loc_cells {L : Loc} {ML : Ml} (l : LR M H L ML w) {i n : Nat} {e : Ent} {cs : List Value} (hi : ML[i]? = some (some e)) (hL : L[i]? = some (n, cs)) :
    ∃ c t, w.heap[e.blk]? = some (.cells c t (0, 0)) ∧ c.size = e.csz ∧ e.base + cs.length ≤ c.size ∧ VL M cs ((c.toList.drop e.base).take cs.length) := by
  obtain ⟨_, _, _, _, h4⟩ := l.loc i e n cs hi hL
  obtain ⟨c, t, fz, a, b, d, f, g⟩ := h4 rfl
  have := g rfl; subst this
  exact ⟨c, t, a, b, d, f⟩

theorem locLoad_ok {E : Env} (hE : E.Ok P) {L : Loc} {ML : Ml} (l : LR M H L ML w) {i n off : Nat} {e : Ent} {cs : List Value} {t : TypeId} {ti : TI} {v : Value} (hi : ML[i]? = some (some e)) (hL : L[i]? = some (n, cs))
    (ht : E.ty t = some ti) (ho : off + ti.size ≤ cs.length) (hv : ofCells ti.k ((cs.drop off).take ti.size) = some v) :
    ∃ u, (loadVar t ⟨e.blk, e.base + off, none⟩).run P w = .ok u w ∧ VR M v u := by
  obtain ⟨ii, d, z, T⟩ := hE.ty t ti ht
  obtain ⟨c, ty, hw, _, hb, hvl⟩ := loc_cells l hi hL
  have hus := (hvl.drop off).take ti.size
  obtain ⟨u, g1, g2, g3⟩ := ofCells_ok hus hv
  have hl : (((c.toList.drop e.base).take cs.length).drop off |>.take ti.size).length = ti.size := by simp; omega
  have hget : ∀ (j : Nat) (u : Value), (((c.toList.drop e.base).take cs.length).drop off |>.take ti.size)[j]? = some u → w.cell? ⟨e.blk, e.base + off + j, none⟩ = some u := by
    intro j v hv
    simp only [List.getElem?_take, List.getElem?_drop] at hv
    split at hv
    · split at hv
      · simp only [World.cell?, hw]
        simp only [Array.getElem?_toList] at hv
        simpa [Nat.add_assoc] using hv
      · simp at hv
    · simp at hv
  refine ⟨u, ?_, g1⟩
  simp only [loadVar, Sem.run_bind, T.run_isAgg, Result.andThen_ok]
  cases hk : isAggK ti.k with
  | true =>
    have := run_loadCells_list (P := P) w ⟨e.blk, e.base + off, none⟩ (((c.toList.drop e.base).take cs.length).drop off |>.take ti.size) (fun j v hv => by rw [add_none]; exact hget j v hv)
    rw [hl] at this
    simp [T.run_size, this, g2 hk]
  | false =>
    have hu := g3 hk
    have hc := hget 0 u (by rw [hu]; rfl)
    simp only [Nat.add_zero] at hc
    simp [hc]

theorem locStore_ok {E : Env} (hE : E.Ok P) {L : Loc} {ML : Ml} (h : HR M H w) (l : LR M H L ML w) {i n off : Nat} {e : Ent} {cs : List Value} {t : TypeId} {ti : TI} {v v' : Value} (hi : ML[i]? = some (some e)) (hL : L[i]? = some (n, cs))
    (ht : E.ty t = some ti) (hlen : v.cells.toList.length = ti.size) (ho : off + ti.size ≤ cs.length) (hc1 : v.cells.toList.all cell1 = true) (hv : VR M v v') :
    ∃ w', (Instr.storeAt t (.pointer (some ⟨e.blk, e.base + off, none⟩)) v').run P w = .ok () w' ∧ LSt M H ML w M H ML w' ∧ LR M H (L.set i (n + 1, patch cs off v.cells.toList)) ML w' := by
  obtain ⟨ii, d, z, T⟩ := hE.ty t ti ht
  obtain ⟨c, ty, hw, hsz, hb, hvl⟩ := loc_cells l hi hL
  have hvc := hv.cells
  generalize hus : v'.cells.toList = us at hvc
  have hul : us.length = ti.size := by rw [← hvc.1]; exact hlen
  have hone : ∀ u ∈ us, u.oneCell' = true := by
    intro u hu
    obtain ⟨j, hj⟩ := List.mem_iff_getElem?.1 hu
    have hjl : j < v.cells.toList.length := by rw [hvc.1]; exact (List.getElem?_eq_some_iff.1 hj).1
    have hx : v.cells.toList[j]? = some v.cells.toList[j] := List.getElem?_eq_getElem hjl
    rw [← (hvc.2 j _ _ hx hj).cell1]
    exact List.all_eq_true.1 hc1 _ (List.mem_of_getElem? hx)
  have hst := run_storeCells_at P e.blk (e.base + off) ty us 0 c w hw (by omega) hone
  have hblt : e.blk < w.heap.size := (Array.getElem?_eq_some_iff.1 hw).1
  generalize hW : w.setRow e.blk (c.toList.take (e.base + off + 0) ++ us ++ c.toList.drop (e.base + off + 0 + us.length)).toArray = W at hst
  have hWe : W.heap[e.blk]? = some (.cells (c.toList.take (e.base + off) ++ us ++ c.toList.drop (e.base + off + us.length)).toArray ty (0, 0)) := by
    rw [← hW]; simpa using setRow_heap w e.blk c _ ty (0, 0) hw
  have hWo : ∀ k, k ≠ e.blk → W.heap[k]? = w.heap[k]? := by
    intro k hne
    rw [← hW]; unfold World.setRow; simp only [Array.getElem?_modify]; rw [if_neg (Ne.symm hne)]
  have hWs : W.heap.size = w.heap.size := by rw [← hW]; simp [World.setRow]
  have hWos : W.os = w.os := by rw [← hW]; rfl
  have hWout : W.output = w.output := by rw [← hW]; rfl
  have hWt : W.tape = w.tape := by rw [← hW]; rfl
  have hWd : w.drawn ≤ W.drawn := by rw [← hW]; exact Nat.le_refl _
  have hr' : HR M H W := ⟨h.len, fun b e' k hb hk => (h.blk b e' k hb hk).same fun hlv => hWo _ (l.sep2 i e hi b e' hb (by unfold liveB; rw [hk]; cases k <;> first | exact hlv | trivial)), h.sep⟩
  refine ⟨W, ?_, ⟨⟨.refl M, hr', hWos, hWout, hWt, by omega, hWd, fun k hk h1 h2 => hWo k fun e0 => h2 i e hi e0.symm, fun b e' hb hw' _ => ⟨b, e', hb, hw', rfl⟩, fun b hb => ⟨hb, rfl⟩, fun b e' hb hl _ => ⟨b, e', hb, hl, rfl⟩⟩, .refl ML w⟩,
    by simp [l.len], fun j ej m cs' hj hLj => ?_, l.sep1, l.sep2⟩
  · have hcs : v'.cells.size = ti.size := by rw [← hul, ← hus]; simp
    simp only [Instr.storeAt, Instr.sureAddr, storeVar, Sem.run_bind, Sem.run_pure, Result.andThen_ok, T.run_size, hcs]
    simp [hus, hst]
  · by_cases hji : j = i
    · subst hji
      have hlt : j < L.length := (List.getElem?_eq_some_iff.1 hL).1
      rw [List.getElem?_set_self hlt] at hLj
      simp at hLj; obtain ⟨_, rfl⟩ := hLj
      rw [hi] at hj; simp at hj; subst hj
      obtain ⟨q1, q2, q3, q4, _⟩ := l.loc j e n cs hi hL
      have hpl : (patch cs off v.cells.toList).length = cs.length := by unfold patch; simp at hlen ⊢; omega
      refine ⟨q1, q2, by rw [hpl]; exact q3, q4, fun _ => ⟨_, ty, (0, 0), hWe, by simp; omega, by rw [hpl]; simp; omega, ?_, fun _ => rfl⟩⟩
      rw [hpl]
      have e2 := take_drop_patch c.toList us e.base off cs.length (by omega) (by simpa using hb)
      have e3 : (c.toList.take (e.base + off) ++ us ++ c.toList.drop (e.base + off + us.length)).toArray.toList = (c.toList.take (e.base + off) ++ us ++ c.toList.drop (e.base + off + us.length)) := rfl
      rw [e3, e2]
      exact hvl.patch hvc off
    · rw [List.getElem?_set_ne (Ne.symm hji)] at hLj
      obtain ⟨q1, q2⟩ := l.loc j ej m cs' hj hLj
      exact ⟨q1, q2.same fun _ => hWo _ (l.sep1 j i ej e hji hj hi)⟩

end Go.Proofs.YthgfjbafhjkhnaaGreat.Zq
