/- Blocks that are reserved, and come to be later. -/
import Derived.Test.YthgfjbafhjkhnaaGreatZqRel
namespace Go.Proofs.YthgfjbafhjkhnaaGreat.Zq
variable {M M0 : Mp} {H H0 : Heap} {w w0 : World}

theorem get_res {X : Heap} {b : Nat} {e : Ent} (h : (M ++ X.map fun _ => none)[b]? = some (some e)) : M[b]? = some (some e) ∧ b < M.length := by
  by_cases hl : b < M.length
  · rw [List.getElem?_append_left hl] at h; exact ⟨h, hl⟩
  · rw [List.getElem?_append_right (by omega)] at h
    simp only [List.getElem?_map] at h
    cases hx : X[b - M.length]? with
    | none => rw [hx] at h; simp at h
    | some x => rw [hx] at h; simp at h

/-- Room for blocks is kept. -/
theorem Stp.reserve (h : HR M H w) (X : Heap) : Stp M H w (M ++ X.map fun _ => none) (H ++ X) w := by
  have hx : Ext M (M ++ X.map fun _ => none) := Ext.app M _
  have hH : ∀ b : Nat, b < M.length → (H ++ X)[b]? = H[b]? := fun b hb => by
    rw [List.getElem?_append_left (by rw [← h.len]; exact hb)]
  have hlive : ∀ b, b < M.length → (liveB (H ++ X) b ↔ liveB H b) := fun b hb => by unfold liveB; rw [hH b hb]
  have hwrit : ∀ b, b < M.length → (writB (H ++ X) b ↔ writB H b) := fun b hb => by unfold writB; rw [hH b hb]
  refine ⟨hx, ⟨by simp [h.len], fun b e k hb hk => ?_, fun b b' e e' hne hb hb' h1 h2 => ?_⟩, rfl, rfl, rfl, Nat.le_refl _, Nat.le_refl _, fun _ _ _ => rfl, fun b e hb h1 _ => ?_, fun b hb => ?_, fun b e hb h1 _ => ?_⟩
  · obtain ⟨hb', hl⟩ := get_res hb
    rw [hH b hl] at hk
    exact (h.blk b e k hb' hk).mono hx
  · obtain ⟨hb1, hl1⟩ := get_res hb
    obtain ⟨hb2, hl2⟩ := get_res hb'
    exact h.sep b b' e e' hne hb1 hb2 ((hwrit b hl1).1 h1) ((hlive b' hl2).1 h2)
  · obtain ⟨hb', hl⟩ := get_res hb
    exact ⟨b, e, hb', (hwrit b hl).1 h1, rfl⟩
  · have hl : b < M.length := (List.getElem?_eq_some_iff.1 hb).1
    exact ⟨by rw [List.getElem?_append_left hl]; exact hb, hH b hl⟩
  · obtain ⟨hb', hl⟩ := get_res hb
    exact ⟨b, e, hb', (hlive b hl).1 h1, rfl⟩

theorem Ext.fill {b : Nat} {e : Ent} (hb : M[b]? = some none) : Ext M (M.set b (some e)) := fun j ej hj => by
  have : j ≠ b := fun e0 => by subst e0; rw [hb] at hj; simp at hj
  rw [List.getElem?_set_ne (Ne.symm this)]; exact hj

/-- A reserved block comes to be. -/
theorem Stp.fill (s : Stp M0 H0 w0 M H w) {b : Nat} {cells : List Value} {sz : Nat} {c : Array Value} (t : TypeId) (hb : M[b]? = some none) (h0 : M0.length ≤ b) (hk : H[b]? = some (.row cells sz false false true))
    (hn : cells.length ≤ c.size) (hv : VL M cells (c.toList.take cells.length)) :
    Stp M0 H0 w0 (M.set b (some ⟨w.heap.size, 0, false, cells.length, sz, c.size⟩)) H (w.alloc (.cells c t (0, 0))) := by
  have hx : Ext M (M.set b (some ⟨w.heap.size, 0, false, cells.length, sz, c.size⟩)) := Ext.fill hb
  have h := s.hr
  have hbl : b < M.length := (List.getElem?_eq_some_iff.1 hb).1
  have old : ∀ (j : Nat) (e : Ent), (M.set b (some ⟨w.heap.size, 0, false, cells.length, sz, c.size⟩))[j]? = some (some e) → M[j]? = some (some e) ∨ (j = b ∧ e = ⟨w.heap.size, 0, false, cells.length, sz, c.size⟩) := by
    intro j e hj
    by_cases hjb : j = b
    · subst hjb
      rw [List.getElem?_set_self hbl] at hj
      simp at hj; exact .inr ⟨rfl, hj.symm⟩
    · rw [List.getElem?_set_ne (Ne.symm hjb)] at hj; exact .inl hj
  have hheap : ∀ k, k < w.heap.size → (w.alloc (.cells c t (0, 0))).heap[k]? = w.heap[k]? := fun k hk => by
    show (w.heap.push _)[k]? = _
    rw [Array.getElem?_push, if_neg (by omega)]
  refine ⟨s.ext.trans hx, ⟨by simpa using h.len, fun j e k hj hkj => ?_, fun j j' e e' hne hj hj' h1 h2 => ?_⟩, s.os, s.output, s.tape, by have := s.size; simp; omega, s.dr, fun k hk hn => ?_, fun j e hj h1 hlt => ?_, fun j hj => ?_, fun j e hj h1 hlt => ?_⟩
  · rcases old j e hj with hj' | ⟨rfl, rfl⟩
    · refine ((h.blk j e k hj' hkj).mono hx).same fun hlv => hheap _ ?_
      refine h.blk_lt hj' ?_
      unfold liveB; rw [hkj]; cases k <;> exact hlv
    · rw [hk] at hkj; simp at hkj; subst hkj
      refine ⟨rfl, rfl, rfl, fun _ => ⟨c, t, (0, 0), ?_, rfl, by simpa using hn, ?_, fun _ => rfl⟩⟩
      · show (w.heap.push _)[w.heap.size]? = _
        rw [Array.getElem?_push, if_pos rfl]
      · simpa using hv.mono hx
  · rcases old j e hj with hj1 | ⟨rfl, rfl⟩ <;> rcases old j' e' hj' with hj2 | ⟨rfl, rfl⟩
    · exact h.sep j j' e e' hne hj1 hj2 h1 h2
    · have := h.blk_lt hj1 h1.live
      show e.blk ≠ w.heap.size; omega
    · have := h.blk_lt hj2 h2
      show w.heap.size ≠ e'.blk; omega
    · exact absurd rfl hne
  · rw [hheap k (Nat.lt_of_lt_of_le hk s.size)]
    exact s.frame k hk hn
  · rcases old j e hj with hj1 | ⟨rfl, rfl⟩
    · exact s.wm j e hj1 h1 hlt
    · have := s.size
      exact absurd hlt (by simp; omega)
  · obtain ⟨k1, k2⟩ := s.keep j hj
    have hjl : j < M0.length := (List.getElem?_eq_some_iff.1 hj).1
    exact ⟨by rw [List.getElem?_set_ne (by omega)]; exact k1, k2⟩
  · rcases old j e hj with hj1 | ⟨rfl, rfl⟩
    · exact s.lm j e hj1 h1 hlt
    · have := s.size
      exact absurd hlt (by simp; omega)

end Go.Proofs.YthgfjbafhjkhnaaGreat.Zq
