/- A law's arguments: items and slices of them. -/
import Derived.Test.YtmpbhebhonipkaaZwOpen
import Derived.Test.YtmpbhebhonipkaaZcStack
namespace Go.Proofs.Ytmpbhebhonipkaa.Zq
open Zv
section
variable {Pr : Program} {H : Heap}
theorem WTc.int {d : Nat} {t : TypeId} {k : IntKind} {cs : List Value} (ht : Pr.underlying t = some (.int k)) (h : WTc Pr H d t cs) : ∃ n, cs = [.int k n] ∧ (Lit.int k n).wf = true := by
  cases d with
  | zero => exact h.elim
  | succ d => simp only [WTc, ht] at h; exact h.2
/-- The cells of a struct of numbers. -/
theorem WTc.ints4 {d : Nat} {t : TypeId} {cs : List Value} {fs : Array Field} (ht : Pr.underlying t = some (.struct fs)) (hs : fs.size = 4) {k : IntKind} (hf : ∀ (i : Nat) (f : Field), fs[i]? = some f → Pr.underlying f.type = some (.int k)) (h : WTc Pr H d t cs) :
    ∃ a b c e, cs = [.int k a, .int k b, .int k c, .int k e] ∧ (Lit.int k a).wf = true ∧ (Lit.int k b).wf = true ∧ (Lit.int k c).wf = true ∧ (Lit.int k e).wf = true := by
  cases d with
  | zero => exact h.elim
  | succ d =>
    simp only [WTc, ht] at h
    obtain ⟨_, acss, hl, rfl, h2⟩ := h
    rw [hs] at hl
    have g : ∀ (i : Nat) (a : List Value), acss[i]? = some a → ∃ n, a = [.int k n] ∧ (Lit.int k n).wf = true := by
      intro i a ha
      have hi : i < fs.size := by have := (List.getElem?_eq_some_iff.1 ha).1; omega
      exact (h2 i fs[i] a (by simp [hi]) ha).int (hf i fs[i] (by simp [hi]))
    match acss, hl, g with
    | [p, q, r, s], _, g =>
      obtain ⟨a, rfl, wa⟩ := g 0 p rfl
      obtain ⟨b, rfl, wb⟩ := g 1 q rfl
      obtain ⟨c, rfl, wc⟩ := g 2 r rfl
      obtain ⟨e, rfl, we⟩ := g 3 s rfl
      exact ⟨a, b, c, e, rfl, wa, wb, wc, we⟩
/-- A slice: what it holds. -/
theorem WTc.slice {T : Tag} {d : Nat} {t e : TypeId} {cs : List Value} (ht : Pr.underlying t = some (.slice e)) (he : ∀ d a, WTc Pr H d e a → ∃ x : T.α, a = T.cells x) (h : WTc Pr H d t cs) :
    ∃ (s : Sl) (l : List T.α), cs = [s.v] ∧ SlR T H s l ∧ l.length ≤ maxLen ∧ ∀ d, s.p = some ⟨d, 0, none⟩ → d < H.length := by
  cases d with
  | zero => exact h.elim
  | succ d =>
    simp only [WTc, ht] at h
    rcases h.2 with rfl | ⟨b, off, rfl⟩ | ⟨b, len, cap, acss, rfl, h1, h2, h3, h4, h5, h6⟩
    · exact ⟨⟨none, 0, 0⟩, [], rfl, ⟨rfl, .inl rfl⟩, by simp, by simp⟩
    · exact ⟨⟨some ⟨b, off, some 0⟩, 0, 0⟩, [], rfl, ⟨rfl, .inl rfl⟩, by simp, by simp⟩
    · have : ∃ l : List T.α, l.length = acss.length ∧ acss.flatten = fl T l := by
        clear h5 h3
        induction acss with
        | nil => exact ⟨[], rfl, rfl⟩
        | cons a r ih =>
          obtain ⟨x, hx⟩ := he d a (h6 a (by simp))
          obtain ⟨l, q1, q2⟩ := ih fun y hy => h6 y (by simp [hy])
          exact ⟨x :: l, by simp [q1], by simp [fl, hx, q2]⟩
      obtain ⟨l, q1, q2⟩ := this
      refine ⟨⟨some ⟨b, 0, none⟩, len, cap⟩, l.take len, rfl, ⟨by simp; omega, .inr ⟨b, fl T (l.drop len), Pr.cellsOf e, false, true, rfl, ?_⟩⟩, by simp; omega, ?_⟩
      · rw [h5, q2, ← fl_app, List.take_append_drop]
      · intro c hc
        simp at hc; subst hc
        exact get_lt h5
end

theorem item_cells {H : Heap} {d : Nat} {cs : List Value} (h : WTc P H d 29 cs) : ∃ x : It, cs = TI4.cells x := by
  obtain ⟨a, b, c, e, rfl, _⟩ := WTc.ints4 (k := .i64) Try.underlying29 rfl (by
    intro i f hf
    match i, hf with
    | 0, hf => cases hf; exact Try.underlying3
    | 1, hf => cases hf; exact Try.underlying3
    | 2, hf => cases hf; exact Try.underlying3
    | 3, hf => cases hf; exact Try.underlying3
    | i + 4, hf => simp at hf) h
  exact ⟨⟨a, b, c, e⟩, rfl⟩
end Go.Proofs.Ytmpbhebhonipkaa.Zq
