/- A law's arguments: slices of structs that hold slices. -/
import Derived.Test.YtmjonmhpfngkaaaZcOpen
import Derived.Test.YtmjonmhpfngkaaaZcSl
namespace Go.Proofs.Ytmjonmhpfngkaaa.Zq
section
variable {Pr : Program} {H : Heap}
theorem flatten_at : ∀ (acss : List (List Value)) (i : Nat) (a : List Value), acss[i]? = some a → (acss.flatten.drop ((acss.take i).map List.length).sum).take a.length = a
  | [], i, a, h => by simp at h
  | x :: r, 0, a, h => by simp at h; subst h; simp
  | x :: r, i + 1, a, h => by
    have := flatten_at r i a (by simpa using h)
    simp only [List.flatten_cons, List.take_succ_cons, List.map_cons, List.sum_cons]
    rw [← List.drop_drop, List.drop_left]; exact this
theorem lens_eq {d : Nat} {fs : List Field} : ∀ {acss : List (List Value)} (i : Nat), (∀ (j : Nat) (f : Field) (a : List Value), fs[j]? = some f → acss[j]? = some a → WTc Pr H d f.type a) → acss.length = fs.length → ((acss.take i).map List.length).sum = ((fs.take i).map fun f => Pr.cellsOf f.type).sum := by
  induction fs with
  | nil => intro acss i _ hl; have : acss = [] := List.length_eq_zero_iff.1 hl; subst this; simp
  | cons f r ih =>
    intro acss i hp hl
    cases acss with
    | nil => simp at hl
    | cons a q =>
      cases i with
      | zero => rfl
      | succ i =>
        simp only [List.take_succ_cons, List.map_cons, List.sum_cons]
        rw [(hp 0 f a rfl rfl).len, ih i (fun j g b h1 h2 => hp (j + 1) g b (by simpa using h1) (by simpa using h2)) (by simpa using hl)]
/-- A struct's field. -/
theorem WTc.fld {d : Nat} {t : TypeId} {cs : List Value} {fs : Array Field} (ht : Pr.underlying t = some (.struct fs)) {i off : Nat} {f : Field} (hf : fs[i]? = some f) (hoff : ((fs.toList.take i).map fun f => Pr.cellsOf f.type).sum = off) (h : WTc Pr H (d + 1) t cs) :
    WTc Pr H d f.type ((cs.drop off).take (Pr.cellsOf f.type)) := by
  simp only [WTc, ht] at h
  obtain ⟨_, acss, hl, rfl, hp⟩ := h
  have hi : i < fs.size := (Array.getElem?_eq_some_iff.1 hf).1
  have ha : acss[i]? = some acss[i] := List.getElem?_eq_getElem (by omega)
  have hw := hp i f _ hf ha
  have := flatten_at acss i _ ha
  rw [lens_eq (Pr := Pr) (H := H) (d := d) (fs := fs.toList) i (fun j f a h1 h2 => hp j f a (by simpa using h1) h2) (by simpa using hl), hoff, hw.len] at this
  rw [this]; exact hw

/-- A slice: what it holds, and what is known of each. -/
theorem WTc.sliceR {T : Tag} {R : T.α → Prop} {d : Nat} {t e : TypeId} {cs : List Value} (ht : Pr.underlying t = some (.slice e)) (he : ∀ a, WTc Pr H d e a → ∃ x : T.α, a = T.cells x ∧ R x) (h : WTc Pr H (d + 1) t cs) :
    ∃ (s : Sl) (l : List T.α), cs = [s.v] ∧ SlF T H s l ∧ ∀ x ∈ l, R x := by
  simp only [WTc, ht] at h
  rcases h.2 with rfl | ⟨b, off, rfl⟩ | ⟨b, len, cap, acss, rfl, h1, h2, h3, h4, h5, h6⟩
  · exact ⟨⟨none, 0, 0⟩, [], rfl, ⟨rfl, .inl ⟨rfl, rfl, rfl⟩⟩, by simp⟩
  · exact ⟨⟨some ⟨b, off, some 0⟩, 0, 0⟩, [], rfl, ⟨rfl, .inr (.inl ⟨b, off, rfl, rfl, rfl⟩)⟩, by simp⟩
  · have : ∃ l : List T.α, l.length = acss.length ∧ acss.flatten = fl T l ∧ ∀ x ∈ l, R x := by
      clear h5 h3
      induction acss with
      | nil => exact ⟨[], rfl, rfl, by simp⟩
      | cons a r ih =>
        obtain ⟨x, hx, hr⟩ := he a (h6 a (by simp))
        obtain ⟨l, q1, q2, q3⟩ := ih fun y hy => h6 y (by simp [hy])
        exact ⟨x :: l, by simp [q1], by simp [fl, hx, q2], fun y hy => by rcases List.mem_cons.1 hy with rfl | hy; exact hr; exact q3 y hy⟩
    obtain ⟨l, q1, q2, q3⟩ := this
    refine ⟨⟨some ⟨b, 0, none⟩, len, cap⟩, l.take len, rfl, ⟨by simp; omega, .inr (.inr ⟨b, [], fl T (l.drop len), Pr.cellsOf e, false, true, rfl, ?_⟩)⟩, fun x hx => q3 x (List.mem_of_mem_take hx)⟩
    rw [h5, q2, List.nil_append, ← fl_app, List.take_append_drop]
theorem Sl.v_inj {s u : Sl} (h : s.v = u.v) : s = u := by
  cases s; cases u
  simp only [Sl.v, Value.slice.injEq] at h
  obtain ⟨rfl, rfl, rfl⟩ := h; rfl
end
end Go.Proofs.Ytmjonmhpfngkaaa.Zq
