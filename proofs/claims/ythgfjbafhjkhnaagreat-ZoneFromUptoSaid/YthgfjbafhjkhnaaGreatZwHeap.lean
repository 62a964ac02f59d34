/- Words on the heap, for contracts: reading, writing, loops. -/
import Derived.Test.YthgfjbafhjkhnaaGreatZwTags
import Derived.IntWalk
namespace Go.Proofs.YthgfjbafhjkhnaaGreat.Zq

theorem LD_of {T : Tag} {H : Heap} {b off : Nat} {c : List Value} {sz : Nat} {o ro : Bool} {k : T.α → Prop} (x : T.α) (A B : List Value) (h : H[b]? = some (.row c sz o ro true)) (hc : c = A ++ (T.cells x ++ B)) (ho : off = A.length) (hn : (T.cells x).length = T.n) (hk : k x) : LD T H b off k := by
  refine ⟨x, ?_, hk⟩
  unfold rd
  rw [h]
  subst hc; subst ho
  simp only
  rw [if_pos (by simp; omega), List.drop_left, ← hn, List.take_left]

theorem ST_of {H : Heap} {b off : Nat} {c : List Value} {sz : Nat} {o : Bool} {vs : List Value} {k : Heap → Prop} (A B C : List Value) (h : H[b]? = some (.row c sz o false true)) (hc : c = A ++ (B ++ C)) (ho : off = A.length) (hl : B.length = vs.length) (hv : vs.all cell1 = true) (hk : k (H.set b (.row (A ++ (vs ++ C)) sz o false true))) : ST H b off vs k := by
  refine ⟨_, ?_, hk⟩
  unfold wr
  rw [h]
  subst hc; subst ho
  simp only
  rw [if_pos (by simp; omega), if_pos hv]
  unfold patch
  rw [List.take_left, ← List.drop_drop, List.drop_left, ← hl, List.drop_left, List.append_assoc]

theorem ifB_of {g : Bool} {a b : Prop} (h1 : g = true → a) (h2 : g = false → b) : ifB g a b := by
  cases g
  · exact h2 rfl
  · exact h1 rfl
theorem ifB_t {g : Bool} {a b : Prop} (h : g = true) (h1 : a) : ifB g a b := ifB_of (fun _ => h1) (fun q => by simp [h] at q)
theorem ifB_f {g : Bool} {a b : Prop} (h : g = false) (h1 : b) : ifB g a b := ifB_of (fun q => by simp [h] at q) (fun _ => h1)
theorem JOIN_of {S : Type} {A : (S → Heap → Prop) → Prop} {B : S → Heap → Prop} (h : A B) : JOIN A B := h

/-- Ways meet: what holds where they do. -/
theorem JOIN_inv {S : Type} {A : (S → Heap → Prop) → Prop} {B : S → Heap → Prop} (I : S → Heap → Prop) (hA : ∀ j : S → Heap → Prop, (∀ z H, I z H → j z H) → A j) (h : ∀ z H, I z H → B z H) : JOIN A B := hA B h
theorem JOIN_to {S : Type} {A : (S → Heap → Prop) → Prop} {B : S → Heap → Prop} (z : S) (H : Heap) (hA : ∀ j : S → Heap → Prop, j z H → A j) (h : B z H) : JOIN A B := hA B h

theorem loop_of {S : Type} {F : (S → Heap → Prop) → S → Heap → Prop} (I : S → Heap → Prop) (μ : S → Nat) (hF : ∀ (G : S → Heap → Prop) s H, I s H → (∀ s' H', I s' H' → μ s' < μ s → G s' H') → F G s H) {s : S} {H : Heap} (h : I s H) : LOOP F s H := by
  refine ⟨μ s + 1, ?_⟩
  have : ∀ n s H, μ s < n → I s H → itP F n s H := by
    intro n
    induction n with
    | zero => intro s H h; omega
    | succ n ih => intro s H hm hi; exact hF _ s H hi fun s' H' h1 h2 => ih s' H' (by omega) h1
  exact this _ s H (by omega) h

/-- Nothing else than b is another. -/
def Fr (b : Nat) (H H' : Heap) : Prop := H.length ≤ H'.length ∧ ∀ c, c < H.length → c ≠ b → H'[c]? = H[c]?
theorem Fr.refl (b : Nat) (H : Heap) : Fr b H H := ⟨Nat.le_refl _, fun _ _ _ => rfl⟩
theorem Fr.trans {b : Nat} {H H' H'' : Heap} (h : Fr b H H') (k : Fr b H' H'') : Fr b H H'' :=
  ⟨Nat.le_trans h.1 k.1, fun c hc hb => by rw [k.2 c (Nat.lt_of_lt_of_le hc h.1) hb, h.2 c hc hb]⟩
theorem Fr.set (b : Nat) (H : Heap) (x : ABlk) : Fr b H (H.set b x) := ⟨by simp, fun c _ hb => by rw [List.getElem?_set_ne (Ne.symm hb)]⟩
theorem Fr.app (b : Nat) (H K : Heap) : Fr b H (H ++ K) := ⟨by simp, fun c hc _ => List.getElem?_append_left hc⟩
theorem Fr.get {b : Nat} {H H' : Heap} (h : Fr b H H') {c : Nat} {x : ABlk} (hb : c ≠ b) (hx : H[c]? = some x) : H'[c]? = some x := by
  rw [h.2 c (List.getElem?_eq_some_iff.1 hx).1 hb, hx]
theorem get_lt {H : Heap} {c : Nat} {x : ABlk} (h : H[c]? = some x) : c < H.length := (List.getElem?_eq_some_iff.1 h).1
theorem set_get {H : Heap} {b : Nat} {x : ABlk} (h : b < H.length) : (H.set b x)[b]? = some x := by simp [h]

theorem i64w {x : Int} (h : -9223372036854775808 ≤ x) (k : x ≤ 9223372036854775807) : IntKind.wrap .i64 x = x := IntWalk.i64_in x ⟨h, k⟩

/-- The cells of a list, of a type. -/
def fl (T : Tag) (l : List T.α) : List Value := l.flatMap T.cells
theorem fl_app (T : Tag) (a b : List T.α) : fl T (a ++ b) = fl T a ++ fl T b := by simp [fl]
theorem fl_len {T : Tag} (hT : ∀ x, (T.cells x).length = T.n) : ∀ l : List T.α, (fl T l).length = l.length * T.n
  | [] => by simp [fl]
  | x :: r => by
    have := fl_len hT r
    simp only [fl, List.flatMap_cons, List.length_append, hT, List.length_cons] at this ⊢
    rw [this, Nat.add_mul]; omega
theorem fl_cut {T : Tag} (l : List T.α) (i : Nat) (x : T.α) (h : l[i]? = some x) : fl T l = fl T (l.take i) ++ (T.cells x ++ fl T (l.drop (i + 1))) := by
  obtain ⟨hi, hx⟩ := List.getElem?_eq_some_iff.1 h
  have : l = l.take i ++ (x :: l.drop (i + 1)) := by
    rw [← hx, List.getElem_cons_drop]; simp
  conv => lhs; rw [this]
  simp [fl]

/-- A slice and what it holds; its row may be read alone. -/
def SlR (T : Tag) (H : Heap) (s : Sl) (l : List T.α) : Prop :=
  s.len = l.length ∧ (l = [] ∨ ∃ b B sz o ro, s.p = some ⟨b, 0, none⟩ ∧ H[b]? = some (.row (fl T l ++ B) sz o ro true))
/-- Reading one of it. -/
theorem idx_ld {T : Tag} (hT : ∀ x, (T.cells x).length = T.n) {H : Heap} {s : Sl} {l : List T.α} (h : SlR T H s l) {i : Int} {n : Nat} {x : T.α} (hi : i = n) (hx : l[n]? = some x) {k : T.α → Prop} {sz : Nat} (hz : sz = T.n) (hk : k x) : IDX s.p s.len i sz fun b o => LD T H b o k := by
  have hl := (List.getElem?_eq_some_iff.1 hx).1
  obtain ⟨h1, h2 | ⟨b, B, z, o, ro, h3, h4⟩⟩ := h
  · subst h2; simp at hl
  · unfold IDX NIL
    rw [h3]
    refine ⟨⟨by omega, by omega⟩, ?_⟩
    refine LD_of x (fl T (l.take n)) (fl T (l.drop (n + 1)) ++ B) h4 ?_ ?_ (hT x) hk
    · rw [fl_cut l n x hx]; simp [List.append_assoc]
    · rw [fl_len hT, hi, hz, List.length_take, Nat.min_eq_left (by omega)]; simp
end Go.Proofs.YthgfjbafhjkhnaaGreat.Zq
