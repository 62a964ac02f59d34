/- Long closed runs in pieces: what calls answer is laid down in entries, each proved by itself. -/
import Derived.Test.YtjanjgegchgjiaaGreatDoorZqFast3
namespace Go.Proofs.YtjanjgegchgjiaaGreatDoor.Zq
variable {E : Env} {n : Nat} {t : Tr} {H : Heap}

def sameVL : List Value → List Value → Bool
  | [], [] => true
  | a :: x, b :: y => sameV a b && sameVL x y
  | _, _ => false
def sameR : Value → Value → Bool
  | .tuple a, .tuple b => sameVL a.toList b.toList
  | a, b => sameV a b
def sameB : ABlk → ABlk → Bool
  | .row c s o r l, .row c' s' o' r' l' => sameL c c' && s == s' && o == o' && r == r' && l == l'
  | _, _ => false
theorem sameVL_eq : ∀ {a b : List Value}, sameVL a b = true → a = b
  | [], [], _ => rfl
  | a :: x, b :: y, h => by
    simp only [sameVL, Bool.and_eq_true] at h
    rw [sameV_eq h.1, sameVL_eq h.2]
  | [], _ :: _, h => by cases h
  | _ :: _, [], h => by cases h
theorem sameR_eq {a b : Value} (h : sameR a b = true) : a = b := by
  unfold sameR at h
  split at h
  · rename_i x y
    have := sameVL_eq h
    congr 1
    exact Array.ext' this
  · exact sameV_eq h
theorem sameB_eq {a b : ABlk} (h : sameB a b = true) : a = b := by
  unfold sameB at h
  split at h
  · simp only [Bool.and_eq_true, beq_iff_eq] at h
    obtain ⟨⟨⟨⟨h1, h2⟩, h3⟩, h4⟩, h5⟩ := h
    rw [sameL_eq h1, h2, h3, h4, h5]
  · cases h

abbrev BL := List (Nat × ABlk)
noncomputable def treeOf (l : BL) : Tr := List.rec .nil (fun p _ ih => tset 25 ih p.1 p.2) l
noncomputable def subL (l : BL) (t : Tr) : Bool := l.all fun p => match tget t p.1 with | some y => sameB y p.2 | none => false

/-- What is known of a heap: how long it is, some of its blocks. -/
structure Knows (n : Nat) (l : BL) (H : Heap) : Prop where
  len : H.length = n
  bnd : n ≤ 16777216
  get : ∀ p ∈ l, H[p.1]? = some p.2
theorem Knows.rl {l : BL} (h : Knows n l H) : Rl n (treeOf l) H := by
  refine ⟨h.len, h.bnd, ?_⟩
  have : ∀ l : BL, (∀ p ∈ l, H[p.1]? = some p.2) → ∀ (b : Nat) (x : ABlk), tget (treeOf l) b = some x → H[b]? = some x := by
    intro l
    induction l with
    | nil => intro _ b x hx; rw [show treeOf [] = .nil from rfl, tget_nil] at hx; cases hx
    | cons p r ih =>
      intro hp b x hx
      have hg := hp p (by simp)
      have hl := (List.getElem?_eq_some_iff.1 hg).1
      have := h.len
      have := h.bnd
      rw [show treeOf (p :: r) = tset 25 (treeOf r) p.1 p.2 from rfl, tget_tset _ _ _ _ _ (by show p.1 + 1 < 33554432; omega)] at hx
      split at hx
      · rename_i hq
        cases hx
        rw [← hq]; exact hg
      · exact ih (fun q hq => hp q (by simp [hq])) b x hx
  exact this l h.get
theorem knows_of {l : BL} (h : Rl n t H) (hs : subL l t = true) : Knows n l H := by
  refine ⟨h.len, h.bnd, fun p hp => ?_⟩
  have := List.all_eq_true.1 hs p hp
  split at this
  · rename_i y hy
    rw [← sameB_eq this]
    exact h.get _ _ hy
  · cases this

/-- A call and what it answers. -/
structure En where
  g : FuncId
  args : List Value
  n : Nat
  l : BL
  v : Value
  m : Nat
  k : BL
def Valid (call : CallT) (e : En) : Prop := ∀ H, Knows e.n e.l H → ∃ H', Knows e.m e.k H' ∧ call (.fn e.g) e.args H = some (e.v, H')
noncomputable def endK (e : En) : Value → Nat → Tr → Option Bool := fun v n t => some (sameR v e.v && Nat.beq n e.m && subL e.k t)
theorem valid_of {call : CallT} {fc : FCall} (hC : CallF call fc) {e : En} (h : yes (fc (.fn e.g) e.args e.n (treeOf e.l) (endK e)) = true) : Valid call e := by
  intro H hH
  unfold yes at h
  split at h
  · rename_i b hb
    subst h
    obtain ⟨v, n, t, H', h1, h2, h3⟩ := hC _ _ _ _ _ _ hb H hH.rl
    unfold endK at h3
    simp only [Option.some.injEq, Bool.and_eq_true] at h3
    obtain ⟨⟨h4, h5⟩, h6⟩ := h3
    have e1 := sameR_eq h4
    have e2 := Nat.eq_of_beq_eq_true h5
    subst e1; subst e2
    exact ⟨H', knows_of h1 h6, h2⟩
  · cases h

/-- Calls by entries; what has none is run. -/
noncomputable def orcF (es : List En) (rest : FCall) (g : FuncId) (args : List Value) (n : Nat) (t : Tr) (K : Value → Nat → Tr → Option R) : Option R :=
  List.rec (rest (.fn g) args n t K) (fun e _ ih => Bool.rec ih (K e.v e.m (treeOf e.k)) (Nat.beq e.g g && (Nat.beq e.n n && (sameVL args e.args && subL e.l t)))) es
noncomputable def orc (es : List En) (rest : FCall) : FCall := fun tg args n t K => Tgt.rec (fun g => orcF es rest g args n t K) (fun q => rest (.round q) args n t K) tg
theorem orc_ok {call : CallT} {rest : FCall} (hr : CallF call rest) {es : List En} (hv : ∀ e ∈ es, Valid call e) : CallF call (orc es rest) := by
  intro tg args n t K r hk H hH
  cases tg with
  | round q => exact hr _ _ _ _ _ _ (show rest (.round q) args n t K = some r from hk) H hH
  | fn g =>
    have hk : orcF es rest g args n t K = some r := hk
    induction es with
    | nil => exact hr _ _ _ _ _ _ (show rest (.fn g) args n t K = some r from hk) H hH
    | cons e es ih =>
      have hk2 : (Bool.rec (orcF es rest g args n t K) (K e.v e.m (treeOf e.k)) (Nat.beq e.g g && (Nat.beq e.n n && (sameVL args e.args && subL e.l t))) : Option R) = some r := hk
      cases hb : (Nat.beq e.g g && (Nat.beq e.n n && (sameVL args e.args && subL e.l t))) with
      | false => rw [hb] at hk2; exact ih (fun e he => hv e (by simp [he])) hk2 hk2
      | true =>
        rw [hb] at hk2
        simp only [Bool.and_eq_true] at hb
        obtain ⟨h1, h2, h3, h4⟩ := hb
        have e1 := Nat.eq_of_beq_eq_true h1
        have e2 := Nat.eq_of_beq_eq_true h2
        have e3 := sameVL_eq h3
        subst e1; subst e2; subst e3
        obtain ⟨H', q1, q2⟩ := hv e (by simp) H (knows_of hH h4)
        exact ⟨_, _, _, H', q1.rl, q2, hk2⟩
/-- A closed function that answers true, its calls by entries. -/
theorem orc_true {k : Nat} {es : List En} (hv : ∀ e ∈ es, Valid (aFn E k) e) {f : FuncId} (h : yes (fStep E k (orc es (fFn E k)) (.fn f) [] 0 .nil trueK) = true) : ∃ H, aFn E (k + 1) (.fn f) [] [] = some (.bool true, H) := by
  unfold yes at h
  split at h
  · rename_i b hb
    subst h
    obtain ⟨v, n, t, H, h1, h2, h3⟩ := fStep_ok (orc_ok (fFn_ok E k) hv) _ _ _ _ _ _ hb [] Rl.nil
    unfold trueK at h3
    split at h3
    · cases h3; exact ⟨H, h2⟩
    · cases h3
  · cases h
/-- An entry of a function whose calls go by entries. -/
theorem valid_step {k : Nat} {es : List En} (hv : ∀ e ∈ es, Valid (aFn E k) e) {e : En} (h : yes (fStep E k (orc es (fFn E k)) (.fn e.g) e.args e.n (treeOf e.l) (endK e)) = true) : Valid (aFn E (k + 1)) e :=
  valid_of (fStep_ok (orc_ok (fFn_ok E k) hv)) h
end Go.Proofs.YtjanjgegchgjiaaGreatDoor.Zq
