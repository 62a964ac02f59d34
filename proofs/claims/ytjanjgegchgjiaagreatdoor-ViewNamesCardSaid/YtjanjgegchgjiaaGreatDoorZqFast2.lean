/- The fast evaluator's answers are the evaluator's: heaps, operations. -/
import Derived.Test.YtjanjgegchgjiaaGreatDoorZqFast
namespace Go.Proofs.YtjanjgegchgjiaaGreatDoor.Zq

theorem ob_eq {α β : Type} (x : Option α) (f : α → Option β) : ob x f = x.bind f := by cases x <;> rfl
theorem brec_some {R : Type} {b : Bool} {y : Option R} {r : R} (h : (Bool.rec none y b : Option R) = some r) : b = true ∧ y = some r := by
  cases b with
  | false => cases h
  | true => exact ⟨rfl, h⟩
theorem nbeq (i t : Nat) : Nat.beq i t = decide (i = t) := by
  cases h : Nat.beq i t with
  | false => exact (decide_eq_false (Nat.ne_of_beq_eq_false h)).symm
  | true => exact (decide_eq_true (Nat.eq_of_beq_eq_true h)).symm
theorem flook_eq : ∀ (l : FL) (t : Nat), flook l t = look l t
  | [], t => rfl
  | (i, v) :: r, t => by
    have e : flook ((i, v) :: r) t = Bool.rec (flook r t) v (Nat.beq i t) := rfl
    rw [e, flook_eq r t, nbeq]
    simp only [look]
    by_cases h : i = t
    · simp [h]
    · simp [h]

/-! ### Trees -/
theorem three (i : Nat) : i = 0 ∨ (∃ q, i = 2 * q + 1) ∨ ∃ q, i = 2 * q + 2 := by
  by_cases h : i = 0
  · exact .inl h
  · by_cases h2 : i % 2 = 1
    · exact .inr (.inl ⟨i / 2, by omega⟩)
    · exact .inr (.inr ⟨i / 2 - 1, by omega⟩)
theorem m1 (q : Nat) : Nat.beq (Nat.mod (2 * q + 1) 2) 1 = true := by rw [nbeq]; exact decide_eq_true (by show (2 * q + 1) % 2 = 1; omega)
theorem m2 (q : Nat) : Nat.beq (Nat.mod (2 * q + 2) 2) 1 = false := by rw [nbeq]; exact decide_eq_false (by show ¬ (2 * q + 2) % 2 = 1; omega)
theorem d1 (q : Nat) : Nat.div (2 * q + 1) 2 = q := by show (2 * q + 1) / 2 = q; omega
theorem d2 (q : Nat) : Nat.sub (Nat.div (2 * q + 2) 2) 1 = q := by show (2 * q + 2) / 2 - 1 = q; omega
theorem tget_nil (i : Nat) : tget .nil i = none := rfl
theorem tget_0 (v : Option ABlk) (a b : Tr) : tget (.node v a b) 0 = v := rfl
theorem tget_1 (v : Option ABlk) (a b : Tr) (q : Nat) : tget (.node v a b) (2 * q + 1) = tget a q := by
  have e : tget (.node v a b) (2 * q + 1) = Bool.rec (tget b (Nat.sub (Nat.div (2 * q + 1) 2) 1)) (tget a (Nat.div (2 * q + 1) 2)) (Nat.beq (Nat.mod (2 * q + 1) 2) 1) := rfl
  rw [e, m1, d1]
theorem tget_2 (v : Option ABlk) (a b : Tr) (q : Nat) : tget (.node v a b) (2 * q + 2) = tget b q := by
  have e : tget (.node v a b) (2 * q + 2) = Bool.rec (tget b (Nat.sub (Nat.div (2 * q + 2) 2) 1)) (tget a (Nat.div (2 * q + 2) 2)) (Nat.beq (Nat.mod (2 * q + 2) 2) 1) := rfl
  rw [e, m2, d2]
def ta : Tr → Tr | .nil => .nil | .node _ a _ => a
def tb : Tr → Tr | .nil => .nil | .node _ _ b => b
def tv : Tr → Option ABlk | .nil => none | .node v _ _ => v
theorem tget_n0 (t : Tr) : tget t 0 = tv t := by cases t <;> rfl
theorem tget_n1 (t : Tr) (q : Nat) : tget t (2 * q + 1) = tget (ta t) q := by cases t; rfl; exact tget_1 _ _ _ _
theorem tget_n2 (t : Tr) (q : Nat) : tget t (2 * q + 2) = tget (tb t) q := by cases t; rfl; exact tget_2 _ _ _ _
theorem tset_0 (d : Nat) (t : Tr) (x : ABlk) : tset (d + 1) t 0 x = .node (some x) (ta t) (tb t) := by cases t <;> rfl
theorem tset_1 (d : Nat) (t : Tr) (q : Nat) (x : ABlk) : tset (d + 1) t (2 * q + 1) x = .node (tv t) (tset d (ta t) q x) (tb t) := by
  cases t with
  | nil =>
    have e : tset (d + 1) .nil (2 * q + 1) x = Bool.rec (.node none .nil (tset d .nil (Nat.sub (Nat.div (2 * q + 1) 2) 1) x)) (.node none (tset d .nil (Nat.div (2 * q + 1) 2) x) .nil) (Nat.beq (Nat.mod (2 * q + 1) 2) 1) := rfl
    rw [e, m1, d1]; rfl
  | node v a b =>
    have e : tset (d + 1) (.node v a b) (2 * q + 1) x = Bool.rec (.node v a (tset d b (Nat.sub (Nat.div (2 * q + 1) 2) 1) x)) (.node v (tset d a (Nat.div (2 * q + 1) 2) x) b) (Nat.beq (Nat.mod (2 * q + 1) 2) 1) := rfl
    rw [e, m1, d1]; rfl
theorem tset_2 (d : Nat) (t : Tr) (q : Nat) (x : ABlk) : tset (d + 1) t (2 * q + 2) x = .node (tv t) (ta t) (tset d (tb t) q x) := by
  cases t with
  | nil =>
    have e : tset (d + 1) .nil (2 * q + 2) x = Bool.rec (.node none .nil (tset d .nil (Nat.sub (Nat.div (2 * q + 2) 2) 1) x)) (.node none (tset d .nil (Nat.div (2 * q + 2) 2) x) .nil) (Nat.beq (Nat.mod (2 * q + 2) 2) 1) := rfl
    rw [e, m2, d2]; rfl
  | node v a b =>
    have e : tset (d + 1) (.node v a b) (2 * q + 2) x = Bool.rec (.node v a (tset d b (Nat.sub (Nat.div (2 * q + 2) 2) 1) x)) (.node v (tset d a (Nat.div (2 * q + 2) 2) x) b) (Nat.beq (Nat.mod (2 * q + 2) 2) 1) := rfl
    rw [e, m2, d2]; rfl
theorem tget_tset : ∀ (d : Nat) (t : Tr) (i : Nat) (x : ABlk) (j : Nat), i + 1 < 2 ^ d → tget (tset d t i x) j = if i = j then some x else tget t j
  | 0, _, i, _, _, h => by simp at h
  | d + 1, t, i, x, j, h => by
    rw [Nat.pow_succ] at h
    rcases three i with rfl | ⟨q, rfl⟩ | ⟨q, rfl⟩
    · rw [tset_0]
      rcases three j with rfl | ⟨p, rfl⟩ | ⟨p, rfl⟩
      · rw [tget_0, if_pos rfl]
      · rw [tget_1, if_neg (by omega), tget_n1]
      · rw [tget_2, if_neg (by omega), tget_n2]
    · rw [tset_1]
      rcases three j with rfl | ⟨p, rfl⟩ | ⟨p, rfl⟩
      · rw [tget_0, if_neg (by omega), tget_n0]
      · rw [tget_1, tget_tset d _ _ _ _ (by omega), tget_n1]
        by_cases hq : q = p
        · rw [if_pos hq, if_pos (by omega)]
        · rw [if_neg hq, if_neg (by omega)]
      · rw [tget_2, if_neg (by omega), tget_n2]
    · rw [tset_2]
      rcases three j with rfl | ⟨p, rfl⟩ | ⟨p, rfl⟩
      · rw [tget_0, if_neg (by omega), tget_n0]
      · rw [tget_1, if_neg (by omega), tget_n1]
      · rw [tget_2, tget_tset d _ _ _ _ (by omega), tget_n2]
        by_cases hq : q = p
        · rw [if_pos hq, if_pos (by omega)]
        · rw [if_neg hq, if_neg (by omega)]

/-- A tree holds a heap. -/
structure Rl (n : Nat) (t : Tr) (H : Heap) : Prop where
  len : H.length = n
  bnd : n ≤ 16777216
  get : ∀ (b : Nat) (x : ABlk), tget t b = some x → H[b]? = some x

variable {E : Env} {n : Nat} {t : Tr} {H : Heap} {N : Nat} {l : FL}

theorem Rl.nil : Rl 0 .nil [] := ⟨rfl, by omega, fun b x h => by simp [tget_nil] at h⟩
theorem Rl.push (h : Rl n t H) (x : ABlk) (hb : n + 1 ≤ 16777216) : Rl (n + 1) (tset 25 t n x) (H ++ [x]) := by
  refine ⟨by simp [h.len], hb, fun b y => ?_⟩
  rw [tget_tset _ _ _ _ _ (by show n + 1 < 33554432; omega)]
  by_cases hq : n = b
  · rw [if_pos hq, ← hq, ← h.len, List.getElem?_append_right (Nat.le_refl _), Nat.sub_self]; exact id
  · rw [if_neg hq]
    intro hy
    have := h.get b y hy
    rw [List.getElem?_append_left (List.getElem?_eq_some_iff.1 this).1]; exact this
theorem Rl.set (h : Rl n t H) {b : Nat} (x : ABlk) (hb : b + 1 ≤ n) : Rl n (tset 25 t b x) (H.set b x) := by
  have := h.len
  have := h.bnd
  refine ⟨by simp [h.len], h.bnd, fun c y => ?_⟩
  rw [tget_tset _ _ _ _ _ (by show b + 1 < 33554432; omega)]
  by_cases hq : b = c
  · subst hq; rw [if_pos rfl, List.getElem?_set_self (by omega)]; exact id
  · rw [if_neg hq, List.getElem?_set_ne hq]; exact h.get c y
theorem fApp_ok {d : Dl} {K : Nat → Tr → Option R} {r : R} (h : Rl n t H) (hk : fApp n t d K = some r) : ∃ n' t', Rl n' t' (applyL H d) ∧ K n' t' = some r := by
  cases d with
  | keep => exact ⟨n, t, h, hk⟩
  | push x =>
    obtain ⟨h1, h2⟩ := brec_some (b := Nat.ble (Nat.succ n) 16777216) hk
    exact ⟨_, _, h.push x (Nat.le_of_ble_eq_true h1), h2⟩
  | set b x =>
    obtain ⟨h1, h2⟩ := brec_some (b := Nat.ble (Nat.succ b) n) hk
    exact ⟨_, _, h.set x (Nat.le_of_ble_eq_true h1), h2⟩
  | kpush b k x =>
    obtain ⟨h1, h2⟩ := brec_some (b := Nat.ble (Nat.succ n) 16777216) hk
    obtain ⟨h3, h4⟩ := brec_some (b := Nat.ble (Nat.succ b) n) h2
    exact ⟨_, _, (h.set k (Nat.le_of_ble_eq_true h3)).push x (Nat.le_of_ble_eq_true h1), h4⟩

/-! ### Cells -/
theorem fdrop_eq : ∀ (l : List Value) (n : Nat), fdrop l n = if n ≤ l.length then some (l.drop n) else none
  | [], 0 => rfl
  | [], n + 1 => by rw [if_neg (by simp)]; rfl
  | x :: r, 0 => rfl
  | x :: r, n + 1 => by
    have e : fdrop (x :: r) (n + 1) = fdrop r n := rfl
    rw [e, fdrop_eq r n]; simp
theorem ftake_eq : ∀ (l : List Value) (n : Nat), ftake l n = if n ≤ l.length then some (l.take n) else none
  | [], 0 => rfl
  | [], n + 1 => by rw [if_neg (by simp)]; rfl
  | x :: r, 0 => rfl
  | x :: r, n + 1 => by
    have e : ftake (x :: r) (n + 1) = ob (ftake r n) fun q => some (x :: q) := rfl
    rw [e, ob_eq, ftake_eq r n]
    by_cases h : n ≤ r.length <;> simp [h]
theorem fover_eq : ∀ (l vs : List Value), fover l vs = if vs.length ≤ l.length then some (vs ++ l.drop vs.length) else none
  | [], [] => rfl
  | [], v :: vs => by rw [if_neg (by simp)]; rfl
  | x :: r, [] => rfl
  | x :: r, v :: vs => by
    have e : fover (x :: r) (v :: vs) = ob (fover r vs) fun q => some (v :: q) := rfl
    rw [e, ob_eq, fover_eq r vs]
    by_cases h : vs.length ≤ r.length <;> simp [h]
theorem fsetO_eq : ∀ (l : List Value) (n : Nat) (vs : List Value), fsetO l n vs = if n + vs.length ≤ l.length then some (patch l n vs) else none
  | [], 0, vs => by
    have e : fsetO [] 0 vs = fover [] vs := rfl
    rw [e, fover_eq]; simp [patch]
  | [], n + 1, vs => by rw [if_neg (by simp)]; rfl
  | x :: r, 0, vs => by
    have e : fsetO (x :: r) 0 vs = fover (x :: r) vs := rfl
    rw [e, fover_eq]; simp [patch]
  | x :: r, n + 1, vs => by
    have e : fsetO (x :: r) (n + 1) vs = ob (fsetO r n vs) fun q => some (x :: q) := rfl
    rw [e, ob_eq, fsetO_eq r n vs]
    by_cases h : n + vs.length ≤ r.length
    · rw [if_pos h, if_pos (by simp; omega)]
      simp [patch, show n + 1 + vs.length = (n + vs.length) + 1 by omega]
    · rw [if_neg h, if_neg (by simp; omega)]; rfl

theorem frd_ok (h : Rl n t H) {b off m : Nat} {cs : List Value} (hk : frd t b off m = some cs) : rd H b off m = some cs := by
  unfold frd at hk
  unfold rd
  cases hg : tget t b with
  | none => rw [hg] at hk; cases hk
  | some k =>
    rw [hg] at hk
    rw [h.get b k hg]
    cases k with
    | row c sz o ro live =>
      cases live with
      | false => cases hk
      | true =>
        simp only [frdB, fdrop_eq] at hk
        by_cases hq : off ≤ c.length
        · rw [if_pos hq, Option.bind_some, ftake_eq] at hk
          by_cases hm : off + m ≤ c.length
          · rw [if_pos (by simp; omega)] at hk
            dsimp only
            rw [if_pos hm]; exact hk
          · rw [if_neg (by simp; omega)] at hk; cases hk
        · rw [if_neg hq] at hk; cases hk
    | map es c => cases hk
    | iter => cases hk
    | loop => cases hk
theorem fwr_ok (h : Rl n t H) {b off : Nat} {vs : List Value} {d : Dl} (hk : fwr t b off vs = some d) : wr H b off vs = some (applyL H d) := by
  unfold fwr at hk
  unfold wr
  cases hg : tget t b with
  | none => rw [hg] at hk; cases hk
  | some k =>
    rw [hg] at hk
    rw [h.get b k hg]
    cases k with
    | row c sz o ro live =>
      cases ro <;> cases live <;> try (cases hk; done)
      simp only [fwrB, fsetO_eq] at hk
      by_cases hv : vs.all cell1 = true
      · rw [if_pos hv] at hk
        by_cases hq : off + vs.length ≤ c.length
        · rw [if_pos hq] at hk
          cases hk
          dsimp only
          rw [if_pos hq, if_pos hv]; rfl
        · rw [if_neg hq] at hk; cases hk
      · rw [if_neg hv] at hk; cases hk
    | map es c => cases hk
    | iter => cases hk
    | loop => cases hk
theorem fexact_ok (h : Rl n t H) {b off cap : Nat} {x : Bool} (hk : fExact t b off cap = some x) : exact H b off cap = x := by
  unfold fExact at hk
  unfold exact
  split at hk
  · rename_i hg
    rw [h.get b _ hg]; cases hk; rfl
  · cases hk
theorem fhasSz_ok (h : Rl n t H) {b sz : Nat} {x : Bool} (hk : fHasSz t b sz = some x) : hasSz H b sz = x := by
  unfold fHasSz at hk
  unfold hasSz
  split at hk
  · rename_i hg
    rw [h.get b _ hg]; cases hk; rfl
  · cases hk

/-! ### Operands -/
theorem fopv_eq (l : FL) (x : Operand) : fopv l x = opv ⟨N, l⟩ x := by
  cases x with
  | tmp t => exact flook_eq l t
  | const v =>
    have e : fopv l (.const v) = Bool.rec none (some v) (flat v) := rfl
    rw [e]; simp only [opv]
    cases flat v <;> rfl
  | global g => rfl
  | func f => rfl
theorem fopvs_eq (l : FL) : ∀ xs : List Operand, fopvs l xs = opvs ⟨N, l⟩ xs
  | [] => rfl
  | x :: r => by simp only [fopvs, opvs, ob_eq, fopv_eq (N := N), fopvs_eq l r]
theorem fopvo_eq (l : FL) (x : Option Operand) : fopvo l x = opvo ⟨N, l⟩ x := by
  cases x with
  | none => rfl
  | some x => simp only [fopvo, opvo, ob_eq, fopv_eq (N := N)]
theorem fparts_eq (l : FL) : ∀ ps : List (Nat × Operand), fparts l ps = aParts ⟨N, l⟩ ps
  | [] => rfl
  | (i, x) :: r => by simp only [fparts, aParts, ob_eq, fopv_eq (N := N), fparts_eq l r]

theorem fAlloc_eq (h : Rl n t H) (ty : TypeId) : aAlloc E ty H = (fAlloc E ty n).map fun x => (x.1, applyL H x.2) := by
  unfold aAlloc fAlloc
  rw [h.len]
  cases E.ty ty <;> rfl
theorem fBox_eq (h : Rl n t H) (v : Value) : aBox v H = (fBox v n).map fun x => (x.1, applyL H x.2) := by
  unfold aBox fBox
  rw [h.len]; rfl

theorem bind_imp {α β γ : Type} {x : Option α} {F : α → Option β} {G : α → Option γ} {y : β} {z : γ} (h : ∀ a, F a = some y → G a = some z) (hk : x.bind F = some y) : x.bind G = some z := by
  cases x with
  | none => cases hk
  | some a => exact h a hk
theorem ob_imp {α β γ : Type} {x : Option α} {F : α → Option β} {G : α → Option γ} {y : β} {z : γ} (h : ∀ a, F a = some y → G a = some z) (hk : ob x F = some y) : x.bind G = some z := by
  rw [ob_eq] at hk; exact bind_imp h hk
theorem ifV_imp {β γ : Type} {c : Value} {x y : Option β} {x' y' : Option γ} {r : β} {r' : γ} (h1 : x = some r → x' = some r') (h2 : y = some r → y' = some r') (hk : ifV c x y = some r) : ifV c x' y' = some r' := by
  unfold ifV at hk ⊢
  split at hk
  · exact h1 hk
  · exact h2 hk
  · cases hk

theorem fLoad_ok (h : Rl n t H) {ty : TypeId} {a v : Value} (hk : fLoad E ty a t = some v) : aLoad E ty a H = some v := by
  unfold fLoad at hk
  unfold aLoad
  split at hk
  · refine bind_imp (fun ti hk => ?_) hk
    obtain ⟨cs, h1, h2⟩ := some_bind hk
    rw [frd_ok h h1]; exact h2
  · cases hk
theorem fStore_ok (h : Rl n t H) {ty : TypeId} {a v : Value} {d : Dl} (hk : fStore E ty a v t = some d) : aStore E ty a v H = some (applyL H d) := by
  unfold fStore at hk
  unfold aStore
  split at hk
  · refine bind_imp (fun ti hk => ?_) hk
    split at hk
    · rename_i hq
      rw [if_pos hq]; exact fwr_ok h hk
    · cases hk
  · cases hk
theorem fSlice_ok (h : Rl n t H) {ty : TypeId} {x : Value} {lo hi mx : Option Value} {v : Value} (hk : fSlice E ty x lo hi mx t = some v) : aSlice E ty x lo hi mx H = some v := by
  unfold fSlice at hk
  unfold aSlice
  split at hk
  · cases hk
  · rename_i hmx
    rw [if_neg hmx]
    refine bind_imp (fun ti hk => ?_) hk
    split at hk
    · rename_i he _
      rw [he]; exact hk
    · rename_i he _
      rw [he]
      dsimp only
      refine bind_imp (fun te hk => bind_imp (fun m hk => bind_imp (fun q hk => bind_imp (fun l hk => ?_) hk) hk) hk) hk
      split at hk
      · rename_i hc
        rw [if_pos hc]
        by_cases hm : mx.isSome = true
        · rw [if_pos hm] at hk
          rw [if_pos (.inl hm)]; exact hk
        · rw [if_neg hm] at hk
          obtain ⟨ex, h1, hk⟩ := some_bind hk
          have e1   := fexact_ok h h1
          cases ex with
          | true => rw [if_pos (.inr e1)]; exact hk
          | false =>
            rw [if_neg (by simp [hm, e1])]
            simp only [Bool.false_eq_true, if_false] at hk
            obtain ⟨hs, h2, hk⟩ := some_bind hk
            have e2 := fhasSz_ok h h2
            cases hs with
            | true => rw [if_pos e2]; exact hk
            | false => cases hk
      · cases hk
    · rename_i he _
      rw [he]; exact hk
    · rename_i he _
      rw [he]; exact hk
    · rename_i he _
      rw [he]; exact hk
    · cases hk
theorem fLen_ok (h : Rl n t H) {ty : TypeId} {x v : Value} (hk : fLen E ty x t = some v) : aLen E ty x H = some v := by
  unfold fLen at hk
  unfold aLen
  refine bind_imp (fun ti hk => ?_) hk
  rcases ti with ⟨k1, a1, a2, a3⟩
  cases k1 with
  | map k e =>
    cases x with
    | map r =>
      cases r with
      | none => exact hk
      | some r =>
        dsimp only at hk ⊢
        split at hk
        · rename_i hg
          rw [h.get _ _ hg]; exact hk
        · cases hk
    | _ => cases hk
  | _ => cases x <;> exact hk
theorem fCap_ok (h : Rl n t H) {ty : TypeId} {x v : Value} (hk : fCap E ty x t = some v) : aCap E ty x H = some v := by
  unfold fCap at hk
  unfold aCap
  refine bind_imp (fun ti hk => ?_) hk
  split at hk
  · rename_i he _
    rw [he]; exact hk
  · rename_i he _
    rw [he]; exact hk
  · rename_i he _
    rw [he]
    obtain ⟨ex, h1, hk⟩ := some_bind hk
    have e1   := fexact_ok h h1
    dsimp only
    rw [e1]; exact hk
  · cases hk
theorem fFirst_ok (h : Rl n t H) {x : Value} {m sz : Nat} {xs : List Value} (hk : fFirst x m sz t = some xs) : firstOf x m sz H = some xs := by
  unfold fFirst at hk
  unfold firstOf
  split at hk
  · exact hk
  · exact frd_ok h hk
  · exact hk
  · exact hk
  · cases hk
theorem fEntries_ok (h : Rl n t H) {x : Value} {es : List MapEntry} (hk : fEntries x t = some es) : entriesOf x H = some es := by
  unfold fEntries at hk
  unfold entriesOf
  split at hk
  · exact hk
  · dsimp only
    split at hk
    · rename_i hg
      rw [h.get _ _ hg]; exact hk
    · cases hk
  · cases hk
theorem fLookup_ok (h : Rl n t H) {ty : TypeId} {x i : Value} {ok : Bool} {v : Value} (hk : fLookup E ty x i ok t = some v) : aLookup E ty x i ok H = some v := by
  unfold fLookup at hk
  unfold aLookup
  refine bind_imp (fun ti hk => ?_) hk
  split at hk
  · rename_i he
    rw [he]
    refine bind_imp (fun tk hk => bind_imp (fun te hk => ?_) hk) hk
    obtain ⟨es, h1, hk⟩ := some_bind hk
    rw [fEntries_ok h h1]; exact hk
  · cases hk

theorem fBuildSlice_ok (h : Rl n t H) {ty : TypeId} {m : Nat} {ps : List (Nat × Value)} {v : Value} {d : Dl} (hk : fBuildSlice E ty m ps n = some (v, d)) : aBuildSlice E ty m ps H = some (v, applyL H d) := by
  unfold fBuildSlice at hk
  unfold aBuildSlice
  refine bind_imp (fun ti hk => ?_) hk
  split at hk
  · rename_i he
    rw [he]
    refine bind_imp (fun te hk => ?_) hk
    split at hk
    · rename_i hq
      rw [if_pos hq]
      refine bind_imp (fun cs hk => ?_) hk
      rw [h.len]; cases hk; rfl
    · cases hk
  · cases hk
theorem fMakeSlice_ok (h : Rl n t H) {ty : TypeId} {a c : Value} {v : Value} {d : Dl} (hk : fMakeSlice E ty a c n = some (v, d)) : aMakeSlice E ty a c H = some (v, applyL H d) := by
  unfold fMakeSlice at hk
  unfold aMakeSlice
  split at hk
  · refine bind_imp (fun ti hk => ?_) hk
    split at hk
    · rename_i he
      rw [he]
      refine bind_imp (fun te hk => ?_) hk
      split at hk
      · rename_i hq
        rw [if_pos hq]
        rw [h.len]; cases hk; rfl
      · cases hk
    · cases hk
  · cases hk
theorem fAppX_ok (h : Rl n t H) {ts : List TypeId} {s : Value} {m : Nat} {xs : List Value} {v : Value} {d : Dl} (hk : fAppX E ts s m xs n t = some (v, d)) : aAppX E ts s m xs H = some (v, applyL H d) := by
  unfold fAppX at hk
  unfold aAppX
  split at hk
  · rename_i t1 t2
    refine bind_imp (fun ti hk => ?_) hk
    refine bind_imp (fun tj hk => ?_) hk
    rcases ti with ⟨k1, a1, a2, a3⟩
    rcases tj with ⟨k2, b1, b2, b3⟩
    cases k1 <;> cases k2 <;> first | (cases hk; done) | skip
    all_goals
      dsimp only at hk ⊢
      refine bind_imp (fun te hk => ?_) hk
      split at hk
      · cases hk
      · rename_i hq
        rw [if_neg hq]
        split at hk
        · split at hk
          · rename_i hm
            cases hk; (try dsimp only); rw [if_pos hm]; rfl
          · rename_i hm
            split at hk
            · rename_i hc
              cases hk; (try dsimp only); rw [if_neg hm, if_pos hc, h.len]; rfl
            · cases hk
        · try dsimp only
          split at hk
          · rename_i hm
            rw [if_pos hm]
            split at hk
            · rename_i hc
              cases hk; rw [if_pos hc]; rfl
            · cases hk
          · rename_i hm
            rw [if_neg hm]
            split at hk
            · rename_i hc
              rw [if_pos hc]
              obtain ⟨q, h1, h2⟩ := some_bind hk
              rw [fwr_ok h h1]; cases h2; rfl
            · rename_i hc
              rw [if_neg hc]
              split at hk
              · rename_i hz
                rw [if_pos hz]
                obtain ⟨old, h1, hk⟩ := some_bind hk
                rw [frd_ok h h1, Option.bind_some]
                obtain ⟨ex, h2, hk⟩ := some_bind hk
                rw [fexact_ok h h2]
                cases ex with
                | true =>
                  rw [if_pos rfl, h.len]; cases hk; rfl
                | false =>
                  rw [if_neg (by simp)]
                  simp only [Bool.false_eq_true, if_false] at hk
                  split at hk
                  · rename_i hb
                    rw [h.get _ _ hb]; try dsimp only
                    split at hk
                    · rename_i hs
                      rw [if_pos hs, h.len]; cases hk
                      unfold kill
                      rw [h.get _ _ hb]; rfl
                    · cases hk
                  · cases hk
              · cases hk
        · split at hk
          · rename_i hm
            cases hk; simp [hm, applyL]
          · cases hk
        · cases hk
  · cases hk
theorem fAppend_ok (h : Rl n t H) {ts : List TypeId} {s x : Value} {v : Value} {d : Dl} (hk : fAppend E ts s x n t = some (v, d)) : aAppend E ts s x H = some (v, applyL H d) := by
  unfold fAppend at hk
  unfold aAppend
  split at hk
  · refine bind_imp (fun ti hk => ?_) hk
    split at hk
    · rename_i he
      rw [he]
      refine bind_imp (fun te hk => ?_) hk
      refine bind_imp (fun m hk => ?_) hk
      obtain ⟨xs, h1, hk⟩ := some_bind hk
      rw [fFirst_ok h h1]
      exact fAppX_ok h hk
    · cases hk
  · cases hk
theorem fCopy_ok (h : Rl n t H) {ts : List TypeId} {s x : Value} {v : Value} {d : Dl} (hk : fCopy E ts s x t = some (v, d)) : aCopy E ts s x H = some (v, applyL H d) := by
  unfold fCopy at hk
  unfold aCopy
  split at hk
  · refine bind_imp (fun ti hk => ?_) hk
    split at hk
    · rename_i he _
      rw [he]
      refine bind_imp (fun te hk => ?_) hk
      refine bind_imp (fun m hk => ?_) hk
      obtain ⟨xs, h1, hk⟩ := some_bind hk
      rw [fFirst_ok h h1, Option.bind_some]
      split at hk
      · cases hk; rfl
      · try dsimp only
        split at hk
        · rename_i hz
          rw [if_pos hz]; cases hk; rfl
        · cases hk
      · try dsimp only
        split at hk
        · rename_i hz
          rw [if_pos hz]; cases hk; rfl
        · rename_i hz
          rw [if_neg hz]
          obtain ⟨q, h1, h2⟩ := some_bind hk
          rw [fwr_ok h h1]; cases h2; rfl
    · cases hk
  · cases hk
theorem fMapUpdate_ok (h : Rl n t H) {ty : TypeId} {m k v : Value} {d : Dl} (hk : fMapUpdate E ty m k v t = some d) : aMapUpdate E ty m k v H = some (applyL H d) := by
  unfold fMapUpdate at hk
  unfold aMapUpdate
  split at hk
  · split at hk
    · rename_i hg
      dsimp only
      rw [h.get _ _ hg]
      dsimp only
      refine bind_imp (fun ti hk => ?_) hk
      split at hk
      · rename_i he
        rw [he]
        refine bind_imp (fun tk hk => ?_) hk
        split at hk
        · rename_i hq
          rw [if_pos hq]
          refine bind_imp (fun q hk => ?_) hk
          split at hk
          · cases hk; rfl
          · cases hk; rfl
        · cases hk
      · cases hk
    · cases hk
  · cases hk
theorem fRange_ok (h : Rl n t H) {ty : TypeId} {x v : Value} {d : Dl} (hk : fRange E ty x n = some (v, d)) : aRange E ty x H = some (v, applyL H d) := by
  unfold fRange at hk
  unfold aRange
  split at hk
  · refine bind_imp (fun ti hk => ?_) hk
    split at hk
    · rename_i he
      rw [he, h.len]
      cases hk; rfl
    · cases hk
  · cases hk
theorem fNext_ok (h : Rl n t H) {x v : Value} {d : Dl} (hk : fNext x t = some (v, d)) : aNext x H = some (v, applyL H d) := by
  cases x with
  | pointer p =>
    cases p with
    | none => cases hk
    | some q =>
      rcases q with ⟨b, off, sp⟩
      cases off with
      | succ k => cases hk
      | zero =>
        cases sp with
        | some _ => cases hk
        | none =>
          have hk2 : (match tget t b with
            | some (.iter s pos) => (match nextOf s pos with | some x => some (x.1, Dl.set b x.2) | none => some (.tuple #[.bool false], Dl.keep))
            | _ => none) = some (v, d) := hk
          have g : aNext (.pointer (some ⟨b, 0, none⟩)) H = (match H[b]? with
            | some (.iter s pos) => (match nextOf s pos with | some x => some (x.1, H.set b x.2) | none => some (.tuple #[.bool false], H))
            | _ => none) := rfl
          rw [g]
          split at hk2
          · rename_i s pos hb
            rw [h.get _ _ hb]
            dsimp only
            cases hq : nextOf s pos with
            | none => rw [hq] at hk2; cases hk2; rfl
            | some y => rw [hq] at hk2; cases hk2; rfl
          · cases hk2
  | _ => cases hk
theorem fClear_ok (h : Rl n t H) {ts : List TypeId} {x : Value} {d : Dl} (hk : fClear E ts x t = some d) : aClear E ts x H = some (applyL H d) := by
  cases ts with
  | nil => cases hk
  | cons ty r =>
    unfold fClear at hk
    unfold aClear
    refine bind_imp (fun ti hk => ?_) hk
    rcases ti with ⟨k1, a1, a2, a3⟩
    cases k1 with
    | slice e =>
      cases x with
      | slice p len cap =>
        cases p with
        | none => cases hk; rfl
        | some q =>
          rcases q with ⟨b, off, sp⟩
          cases sp with
          | none =>
            dsimp only at hk ⊢
            refine bind_imp (fun te hk => ?_) hk
            split at hk
            · rename_i h0
              rw [if_pos h0]; cases hk; rfl
            · rename_i h0
              rw [if_neg h0]; exact fwr_ok h hk
          | some z =>
            cases z with
            | succ z => cases hk
            | zero =>
              cases len with
              | zero => cases hk; rfl
              | succ len => cases hk
      | _ => cases hk
    | _ => cases hk
end Go.Proofs.YtjanjgegchgjiaaGreatDoor.Zq
