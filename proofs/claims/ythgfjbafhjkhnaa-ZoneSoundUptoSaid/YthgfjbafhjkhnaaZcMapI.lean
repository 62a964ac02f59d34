/- Sets of numbers, as maps to ones. -/
import Derived.Test.YthgfjbafhjkhnaaZcSl
namespace Go.Proofs.Ythgfjbafhjkhnaa.Zq
structure TyM (E : Env) (t : TypeId) : Prop where
  w : ∃ ti kt et tk te, E.ty t = some ti ∧ ti.k = .map kt et ∧ E.ty kt = some tk ∧ tk.k = .int .i64 ∧ E.ty et = some te ∧ ofCells te.k te.zero = some (.int .i64 0)
def SetM (H : Heap) (m : Nat) (S : List Int) : Prop := ∃ es ck, H[m]? = some (.map es ck) ∧ es.map (fun e => (e.key, e.val)) = S.map fun s => (Value.int .i64 s, Value.int .i64 1)
theorem SetM.frs {H H' : Heap} {m : Nat} {S : List Int} {B : List Nat} (h : SetM H m S) (f : Frs B H H') (hm : m ∉ B) : SetM H' m S := by
  obtain ⟨es, ck, h1, h2⟩ := h; exact ⟨es, ck, f.get hm h1, h2⟩
theorem SetM.lt {H : Heap} {m : Nat} {S : List Int} (h : SetM H m S) : m < H.length := by obtain ⟨es, ck, h1, _⟩ := h; exact get_lt h1
theorem SetM.new (H : Heap) : SetM (H ++ [.map [] 0]) H.length [] := ⟨[], 0, by simp, rfl⟩
theorem findK_s (x : Int) : ∀ (S : List Int) (es : List MapEntry) (i : Nat), es.map (fun e => (e.key, e.val)) = S.map (fun s => (Value.int .i64 s, Value.int .i64 1)) → findK (.int .i64 x) es i = some (if x ∈ S then some (i + S.idxOf x, .int .i64 1) else none)
  | [], es, i, h => by
    have : es = [] := by simpa using h
    subst this; rfl
  | s :: S, es, i, h => by
    cases es with
    | nil => simp at h
    | cons e es =>
      simp only [List.map_cons, List.cons.injEq, Prod.mk.injEq] at h
      obtain ⟨⟨h1, h2⟩, h3⟩ := h
      simp only [findK, h1, h2, sameKey, if_true]
      by_cases e : x = s
      · subst e; simp
      · have e' : (x == s) = false := by simpa using e
        rw [e']
        simp only
        rw [findK_s x S es (i + 1) h3]
        by_cases hm : x ∈ S
        · rw [if_pos hm, if_pos (by simp [hm])]
          have : (s :: S).idxOf x = S.idxOf x + 1 := by
            have e2 : (s == x) = false := by simpa using Ne.symm e
            rw [List.idxOf_cons, e2]; rfl
          rw [this]; congr 3; omega
        · rw [if_neg hm, if_neg (by simp [hm, e])]
theorem lookup_s {E : Env} {t : TypeId} (ty : TyM E t) {H : Heap} {m : Nat} {S : List Int} (h : SetM H m S) (x : Int) : aLookup E t (.map (some m)) (.int .i64 x) false H = some (.int .i64 (if x ∈ S then 1 else 0)) := by
  obtain ⟨ti, kt, et, tk, te, e1, e2, e3, e4, e5, e6⟩ := ty.w
  obtain ⟨es, ck, h1, h2⟩ := h
  unfold aLookup
  simp only [e1, e2, e3, e5, Option.bind_some, entriesOf, h1, e4, keyOk, if_true, findK_s x S es 0 h2, e6]
  by_cases hm : x ∈ S
  · simp [hm]
  · simp [hm]
theorem update_new {E : Env} {t : TypeId} (ty : TyM E t) {H : Heap} {m : Nat} {S : List Int} (h : SetM H m S) {x : Int} (hx : x ∉ S) {k : Heap → Prop} (hk : ∀ H', SetM H' m (S ++ [x]) → Frs [m] H H' → H'.length = H.length → k H') : GENH (aMapUpdate E t (.map (some m)) (.int .i64 x) (.int .i64 1) H) k := by
  obtain ⟨ti, kt, et, tk, te, e1, e2, e3, e4, e5, e6⟩ := ty.w
  obtain ⟨es, ck, h1, h2⟩ := h
  have hlt := get_lt h1
  refine ⟨H.set m (.map (es ++ [{ key := .int .i64 x, val := .int .i64 1, born := ck }]) (ck + 1)), ?_, hk _ ⟨_, _, set_get hlt, by simp [h2]⟩ (Frs.set _ _ (by simp)) (by simp)⟩
  unfold aMapUpdate
  simp only [h1, e1, e2, e3, Option.bind_some, e4, keyOk, if_true, findK_s x S es 0 h2, if_neg hx]
theorem findK_mod (x : Int) (v v' : Value) : ∀ (es : List MapEntry) (i j : Nat), findK (.int .i64 x) es i = some (some (i + j, v)) → findK (.int .i64 x) (es.modify j fun e => { e with key := .int .i64 x, val := v' }) i = some (some (i + j, v'))
  | [], i, j, h => by simp [findK] at h
  | e :: es, i, j, h => by
    simp only [findK] at h
    cases hs : sameKey (.int .i64 x) e.key with
    | none => rw [hs] at h; simp at h
    | some b =>
      rw [hs] at h
      cases b with
      | true =>
        simp only [Option.some.injEq, Prod.mk.injEq] at h
        have : j = 0 := by omega
        subst this
        simp [findK, sameKey]
      | false =>
        simp only at h
        cases j with
        | zero =>
          exfalso
          have : ∀ (es : List MapEntry) (i : Nat) (q : Nat) (u : Value), findK (.int .i64 x) es i = some (some (q, u)) → i ≤ q := by
            intro es
            induction es with
            | nil => intro i q u h; simp [findK] at h
            | cons e r ih =>
              intro i q u h
              simp only [findK] at h
              split at h
              · simp at h; omega
              · have := ih (i + 1) q u h; omega
              · cases h
          have := this es (i + 1) (i + 0) v h
          omega
        | succ j =>
          have ih := findK_mod x v v' es (i + 1) j (by rw [h]; congr 3; omega)
          simp only [List.modify_succ_cons, findK, hs]
          rw [ih]; congr 3; omega
theorem update_dup {E : Env} {t : TypeId} (ty : TyM E t) {H : Heap} {m : Nat} {S : List Int} (h : SetM H m S) {x : Int} (hx : x ∈ S) {y : Int} {k : Heap → Prop} (hk : ∀ H', (∀ B H'', Frs B H' H'' → m ∉ B → aLookup E t (.map (some m)) (.int .i64 x) false H'' = some (.int .i64 y)) → Frs [m] H H' → H'.length = H.length → k H') : GENH (aMapUpdate E t (.map (some m)) (.int .i64 x) (.int .i64 y) H) k := by
  obtain ⟨ti, kt, et, tk, te, e1, e2, e3, e4, e5, e6⟩ := ty.w
  obtain ⟨es, ck, h1, h2⟩ := h
  have hlt := get_lt h1
  have hf := findK_s x S es 0 h2
  rw [if_pos hx] at hf
  refine ⟨H.set m (.map (es.modify (0 + S.idxOf x) fun e => { e with key := .int .i64 x, val := .int .i64 y }) ck), ?_, hk _ (fun B H'' f hB => ?_) (Frs.set _ _ (by simp)) (by simp)⟩
  · unfold aMapUpdate
    simp only [h1, e1, e2, e3, Option.bind_some, e4, keyOk, if_true, hf]
  · have h3 := f.get hB (set_get (x := ABlk.map (es.modify (0 + S.idxOf x) fun e => { e with key := .int .i64 x, val := .int .i64 y }) ck) hlt)
    have hm := findK_mod x _ (.int .i64 y) es 0 (S.idxOf x) hf
    rw [Nat.zero_add] at h3
    unfold aLookup
    simp only [e1, e2, e3, e5, Option.bind_some, entriesOf, h3, e4, keyOk, if_true, hm, e6]
    rfl
theorem len_s {E : Env} {t : TypeId} (ty : TyM E t) {H : Heap} {m : Nat} {S : List Int} (h : SetM H m S) : aLen E t (.map (some m)) H = some (.int .i64 S.length) := by
  obtain ⟨ti, kt, et, tk, te, e1, e2, e3, e4, e5, e6⟩ := ty.w
  obtain ⟨es, ck, h1, h2⟩ := h
  unfold aLen
  simp only [e1, e2, Option.bind_some, h1]
  have := congrArg List.length h2
  simp at this
  rw [this]
end Go.Proofs.Ythgfjbafhjkhnaa.Zq
