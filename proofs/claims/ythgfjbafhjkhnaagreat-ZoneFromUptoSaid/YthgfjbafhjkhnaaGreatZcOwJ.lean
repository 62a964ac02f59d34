/- Sets of numbers, as maps to ones. -/
import Derived.Test.YthgfjbafhjkhnaaGreatZcSl
import Derived.Test.YthgfjbafhjkhnaaGreatZcApart
namespace Go.Proofs.YthgfjbafhjkhnaaGreat.Zq
section
/- Sets of numbers, as maps to ones. -/
structure TyM (E : Env) (t : TypeId) : Prop where
  w : ∃ ti kt et tk te, E.ty t = some ti ∧ ti.k = .map kt et ∧ E.ty kt = some tk ∧ tk.k = .int .i64 ∧ E.ty et = some te ∧ ofCells te.k te.zero = some (.int .i64 0)
def SetM (H : Heap) (m : Nat) (S : List Int) : Prop := ∃ es ck, H[m]? = some (.map es ck) ∧ es.map (fun e => (e.key, e.val)) = S.map fun s => (Value.int .i64 s, Value.int .i64 1)
theorem SetM.frs {H H' : Heap} {m : Nat} {S : List Int} {B : List Nat} (h : SetM H m S) (f : Frs B H H') (hm : m ∉ B) : SetM H' m S := by
  obtain ⟨es, ck, h1, h2⟩ := h; exact ⟨es, ck, f.get hm h1, h2⟩
theorem SetM.lt {H : Heap} {m : Nat} {S : List Int} (h : SetM H m S) : m < H.length := by obtain ⟨es, ck, h1, _⟩ := h; exact get_lt h1
theorem SetM.new (H : Heap) : SetM (H ++ [.map [] 0]) H.length [] := ⟨[], 0, by simp, rfl⟩
theorem findK_s (x : Int) : ∀ (S : List Int) (es : List MapEntry) (i : Nat), es.map (fun e => (e.key, e.val)) = S.map (fun s => (Value.int .i64 s, Value.int .i64 1)) → findK (.int .i64 x) es i = some (if x ∈ S then some (i + S.idxOf x, .int .i64 1) else none)
  | [], es, i, h => by
    have : es = [] := by simpa using h
    subst this; rfl
  | s :: S, es, i, h => by
    cases es with
    | nil => simp at h
    | cons e es =>
      simp only [List.map_cons, List.cons.injEq, Prod.mk.injEq] at h
      obtain ⟨⟨h1, h2⟩, h3⟩ := h
      simp only [findK, h1, h2, sameKey, if_true]
      by_cases e : x = s
      · subst e; simp
      · have e' : (x == s) = false := by simpa using e
        rw [e']
        simp only
        rw [findK_s x S es (i + 1) h3]
        by_cases hm : x ∈ S
        · rw [if_pos hm, if_pos (by simp [hm])]
          have : (s :: S).idxOf x = S.idxOf x + 1 := by
            have e2 : (s == x) = false := by simpa using Ne.symm e
            rw [List.idxOf_cons, e2]; rfl
          rw [this]; congr 3; omega
        · rw [if_neg hm, if_neg (by simp [hm, e])]
theorem lookup_s {E : Env} {t : TypeId} (ty : TyM E t) {H : Heap} {m : Nat} {S : List Int} (h : SetM H m S) (x : Int) : aLookup E t (.map (some m)) (.int .i64 x) false H = some (.int .i64 (if x ∈ S then 1 else 0)) := by
  obtain ⟨ti, kt, et, tk, te, e1, e2, e3, e4, e5, e6⟩ := ty.w
  obtain ⟨es, ck, h1, h2⟩ := h
  unfold aLookup
  simp only [e1, e2, e3, e5, Option.bind_some, entriesOf, h1, e4, keyOk, if_true, findK_s x S es 0 h2, e6]
  by_cases hm : x ∈ S
  · simp [hm]
  · simp [hm]
theorem update_new {E : Env} {t : TypeId} (ty : TyM E t) {H : Heap} {m : Nat} {S : List Int} (h : SetM H m S) {x : Int} (hx : x ∉ S) {k : Heap → Prop} (hk : ∀ H', SetM H' m (S ++ [x]) → Frs [m] H H' → H'.length = H.length → k H') : GENH (aMapUpdate E t (.map (some m)) (.int .i64 x) (.int .i64 1) H) k := by
  obtain ⟨ti, kt, et, tk, te, e1, e2, e3, e4, e5, e6⟩ := ty.w
  obtain ⟨es, ck, h1, h2⟩ := h
  have hlt := get_lt h1
  refine ⟨H.set m (.map (es ++ [{ key := .int .i64 x, val := .int .i64 1, born := ck }]) (ck + 1)), ?_, hk _ ⟨_, _, set_get hlt, by simp [h2]⟩ (Frs.set _ _ (by simp)) (by simp)⟩
  unfold aMapUpdate
  simp only [h1, e1, e2, e3, Option.bind_some, e4, keyOk, if_true, findK_s x S es 0 h2, if_neg hx]
theorem findK_mod (x : Int) (v v' : Value) : ∀ (es : List MapEntry) (i j : Nat), findK (.int .i64 x) es i = some (some (i + j, v)) → findK (.int .i64 x) (es.modify j fun e => { e with key := .int .i64 x, val := v' }) i = some (some (i + j, v'))
  | [], i, j, h => by simp [findK] at h
  | e :: es, i, j, h => by
    simp only [findK] at h
    cases hs : sameKey (.int .i64 x) e.key with
    | none => rw [hs] at h; simp at h
    | some b =>
      rw [hs] at h
      cases b with
      | true =>
        simp only [Option.some.injEq, Prod.mk.injEq] at h
        have : j = 0 := by omega
        subst this
        simp [findK, sameKey]
      | false =>
        simp only at h
        cases j with
        | zero =>
          exfalso
          have : ∀ (es : List MapEntry) (i : Nat) (q : Nat) (u : Value), findK (.int .i64 x) es i = some (some (q, u)) → i ≤ q := by
            intro es
            induction es with
            | nil => intro i q u h; simp [findK] at h
            | cons e r ih =>
              intro i q u h
              simp only [findK] at h
              split at h
              · simp at h; omega
              · have := ih (i + 1) q u h; omega
              · cases h
          have := this es (i + 1) (i + 0) v h
          omega
        | succ j =>
          have ih := findK_mod x v v' es (i + 1) j (by rw [h]; congr 3; omega)
          simp only [List.modify_succ_cons, findK, hs]
          rw [ih]; congr 3; omega
theorem update_dup {E : Env} {t : TypeId} (ty : TyM E t) {H : Heap} {m : Nat} {S : List Int} (h : SetM H m S) {x : Int} (hx : x ∈ S) {y : Int} {k : Heap → Prop} (hk : ∀ H', (∀ B H'', Frs B H' H'' → m ∉ B → aLookup E t (.map (some m)) (.int .i64 x) false H'' = some (.int .i64 y)) → Frs [m] H H' → H'.length = H.length → k H') : GENH (aMapUpdate E t (.map (some m)) (.int .i64 x) (.int .i64 y) H) k := by
  obtain ⟨ti, kt, et, tk, te, e1, e2, e3, e4, e5, e6⟩ := ty.w
  obtain ⟨es, ck, h1, h2⟩ := h
  have hlt := get_lt h1
  have hf := findK_s x S es 0 h2
  rw [if_pos hx] at hf
  refine ⟨H.set m (.map (es.modify (0 + S.idxOf x) fun e => { e with key := .int .i64 x, val := .int .i64 y }) ck), ?_, hk _ (fun B H'' f hB => ?_) (Frs.set _ _ (by simp)) (by simp)⟩
  · unfold aMapUpdate
    simp only [h1, e1, e2, e3, Option.bind_some, e4, keyOk, if_true, hf]
  · have h3 := f.get hB (set_get (x := ABlk.map (es.modify (0 + S.idxOf x) fun e => { e with key := .int .i64 x, val := .int .i64 y }) ck) hlt)
    have hm := findK_mod x _ (.int .i64 y) es 0 (S.idxOf x) hf
    rw [Nat.zero_add] at h3
    unfold aLookup
    simp only [e1, e2, e3, e5, Option.bind_some, entriesOf, h3, e4, keyOk, if_true, hm, e6]
    rfl
theorem len_s {E : Env} {t : TypeId} (ty : TyM E t) {H : Heap} {m : Nat} {S : List Int} (h : SetM H m S) : aLen E t (.map (some m)) H = some (.int .i64 S.length) := by
  obtain ⟨ti, kt, et, tk, te, e1, e2, e3, e4, e5, e6⟩ := ty.w
  obtain ⟨es, ck, h1, h2⟩ := h
  unfold aLen
  simp only [e1, e2, Option.bind_some, h1]
  have := congrArg List.length h2
  simp at this
  rw [this]
end

section
/- Slices whose rows may be longer than they may: cut, appended to. -/
def bl (B : Option Addr) : List Nat := match B with | some a => [a.block] | none => []
theorem bl_off {s : Sl} {C : List Nat} (hC : ∀ d ∈ bl s.p, d ∉ C) : s.off C := fun b hb e => hC b (by rw [e]; simp [bl]) hb

/-- A slice that is owned; its row is r. -/
def OwJ (T : Tag) (H : Heap) (s : Sl) (l : List T.α) : Prop :=
  s.len = l.length ∧ s.len ≤ s.cap ∧ s.cap ≤ 9223372036854775807 ∧ (s.p = none ∧ l = [] ∧ s.cap = 0 ∨ ∃ c r, s.p = some ⟨c, 0, none⟩ ∧ H[c]? = some (.row (fl T r) T.n false false true) ∧ s.cap ≤ r.length ∧ r.take s.len = l)
theorem Ow.j {T : Tag} {H : Heap} {s : Sl} {l sp : List T.α} (h : Ow T H s l sp) : OwJ T H s l := by
  obtain ⟨h1, h2, h0, ⟨h3, h4, h5⟩ | ⟨c, h4, h5⟩⟩ := h
  · subst h4; subst h5; exact ⟨h1, by omega, h0, .inl ⟨h3, rfl, by simpa using h2⟩⟩
  · exact ⟨h1, by omega, h0, .inr ⟨c, l ++ sp, h4, h5, by simp [h2], by rw [h1]; simp⟩⟩
theorem OwJ.nil (T : Tag) (H : Heap) : OwJ T H ⟨none, 0, 0⟩ [] := (Ow.nil T H).j
theorem OwJ.slf {T : Tag} {H : Heap} {s : Sl} {l : List T.α} (h : OwJ T H s l) : SlF T H s l := by
  obtain ⟨h1, _, _, ⟨h3, h4, h5⟩ | ⟨c, r, h3, h4, _, h6⟩⟩ := h
  · exact ⟨h1, .inl ⟨h3, h4, h5⟩⟩
  · refine ⟨h1, .inr (.inr ⟨c, [], fl T (r.drop s.len), T.n, false, false, h3, ?_⟩)⟩
    rw [h4, ← h6, List.nil_append, ← fl_app, List.take_append_drop]
theorem OwJ.frs {T : Tag} {H H' : Heap} {s : Sl} {l : List T.α} {B : List Nat} (h : OwJ T H s l) (f : Frs B H H') (o : ∀ d ∈ bl s.p, d ∉ B) : OwJ T H' s l := by
  obtain ⟨h1, h2, h0, h3 | ⟨c, r, h4, h5, h6⟩⟩ := h
  · exact ⟨h1, h2, h0, .inl h3⟩
  · exact ⟨h1, h2, h0, .inr ⟨c, r, h4, f.get (o c (by rw [h4]; simp [bl])) h5, h6⟩⟩
theorem OwJ.lt {T : Tag} {H : Heap} {s : Sl} {l : List T.α} (h : OwJ T H s l) : ∀ d ∈ bl s.p, d < H.length := by
  obtain ⟨_, _, _, ⟨h3, _⟩ | ⟨c, r, h4, h5, _⟩⟩ := h
  · rw [h3]; simp [bl]
  · rw [h4]; simp [bl]; exact get_lt h5
theorem OwJ.ptr {T : Tag} {H : Heap} {s : Sl} {l : List T.α} (h : OwJ T H s l) : s.p = none ∨ ∃ c, s.p = some ⟨c, 0, none⟩ ∧ bl s.p = [c] := by
  obtain ⟨_, _, _, ⟨h3, _⟩ | ⟨c, r, h4, h5, _⟩⟩ := h
  · exact .inl h3
  · exact .inr ⟨c, h4, by rw [h4]; rfl⟩
/-- The head, no more may be. -/
theorem OwJ.cut3 {E : Env} {T : Tag} {ts : TypeId} {z : T.α} (ty : TyS E T ts z) {H : Heap} {s : Sl} {l : List T.α} (h : OwJ T H s l) {i : Int} {n : Nat} (hi : i = n) (hn : n < l.length) {k : Sl → Prop} (hk : OwJ T H ⟨s.p, n, n⟩ (l.take n) → k ⟨s.p, n, n⟩) : GENV T_sl (aSlice E ts s.v none (some (.int .i64 i)) (some (.int .i64 i)) H) k := by
  obtain ⟨⟨ti, e, te, e1, e2, e3, e4, e5, e6, e7⟩, hn0, hT, hone⟩ := ty
  subst hi
  obtain ⟨p, m, c⟩ := s
  obtain ⟨g1, g2, g0, ⟨g3, g4, g5⟩ | ⟨d, r, g3, g4, g5, g6⟩⟩ := h
  · subst g4; simp at hn
  · simp only at g1 g2 g3 g5 g6 g0; subst g3
    refine ⟨⟨some ⟨d, 0, none⟩, n, n⟩, ?_, hk ⟨by simp; omega, Nat.le_refl _, by simp only; omega, .inr ⟨d, r, rfl, g4, by simp only; omega, by simp only; rw [← g6, List.take_take, Nat.min_eq_left (by omega)]⟩⟩⟩
    unfold aSlice
    simp only [e1, e2, e3, Option.bind_some, Sl.v, natOf, Option.isSome_some, Option.isNone_some, Bool.and_false, Bool.false_eq_true, if_false, true_or, if_true]
    rw [if_pos (by omega)]
    simp only [Option.bind_some, Int.toNat_natCast]
    rw [if_pos (by omega)]
    simp [Tag.enc, encC]
/-- What is behind. -/
theorem OwJ.drop {E : Env} {T : Tag} {ts : TypeId} {z : T.α} (ty : TyS E T ts z) {H : Heap} {s : Sl} {l : List T.α} (h : OwJ T H s l) {i : Int} {n : Nat} (hi : i = n) (hn : n ≤ l.length) (hp : s.p ≠ none) {k : Sl → Prop} (hk : ∀ s', SlF T H s' (l.drop n) → k s') : GENV T_sl (aSlice E ts s.v (some (.int .i64 i)) none none H) k := by
  obtain ⟨⟨ti, e, te, e1, e2, e3, e4, e5, e6, e7⟩, hn0, hT, hone⟩ := ty
  subst hi
  obtain ⟨p, m, c⟩ := s
  obtain ⟨g1, g2, g0, ⟨g3, g4, g5⟩ | ⟨d, r, g3, g4, g5, g6⟩⟩ := h
  · exact absurd g3 hp
  · simp only at g1 g2 g3 g5 g6 g0; subst g3
    refine ⟨⟨some ⟨d, if c = n then 0 else 0 + n * te.size, none⟩, m - n, c - n⟩, ?_, hk _ ⟨by simp; omega, ?_⟩⟩
    · unfold aSlice
      have hex : Zq.exact H d 0 c = true := by unfold Zq.exact; rw [g4]; rfl
      simp only [e1, e2, e3, Option.bind_some, Sl.v, natOf, Option.isSome_none, Bool.false_and, Bool.false_eq_true, if_false, hex, or_true, if_true]
      rw [if_pos (by omega)]
      simp only [Option.bind_some, Int.toNat_natCast]
      rw [if_pos (by omega)]
      simp [Tag.enc, encC]
    · refine .inr (.inr ?_)
      by_cases ec : c = n
      · have : l.drop n = [] := by rw [List.drop_eq_nil_iff]; omega
        exact ⟨d, [], fl T r, T.n, false, false, by simp [ec], by rw [g4, this]; rfl⟩
      · refine ⟨d, fl T (r.take n), fl T (r.drop m), T.n, false, false, ?_, ?_⟩
        · simp only [if_neg ec, fl_len hT, List.length_take, e4, Nat.zero_add]
          rw [Nat.min_eq_left (by omega)]
        · have : r = r.take n ++ (l.drop n ++ r.drop m) := by
            rw [← g6]
            conv => lhs; rw [← List.take_append_drop n r]
            congr 1
            rw [← List.take_append_drop m r, List.take_append_drop]
            conv => lhs; rw [← List.take_append_drop m r]
            rw [List.drop_append_of_le_length (by simp; omega)]
          rw [g4]
          conv => lhs; rw [this]
          rw [fl_app, fl_app]

theorem appJ_c {E : Env} {T : Tag} {ts tx : TypeId} {z : T.α} (ty : TyS E T ts z) {tj : TI} (h2 : E.ty tx = some tj) (h4 : ∀ k, tj.k ≠ .int k)
    {H : Heap} {s : Sl} {l : List T.α} (xs : List T.α) {m : Nat} (hm : m = xs.length) {cs : List Value} (hcs : cs = fl T xs) (hbig : 2 * (l.length + xs.length) * 4096 ≤ 281474976710656) (h : OwJ T H s l) {k : Sl → Heap → Prop}
    (hk : ∀ s' H', OwJ T H' s' (l ++ xs) → (s'.p = s.p ∨ s'.p = some ⟨H.length, 0, none⟩ ∧ H.length < H'.length) → After s H H' → k s' H') : APP T_sl (lenV s.v + m) (aAppE E [ts, tx] s.v m cs H) k := by
  have tyS := ty
  obtain ⟨⟨ti, e, te, e1, e2, e3, e4, e5, e6, e7⟩, hn, hT, hone⟩ := ty
  subst hm; subst hcs
  have h' := h
  obtain ⟨p, n, c⟩ := s
  obtain ⟨g1, gc, g0, g3⟩ := h
  simp only at g1 gc g0 g3; subst g1
  rcases g3 with ⟨rfl, rfl, rfl⟩ | ⟨d, r, rfl, hc, hcr, hrl⟩
  · exact app_c (l := []) tyS h2 h4 xs rfl rfl (by simpa using hbig) (Ow.nil T H) fun s' H' sp' k1 k2 k3 => hk s' H' (by simpa using k1.j) k2 k3
  have hxl : (fl T xs).length = xs.length * T.n := fl_len hT xs
  have hb2 : 2 * (l.length + xs.length) * te.bytes ≤ 281474976710656 := Nat.le_trans (Nat.mul_le_mul_left _ e6) hbig
  have hne : te.size ≠ 0 := by omega
  intro x hx
  have hcap : l.length + xs.length + x ≤ 9223372036854775807 := by
    rcases hx with rfl | hx
    · omega
    · exact hx
  have grow : ∀ old : List Value, old = fl T l → growE E [ts, tx] l.length xs.length old (fl T xs) H x = some (.slice (some ⟨H.length, 0, none⟩) (l.length + xs.length) (l.length + xs.length + x), mk H (fl T (l ++ xs ++ List.replicate x z)) T.n false) := by
    rintro old rfl
    have hol := fl_len hT l
    have : growE E [ts, tx] l.length xs.length (fl T l) (fl T xs) H x = (if te.size = 0 ∨ (fl T xs).length ≠ xs.length * te.size ∨ (fl T l).length ≠ l.length * te.size then none
          else if 2 * (l.length + xs.length) * te.bytes ≤ 281474976710656 ∧ te.bytes ≠ 0 then some (.slice (some ⟨H.length, 0, none⟩) (l.length + xs.length) (l.length + xs.length + x), mk H (fl T l ++ fl T xs ++ rep x te.zero) te.size false) else none) := by
      unfold growE
      simp only [e1, h2, e2, e3]
    rw [this, e4, if_neg (by omega), if_pos ⟨hb2, e5⟩, e7, rep_fl, fl_app, fl_app]
  have done : k ⟨some ⟨H.length, 0, none⟩, l.length + xs.length, l.length + xs.length + x⟩ (mk H (fl T (l ++ xs ++ List.replicate x z)) T.n false) := by
    refine hk _ _ ⟨by simp, by simp, hcap, .inr ⟨H.length, l ++ xs ++ List.replicate x z, rfl, ?_, by simp; omega, ?_⟩⟩ (.inr ⟨rfl, by simp [mk]⟩) ⟨by simp [mk], fun d hd _ => by simp [mk, List.getElem?_append_left hd]⟩
    · simp [mk]
    · rw [List.take_left' (by simp)]
  have apx : ∀ (s2 : Value), aAppX E [ts, tx] s2 xs.length (fl T xs) H = (if te.size = 0 ∨ (fl T xs).length ≠ xs.length * te.size then none else
        match s2 with
        | .slice none 0 0 =>
          if xs.length = 0 then some (.slice none 0 0, H)
          else if 2 * xs.length * te.bytes ≤ 281474976710656 ∧ te.bytes ≠ 0 ∧ (fl T xs).all cell1 = true then some (.slice (some ⟨H.length, 0, none⟩) xs.length xs.length, mk H (fl T xs) te.size true) else none
        | .slice (some ⟨b, off, none⟩) len cap =>
          if xs.length = 0 then (if len ≤ cap then some (s2, H) else none)
          else if len + xs.length ≤ cap then (wr H b (off + len * te.size) (fl T xs)).bind fun H' => some (.slice (some ⟨b, off, none⟩) (len + xs.length) cap, H')
          else if 2 * (len + xs.length) * te.bytes ≤ 281474976710656 ∧ te.bytes ≠ 0 ∧ (fl T xs).all cell1 = true then
            (rd H b off (len * te.size)).bind fun old =>
              if exact H b off cap then
                some (.slice (some ⟨H.length, 0, none⟩) (len + xs.length) (len + xs.length), mk H (old ++ fl T xs) te.size true)
              else
                match H[b]? with
                | some (.row _ sz _ false true) => if sz = te.size then some (.slice (some ⟨H.length, 0, none⟩) (len + xs.length) (len + xs.length), mk (kill H b) (old ++ fl T xs) te.size true) else none
                | _ => none
          else none
        | .slice (some ⟨b, off, some 0⟩) 0 0 => if xs.length = 0 then some (.slice (some ⟨b, off, some 0⟩) 0 0, H) else none
        | _ => none) := fun s2 => by
    unfold aAppX
    simp only [e1, h2, e2, e3, Option.bind_some]
    rfl
  have hif : ¬ (te.size = 0 ∨ (fl T xs).length ≠ xs.length * te.size) := by rw [e4]; omega
  have hlt := get_lt hc
  have hex : Zq.exact H d 0 c = true := by unfold Zq.exact; rw [hc]; rfl
  have hrn : l.length ≤ r.length := Nat.le_trans gc hcr
  by_cases hroom : xs.length ≠ 0 ∧ c < l.length + xs.length
  · have v0 : aAppE E [ts, tx] (.slice (some ⟨d, 0, none⟩) l.length c) xs.length (fl T xs) H x = some (.slice (some ⟨H.length, 0, none⟩) (l.length + xs.length) (l.length + xs.length + x), mk H (fl T (l ++ xs ++ List.replicate x z)) T.n false) := by
      unfold aAppE
      simp only
      rw [if_pos ⟨hroom.1, hroom.2, hex⟩]
      have helt : eltE E [ts, tx] = T.n := by simp [eltE, e1, e2, e3, e4]
      have hrd : Zq.rd H d 0 (l.length * eltE E [ts, tx]) = some (fl T l) := by
        unfold Zq.rd
        rw [hc, helt]
        simp only
        rw [if_pos (by rw [fl_len hT, Nat.zero_add]; exact Nat.mul_le_mul_right _ hrn), List.drop_zero, fl_take hT, hrl]
      rw [hrd]
      exact grow _ rfl
    exact ⟨⟨some ⟨H.length, 0, none⟩, l.length + xs.length, l.length + xs.length + x⟩, _, v0, done⟩
  · by_cases hx0 : xs = []
    · subst hx0
      have v0 : aAppE E [ts, tx] (.slice (some ⟨d, 0, none⟩) l.length c) ([] : List T.α).length (fl T []) H x = some (.slice (some ⟨d, 0, none⟩) l.length c, H) := by
        unfold aAppE
        simp only
        rw [if_neg (fun q => hroom ⟨q.1, q.2.1⟩), apx, if_neg hif]
        simp [gc]
      exact ⟨⟨some ⟨d, 0, none⟩, l.length, c⟩, H, v0, hk _ _ (by simpa using h') (.inl rfl) (After.refl _ _)⟩
    · have hxl0 : xs.length ≠ 0 := by simpa using hx0
      have hsp : l.length + xs.length ≤ c := by omega
      have hw : wr H d (0 + l.length * te.size) (fl T xs) = some (H.set d (.row (fl T (r.take l.length ++ xs ++ r.drop (l.length + xs.length))) T.n false false true)) := by
        unfold wr
        rw [hc]
        simp only
        have hsz : (fl T r).length = r.length * T.n := by rw [fl_len hT]
        rw [if_pos (by rw [hsz, hxl, e4, Nat.zero_add, ← Nat.add_mul]; exact Nat.mul_le_mul_right _ (by omega)), if_pos (fl_one hone xs)]
        congr 3
        unfold patch
        rw [hxl, e4, Nat.zero_add, ← Nat.add_mul, fl_take hT, fl_drop hT, fl_app, fl_app]
      have v0 : aAppE E [ts, tx] (.slice (some ⟨d, 0, none⟩) l.length c) xs.length (fl T xs) H x = some (.slice (some ⟨d, 0, none⟩) (l.length + xs.length) c, H.set d (.row (fl T (r.take l.length ++ xs ++ r.drop (l.length + xs.length))) T.n false false true)) := by
        unfold aAppE
        simp only
        rw [if_neg (fun q => hroom ⟨q.1, q.2.1⟩), apx, if_neg hif]
        simp only
        rw [if_neg hxl0, if_pos (by omega), hw]
        rfl
      refine ⟨⟨some ⟨d, 0, none⟩, l.length + xs.length, c⟩, _, v0, hk _ _ ⟨by simp, hsp, g0, .inr ⟨d, r.take l.length ++ xs ++ r.drop (l.length + xs.length), rfl, by rw [set_get hlt], ?_, ?_⟩⟩ (.inl rfl) ⟨by simp, fun d' _ hd => by rw [List.getElem?_set_ne (by rintro rfl; exact hd rfl)]⟩⟩
      · simp; omega
      · rw [List.take_left' (by simp; omega), hrl]

/-- The head of what is owned, cut off. -/
theorem slice_toO {E : Env} {T : Tag} {ts : TypeId} {z : T.α} (ty : TyS E T ts z) {H : Heap} {s : Sl} {l sp : List T.α} (h : Ow T H s l sp) {i : Int} {n : Nat} (hi : i = n) (hn : n ≤ l.length) {k : Sl → Prop} (hk : k ⟨s.p, n, s.cap⟩) : GENV T_sl (aSlice E ts s.v none (some (.int .i64 i)) none H) k := by
  obtain ⟨⟨ti, e, te, e1, e2, e3, e4, e5, e6, e7⟩, hn0, hT, hone⟩ := ty
  subst hi
  refine ⟨⟨s.p, n, s.cap⟩, ?_, hk⟩
  obtain ⟨p, m, c⟩ := s
  obtain ⟨g1, g2, g0, ⟨g3, g4, g5⟩ | ⟨d, g3, g4⟩⟩ := h
  · simp only at g1 g2 g3; subst g3; subst g4; subst g5; subst g1; subst g2
    have : n = 0 := by simpa using hn
    subst this
    unfold aSlice
    simp only [e1, e2, e3, Option.bind_some, Sl.v, List.length_nil]
    rfl
  · simp only at g1 g2 g3; subst g3
    unfold aSlice
    have hex : Zq.exact H d 0 c = true := by unfold Zq.exact; rw [g4]; rfl
    simp only [e1, e2, e3, Option.bind_some, Sl.v, natOf, Option.isSome_none, Bool.false_and, Bool.false_eq_true, if_false, hex, or_true, if_true]
    rw [if_pos (by omega)]
    simp only [Option.bind_some]
    rw [if_pos (by omega)]
    simp [Tag.enc, encC]
/-- A store into what is owned. -/
theorem Ow.st {T : Tag} (hT : ∀ x, (T.cells x).length = T.n) (hone : ∀ x, (T.cells x).all cell1 = true) {H : Heap} {s : Sl} {l sp : List T.α} (h : Ow T H s l sp) {i : Int} {k : Nat} (hi : i = k) (hk : k < l.length) (x : T.α) {sz : Nat} (hz : sz = T.n) {K : Heap → Prop}
    (hK : ∀ H', Ow T H' s (l.set k x) sp → After s H H' → H'.length = H.length → K H') : IDX s.p s.len i sz fun b o => ST H b o (T.cells x) K := by
  obtain ⟨h1, h2, h0, ⟨_, h3, _⟩ | ⟨c, h3, h4⟩⟩ := h
  · rw [h3] at hk; simp at hk
  · have hlt := get_lt h4
    unfold IDX NIL
    rw [h3]
    subst hi
    refine ⟨⟨by omega, by omega⟩, ?_⟩
    have hcut := fl_cut l k l[k] (List.getElem?_eq_getElem hk)
    refine ST_of (fl T (l.take k)) (T.cells l[k]) (fl T (l.drop (k + 1)) ++ fl T sp) h4 (by rw [fl_app, hcut]; simp [List.append_assoc]) (by rw [fl_len hT, List.length_take, Nat.min_eq_left (by omega), hz]; simp) (by rw [hT, hT]) (hone x) ?_
    refine hK _ ⟨by simpa using h1, by simpa using h2, h0, .inr ⟨c, h3, ?_⟩⟩ ⟨by simp, fun d _ hd => by rw [List.getElem?_set_ne (by rintro rfl; exact hd h3)]⟩ (by simp)
    rw [set_get hlt, fl_app, List.set_eq_take_append_cons_drop, if_pos hk]
    simp [fl]

/-- append(s, x...) -/
theorem appsJ_c {E : Env} {T : Tag} {ts tx : TypeId} {z : T.α} (ty : TyS E T ts z) {tj : TI} (h2 : E.ty tx = some tj) (h4 : ∀ k, tj.k ≠ .int k)
    {H : Heap} {s x : Sl} {l xs : List T.α} (hx : SlF T H x xs) (hbig : 2 * (l.length + xs.length) * 4096 ≤ 281474976710656) (h : OwJ T H s l) {k : Sl → Heap → Prop}
    (hk : ∀ s' H', OwJ T H' s' (l ++ xs) → (s'.p = s.p ∨ s'.p = some ⟨H.length, 0, none⟩ ∧ H.length < H'.length) → After s H H' → k s' H') : APP T_sl (lenV s.v + (lenX x.v).getD 0) (aAppendE E [ts, tx] s.v x.v H) k := by
  have hx1 : x.len = xs.length := hx.1
  have hfo : firstOf x.v x.len T.n H = some (fl T xs) := by
    obtain ⟨p, n, c⟩ := x
    obtain ⟨_, ⟨h3, h5, h6⟩ | ⟨b, off, h3, h5, h6⟩ | ⟨b, A, B, sz, o, ro, h3, h5⟩⟩ := hx
    · simp only at h3 h6 hx1; subst h3; subst h5; subst h6; subst hx1; simp [firstOf, Sl.v, fl]
    · simp only at h3 h6 hx1; subst h3; subst h5; subst h6; subst hx1; simp [firstOf, Sl.v, fl]
    · simp only at h3 hx1; subst h3; subst hx1
      simp only [firstOf, Sl.v]
      unfold Zq.rd
      rw [h5]
      simp only
      rw [if_pos (by simp [fl_len ty.len]), List.drop_left, List.take_left' (by rw [fl_len ty.len])]
  have := appJ_c (E := E) (tx := tx) ty h2 h4 (m := x.len) xs hx1 rfl hbig h hk
  intro y hy
  have h3 := this y (by simpa [lenX, Sl.v] using hy)
  obtain ⟨⟨ti, e, te, e1, e2, e3, e4, e5, e6, e7⟩, hn, hT, hone⟩ := ty
  have e8 : aAppendE E [ts, tx] s.v x.v H y = aAppE E [ts, tx] s.v x.len (fl T xs) H y := by
    unfold aAppendE
    simp only [e1, e2, e3, e4]
    have : lenX x.v = some x.len := rfl
    rw [this]
    simp only [hfo]
  rw [e8]
  exact h3
end
end Go.Proofs.YthgfjbafhjkhnaaGreat.Zq
