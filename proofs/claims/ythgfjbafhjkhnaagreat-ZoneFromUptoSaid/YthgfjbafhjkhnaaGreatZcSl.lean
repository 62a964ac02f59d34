/- Slices that are owned, with what lies behind them: making, appending, cutting. -/
import Derived.Test.YthgfjbafhjkhnaaGreatZwHeap
namespace Go.Proofs.YthgfjbafhjkhnaaGreat.Zq

/-- Nothing but these blocks is another. -/
def Frs (B : List Nat) (H H' : Heap) : Prop := H.length ≤ H'.length ∧ ∀ c, c < H.length → c ∉ B → H'[c]? = H[c]?
theorem Frs.refl (B : List Nat) (H : Heap) : Frs B H H := ⟨Nat.le_refl _, fun _ _ _ => rfl⟩
theorem Frs.trans {B : List Nat} {H H' H'' : Heap} (h : Frs B H H') (k : Frs B H' H'') : Frs B H H'' :=
  ⟨Nat.le_trans h.1 k.1, fun c hc hb => by rw [k.2 c (Nat.lt_of_lt_of_le hc h.1) hb, h.2 c hc hb]⟩
/-- What is new may be turned at will. -/
theorem Frs.then {B C : List Nat} {H H' H'' : Heap} (h : Frs B H H') (k : Frs C H' H'') (hC : ∀ c ∈ C, c ∈ B ∨ H.length ≤ c) : Frs B H H'' :=
  ⟨Nat.le_trans h.1 k.1, fun c hc hb => by rw [k.2 c (Nat.lt_of_lt_of_le hc h.1) (fun hm => by rcases hC c hm with q | q; exact hb q; omega), h.2 c hc hb]⟩
theorem Frs.mono {B C : List Nat} {H H' : Heap} (h : Frs B H H') (hB : ∀ c ∈ B, c ∈ C) : Frs C H H' := ⟨h.1, fun c hc hb => h.2 c hc fun q => hb (hB c q)⟩
theorem Frs.get {B : List Nat} {H H' : Heap} (h : Frs B H H') {c : Nat} {x : ABlk} (hb : c ∉ B) (hx : H[c]? = some x) : H'[c]? = some x := by rw [h.2 c (get_lt hx) hb, hx]
theorem Frs.app (B : List Nat) (H K : Heap) : Frs B H (H ++ K) := ⟨by simp, fun c hc _ => List.getElem?_append_left hc⟩
theorem Frs.set {B : List Nat} {b : Nat} (H : Heap) (x : ABlk) (hb : b ∈ B) : Frs B H (H.set b x) := ⟨by simp, fun c _ hc => by rw [List.getElem?_set_ne (by rintro rfl; exact hc hb)]⟩
theorem Fr.frs {b : Nat} {H H' : Heap} (h : Fr b H H') : Frs [b] H H' := ⟨h.1, fun c hc hb => h.2 c hc (by simpa using hb)⟩
theorem Frs.fr {b : Nat} {H H' : Heap} (h : Frs [b] H H') : Fr b H H' := ⟨h.1, fun c hc hb => h.2 c hc (by simpa using hb)⟩
theorem Frs.lift {B : List Nat} {b : Nat} {H H' : Heap} (h : Frs B H H') (hb : ∀ c ∈ B, c = b ∨ H.length ≤ c) : Fr b H H' :=
  ⟨h.1, fun c hc hne => h.2 c hc fun q => by rcases hb c q with e | e; exact hne e; omega⟩

def Sl.off (s : Sl) (B : List Nat) : Prop := ∀ b ∈ B, s.p ≠ some ⟨b, 0, none⟩
theorem SlR.frs {T : Tag} {H H' : Heap} {s : Sl} {l : List T.α} {B : List Nat} (h : SlR T H s l) (f : Frs B H H') (o : s.off B) : SlR T H' s l := by
  obtain ⟨h1, h2 | ⟨c, D, sz, op, ro, h3, h4⟩⟩ := h
  · exact ⟨h1, .inl h2⟩
  · exact ⟨h1, .inr ⟨c, D, sz, op, ro, h3, f.get (fun q => o c q h3) h4⟩⟩

/-- A slice that is owned: l, with room sp behind it. -/
def Ow (T : Tag) (H : Heap) (s : Sl) (l sp : List T.α) : Prop :=
  s.len = l.length ∧ s.cap = l.length + sp.length ∧ s.cap ≤ 9223372036854775807 ∧ (s.p = none ∧ l = [] ∧ sp = [] ∨ ∃ c, s.p = some ⟨c, 0, none⟩ ∧ H[c]? = some (.row (fl T (l ++ sp)) T.n false false true))
theorem Ow.nil (T : Tag) (H : Heap) : Ow T H ⟨none, 0, 0⟩ [] [] := ⟨rfl, rfl, by simp, .inl ⟨rfl, rfl, rfl⟩⟩
theorem Ow.rd {T : Tag} {H : Heap} {s : Sl} {l sp : List T.α} (h : Ow T H s l sp) : SlR T H s l := by
  obtain ⟨h1, _, _, ⟨_, h3, _⟩ | ⟨c, h4, h5⟩⟩ := h
  · exact ⟨h1, .inl h3⟩
  · exact ⟨h1, .inr ⟨c, fl T sp, T.n, false, false, h4, by rw [h5, fl_app]⟩⟩
theorem Ow.frs {T : Tag} {H H' : Heap} {s : Sl} {l sp : List T.α} {B : List Nat} (h : Ow T H s l sp) (f : Frs B H H') (o : s.off B) : Ow T H' s l sp := by
  obtain ⟨h1, h2, h0, h3 | ⟨c, h4, h5⟩⟩ := h
  · exact ⟨h1, h2, h0, .inl h3⟩
  · exact ⟨h1, h2, h0, .inr ⟨c, h4, f.get (fun q => o c q h4) h5⟩⟩
theorem Ow.lt {T : Tag} {H : Heap} {s : Sl} {l sp : List T.α} (h : Ow T H s l sp) {c : Nat} (hc : s.p = some ⟨c, 0, none⟩) : c < H.length := by
  obtain ⟨_, _, _, ⟨h3, _⟩ | ⟨c', h4, h5⟩⟩ := h
  · rw [h3] at hc; cases hc
  · rw [h4] at hc; simp at hc; subst hc; exact get_lt h5

/-- What is known of the types of a slice and its elements. -/
structure TyS (E : Env) (T : Tag) (ts : TypeId) (z : T.α) : Prop where
  w : ∃ ti e te, E.ty ts = some ti ∧ ti.k = .slice e ∧ E.ty e = some te ∧ te.size = T.n ∧ te.bytes ≠ 0 ∧ te.bytes ≤ 4096 ∧ te.zero = T.cells z
  n : 0 < T.n
  len : ∀ x, (T.cells x).length = T.n
  one : ∀ x, (T.cells x).all cell1 = true

theorem fl_one {T : Tag} (h1 : ∀ x, (T.cells x).all cell1 = true) : ∀ l : List T.α, (fl T l).all cell1 = true
  | [] => rfl
  | x :: r => by
    have := fl_one h1 r
    simp only [fl, List.flatMap_cons, List.all_append, Bool.and_eq_true]
    exact ⟨h1 x, this⟩
theorem rep_fl {T : Tag} (z : T.α) : ∀ n : Nat, rep n (T.cells z) = fl T (List.replicate n z)
  | 0 => rfl
  | n + 1 => by
    have := rep_fl z n
    simp only [rep, this, List.replicate_succ, fl, List.flatMap_cons]
theorem fl_take {T : Tag} (hT : ∀ x, (T.cells x).length = T.n) (l : List T.α) (m : Nat) : (fl T l).take (m * T.n) = fl T (l.take m) := by
  by_cases h : m ≤ l.length
  · conv => lhs; rw [← List.take_append_drop m l, fl_app]
    rw [List.take_left' (by rw [fl_len hT]; simp [Nat.min_eq_left h])]
  · rw [List.take_of_length_le (by rw [fl_len hT]; exact Nat.mul_le_mul_right _ (by omega)), List.take_of_length_le (by omega)]
theorem fl_drop {T : Tag} (hT : ∀ x, (T.cells x).length = T.n) (l : List T.α) (m : Nat) : (fl T l).drop (m * T.n) = fl T (l.drop m) := by
  by_cases h : m ≤ l.length
  · conv => lhs; rw [← List.take_append_drop m l, fl_app]
    rw [List.drop_left' (by rw [fl_len hT]; simp [Nat.min_eq_left h])]
  · rw [List.drop_of_length_le (by rw [fl_len hT]; exact Nat.mul_le_mul_right _ (by omega)), List.drop_of_length_le (by omega)]; rfl

/-- What is new or was in the slice's own block may be another. -/
def After (s : Sl) (H H' : Heap) : Prop := H.length ≤ H'.length ∧ ∀ d, d < H.length → s.p ≠ some ⟨d, 0, none⟩ → H'[d]? = H[d]?
theorem After.refl (s : Sl) (H : Heap) : After s H H := ⟨Nat.le_refl _, fun _ _ _ => rfl⟩
theorem After.frs {s : Sl} {H H' : Heap} {B : List Nat} (h : After s H H') (hb : ∀ d, s.p = some ⟨d, 0, none⟩ → d ∈ B ∨ H.length ≤ d) : Frs B H H' :=
  ⟨h.1, fun c hc hn => h.2 c hc fun e => by rcases hb c e with q | q; exact hn q; omega⟩

theorem app_c {E : Env} {T : Tag} {ts tx : TypeId} {z : T.α} (ty : TyS E T ts z) {tj : TI} (h2 : E.ty tx = some tj) (h4 : ∀ k, tj.k ≠ .int k)
    {H : Heap} {s : Sl} {l sp : List T.α} (xs : List T.α) {m : Nat} (hm : m = xs.length) {cs : List Value} (hcs : cs = fl T xs) (hbig : 2 * (l.length + xs.length) * 4096 ≤ 281474976710656) (h : Ow T H s l sp) {k : Sl → Heap → Prop}
    (hk : ∀ s' H' sp', Ow T H' s' (l ++ xs) sp' → (s'.p = s.p ∨ s'.p = some ⟨H.length, 0, none⟩ ∧ H.length < H'.length) → After s H H' → k s' H') : APP T_sl (lenV s.v + m) (aAppE E [ts, tx] s.v m cs H) k := by
  obtain ⟨⟨ti, e, te, e1, e2, e3, e4, e5, e6, e7⟩, hn, hT, hone⟩ := ty
  subst hm; subst hcs
  obtain ⟨p, n, c⟩ := s
  obtain ⟨g1, g2, g0, g3⟩ := h
  simp only at g1 g2 g0 g3; subst g1; subst g2
  have hxl : (fl T xs).length = xs.length * T.n := fl_len hT xs
  have hb2 : 2 * (l.length + xs.length) * te.bytes ≤ 281474976710656 := Nat.le_trans (Nat.mul_le_mul_left _ e6) hbig
  have hne : te.size ≠ 0 := by omega
  intro x hx
  have hcap : l.length + xs.length + x ≤ 9223372036854775807 := by
    rcases hx with rfl | hx
    · omega
    · exact hx
  have grow : ∀ old : List Value, old = fl T l → growE E [ts, tx] l.length xs.length old (fl T xs) H x = some (.slice (some ⟨H.length, 0, none⟩) (l.length + xs.length) (l.length + xs.length + x), mk H (fl T (l ++ xs ++ List.replicate x z)) T.n false) := by
    rintro old rfl
    have hol := fl_len hT l
    have : growE E [ts, tx] l.length xs.length (fl T l) (fl T xs) H x = (if te.size = 0 ∨ (fl T xs).length ≠ xs.length * te.size ∨ (fl T l).length ≠ l.length * te.size then none
          else if 2 * (l.length + xs.length) * te.bytes ≤ 281474976710656 ∧ te.bytes ≠ 0 then some (.slice (some ⟨H.length, 0, none⟩) (l.length + xs.length) (l.length + xs.length + x), mk H (fl T l ++ fl T xs ++ rep x te.zero) te.size false) else none) := by
      unfold growE
      simp only [e1, h2, e2, e3]
    rw [this, e4, if_neg (by omega), if_pos ⟨hb2, e5⟩, e7, rep_fl, fl_app, fl_app]
  have done : k ⟨some ⟨H.length, 0, none⟩, l.length + xs.length, l.length + xs.length + x⟩ (mk H (fl T (l ++ xs ++ List.replicate x z)) T.n false) := by
    refine hk _ _ (List.replicate x z) ⟨by simp, by simp, hcap, .inr ⟨H.length, rfl, ?_⟩⟩ (.inr ⟨rfl, by simp [mk]⟩) ⟨by simp [mk], fun d hd _ => by simp [mk, List.getElem?_append_left hd]⟩
    simp [mk]
  have apx : ∀ (s2 : Value), aAppX E [ts, tx] s2 xs.length (fl T xs) H = (if te.size = 0 ∨ (fl T xs).length ≠ xs.length * te.size then none else
        match s2 with
        | .slice none 0 0 =>
          if xs.length = 0 then some (.slice none 0 0, H)
          else if 2 * xs.length * te.bytes ≤ 281474976710656 ∧ te.bytes ≠ 0 ∧ (fl T xs).all cell1 = true then some (.slice (some ⟨H.length, 0, none⟩) xs.length xs.length, mk H (fl T xs) te.size true) else none
        | .slice (some ⟨b, off, none⟩) len cap =>
          if xs.length = 0 then (if len ≤ cap then some (s2, H) else none)
          else if len + xs.length ≤ cap then (wr H b (off + len * te.size) (fl T xs)).bind fun H' => some (.slice (some ⟨b, off, none⟩) (len + xs.length) cap, H')
          else if 2 * (len + xs.length) * te.bytes ≤ 281474976710656 ∧ te.bytes ≠ 0 ∧ (fl T xs).all cell1 = true then
            (rd H b off (len * te.size)).bind fun old =>
              if exact H b off cap then
                some (.slice (some ⟨H.length, 0, none⟩) (len + xs.length) (len + xs.length), mk H (old ++ fl T xs) te.size true)
              else
                match H[b]? with
                | some (.row _ sz _ false true) => if sz = te.size then some (.slice (some ⟨H.length, 0, none⟩) (len + xs.length) (len + xs.length), mk (kill H b) (old ++ fl T xs) te.size true) else none
                | _ => none
          else none
        | .slice (some ⟨b, off, some 0⟩) 0 0 => if xs.length = 0 then some (.slice (some ⟨b, off, some 0⟩) 0 0, H) else none
        | _ => none) := fun s2 => by
    unfold aAppX
    simp only [e1, h2, e2, e3, Option.bind_some]
    rfl
  have hif : ¬ (te.size = 0 ∨ (fl T xs).length ≠ xs.length * te.size) := by rw [e4]; omega
  rcases g3 with ⟨rfl, rfl, rfl⟩ | ⟨c, rfl, hc⟩
  · by_cases hx0 : xs = []
    · subst hx0
      have v0 : aAppE E [ts, tx] (.slice none 0 0) ([] : List T.α).length (fl T []) H x = some (.slice none 0 0, H) := by
        unfold aAppE
        simp only [List.length_nil, if_true]
        have := apx (.slice none 0 0)
        simp only [List.length_nil] at this
        rw [this, if_neg (by simpa using hif)]
        rfl
      exact ⟨⟨none, 0, 0⟩, H, v0, hk _ _ [] (Ow.nil T H) (.inl rfl) (After.refl _ _)⟩
    · have v0 : aAppE E [ts, tx] (.slice none 0 0) xs.length (fl T xs) H x = some (.slice (some ⟨H.length, 0, none⟩) (([] : List T.α).length + xs.length) (([] : List T.α).length + xs.length + x), mk H (fl T ([] ++ xs ++ List.replicate x z)) T.n false) := by
        unfold aAppE
        simp only
        rw [if_neg (by simpa using hx0)]
        exact grow [] rfl
      exact ⟨⟨some ⟨H.length, 0, none⟩, ([] : List T.α).length + xs.length, ([] : List T.α).length + xs.length + x⟩, _, v0, done⟩
  · have hlt := get_lt hc
    have hex : Zq.exact H c 0 (l.length + sp.length) = true := by unfold Zq.exact; rw [hc]; rfl
    by_cases hroom : xs.length ≠ 0 ∧ l.length + sp.length < l.length + xs.length
    · have v0 : aAppE E [ts, tx] (.slice (some ⟨c, 0, none⟩) l.length (l.length + sp.length)) xs.length (fl T xs) H x = some (.slice (some ⟨H.length, 0, none⟩) (l.length + xs.length) (l.length + xs.length + x), mk H (fl T (l ++ xs ++ List.replicate x z)) T.n false) := by
        unfold aAppE
        simp only
        rw [if_pos ⟨hroom.1, hroom.2, hex⟩]
        have helt : eltE E [ts, tx] = T.n := by simp [eltE, e1, e2, e3, e4]
        have hrd : Zq.rd H c 0 (l.length * eltE E [ts, tx]) = some (fl T l) := by
          unfold Zq.rd
          rw [hc, helt]
          simp only
          rw [if_pos (by rw [fl_len hT, Nat.zero_add]; exact Nat.mul_le_mul_right _ (by simp)), List.drop_zero, fl_take hT, List.take_left]
        rw [hrd]
        exact grow _ rfl
      exact ⟨⟨some ⟨H.length, 0, none⟩, l.length + xs.length, l.length + xs.length + x⟩, _, v0, done⟩
    · by_cases hx0 : xs = []
      · subst hx0
        have v0 : aAppE E [ts, tx] (.slice (some ⟨c, 0, none⟩) l.length (l.length + sp.length)) ([] : List T.α).length (fl T []) H x = some (.slice (some ⟨c, 0, none⟩) l.length (l.length + sp.length), H) := by
          unfold aAppE
          simp only
          rw [if_neg (fun q => hroom ⟨q.1, q.2.1⟩), apx, if_neg hif]
          simp
        exact ⟨⟨some ⟨c, 0, none⟩, l.length, l.length + sp.length⟩, H, v0, hk _ _ sp ⟨by simp, by simp, g0, .inr ⟨c, rfl, by simpa using hc⟩⟩ (.inl rfl) (After.refl _ _)⟩
      · have hxl0 : xs.length ≠ 0 := by simpa using hx0
        have hsp : xs.length ≤ sp.length := by omega
        have hw : wr H c (0 + l.length * te.size) (fl T xs) = some (H.set c (.row (fl T (l ++ xs ++ sp.drop xs.length)) T.n false false true)) := by
          unfold wr
          rw [hc]
          simp only
          have hsz : (fl T (l ++ sp)).length = (l.length + sp.length) * T.n := by rw [fl_len hT]; simp
          rw [if_pos (by rw [hsz, hxl, e4, Nat.zero_add, ← Nat.add_mul]; exact Nat.mul_le_mul_right _ (by omega)), if_pos (fl_one hone xs)]
          congr 3
          unfold patch
          rw [hxl, e4, Nat.zero_add, ← Nat.add_mul, fl_take hT, fl_drop hT, List.take_left, fl_app, fl_app]
          congr 2
          rw [← List.drop_drop, List.drop_left]
        have v0 : aAppE E [ts, tx] (.slice (some ⟨c, 0, none⟩) l.length (l.length + sp.length)) xs.length (fl T xs) H x = some (.slice (some ⟨c, 0, none⟩) (l.length + xs.length) (l.length + sp.length), H.set c (.row (fl T (l ++ xs ++ sp.drop xs.length)) T.n false false true)) := by
          unfold aAppE
          simp only
          rw [if_neg (fun q => hroom ⟨q.1, q.2.1⟩), apx, if_neg hif]
          simp only
          rw [if_neg hxl0, if_pos (by omega), hw]
          rfl
        exact ⟨⟨some ⟨c, 0, none⟩, l.length + xs.length, l.length + sp.length⟩, _, v0, hk _ _ (sp.drop xs.length) ⟨by simp, by simp; omega, g0, .inr ⟨c, rfl, by rw [set_get hlt]⟩⟩ (.inl rfl) ⟨by simp, fun d _ hd => by rw [List.getElem?_set_ne (by rintro rfl; exact hd rfl)]⟩⟩

/-- A slice that may be read, wherever it begins. -/
def SlF (T : Tag) (H : Heap) (s : Sl) (l : List T.α) : Prop :=
  s.len = l.length ∧ ((s.p = none ∧ l = [] ∧ s.cap = 0) ∨ (∃ b off, s.p = some ⟨b, off, some 0⟩ ∧ l = [] ∧ s.cap = 0) ∨ ∃ b A B sz o ro, s.p = some ⟨b, A.length, none⟩ ∧ H[b]? = some (.row (A ++ (fl T l ++ B)) sz o ro true))
theorem SlF.frs {T : Tag} {H H' : Heap} {s : Sl} {l : List T.α} {B : List Nat} (h : SlF T H s l) (f : Frs B H H') (o : ∀ b ∈ B, ∀ off, s.p ≠ some ⟨b, off, none⟩) : SlF T H' s l := by
  obtain ⟨h1, h2 | h2 | ⟨c, A, D, sz, op, ro, h3, h4⟩⟩ := h
  · exact ⟨h1, .inl h2⟩
  · exact ⟨h1, .inr (.inl h2)⟩
  · exact ⟨h1, .inr (.inr ⟨c, A, D, sz, op, ro, h3, f.get (fun q => o c q _ h3) h4⟩)⟩
theorem Ow.slf {T : Tag} {H : Heap} {s : Sl} {l sp : List T.α} (h : Ow T H s l sp) : SlF T H s l := by
  obtain ⟨h1, h2, _, ⟨h3, h4, h5⟩ | ⟨c, h4, h5⟩⟩ := h
  · subst h4; subst h5; exact ⟨h1, .inl ⟨h3, rfl, by simpa using h2⟩⟩
  · exact ⟨h1, .inr (.inr ⟨c, [], fl T sp, T.n, false, false, h4, by rw [h5, fl_app]; rfl⟩)⟩
/-- The head of what is owned, as a slice. -/
theorem Ow.pre {T : Tag} {H : Heap} {s : Sl} {l sp : List T.α} (h : Ow T H s l sp) (n c : Nat) (hn : n ≤ l.length) (hc : s.p = none → c = 0) : SlF T H ⟨s.p, n, c⟩ (l.take n) := by
  obtain ⟨h1, h2, _, ⟨h3, h4, h5⟩ | ⟨d, h4, h5⟩⟩ := h
  · subst h4; subst h5; exact ⟨by simp at hn; simpa using hn, .inl ⟨h3, by simp, hc h3⟩⟩
  · exact ⟨by simp; omega, .inr (.inr ⟨d, [], fl T (l.drop n ++ sp), T.n, false, false, h4, by rw [h5, ← fl_app, ← List.append_assoc, List.take_append_drop]; rfl⟩)⟩
theorem idx_ldF {T : Tag} (hT : ∀ x, (T.cells x).length = T.n) {H : Heap} {s : Sl} {l : List T.α} (h : SlF T H s l) {i : Int} {n : Nat} {x : T.α} (hi : i = n) (hx : l[n]? = some x) {k : T.α → Prop} {sz : Nat} (hz : sz = T.n) (hk : k x) : IDX s.p s.len i sz fun b o => LD T H b o k := by
  have hl := (List.getElem?_eq_some_iff.1 hx).1
  obtain ⟨h1, ⟨_, h2, _⟩ | ⟨_, _, _, h2, _⟩ | ⟨b, A, B, z, o, ro, h3, h4⟩⟩ := h
  · subst h2; simp at hl
  · subst h2; simp at hl
  · unfold IDX NIL
    rw [h3]
    refine ⟨⟨by omega, by omega⟩, ?_⟩
    refine LD_of x (A ++ fl T (l.take n)) (fl T (l.drop (n + 1)) ++ B) h4 ?_ ?_ (hT x) hk
    · rw [fl_cut l n x hx]; simp [List.append_assoc]
    · rw [List.length_append, fl_len hT, hi, hz, List.length_take, Nat.min_eq_left (by omega)]; simp
/-- append(s, x...) -/
theorem apps_c {E : Env} {T : Tag} {ts tx : TypeId} {z : T.α} (ty : TyS E T ts z) {tj : TI} (h2 : E.ty tx = some tj) (h4 : ∀ k, tj.k ≠ .int k)
    {H : Heap} {s x : Sl} {l sp xs : List T.α} (hx : SlF T H x xs) (hbig : 2 * (l.length + xs.length) * 4096 ≤ 281474976710656) (h : Ow T H s l sp) {k : Sl → Heap → Prop}
    (hk : ∀ s' H' sp', Ow T H' s' (l ++ xs) sp' → (s'.p = s.p ∨ s'.p = some ⟨H.length, 0, none⟩ ∧ H.length < H'.length) → After s H H' → k s' H') : APP T_sl (lenV s.v + (lenX x.v).getD 0) (aAppendE E [ts, tx] s.v x.v H) k := by
  have hx1 : x.len = xs.length := hx.1
  have hfo : firstOf x.v x.len T.n H = some (fl T xs) := by
    obtain ⟨p, n, c⟩ := x
    obtain ⟨_, ⟨h3, h5, h6⟩ | ⟨b, off, h3, h5, h6⟩ | ⟨b, A, B, sz, o, ro, h3, h5⟩⟩ := hx
    · simp only at h3 h6 hx1; subst h3; subst h5; subst h6; subst hx1; simp [firstOf, Sl.v, fl]
    · simp only at h3 h6 hx1; subst h3; subst h5; subst h6; subst hx1; simp [firstOf, Sl.v, fl]
    · simp only at h3 hx1; subst h3; subst hx1
      simp only [firstOf, Sl.v]
      unfold Zq.rd
      rw [h5]
      simp only
      rw [if_pos (by simp [fl_len ty.len]), List.drop_left, List.take_left' (by rw [fl_len ty.len])]
  have := app_c (E := E) (tx := tx) ty h2 h4 (m := x.len) xs hx1 rfl hbig h hk
  intro y hy
  have h3 := this y (by simpa [lenX, Sl.v] using hy)
  obtain ⟨⟨ti, e, te, e1, e2, e3, e4, e5, e6, e7⟩, hn, hT, hone⟩ := ty
  have e8 : aAppendE E [ts, tx] s.v x.v H y = aAppE E [ts, tx] s.v x.len (fl T xs) H y := by
    unfold aAppendE
    simp only [e1, e2, e3, e4]
    have : lenX x.v = some x.len := rfl
    rw [this]
    simp only [hfo]
  rw [e8]
  exact h3
/-! ### The kit's functions on lists, of whatever elements -/
section
variable {E : Env} {T : Tag} {ts tx : TypeId} {z : T.α}

/-- A new list in memory of its own. -/
def NewO (T : Tag) (H : Heap) (s' : Sl) (H' : Heap) (l sp : List T.α) : Prop := Ow T H' s' l sp ∧ (∀ d, s'.p = some ⟨d, 0, none⟩ → H.length ≤ d) ∧ Frs [] H H'

theorem own_frs {H0 H H' : Heap} {s : Sl} {l sp : List T.α} (h : Ow T H s l sp) (hp : ∀ d, s.p = some ⟨d, 0, none⟩ → H0.length ≤ d) (f : Frs [] H0 H) (a : After s H H') : Frs [] H0 H' := by
  obtain ⟨_, _, _, ⟨q, _⟩ | ⟨c, q, _⟩⟩ := h
  · exact f.trans (a.frs fun d hd => by rw [q] at hd; cases hd)
  · exact f.then (a.frs (B := [c]) fun d hd => by rw [q] at hd; simp at hd; exact .inl (by simp [hd])) (fun d hd => by simp at hd; subst hd; exact .inr (hp _ q))
theorem NewO.app {H H1 : Heap} {s : Sl} {l sp : List T.α} (h : NewO T H s H1 l sp) {H2 : Heap} {s2 : Sl} {l2 sp2 : List T.α} (k1 : Ow T H2 s2 l2 sp2) (k2 : s2.p = s.p ∨ s2.p = some ⟨H1.length, 0, none⟩ ∧ H1.length < H2.length) (k3 : After s H1 H2) : NewO T H s2 H2 l2 sp2 := by
  obtain ⟨h1, h2, h3⟩ := h
  refine ⟨k1, fun d hd => ?_, own_frs h1 h2 h3 k3⟩
  rcases k2 with k2 | ⟨k2, _⟩
  · exact h2 d (by rw [← k2, hd])
  · rw [k2] at hd; simp at hd; subst hd; exact h3.1

theorem copy_g (ty : TyS E T ts z) {tj : TI} (h2 : E.ty tx = some tj) (h4 : ∀ k, tj.k ≠ .int k) {H : Heap} {a : Sl} {l : List T.α} (ha : SlF T H a l) (hl : l.length ≤ 1048600) {k : Sl → Heap → Prop}
    (hk : ∀ s' H' sp, NewO T H s' H' l sp → k s' H') : APP T_sl (lenV (Sl.mk none 0 0).v + (lenX a.v).getD 0) (aAppendE E [ts, tx] (Sl.mk none 0 0).v a.v H) k := by
  refine apps_c ty h2 h4 ha (by simp only [List.length_nil]; omega) (Ow.nil T H) fun s' H' sp h1 h2 h3 => hk s' H' sp ?_
  have h0 : NewO T H ⟨none, 0, 0⟩ H [] [] := ⟨Ow.nil T H, by simp, .refl _ _⟩
  exact h0.app (by simpa only [List.nil_append] using h1) h2 h3

theorem make_c (ty : TyS E T ts z) {H : Heap} {a b : Int} {n m : Nat} (ha : a = n) (hb : b = m) (hnm : n ≤ m) (hm : m ≤ 2000000) {k : Sl → Heap → Prop}
    (hk : ∀ s', s' = ⟨some ⟨H.length, 0, none⟩, n, m⟩ → NewO T H s' (mk H (fl T (List.replicate m z)) T.n false) (List.replicate n z) (List.replicate (m - n) z) → k s' (mk H (fl T (List.replicate m z)) T.n false)) :
    GEN T_sl (aMakeSlice E ts (.int .i64 a) (.int .i64 b) H) k := by
  obtain ⟨⟨ti, e, te, e1, e2, e3, e4, e5, e6, e7⟩, hn, hT, hone⟩ := ty
  subst ha; subst hb
  have hmk : aMakeSlice E ts (.int .i64 (n : Int)) (.int .i64 (m : Int)) H = some (.slice (some ⟨H.length, 0, none⟩) n m, mk H (fl T (List.replicate m z)) T.n false) := by
    unfold aMakeSlice
    simp only [e1, e2, e3, Option.bind_some]
    have : (te.bytes : Int) * m ≤ 281474976710656 := by
      have : te.bytes * m ≤ 4096 * 2000000 := Nat.mul_le_mul e6 hm
      have h2 : ((te.bytes * m : Nat) : Int) ≤ 281474976710656 := by omega
      simpa using h2
    rw [if_pos ⟨by omega, by omega, this, by omega⟩, e7, rep_fl, e4]
    rfl
  refine ⟨⟨some ⟨H.length, 0, none⟩, n, m⟩, _, hmk, hk _ rfl ⟨⟨by simp, by simp; omega, by simp; omega, .inr ⟨_, rfl, ?_⟩⟩, by simp, Frs.app [] _ _⟩⟩
  rw [List.replicate_append_replicate, show n + (m - n) = m by omega]
  simp [mk]

theorem lent_g (ty : TyS E T ts z) {tj : TI} (h2 : E.ty tx = some tj) (h4 : ∀ k, tj.k ≠ .int k) {H : Heap} {a : Sl} {l : List T.α} (ha : SlF T H a l) (hl : l.length ≤ 1048600) (ws : List T.α) (hw : ws.length = 2) {cs : List Value} (hcs : cs = fl T ws) {k : Sl → Heap → Prop}
    (hk : ∀ s' H' sp, NewO T H s' H' (l ++ ws) sp → (∃ d, s'.p = some ⟨d, 0, none⟩) → k s' H') :
    GEN T_sl (aMakeSlice E ts (.int .i64 0) (.int .i64 (IntKind.wrap .i64 ((a.len : Int) + 2))) H) fun (x1 : Sl) H1 => APP T_sl (lenV x1.v + (lenX a.v).getD 0) (aAppendE E [ts, tx] x1.v a.v H1) fun (x2 : Sl) H2 => APP T_sl (lenV x2.v + 2) (aAppE E [ts, tx] x2.v 2 cs H2) k := by
  have ha1 : a.len = l.length := ha.1
  rw [i64w (by omega) (by omega)]
  refine make_c (n := 0) (m := l.length + 2) ty rfl (by omega) (Nat.zero_le _) (by omega) fun s0 e0 n0 => ?_
  simp only [List.replicate_zero] at n0
  refine apps_c ty h2 h4 (ha.frs n0.2.2 (by simp)) (by simp only [List.length_nil]; omega) n0.1 fun s1 H1 sp1 h1 h2' h3 => ?_
  rw [List.nil_append] at h1
  have n1 := n0.app h1 h2' h3
  refine app_c ty h2 h4 (m := 2) ws hw.symm hcs (by omega) h1 fun s2 H2 sp2 k1 k2 k3 => ?_
  refine hk s2 H2 sp2 (n1.app k1 k2 k3) ?_
  obtain ⟨_, _, _, ⟨q, e, _⟩ | ⟨d, q, _⟩⟩ := k1
  · have := congrArg List.length e; rw [List.length_append, hw, List.length_nil] at this; omega
  · exact ⟨d, q⟩

/-- Two lists, held against each other. -/
theorem same_g (hT : ∀ x, (T.cells x).length = T.n) {ne : T.α → T.α → Bool} (hne : ∀ x y, ne x y = false ↔ x = y) {n : Nat} (hn : n = T.n) {H : Heap} {a b : Sl} {l m : List T.α} (ha : SlF T H a l) (hb : SlF T H b m) (hl : l.length ≤ 4611686018427387904) {Q : Bool × Unit → Heap → Prop}
    (hq : ∀ r : Bool, (r = true ↔ l = m) → Q (r, ()) H) :
    ifB ((a.len : Int) != (b.len : Int)) (Q (false, ()) H) (JOIN (fun (j1 : (Unit) × (Unit) → Heap → Prop) => LOOP (fun (r3 : (Int × Unit) × (Unit) → Heap → Prop) (s4 : (Int × Unit) × (Unit)) H2 =>
      ifB (decide (s4.1.1 < (a.len : Int))) (IDX a.p a.len s4.1.1 n fun b5 o6 => LD T H2 b5 o6 fun x7 => IDX b.p b.len s4.1.1 n fun b8 o9 => LD T H2 b8 o9 fun x10 => ifB (ne x7 x10) (Q (false, ()) H2) (r3 ((IntKind.wrap .i64 (s4.1.1 + 1), ()), (())) H2)) (j1 ((()), (())) H2)) ((0, ()), (())) H) fun (_ : (Unit) × (Unit)) H1 => Q (true, ()) H1) := by
  have ha1 : a.len = l.length := ha.1
  have hb1 : b.len = m.length := hb.1
  subst hn
  refine ifB_of (fun h => ?_) (fun h => ?_)
  · refine hq false ⟨fun h => (by cases h), fun e => ?_⟩
    subst e
    rw [ha1, hb1] at h
    simp at h
  · have hlm : l.length = m.length := by rw [ha1, hb1] at h; have : (l.length : Int) = m.length := by simpa using h
                                         omega
    refine JOIN_of ?_
    refine loop_of (fun (s : (Int × Unit) × Unit) H' => H' = H ∧ ∃ n : Nat, s.1.1 = n ∧ n ≤ l.length ∧ l.take n = m.take n) (fun s => l.length - s.1.1.toNat) ?_ ⟨rfl, 0, rfl, Nat.zero_le _, by simp⟩
    rintro G ⟨⟨i, _⟩, _⟩ H' ⟨rfl, n, hi, hn, heq⟩ hG
    simp only at hi; subst hi
    dsimp only at hG ⊢
    refine ifB_of (fun hlt => ?_) (fun hge => ?_)
    · have hlt : n < l.length := by have := of_decide_eq_true hlt; omega
      have hlt2 : n < m.length := by omega
      refine idx_ldF (T := T) hT ha rfl (List.getElem?_eq_getElem hlt) rfl ?_
      refine idx_ldF (T := T) hT hb rfl (List.getElem?_eq_getElem hlt2) rfl ?_
      refine ifB_of (fun h1 => ?_) (fun h1 => ?_)
      · refine hq false ⟨fun h => (by cases h), fun e => ?_⟩
        subst e
        have := (hne l[n] l[n]).2 rfl
        rw [this] at h1; cases h1
      · have he := (hne _ _).1 h1
        rw [i64w (by omega) (by omega)]
        refine hG _ _ ⟨rfl, n + 1, by simp, hlt, ?_⟩ (by simp; omega)
        rw [List.take_succ_eq_append_getElem hlt, List.take_succ_eq_append_getElem hlt2, heq, he]
    · have hge : l.length ≤ n := by have := of_decide_eq_false hge; omega
      refine hq true ⟨fun _ => ?_, fun _ => rfl⟩
      rw [List.take_of_length_le hge, List.take_of_length_le (by omega)] at heq
      exact heq

/-- A list is written over. -/
theorem over_g (hT : ∀ x, (T.cells x).length = T.n) (hone : ∀ x, (T.cells x).all cell1 = true) (o : T.α) {cs : List Value} (hcs : cs = T.cells o) {n : Nat} (hn : n = T.n) {H : Heap} {a : Sl} {l sp : List T.α} (ha : Ow T H a l sp) (hl : l.length ≤ 4611686018427387904) {Q : Heap → Prop}
    (hq : ∀ H', Ow T H' a (List.replicate l.length o) sp → After a H H' → Q H') :
    JOIN (fun (j1 : (Unit) × (Unit) → Heap → Prop) => LOOP (fun (r3 : (Int × Unit) × (Unit) → Heap → Prop) (s4 : (Int × Unit) × (Unit)) H2 => ifB (decide (s4.1.1 < (a.len : Int))) (IDX a.p a.len s4.1.1 n fun b5 o6 => ST H2 b5 o6 cs fun H3 => r3 ((IntKind.wrap .i64 (s4.1.1 + 1), ()), (())) H3) (j1 ((()), (())) H2)) ((0, ()), (())) H) fun (_ : (Unit) × (Unit)) H1 => Q H1 := by
  have ha1 : a.len = l.length := ha.1
  subst hn; subst hcs
  refine JOIN_of ?_
  refine loop_of (fun (s : (Int × Unit) × Unit) H' => ∃ n : Nat, s.1.1 = n ∧ n ≤ l.length ∧ Ow T H' a (List.replicate n o ++ l.drop n) sp ∧ After a H H') (fun s => l.length - s.1.1.toNat) ?_ ⟨0, rfl, Nat.zero_le _, by simpa using ha, After.refl _ _⟩
  rintro G ⟨⟨i, _⟩, _⟩ H' ⟨n, hi, hn, how, haf⟩ hG
  simp only at hi; subst hi
  dsimp only at hG ⊢
  refine ifB_of (fun hlt => ?_) (fun hge => ?_)
  · have hlt : n < l.length := by have := of_decide_eq_true hlt; omega
    obtain ⟨g1, g2, g3, ⟨_, g4, _⟩ | ⟨c, g4, g5⟩⟩ := how
    · have := congrArg List.length g4; simp at this; omega
    have hlt' := get_lt g5
    unfold IDX NIL
    rw [g4]
    refine ⟨⟨by omega, by omega⟩, ?_⟩
    refine ST_of (fl T (List.replicate n o)) (T.cells l[n]) (fl T (l.drop (n + 1) ++ sp)) g5 ?_ ?_ (by rw [hT, hT]) (hone o) ?_
    · rw [List.drop_eq_getElem_cons hlt]; simp only [fl, List.flatMap_append, List.flatMap_cons, List.append_assoc]
    · rw [fl_len hT]; simp
    · rw [i64w (by omega) (by omega)]
      refine hG _ _ ⟨n + 1, by simp, hlt, ⟨by simp; omega, by simp at g2 ⊢; omega, g3, .inr ⟨c, g4, ?_⟩⟩, ⟨by simpa using haf.1, fun d hd hne => ?_⟩⟩ (by simp; omega)
      · rw [set_get hlt', List.replicate_succ']
        simp [fl]
      · rw [List.getElem?_set_ne (by rintro rfl; exact hne g4)]
        exact haf.2 d hd hne
  · have hge : n = l.length := by have := of_decide_eq_false hge; omega
    subst hge
    exact hq H' (by simpa using how) haf
end
end Go.Proofs.YthgfjbafhjkhnaaGreat.Zq
