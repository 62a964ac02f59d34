/- Zones in memory: the program's and the document's. -/
import Derived.Test.YthgfjbafhjkhnaaGreatZcKitInts
import Derived.Test.YthgfjbafhjkhnaaGreatZcKitThings
import Derived.Test.YthgfjbafhjkhnaaGreatZcOwJ
import Derived.Test.YthgfjbafhjkhnaaGreatZcZoneP
import Derived.Test.YthgfjbafhjkhnaaGreatZS0
import Derived.Test.YthgfjbafhjkhnaaGreatZS1
namespace Go.Proofs.YthgfjbafhjkhnaaGreat.Zq
section
/- Zones in memory: the program's and the document's. -/
section
/- Zones in memory: the program's and the document's. -/
open Zv
abbrev TT : Tag := T_G_api_Thing
abbrev TN : Tag := T_int .i64
theorem hTT (x : Th) : (TT.cells x).length = TT.n := rfl
theorem hTN (x : Int) : (TN.cells x).length = TN.n := rfl
abbrev ad (b : Nat) : Value := .pointer (some ⟨b, 0, none⟩)

/-- Zones at b: e stands behind the program's fields. -/
structure ZR (e : List Value) (H : Heap) (b : Nat) (z : Zo) (st : Sl) (ss : Nat → Sl) : Prop where
  row : ∃ sz, H[b]? = some (.row (st.v :: (ss 0).v :: (ss 1).v :: (ss 2).v :: (ss 3).v :: .int .i64 z.n :: e) sz false false true)
  t : OwJ TT H st z.t
  l : ∀ q, q < 4 → OwJ TN H (ss q) (z.l q)
  b1 : b ∉ bl st.p
  b2 : ∀ q, q < 4 → b ∉ bl (ss q).p
  tq : ∀ q, q < 4 → ∀ d ∈ bl st.p, d ∉ bl (ss q).p
  qq : ∀ q r, q < 4 → r < 4 → q ≠ r → ∀ d ∈ bl (ss q).p, d ∉ bl (ss r).p

/-- The blocks of zones. -/
def fp (b : Nat) (st : Sl) (ss : Nat → Sl) : List Nat := b :: (bl st.p ++ (bl (ss 0).p ++ (bl (ss 1).p ++ (bl (ss 2).p ++ bl (ss 3).p))))
theorem lt4 {q : Nat} (h : q < 4) : q = 0 ∨ q = 1 ∨ q = 2 ∨ q = 3 := by omega
theorem mem_fp {b : Nat} {st : Sl} {ss : Nat → Sl} {d : Nat} : d ∈ fp b st ss ↔ d = b ∨ d ∈ bl st.p ∨ ∃ q, q < 4 ∧ d ∈ bl (ss q).p := by
  unfold fp
  simp only [List.mem_cons, List.mem_append]
  constructor
  · rintro (h | h | h | h | h | h)
    · exact .inl h
    · exact .inr (.inl h)
    · exact .inr (.inr ⟨0, by omega, h⟩)
    · exact .inr (.inr ⟨1, by omega, h⟩)
    · exact .inr (.inr ⟨2, by omega, h⟩)
    · exact .inr (.inr ⟨3, by omega, h⟩)
  · rintro (h | h | ⟨q, hq, h⟩)
    · exact .inl h
    · exact .inr (.inl h)
    · rcases lt4 hq with rfl | rfl | rfl | rfl
      · exact .inr (.inr (.inl h))
      · exact .inr (.inr (.inr (.inl h)))
      · exact .inr (.inr (.inr (.inr (.inl h))))
      · exact .inr (.inr (.inr (.inr (.inr h))))
section
variable {e : List Value} {H : Heap} {b : Nat} {z : Zo} {st : Sl} {ss : Nat → Sl}
theorem ZR.blt (h : ZR e H b z st ss) : b < H.length := by obtain ⟨sz, h1⟩ := h.row; exact get_lt h1
theorem ZR.lt (h : ZR e H b z st ss) : ∀ d ∈ fp b st ss, d < H.length := fun d hd => by
  rcases mem_fp.1 hd with rfl | hd | ⟨q, hq, hd⟩
  · exact h.blt
  · exact h.t.lt d hd
  · exact (h.l q hq).lt d hd
theorem ZR.frs {H' : Heap} {B : List Nat} (h : ZR e H b z st ss) (f : Frs B H H') (hB : ∀ d ∈ fp b st ss, d ∉ B) : ZR e H' b z st ss := by
  obtain ⟨⟨sz, h1⟩, h2, h3, h4, h5, h6, h7⟩ := h
  exact ⟨⟨sz, f.get (hB b (mem_fp.2 (.inl rfl))) h1⟩, h2.frs f fun d hd => hB d (mem_fp.2 (.inr (.inl hd))), fun q hq => (h3 q hq).frs f fun d hd => hB d (mem_fp.2 (.inr (.inr ⟨q, hq, hd⟩))), h4, h5, h6, h7⟩
theorem ZR.new {H' : Heap} (h : ZR e H b z st ss) (f : Frs [] H H') : ZR e H' b z st ss := h.frs f (by simp)

theorem ZR.ld_t (h : ZR e H b z st ss) {o : Nat} (ho : o = 0) {k : Sl → Prop} (hk : k st) : LD T_sl H b o k := by
  obtain ⟨sz, h1⟩ := h.row
  exact LD_of (T := T_sl) st [] _ h1 rfl ho rfl hk
theorem ZR.ld_n (h : ZR e H b z st ss) {o : Nat} (ho : o = 5) {k : Int → Prop} (hk : k z.n) : LD TN H b o k := by
  obtain ⟨sz, h1⟩ := h.row
  exact LD_of (T := TN) z.n [st.v, (ss 0).v, (ss 1).v, (ss 2).v, (ss 3).v] _ h1 rfl ho rfl hk
theorem ZR.ld_q (h : ZR e H b z st ss) {o q : Nat} (hq : q < 4) (ho : o = 1 + q) {k : Sl → Prop} (hk : k (ss q)) : LD T_sl H b o k := by
  obtain ⟨sz, h1⟩ := h.row
  rcases lt4 hq with rfl | rfl | rfl | rfl
  · exact LD_of (T := T_sl) (ss 0) [st.v] _ h1 rfl ho rfl hk
  · exact LD_of (T := T_sl) (ss 1) [st.v, (ss 0).v] _ h1 rfl ho rfl hk
  · exact LD_of (T := T_sl) (ss 2) [st.v, (ss 0).v, (ss 1).v] _ h1 rfl ho rfl hk
  · exact LD_of (T := T_sl) (ss 3) [st.v, (ss 0).v, (ss 1).v, (ss 2).v] _ h1 rfl ho rfl hk

theorem upd_same {α : Type} (l : Nat → α) (i : Nat) (x : α) : upd l i x i = x := by simp [upd]
theorem upd_ne {α : Type} (l : Nat → α) {i j : Nat} (x : α) (h : j ≠ i) : upd l i x j = l j := by simp [upd, h]

/-- A list is another. -/
theorem ZR.put_q (h : ZR e H b z st ss) {q : Nat} (hq : q < 4) {s' : Sl} {l' : List Int} {H1 : Heap} (k1 : OwJ TN H1 s' l') (mv : ∀ d ∈ bl s'.p, d ∈ bl (ss q).p ∨ H.length ≤ d) (fr : Frs (bl (ss q).p) H H1) {o : Nat} (ho : o = 1 + q) {K : Heap → Prop}
    (hK : ∀ H', ZR e H' b { z with l := upd z.l q l' } st (upd ss q s') → Frs (b :: bl (ss q).p) H H' → (∀ d ∈ fp b st (upd ss q s'), d ∈ fp b st ss ∨ H.length ≤ d) → K H') : ST H1 b o [.slice s'.p s'.len s'.cap] K := by
  obtain ⟨⟨sz, h1⟩, h2, h3, h4, h5, h6, h7⟩ := id h
  have hb1 : H1[b]? = some (.row (st.v :: (ss 0).v :: (ss 1).v :: (ss 2).v :: (ss 3).v :: .int .i64 z.n :: e) sz false false true) := fr.get (h5 q hq) h1
  have hlt := get_lt hb1
  have hbs : b ∉ bl s'.p := fun hm => by
    rcases mv b hm with q' | q'
    · exact h5 q hq q'
    · have := h.blt; omega
  have fin : ∀ H', H'[b]? = some (.row (st.v :: (upd ss q s' 0).v :: (upd ss q s' 1).v :: (upd ss q s' 2).v :: (upd ss q s' 3).v :: .int .i64 z.n :: e) sz false false true) → Frs [b] H1 H' → K H' := by
    intro H' hb' f'
    have hlo : ∀ {d B}, d ∈ bl B → (∀ d ∈ bl B, d < H.length) → d < H.length := fun hd hB => hB _ hd
    refine hK H' ⟨⟨sz, hb'⟩, (h2.frs fr (h6 q hq)).frs f' (fun d hd hm => ?_), fun r hr => ?_, h4, fun r hr => ?_, fun r hr d hd => ?_, fun r r' hr hr' hne d hd => ?_⟩ ((fr.mono (by simp +contextual)).trans (f'.mono (by simp))) fun d hd => ?_
    · simp at hm; subst hm; exact h4 hd
    · by_cases er : r = q
      · subst er
        simp only [upd_same]
        exact k1.frs f' fun d hd hm => by simp at hm; subst hm; exact hbs hd
      · simp only [upd_ne _ _ er]
        exact ((h3 r hr).frs fr (h7 r q hr hq er)).frs f' fun d hd hm => by simp at hm; subst hm; exact h5 r hr hd
    · by_cases er : r = q
      · subst er; simp only [upd_same]; exact hbs
      · simp only [upd_ne _ _ er]; exact h5 r hr
    · by_cases er : r = q
      · subst er; simp only [upd_same]
        intro hm
        rcases mv d hm with q' | q'
        · exact h6 r hr d hd q'
        · have := h2.lt d hd; omega
      · simp only [upd_ne _ _ er]; exact h6 r hr d hd
    · by_cases er : r = q
      · subst er
        have er' : r' ≠ r := Ne.symm hne
        simp only [upd_same, upd_ne _ _ er'] at hd ⊢
        intro hm
        rcases mv d hd with q' | q'
        · exact h7 r r' hr hr' hne d q' hm
        · have := (h3 r' hr').lt d hm; omega
      · simp only [upd_ne _ _ er] at hd
        by_cases er' : r' = q
        · subst er'; simp only [upd_same]
          intro hm
          rcases mv d hm with q' | q'
          · exact h7 r r' hr hr' hne d hd q'
          · have := (h3 r hr).lt d hd; omega
        · simp only [upd_ne _ _ er']; exact h7 r r' hr hr' hne d hd
    · rcases mem_fp.1 hd with rfl | hd | ⟨r, hr, hd⟩
      · exact .inl (mem_fp.2 (.inl rfl))
      · exact .inl (mem_fp.2 (.inr (.inl hd)))
      · by_cases er : r = q
        · subst er; simp only [upd_same] at hd
          rcases mv d hd with q' | q'
          · exact .inl (mem_fp.2 (.inr (.inr ⟨r, hr, q'⟩)))
          · exact .inr q'
        · simp only [upd_ne _ _ er] at hd; exact .inl (mem_fp.2 (.inr (.inr ⟨r, hr, hd⟩)))
  rcases lt4 hq with rfl | rfl | rfl | rfl
  · exact ST_of [st.v] [(ss 0).v] _ hb1 rfl ho rfl rfl (fin _ (by rw [set_get hlt]; rfl) (Frs.set _ _ (by simp)))
  · exact ST_of [st.v, (ss 0).v] [(ss 1).v] _ hb1 rfl ho rfl rfl (fin _ (by rw [set_get hlt]; rfl) (Frs.set _ _ (by simp)))
  · exact ST_of [st.v, (ss 0).v, (ss 1).v] [(ss 2).v] _ hb1 rfl ho rfl rfl (fin _ (by rw [set_get hlt]; rfl) (Frs.set _ _ (by simp)))
  · exact ST_of [st.v, (ss 0).v, (ss 1).v, (ss 2).v] [(ss 3).v] _ hb1 rfl ho rfl rfl (fin _ (by rw [set_get hlt]; rfl) (Frs.set _ _ (by simp)))

/-- The things are others. -/
theorem ZR.put_t (h : ZR e H b z st ss) {s' : Sl} {l' : List Th} {H1 : Heap} (k1 : OwJ TT H1 s' l') (mv : ∀ d ∈ bl s'.p, d ∈ bl st.p ∨ H.length ≤ d) (fr : Frs (bl st.p) H H1) {o : Nat} (ho : o = 0) {K : Heap → Prop}
    (hK : ∀ H', ZR e H' b { z with t := l' } s' ss → Frs (b :: bl st.p) H H' → (∀ d ∈ fp b s' ss, d ∈ fp b st ss ∨ H.length ≤ d) → K H') : ST H1 b o [.slice s'.p s'.len s'.cap] K := by
  obtain ⟨⟨sz, h1⟩, h2, h3, h4, h5, h6, h7⟩ := id h
  have hb1 : H1[b]? = some (.row (st.v :: (ss 0).v :: (ss 1).v :: (ss 2).v :: (ss 3).v :: .int .i64 z.n :: e) sz false false true) := fr.get h4 h1
  have hlt := get_lt hb1
  have hbs : b ∉ bl s'.p := fun hm => by
    rcases mv b hm with q' | q'
    · exact h4 q'
    · have := h.blt; omega
  refine ST_of [] [st.v] _ hb1 rfl ho rfl rfl ?_
  have f' : Frs [b] H1 (H1.set b (.row ([] ++ ([.slice s'.p s'.len s'.cap] ++ ((ss 0).v :: (ss 1).v :: (ss 2).v :: (ss 3).v :: .int .i64 z.n :: e))) sz false false true)) := Frs.set _ _ (by simp)
  refine hK _ ⟨⟨sz, by rw [set_get hlt]; rfl⟩, k1.frs f' (fun d hd hm => ?_), fun r hr => ?_, hbs, h5, fun r hr d hd hm => ?_, h7⟩ ((fr.mono (by simp +contextual)).trans (f'.mono (by simp))) fun d hd => ?_
  · simp at hm; subst hm; exact hbs hd
  · exact ((h3 r hr).frs fr (fun d hd hm => h6 r hr d hm hd)).frs f' fun d hd hm => by simp at hm; subst hm; exact h5 r hr hd
  · rcases mv d hd with q' | q'
    · exact h6 r hr d q' hm
    · have := (h3 r hr).lt d hm; omega
  · rcases mem_fp.1 hd with rfl | hd | ⟨r, hr, hd⟩
    · exact .inl (mem_fp.2 (.inl rfl))
    · rcases mv d hd with q' | q'
      · exact .inl (mem_fp.2 (.inr (.inl q')))
      · exact .inr q'
    · exact .inl (mem_fp.2 (.inr (.inr ⟨r, hr, hd⟩)))

/-- The next stamp is another. -/
theorem ZR.put_n (h : ZR e H b z st ss) {n : Int} {o : Nat} (ho : o = 5) {K : Heap → Prop}
    (hK : ∀ H', ZR e H' b { z with n := n } st ss → Frs [b] H H' → K H') : ST H b o [.int .i64 n] K := by
  obtain ⟨⟨sz, h1⟩, h2, h3, h4, h5, h6, h7⟩ := id h
  have hlt := get_lt h1
  refine ST_of [st.v, (ss 0).v, (ss 1).v, (ss 2).v, (ss 3).v] [.int .i64 z.n] _ h1 rfl ho rfl rfl ?_
  have f' : ∀ x, Frs [b] H (H.set b x) := fun x => Frs.set _ _ (by simp)
  exact hK _ ⟨⟨sz, by rw [set_get hlt]; rfl⟩, h2.frs (f' _) (fun d hd hm => by simp at hm; subst hm; exact h4 hd), fun q hq => (h3 q hq).frs (f' _) (fun d hd hm => by simp at hm; subst hm; exact h5 q hq hd), h4, h5, h6, h7⟩ (f' _)

theorem OwJ.at {s : Sl} {l : List Th} (h : OwJ TT H s l) {k : Nat} {th : Th} (hk : l[k]? = some th) : ∃ c A B, s.p = some ⟨c, 0, none⟩ ∧ A.length = k * 11 ∧ H[c]? = some (.row (A ++ (TT.cells th ++ B)) 11 false false true) ∧
    ∀ (th' : Th) (H' : Heap), H'[c]? = some (.row (A ++ (TT.cells th' ++ B)) 11 false false true) → OwJ TT H' s (l.set k th') := by
  have hkl := (List.getElem?_eq_some_iff.1 hk).1
  obtain ⟨g1, g2, g0, ⟨_, g3, _⟩ | ⟨c, r, g3, g4, g5, g6⟩⟩ := h
  · subst g3; simp at hkl
  · have hkr : k < r.length := by omega
    have hr : r[k]? = some th := by rw [← g6, List.getElem?_take] at hk; split at hk; exact hk; cases hk
    refine ⟨c, fl TT (r.take k), fl TT (r.drop (k + 1)), g3, by rw [fl_len hTT, List.length_take, Nat.min_eq_left (by omega)], by rw [← fl_cut r k th hr]; exact g4, fun th' H' h' => ?_⟩
    refine ⟨by simpa using g1, g2, g0, .inr ⟨c, r.set k th', g3, ?_, by simpa using g5, ?_⟩⟩
    · rw [h', fl_cut (r.set k th') k th' (by rw [List.getElem?_set_self hkr]), List.take_set_of_le (by omega), List.drop_set_of_lt (by omega)]
    · rw [List.take_set, g6]

/-- A thing, where it lies. -/
theorem ZR.at (h : ZR e H b z st ss) {k : Nat} {th : Th} (hk : z.t[k]? = some th) : ∃ c A B, st.p = some ⟨c, 0, none⟩ ∧ A.length = k * 11 ∧ H[c]? = some (.row (A ++ (TT.cells th ++ B)) 11 false false true) ∧
    ∀ (th' : Th) (H' : Heap), H'[c]? = some (.row (A ++ (TT.cells th' ++ B)) 11 false false true) → Frs [c] H H' → ZR e H' b { z with t := z.t.set k th' } st ss := by
  obtain ⟨c, A, B, h1, h2, h3, h4⟩ := h.t.at hk
  have hc : c ∈ bl st.p := by rw [h1]; simp [bl]
  refine ⟨c, A, B, h1, h2, h3, fun th' H' g f => ?_⟩
  obtain ⟨⟨sz, r1⟩, r2, r3, r4, r5, r6, r7⟩ := h
  refine ⟨⟨sz, f.get (fun hm => by simp at hm; subst hm; exact r4 hc) r1⟩, h4 th' H' g, fun q hq => (r3 q hq).frs f fun d hd hm => ?_, r4, r5, r6, r7⟩
  simp at hm; subst hm; exact r6 q hq d hc hd
theorem idx_of {s : Sl} {c : Nat} (hp : s.p = some ⟨c, 0, none⟩) {i : Int} {n : Nat} (hi : i = n) (hn : n < s.len) {sz : Nat} {K : Nat → Nat → Prop} (hk : K c (0 + n * sz)) : IDX s.p s.len i sz K := by
  unfold IDX NIL
  rw [hp]
  subst hi
  exact ⟨⟨by omega, by omega⟩, by simpa using hk⟩
/-- Reading a thing. -/
theorem ZR.ld_th (h : ZR e H b z st ss) {i : Int} {k : Nat} (hi : i = k) {th : Th} (hk : z.t[k]? = some th) {K : Th → Prop} (hK : K th) : IDX st.p st.len i 11 fun b o => LD TT H b o K := idx_ldF (T := TT) hTT h.t.slf hi hk rfl hK
theorem ZR.tl (h : ZR e H b z st ss) : st.len = z.t.length := h.t.1
theorem ZR.ql (h : ZR e H b z st ss) {q : Nat} (hq : q < 4) : (ss q).len = (z.l q).length := (h.l q hq).1
/-- Reading an owner. -/
theorem ld_own {c : Nat} {A B : List Value} {th : Th} {sz : Nat} {o ro : Bool} (h : H[c]? = some (.row (A ++ (TT.cells th ++ B)) sz o ro true)) {p : Nat} (hp : p = A.length + 1) {K : Int → Prop} (hK : K th.Owner) : LD TN H c p K :=
  LD_of (T := TN) th.Owner (A ++ [.int .i64 th.Card]) ((TT.cells th).drop 2 ++ B) h (by simp [List.append_assoc]) (by simp [hp]) rfl hK
theorem ld_place {c : Nat} {A B : List Value} {th : Th} {sz : Nat} {o ro : Bool} (h : H[c]? = some (.row (A ++ (TT.cells th ++ B)) sz o ro true)) {p : Nat} (hp : p = A.length + 2) {K : Int → Prop} (hK : K th.Place) : LD (T_int .u8) H c p K :=
  LD_of (T := T_int .u8) th.Place (A ++ [.int .i64 th.Card, .int .i64 th.Owner]) ((TT.cells th).drop 3 ++ B) h (by simp [List.append_assoc]) (by simp [hp]) rfl hK
theorem ld_stamp {c : Nat} {A B : List Value} {th : Th} {sz : Nat} {o ro : Bool} (h : H[c]? = some (.row (A ++ (TT.cells th ++ B)) sz o ro true)) {p : Nat} (hp : p = A.length + 3) {K : Int → Prop} (hK : K th.Stamp) : LD TN H c p K :=
  LD_of (T := TN) th.Stamp (A ++ [.int .i64 th.Card, .int .i64 th.Owner, .int .u8 th.Place]) ((TT.cells th).drop 4 ++ B) h (by simp [List.append_assoc]) (by simp [hp]) rfl hK
end
end

section
/- What the program's zones do. -/
open Zv
/-- Nothing but F is another; what it is now is F' -/
structure Bh (F : List Nat) (H : Heap) (F' : List Nat) (H' : Heap) : Prop where
  f : Frs F H H'
  g : ∀ d ∈ F', d ∈ F ∨ H.length ≤ d
theorem Bh.refl (F : List Nat) (H : Heap) : Bh F H F H := ⟨.refl _ _, fun _ h => .inl h⟩
theorem Bh.trans {F F' F'' : List Nat} {H H' H'' : Heap} (h : Bh F H F' H') (k : Bh F' H' F'' H'') : Bh F H F'' H'' :=
  ⟨h.f.then k.f h.g, fun d hd => by
    rcases k.g d hd with q | q
    · exact h.g d q
    · have := h.f.1; exact .inr (by omega)⟩
theorem Bh.new {F : List Nat} {H H' : Heap} (f : Frs [] H H') : Bh F H F H' := ⟨f.mono (by simp), fun _ h => .inl h⟩
section
variable {e : List Value} {H : Heap} {b : Nat} {z : Zo} {st : Sl} {ss : Nat → Sl}
theorem ZR.pq (h : ZR e H b z st ss) {q : Nat} (hq : q < 4) {s' : Sl} {l' : List Int} {H1 : Heap} (k1 : OwJ TN H1 s' l') (mv : ∀ d ∈ bl s'.p, d ∈ bl (ss q).p ∨ H.length ≤ d) (fr : Frs (bl (ss q).p) H H1) {o : Nat} (ho : o = 1 + q) {K : Heap → Prop}
    (hK : ∀ H', ZR e H' b { z with l := upd z.l q l' } st (upd ss q s') → Bh (fp b st ss) H (fp b st (upd ss q s')) H' → K H') : ST H1 b o [.slice s'.p s'.len s'.cap] K :=
  h.put_q hq k1 mv fr ho fun H' g1 g2 g3 => hK H' g1 ⟨g2.mono fun c hc => mem_fp.2 (by rcases List.mem_cons.1 hc with q' | q'; exact .inl q'; exact .inr (.inr ⟨q, hq, q'⟩)), g3⟩
theorem ZR.pt (h : ZR e H b z st ss) {s' : Sl} {l' : List Th} {H1 : Heap} (k1 : OwJ TT H1 s' l') (mv : ∀ d ∈ bl s'.p, d ∈ bl st.p ∨ H.length ≤ d) (fr : Frs (bl st.p) H H1) {o : Nat} (ho : o = 0) {K : Heap → Prop}
    (hK : ∀ H', ZR e H' b { z with t := l' } s' ss → Bh (fp b st ss) H (fp b s' ss) H' → K H') : ST H1 b o [.slice s'.p s'.len s'.cap] K :=
  h.put_t k1 mv fr ho fun H' g1 g2 g3 => hK H' g1 ⟨g2.mono fun c hc => mem_fp.2 (by rcases List.mem_cons.1 hc with q' | q'; exact .inl q'; exact .inr (.inl q')), g3⟩
theorem ZR.pn (h : ZR e H b z st ss) {n : Int} {o : Nat} (ho : o = 5) {K : Heap → Prop}
    (hK : ∀ H', ZR e H' b { z with n := n } st ss → Bh (fp b st ss) H (fp b st ss) H' → K H') : ST H b o [.int .i64 n] K :=
  h.put_n ho fun H' g1 g2 => hK H' g1 ⟨g2.mono fun c hc => mem_fp.2 (by simp at hc; exact .inl hc), fun _ h => .inl h⟩
theorem mvp {s s' : Sl} {H H' : Heap} (k2 : s'.p = s.p ∨ s'.p = some ⟨H.length, 0, none⟩ ∧ H.length < H'.length) : ∀ d ∈ bl s'.p, d ∈ bl s.p ∨ H.length ≤ d := by
  rcases k2 with k2 | ⟨k2, _⟩
  · rw [k2]; exact fun _ h => .inl h
  · rw [k2]; intro d hd; simp [bl] at hd; exact .inr (by omega)
theorem aft {s : Sl} {H H' : Heap} (k : After s H H') : Frs (bl s.p) H H' := k.frs fun d hd => .inl (by rw [hd]; simp [bl])

theorem st_f {c : Nat} {A B C D : List Value} {v u : Value} {sz : Nat} {o : Bool} (h : H[c]? = some (.row (A ++ ((C ++ v :: D) ++ B)) sz o false true)) {p : Nat} (hp : p = A.length + C.length) (hu : cell1 u = true) {K : Heap → Prop} (hK : ∀ H', H'[c]? = some (.row (A ++ ((C ++ u :: D) ++ B)) sz o false true) → Frs [c] H H' → K H') : ST H c p [u] K :=
  ST_of (A ++ C) [v] (D ++ B) h (by simp [List.append_assoc]) (by simp [hp]) rfl (by simp [hu]) (hK _ (by rw [set_get (get_lt h)]; simp [List.append_assoc]) (Frs.set _ _ (by simp)))
theorem st_place {c : Nat} {A B : List Value} {th : Th} {sz : Nat} {o : Bool} (h : H[c]? = some (.row (A ++ (TT.cells th ++ B)) sz o false true)) {p : Nat} (hp : p = A.length + 2) {x : Int} {K : Heap → Prop} (hK : ∀ H', H'[c]? = some (.row (A ++ (TT.cells { th with Place := x } ++ B)) sz o false true) → Frs [c] H H' → K H') : ST H c p [.int .u8 x] K :=
  st_f (C := [.int .i64 th.Card, .int .i64 th.Owner]) (v := .int .u8 th.Place) (D := (TT.cells th).drop 3) h hp rfl hK
theorem st_stamp {c : Nat} {A B : List Value} {th : Th} {sz : Nat} {o : Bool} (h : H[c]? = some (.row (A ++ (TT.cells th ++ B)) sz o false true)) {p : Nat} (hp : p = A.length + 3) {x : Int} {K : Heap → Prop} (hK : ∀ H', H'[c]? = some (.row (A ++ (TT.cells { th with Stamp := x } ++ B)) sz o false true) → Frs [c] H H' → K H') : ST H c p [.int .i64 x] K :=
  st_f (C := (TT.cells th).take 3) (v := .int .i64 th.Stamp) (D := (TT.cells th).drop 4) h hp rfl hK
theorem st_fresh {c : Nat} {A B : List Value} {th : Th} {sz : Nat} {o : Bool} (h : H[c]? = some (.row (A ++ (TT.cells th ++ B)) sz o false true)) {p : Nat} (hp : p = A.length + 10) {x : Bool} {K : Heap → Prop} (hK : ∀ H', H'[c]? = some (.row (A ++ (TT.cells { th with Fresh := x } ++ B)) sz o false true) → Frs [c] H H' → K H') : ST H c p [.bool x] K :=
  st_f (C := (TT.cells th).take 10) (v := .bool th.Fresh) (D := []) h hp rfl hK
theorem st_all {c : Nat} {A B : List Value} {th : Th} {sz : Nat} {o : Bool} (h : H[c]? = some (.row (A ++ (TT.cells th ++ B)) sz o false true)) {p : Nat} (hp : p = A.length) (th' : Th) {K : Heap → Prop} (hK : ∀ H', H'[c]? = some (.row (A ++ (TT.cells th' ++ B)) sz o false true) → Frs [c] H H' → K H') : ST H c p (TT.cells th') K :=
  ST_of A (TT.cells th) B h rfl hp rfl rfl (hK _ (by rw [set_get (get_lt h)]) (Frs.set _ _ (by simp)))
theorem ld_all {c : Nat} {A B : List Value} {th : Th} {sz : Nat} {o ro : Bool} (h : H[c]? = some (.row (A ++ (TT.cells th ++ B)) sz o ro true)) {p : Nat} (hp : p = A.length) {K : Th → Prop} (hK : K th) : LD TT H c p K := LD_of (T := TT) th A B h rfl hp rfl hK

theorem is_c (h : ZR [] H b z st ss) (hn : 1 ≤ z.n) {Q : Bool × Unit → Heap → Prop} (hq : Q (true, ()) H) : CALL P [T_bool] n_zone_Zones_is [ad b] H Q := by
  apply c_zone_Zones_is
  unfold S_zone_Zones_is
  refine JOIN_of (ifB_t rfl (h.ld_n rfl ?_))
  have : decide (z.n > 0) = true := by simp; omega
  rw [this]; exact hq
theorem player_c {p : Int} {Q : Bool × Unit → Heap → Prop} (hq : ∀ r, (r = true ↔ p = 0 ∨ p = 1) → Q (r, ()) H) : CALL P [T_bool] n_zone_player [.int .i64 p] H Q := by
  apply c_zone_player
  unfold S_zone_player
  refine JOIN_of (ifB_of (fun h => hq _ ?_) (fun h => hq _ ?_))
  · simp at h; simp [h]
  · simp at h; simp [h]
theorem li_lt {o pl : Int} (ho : o = 0 ∨ o = 1) {i : Nat} (h : li o pl = some i) : i < 4 := by
  unfold li at h
  split at h
  · cases h; omega
  · split at h
    · cases h; omega
    · cases h
theorem list_c {o pl : Int} (ho : o = 0 ∨ o = 1) {Q : Option Addr × Unit → Heap → Prop} (hq : ∀ r, (li o pl = none ∧ r = none ∨ ∃ i, li o pl = some i ∧ r = some ⟨b, 1 + i, none⟩) → Q (r, ()) H) : CALL P [T_ptr] n_zone_Zones_list [ad b, .int .i64 o, .int .u8 pl] H Q := by
  apply c_zone_Zones_list
  unfold S_zone_Zones_list
  refine ifB_of (fun h => ?_) (fun h => ifB_of (fun h2 => ?_) (fun h2 => ?_))
  · simp at h; subst h
    refine ⟨⟨by omega, by omega⟩, hq _ (.inr ⟨o.toNat, by simp [li], by simp⟩)⟩
  · simp at h h2; subst h2
    refine ⟨⟨by omega, by omega⟩, hq _ (.inr ⟨2 + o.toNat, by simp [li], ?_⟩)⟩
    simp; omega
  · simp at h h2
    exact hq _ (.inl ⟨by simp [li, h, h2], rfl⟩)

theorem owned_c (h : ZR [] H b z st ss) {p : Int} (ht : z.t.length ≤ 4096) {Q : Int × Unit → Heap → Prop} (hq : Q ((own z p : Int), ()) H) : CALL P [TN] n_zone_Zones_owned [ad b, .int .i64 p] H Q := by
  apply c_zone_Zones_owned
  unfold S_zone_Zones_owned
  have htl := h.tl
  refine h.ld_t rfl (JOIN_of ?_)
  refine loop_of (fun (s : (Int × Int × Unit) × Unit) H' => H' = H ∧ ∃ n : Nat, s.1.2.1 = n ∧ n ≤ z.t.length ∧ s.1.1 = (((z.t.take n).countP fun t => t.Place == 4 && t.Owner == p : Nat) : Int)) (fun s => z.t.length - s.1.2.1.toNat) ?_ ⟨rfl, 0, rfl, Nat.zero_le _, by simp⟩
  rintro G ⟨⟨a, i, _⟩, _⟩ H' ⟨rfl, n, hi, hn, ha⟩ hG
  simp only at hi ha; subst hi; subst ha
  dsimp only at hG ⊢
  refine ifB_of (fun hlt => ?_) (fun hge => ?_)
  · have hlt : n < z.t.length := by have := of_decide_eq_true hlt; omega
    have hx : z.t[n]? = some z.t[n] := List.getElem?_eq_getElem hlt
    have hc : (z.t.take n).countP (fun t => t.Place == 4 && t.Owner == p) ≤ n := by have := List.countP_le_length (p := fun t => t.Place == 4 && t.Owner == p) (l := z.t.take n); simp at this; omega
    refine h.ld_th rfl hx (JOIN_of ?_)
    have nxt : (((z.t.take (n + 1)).countP fun t => t.Place == 4 && t.Owner == p : Nat) : Int) = (((z.t.take n).countP fun t => t.Place == 4 && t.Owner == p : Nat) : Int) + if (z.t[n].Place == 4 && z.t[n].Owner == p) = true then 1 else 0 := by
      rw [List.take_succ_eq_append_getElem hlt, List.countP_append]
      simp only [List.countP_cons, List.countP_nil]
      split <;> simp
    rw [i64w (x := (n : Int) + 1) (by omega) (by omega)]
    refine ifB_of (fun h1 => ?_) (fun h1 => ?_)
    · refine JOIN_of (ifB_of (fun h2 => ?_) (fun h2 => ?_))
      · rw [i64w (by omega) (by omega)]
        exact hG _ _ ⟨rfl, n + 1, by simp, hlt, by rw [nxt, h1]; simp only at h2; rw [h2]; simp⟩ (by simp; omega)
      · exact hG _ _ ⟨rfl, n + 1, by simp, hlt, by rw [nxt, h1]; simp only at h2; rw [h2]; simp⟩ (by simp; omega)
    · refine JOIN_of (ifB_f rfl ?_)
      exact hG _ _ ⟨rfl, n + 1, by simp, hlt, by rw [nxt, h1]; simp⟩ (by simp; omega)
  · have hge : n = z.t.length := by have := of_decide_eq_false hge; omega
    subst hge
    rw [List.take_length]
    exact hq

theorem index_c {a : Sl} {l : List Int} (ha : SlF TN H a l) (hl : l.length ≤ 1048600) {x : Int} {Q : Int × Unit → Heap → Prop} (hq : ∀ r : Int, (r = -1 ∧ x ∉ l ∨ ∃ n : Nat, r = n ∧ l[n]? = some x ∧ x ∉ l.take n) → Q (r, ()) H) : CALL P [TN] n_slices_Index_int_int [a.v, .int .i64 x] H Q := by
  apply c_slices_Index_int_int
  unfold S_slices_Index_int_int
  have hal := ha.1
  refine JOIN_of ?_
  refine loop_of (fun (s : (Int × Unit) × Unit) H' => H' = H ∧ ∃ n : Nat, s.1.1 = n ∧ n ≤ l.length ∧ x ∉ l.take n) (fun s => l.length - s.1.1.toNat) ?_ ⟨rfl, 0, rfl, Nat.zero_le _, by simp⟩
  rintro G ⟨⟨i, _⟩, _⟩ H' ⟨rfl, n, hi, hn, hx⟩ hG
  simp only at hi; subst hi
  dsimp only at hG ⊢
  refine ifB_of (fun hlt => ?_) (fun hge => ?_)
  · have hlt : n < l.length := by have := of_decide_eq_true hlt; omega
    have hg : l[n]? = some l[n] := List.getElem?_eq_getElem hlt
    refine idx_ldF (T := TN) hTN ha rfl hg rfl (ifB_of (fun h1 => ?_) (fun h1 => ?_))
    · have h1 : x = l[n] := by simpa using h1
      exact hq _ (.inr ⟨n, rfl, by rw [hg, h1], hx⟩)
    · have h1 : x ≠ l[n] := by simpa using h1
      rw [i64w (by omega) (by omega)]
      refine hG _ _ ⟨rfl, n + 1, by simp, hlt, ?_⟩ (by simp; omega)
      rw [List.take_succ_eq_append_getElem hlt, List.mem_append, List.mem_singleton]
      exact fun q => q.elim hx h1
  · have hge : n = l.length := by have := of_decide_eq_false hge; omega
    subst hge
    rw [List.take_length] at hx
    exact hq _ (.inl ⟨rfl, hx⟩)
theorem erase_at {l : List Int} {n : Nat} {x : Int} (h : l[n]? = some x) (hx : x ∉ l.take n) : l.take n ++ l.drop (n + 1) = l.erase x := by
  induction l generalizing n with
  | nil => simp at h
  | cons y r ih =>
    cases n with
    | zero => simp at h; subst h; simp
    | succ n =>
      simp at h hx
      rw [List.erase_cons_tail (by simpa using Ne.symm hx.1)]
      simp [ih h hx.2]

theorem zhome_c (t : Th) {Q : Th × Unit → Heap → Prop} (hq : Q (homeT t, ()) H) : CALL P [TT] n_zone_home [TT.enc t] H Q := by
  apply c_zone_home
  unfold S_zone_home
  exact hq

/-- A thing comes to a place. -/
theorem come_c (h : ZR [] H b z st ss) {k : Nat} {th : Th} (hk : z.t[k]? = some th) (ho : th.Owner = 0 ∨ th.Owner = 1) {n : Int} (hn : n = (k : Int) + 1) {to : Int} (hl : ∀ q, q < 4 → (z.l q).length ≤ 4096) (ht : z.t.length ≤ 4096) (hz0 : 0 ≤ z.n) (hz : z.n ≤ 1099511627776) {Q : Unit → Heap → Prop}
    (hq : ∀ H' ss', ZR [] H' b (come z k th to) st ss' → Bh (fp b st ss) H (fp b st ss') H' → Q () H') : CALL P [] n_zone_Zones_come [ad b, .int .i64 n, .int .u8 to] H Q := by
  subst hn
  apply c_zone_Zones_come
  unfold S_zone_Zones_come
  have hkl := (List.getElem?_eq_some_iff.1 hk).1
  obtain ⟨c, A, B, hp, hA, hrow, _⟩ := h.at hk
  have htl := h.tl
  refine h.ld_t rfl ?_
  rw [i64w (by omega) (by omega)]
  refine idx_of hp (n := k) (by omega) (by omega) ?_
  refine ld_own hrow (by omega) (ld_place hrow (by omega) ?_)
  refine list_c ho fun r hr => ?_
  generalize hl1 : outL z k th = l1
  have hll1 : ∀ q, q < 4 → (l1 q).length ≤ 4096 := fun q hq4 => by
    rw [← hl1]
    cases hli : li th.Owner th.Place with
    | none => rw [outL_none hli]; exact hl q hq4
    | some i =>
      rw [outL_some hli]
      simp only [upd]
      split
      · rename_i e; subst e
        have := List.length_erase_le (a := (k : Int) + 1) (l := z.l q)
        have := hl q hq4; omega
      · exact hl q hq4
  refine JOIN_inv (fun _ H2 => ∃ ss', ZR [] H2 b { z with l := l1 } st ss' ∧ Bh (fp b st ss) H (fp b st ss') H2) (fun j hj => ?_) ?_
  · rcases hr with ⟨e1, rfl⟩ | ⟨i, e1, rfl⟩
    · rw [outL_none e1] at hl1; subst hl1
      exact ifB_f rfl (hj _ _ ⟨ss, h, .refl _ _⟩)
    · have hi := li_lt ho e1
      rw [outL_some e1] at hl1
      refine ifB_t rfl (h.ld_q hi rfl ?_)
      refine index_c (h.l i hi).slf (by have := hl i hi; omega) fun r hr => JOIN_of (ifB_of (fun h1 => ?_) (fun h1 => ?_))
      · have h1 := of_decide_eq_true h1
        rcases hr with ⟨e2, _⟩ | ⟨n, rfl, g1, g2⟩
        · omega
        have hnl := (List.getElem?_eq_some_iff.1 g1).1
        have hne : (ss i).p ≠ none := by
          intro e
          rcases (h.l i hi).slf with ⟨_, ⟨_, q, _⟩ | ⟨_, _, q, _⟩ | ⟨_, _, _, _, _, _, q, _⟩⟩
          · rw [q] at hnl; simp at hnl
          · rw [e] at q; cases q
          · rw [e] at q; cases q
        refine h.ld_q hi rfl ((h.l i hi).cut3 KInts.tyS rfl hnl fun k1 => h.ld_q hi rfl ?_)
        have hi4 := hl i hi
        rw [i64w (by omega) (by omega)]
        refine (h.l i hi).drop KInts.tyS (n := n + 1) (by simp) (by omega) hne fun s4 k4 => ?_
        refine appsJ_c KInts.tyS rfl (fun _ => by simp) k4 (by simp; omega) k1 fun s5 H5 m1 m2 m3 => ?_
        refine h.pq hi (s' := s5) (l' := (z.l i).erase ((k : Int) + 1)) (by rw [← erase_at g1 g2]; exact m1) (mvp m2) (aft m3) rfl fun H6 p1 p2 => ?_
        exact hj _ _ ⟨_, by rw [← hl1]; exact p1, p2⟩
      · have h1 := of_decide_eq_false h1
        rcases hr with ⟨_, e2⟩ | ⟨n, rfl, _⟩
        · refine hj _ _ ⟨ss, ?_, .refl _ _⟩
          rw [← hl1, List.erase_of_not_mem e2]
          have : upd z.l i (z.l i) = z.l := by funext q; unfold upd; split; rename_i e; rw [e]; rfl
          rw [this]; exact h
        · omega
  · rintro _ H2 ⟨ss1, h1, b1⟩
    obtain ⟨c', A1, B1, hp1, hA1, hrow1, _⟩ := h1.at (k := k) (th := th) hk
    have ec : c' = c := by rw [hp] at hp1; simpa using hp1.symm
    subst ec
    refine st_place hrow1 (by omega) fun H7 r7 f7 => ?_
    refine ld_all r7 (by omega) (zhome_c _ ?_)
    refine st_all r7 (by omega) _ fun H9 r9 f9 => ?_
    obtain ⟨c'', A2, B2, hp2, hA2, hrow2, hb2⟩ := h1.at (k := k) (th := th) hk
    have ec : c'' = c' := by rw [hp] at hp2; simpa using hp2.symm
    subst ec
    have hAB : A2 = A1 ∧ B2 = B1 := by
      rw [hrow1] at hrow2
      simp only [Option.some.injEq, ABlk.row.injEq] at hrow2
      obtain ⟨q1, q2⟩ := List.append_inj hrow2.1 (by omega)
      exact ⟨q1.symm, (List.append_inj q2 rfl).2.symm⟩
    obtain ⟨rfl, rfl⟩ := hAB
    have h9 := hb2 _ H9 r9 (f7.trans f9)
    have hc : c'' ∈ fp b st ss1 := mem_fp.2 (.inr (.inl (by rw [hp]; simp [bl])))
    have b9 : Bh (fp b st ss1) H2 (fp b st ss1) H9 := ⟨(f7.trans f9).mono (by simp [hc]), fun _ h => .inl h⟩
    refine ld_own r9 (by omega) (list_c ho fun r hr => ?_)
    generalize hth2 : ({ homeT th with Place := to } : Th) = th2
    have hth2' : homeT { th with Place := to } = th2 := hth2
    rw [hth2'] at h9 r9
    generalize hl2 : intoL l1 k th.Owner to = l2
    refine JOIN_inv (fun _ H3 => ∃ ss', ZR [] H3 b { z with t := z.t.set k th2, l := l2 } st ss' ∧ Bh (fp b st ss) H (fp b st ss') H3) (fun j hj => ?_) ?_
    · rcases hr with ⟨e1, rfl⟩ | ⟨i, e1, rfl⟩
      · have e1 : li th.Owner to = none := e1
        rw [intoL_none e1] at hl2; subst hl2
        exact ifB_f rfl (hj _ _ ⟨ss1, h9, b1.trans b9⟩)
      · have e1 : li th.Owner to = some i := e1
        have hi := li_lt ho e1
        rw [intoL_some e1] at hl2
        refine ifB_t rfl (h9.ld_q hi rfl ?_)
        have hi4 := hll1 i hi
        refine appJ_c KInts.tyS rfl (fun _ => by simp) (m := 1) [(k : Int) + 1] rfl rfl (by show 2 * ((l1 i).length + 1) * 4096 ≤ _; omega) (h9.l i hi) fun s5 H5 m1 m2 m3 => ?_
        refine h9.pq hi (s' := s5) (l' := l1 i ++ [(k : Int) + 1]) m1 (mvp m2) (aft m3) rfl fun H6 p1 p2 => ?_
        exact hj _ _ ⟨_, by rw [← hl2]; exact p1, (b1.trans b9).trans p2⟩
    · rintro _ H3 ⟨ss2, h3, b3⟩
      have hset : (z.t.set k th2)[k]? = some th2 := List.getElem?_set_self hkl
      have fin : come z k th to = if to = 4 then ⟨z.t.set k { th2 with Stamp := z.n, Fresh := true }, l2, z.n + 1⟩ else ⟨z.t.set k th2, l2, z.n⟩ := by
        unfold come putT
        rw [hl1]
        rw [hl2, ← hth2]
      refine JOIN_of (ifB_of (fun h4 => ?_) (fun h4 => ?_))
      · have h4 : to = 4 := by simpa using h4
        rw [if_pos h4] at fin
        rw [fin] at hq
        obtain ⟨c3, A3, B3, hp3, hA3, hrow3, hb3⟩ := h3.at (k := k) hset
        have ec : c3 = c'' := by rw [hp] at hp3; simpa using hp3.symm
        subst ec
        refine h3.ld_n rfl (st_stamp hrow3 (by omega) fun H15 r15 f15 => st_fresh r15 (by omega) fun H16 r16 f16 => ?_)
        have h16 := hb3 _ H16 r16 (f15.trans f16)
        have hc : c3 ∈ fp b st ss2 := mem_fp.2 (.inr (.inl (by rw [hp]; simp [bl])))
        have b16 : Bh (fp b st ss2) H3 (fp b st ss2) H16 := ⟨(f15.trans f16).mono (by simp [hc]), fun _ h => .inl h⟩
        refine h16.ld_n rfl ?_
        rw [i64w (by simp only; omega) (by simp only; omega)]
        refine h16.pn rfl fun H17 p1 p2 => ?_
        refine hq _ ss2 ?_ ((b3.trans b16).trans p2)
        simpa using p1
      · have h4 : to ≠ 4 := by simpa using h4
        rw [if_neg h4] at fin
        rw [fin] at hq
        exact hq _ ss2 h3 b3
end
end

section
/- What the program's zones do: the calls. -/
open Zv
section
variable {e : List Value} {H : Heap} {b : Nat} {z : Zo} {st : Sl} {ss : Nat → Sl}
theorem JB {A : ((Bool × Unit) × Unit → Heap → Prop) → Prop} {B : (Bool × Unit) × Unit → Heap → Prop} (c : Prop) (hA : ∀ j : (Bool × Unit) × Unit → Heap → Prop, (∀ r : Bool, (r = true ↔ c) → j ((r, ()), ()) H) → A j) (hB : ∀ r : Bool, (r = true ↔ c) → B ((r, ()), ()) H) : JOIN A B := hA _ hB

theorem thing_c (h : ZR [] H b z st ss) (hn : 1 ≤ z.n) (ht : z.t.length ≤ 4096) {n : Int} {Q : Th × Int × Unit → Heap → Prop} (hq : Q ((getT z n).getD th0, (getT z n).elim 6 (fun _ => 0), ()) H) : CALL P [TT, TN] n_zone_Zones_Thing [ad b, .int .i64 n] H Q := by
  apply c_zone_Zones_Thing
  unfold S_zone_Zones_Thing
  have htl := h.tl
  refine is_c h hn (ifB_f rfl ?_)
  refine JB (n < 1 ∨ (z.t.length : Int) < n) (fun j hj => ifB_of (fun h1 => hj _ ?_) (fun h1 => ?_)) fun r hr => ?_
  · have := of_decide_eq_true h1; simp; omega
  · have h1 := of_decide_eq_false h1
    refine h.ld_t rfl (hj _ ?_)
    simp; omega
  · rcases getT_cases z n with ⟨h1, eq⟩ | ⟨k, t, rfl, hk, eq⟩
    · rw [eq] at hq
      exact ifB_t (hr.2 h1) hq
    · rw [eq] at hq
      have hkl := (List.getElem?_eq_some_iff.1 hk).1
      refine ifB_f (by cases r; rfl; have := hr.1 rfl; omega) (h.ld_t rfl ?_)
      rw [i64w (by omega) (by omega)]
      exact h.ld_th (by omega) hk hq

theorem pmove_c (h : ZR [] H b z st ss) (hi : InvZ z) {n to : Int} {Q : Int × Unit → Heap → Prop}
    (hq : ∀ H' ss', ZR [] H' b (moveZ come z n to).2 st ss' → Bh (fp b st ss) H (fp b st ss') H' → Q ((moveZ come z n to).1, ()) H') : CALL P [TN] n_zone_Zones_Move [ad b, .int .i64 n, .int .u8 to] H Q := by
  apply c_zone_Zones_Move
  unfold S_zone_Zones_Move
  have few := hi.few
  have hn1 := hi.n1
  have hn2 := hi.n2
  refine thing_c h hi.n1 (by omega) ?_
  unfold moveZ at hq
  rcases getT_cases z n with ⟨h1, eq⟩ | ⟨k, t, rfl, hk, eq⟩
  · rw [eq] at hq ⊢
    exact ifB_t rfl (hq H ss h (.refl _ _))
  · rw [eq] at hq ⊢
    simp only [Option.elim_some, show ((k : Int) + 1 - 1).toNat = k by omega] at hq
    refine ifB_f rfl ?_
    have ho := (hi.th t (List.mem_of_getElem? hk)).1
    refine JB (H := H) (to < 1 ∨ 5 < to) (fun j hj => ifB_of (fun h1 => hj _ ?_) (fun h1 => hj _ ?_)) fun r hr => ifB_of (fun h1 => ?_) (fun h1 => ?_)
    · have := of_decide_eq_true h1; simp; omega
    · have := of_decide_eq_false h1; simp; omega
    · rw [if_pos (hr.1 h1)] at hq
      exact hq H ss h (.refl _ _)
    have c1 : ¬ (to < 1 ∨ 5 < to) := fun q => by rw [hr.2 q] at h1; cases h1
    rw [if_neg c1] at hq
    refine JB (H := H) (to = 2 ∧ t.Place ≠ 2 ∧ 10 ≤ (z.l (2 + t.Owner.toNat)).length) (fun j hj => ifB_of (fun h2 => ifB_of (fun h3 => ?_) (fun h3 => hj _ ?_)) (fun h2 => hj _ ?_)) fun r hr => ifB_of (fun h2 => ?_) (fun h2 => ?_)
    · refine ⟨⟨by show 0 ≤ t.Owner; omega, by show t.Owner < 2; omega⟩, h.ld_q (q := 2 + t.Owner.toNat) (by omega) (by show 0 + 3 + t.Owner.toNat * 1 = _; omega) (hj _ ?_)⟩
      have := h.ql (q := 2 + t.Owner.toNat) (by omega)
      have h2 : to = 2 := by simpa using h2
      have h3 : t.Place ≠ 2 := by simpa using h3
      rw [this]; simp [h2, h3]; omega
    · have h3 : t.Place = 2 := by simpa using h3
      simp [h3]
    · have h2 : to ≠ 2 := by simpa using h2
      simp [h2]
    · rw [if_pos (hr.1 h2)] at hq
      exact hq H ss h (.refl _ _)
    rw [if_neg (fun q => by rw [hr.2 q] at h2; cases h2)] at hq
    refine JB (H := H) (to = 4 ∧ (1099511627776 ≤ z.n ∨ t.Place ≠ 4 ∧ 8 ≤ own z t.Owner)) (fun j hj => ifB_of (fun h3 => ?_) (fun h3 => hj _ ?_)) fun r hr => ifB_of (fun h3 => ?_) (fun h3 => ?_)
    · have h3 : to = 4 := by simpa using h3
      refine h.ld_n rfl (ifB_of (fun h4 => hj _ ?_) (fun h4 => ifB_of (fun h5 => ?_) (fun h5 => hj _ ?_)))
      · have := of_decide_eq_true h4; simp [h3]; omega
      · have h4 := of_decide_eq_false h4
        have h5 : t.Place ≠ 4 := by simpa using h5
        refine owned_c h (by omega) (hj _ ?_)
        simp [h3, h5]; omega
      · have h4 := of_decide_eq_false h4
        have h5 : t.Place = 4 := by simpa using h5
        simp [h5]; omega
    · have h3 : to ≠ 4 := by simpa using h3
      simp [h3]
    · rw [if_pos (hr.1 h3)] at hq
      exact hq H ss h (.refl _ _)
    rw [if_neg (fun q => by rw [hr.2 q] at h3; cases h3)] at hq
    exact come_c h hk ho rfl (fun q _ => by have := hi.len q; omega) (by omega) (by omega) (by omega) fun H' ss' g1 g2 => hq H' ss' g1 g2

theorem tlen_le {z : Zo} (h : InvZ z) : z.t.length ≤ 4096 := by have := h.few; omega

theorem pmake_c (h : ZR [] H b z st ss) (hi : InvZ z) {card p : Int} {Q : Int × Int × Unit → Heap → Prop}
    (hq : ∀ H' st' ss', ZR [] H' b (makeZ come 0 z card p).2.2 st' ss' → Bh (fp b st ss) H (fp b st' ss') H' → Q ((makeZ come 0 z card p).1, (makeZ come 0 z card p).2.1, ()) H') : CALL P [TN, TN] n_zone_Zones_Make [ad b, .int .i64 card, .int .i64 p] H Q := by
  apply c_zone_Zones_Make
  unfold S_zone_Zones_Make
  have few := hi.few
  have hn1 := hi.n1
  have hn2 := hi.n2
  have htl := h.tl
  unfold makeZ at hq
  refine is_c h hi.n1 (ifB_f rfl ?_)
  refine JB (H := H) (card < 1 ∨ ¬ (p = 0 ∨ p = 1)) (fun j hj => ifB_of (fun h1 => hj _ ?_) (fun h1 => player_c fun r hr => hj _ ?_)) fun r hr => ifB_of (fun h1 => ?_) (fun h1 => ?_)
  · have := of_decide_eq_true h1; simp; omega
  · have := of_decide_eq_false h1
    cases r
    · simp at hr; simp; omega
    · simp at hr; simp; omega
  · rw [if_pos (hr.1 h1)] at hq
    exact hq H st ss h (.refl _ _)
  have c1 : ¬ (card < 1 ∨ ¬ (p = 0 ∨ p = 1)) := fun q => by rw [hr.2 q] at h1; cases h1
  rw [if_neg c1] at hq
  refine JB (H := H) (2048 ≤ z.t.length ∨ 8 ≤ own z p ∨ 1099511627776 ≤ z.n) (fun j hj => h.ld_t rfl (ifB_of (fun h2 => hj _ ?_) (fun h2 => owned_c h (by omega) (ifB_of (fun h3 => hj _ ?_) (fun h3 => h.ld_n rfl (hj _ ?_)))))) fun r hr => ifB_of (fun h2 => ?_) (fun h2 => ?_)
  · have := of_decide_eq_true h2; simp; omega
  · have := of_decide_eq_true h3; simp at this; simp; omega
  · have := of_decide_eq_false h2; have := of_decide_eq_false h3; simp at this; simp; omega
  · rw [if_pos (hr.1 h2)] at hq
    exact hq H st ss h (.refl _ _)
  have c2 : ¬ (2048 ≤ z.t.length ∨ 8 ≤ own z p ∨ 1099511627776 ≤ z.n) := fun q => by rw [hr.2 q] at h2; cases h2
  rw [if_neg c2] at hq
  refine h.ld_t rfl (appJ_c KThings.tyS rfl (fun _ => by simp) (m := 1) [newT card p 0] rfl rfl (by show 2 * (z.t.length + 1) * 4096 ≤ _; omega) h.t fun s5 H5 m1 m2 m3 => ?_)
  refine h.pt m1 (mvp m2) (aft m3) rfl fun H7 h7 b7 => ?_
  refine h7.ld_t rfl ?_
  have hl5 : s5.len = z.t.length + 1 := by have := m1.1; simpa using this
  have hk : (plus z (newT card p 0)).t[z.t.length]? = some (newT card p 0) := by simp [plus]
  refine come_c (z := plus z (newT card p 0)) h7 hk (by show p = 0 ∨ p = 1; omega) (by rw [hl5]; simp) (fun q _ => by have := hi.len q; show (z.l q).length ≤ _; omega) (by simp [plus]; omega) (by show 0 ≤ z.n; omega) (by show z.n ≤ _; omega) fun H8 ss8 h8 b8 => ?_
  refine h8.ld_t rfl ?_
  rw [hl5, show ((z.t.length + 1 : Nat) : Int) = (z.t.length : Int) + 1 by omega]
  exact hq H8 s5 ss8 h8 (b7.trans b8)

theorem marks_c {m : Int × Int × Int × Int} {Q : Bool × Unit → Heap → Prop} (hq : ∀ r : Bool, (r = true ↔ okMs m) → Q (r, ()) H) : CALL P [T_bool] n_zone_marks [T_arr4_T_int_i64.enc m] H Q := by
  obtain ⟨m0, m1, m2, m3⟩ := m
  apply c_zone_marks
  unfold S_zone_marks
  have hm : ∀ n : Nat, n < 4 → ∃ x, aIndex E 37 (.agg #[(.int .i64 m0), (.int .i64 m1), (.int .i64 m2), (.int .i64 m3)]) (.int .i64 (n : Int)) = some (TN.enc x) ∧ [m0, m1, m2, m3][n]? = some x := by
    intro n hn
    rcases lt4 hn with rfl | rfl | rfl | rfl
    · exact ⟨m0, rfl, rfl⟩
    · exact ⟨m1, rfl, rfl⟩
    · exact ⟨m2, rfl, rfl⟩
    · exact ⟨m3, rfl, rfl⟩
  have all4 : okMs (m0, m1, m2, m3) ↔ ∀ x ∈ [m0, m1, m2, m3], okM x := by simp [okMs]
  refine JOIN_of ?_
  refine loop_of (fun (s : (Int × Unit) × Unit) H' => H' = H ∧ ∃ n : Nat, s.1.1 = n ∧ n ≤ 4 ∧ ∀ x ∈ [m0, m1, m2, m3].take n, okM x) (fun s => 4 - s.1.1.toNat) ?_ ⟨rfl, 0, rfl, Nat.zero_le _, by simp⟩
  rintro G ⟨⟨i, _⟩, _⟩ H' ⟨rfl, n, hi, hn, hx⟩ hG
  simp only at hi; subst hi
  dsimp only at hG ⊢
  refine ifB_of (fun hlt => ?_) (fun hge => ?_)
  · have hlt : n < 4 := by have := of_decide_eq_true hlt; omega
    obtain ⟨x, g1, g2⟩ := hm n hlt
    refine ⟨x, g1, ?_⟩
    refine JB (H := H') (¬ okM x) (fun j hj => ifB_of (fun h1 => hj _ ?_) (fun h1 => hj _ ?_)) fun r hr => ifB_of (fun h1 => ?_) (fun h1 => ?_)
    · have := of_decide_eq_true h1; simp [okM]; omega
    · have := of_decide_eq_false h1; simp [okM]; omega
    · refine hq false ⟨fun h => (by cases h), fun h => ?_⟩
      exact absurd (all4.1 h x (List.mem_of_getElem? g2)) (hr.1 h1)
    · rw [i64w (by omega) (by omega)]
      have hx1 : okM x := Classical.byContradiction fun q => by rw [hr.2 q] at h1; cases h1
      refine hG _ _ ⟨rfl, n + 1, by simp, hlt, fun y hy => ?_⟩ (by simp; omega)
      obtain ⟨g3, g4⟩ := List.getElem?_eq_some_iff.1 g2
      rw [List.take_succ_eq_append_getElem g3, List.mem_append, List.mem_singleton] at hy
      rcases hy with q | q
      · exact hx y q
      · rw [q, g4]; exact hx1
  · have hge : n = 4 := by have := of_decide_eq_false hge; omega
    subst hge
    exact hq true ⟨fun _ => all4.2 (by simpa using hx), fun _ => rfl⟩

theorem pwrite_c (h : ZR [] H b z st ss) (hi : InvZ z) {n : Int} {t : Th} {Q : Int × Unit → Heap → Prop}
    (hq : ∀ H', ZR [] H' b (writeZ z n t).2 st ss → Bh (fp b st ss) H (fp b st ss) H' → Q ((writeZ z n t).1, ()) H') : CALL P [TN] n_zone_Zones_Write [ad b, .int .i64 n, TT.enc t] H Q := by
  apply c_zone_Zones_Write
  unfold S_zone_Zones_Write
  have htl := h.tl
  have few := hi.few
  refine thing_c h hi.n1 (tlen_le hi) ?_
  unfold writeZ at hq
  rcases getT_cases z n with ⟨h1, eq⟩ | ⟨k, o, rfl, hk, eq⟩
  · rw [eq] at hq ⊢
    exact ifB_t rfl (hq H h (.refl _ _))
  · rw [eq] at hq ⊢
    have hkl := (List.getElem?_eq_some_iff.1 hk).1
    simp only [Option.elim_some, show ((k : Int) + 1 - 1).toNat = k by omega] at hq
    refine ifB_f rfl ?_
    refine JB (H := H) (¬ okW o t) (fun j hj => ?_) fun r hr => ifB_of (fun h1 => ?_) (fun h1 => ?_)
    · refine ifB_of (fun w1 => hj _ ?_) (fun w1 => ifB_of (fun w2 => hj _ ?_) (fun w2 => ifB_of (fun w3 => hj _ ?_) (fun w3 => ifB_of (fun w4 => hj _ ?_) (fun w4 => ifB_of (fun w5 => hj _ ?_) (fun w5 => ifB_of (fun w6 => hj _ ?_) (fun w6 => ifB_of (fun w7 => hj _ ?_) (fun w7 => marks_c fun r hr => hj _ ?_)))))))
      · have : o.Place ≠ 4 := by simpa using w1
        simp [okW, this]
      · have : t.Card ≠ o.Card := by simpa using w2
        simp [okW, this]
      · have : t.Owner ≠ o.Owner := by simpa using w3
        simp [okW, this]
      · have : t.Place ≠ o.Place := by simpa using w4
        simp [okW, this]
      · have : t.Stamp ≠ o.Stamp := by simpa using w5
        simp [okW, this]
      · have : ¬ (0 ≤ t.Hurt) := by simpa using w6
        simp only [okW, this, true_iff]; simp
      · have : ¬ (0 ≤ t.Done) := by simpa using w7
        simp only [okW, this, true_iff]; simp
      · have w1 : o.Place = 4 := by simpa using w1
        have w2 : t.Card = o.Card := by simpa using w2
        have w3 : t.Owner = o.Owner := by simpa using w3
        have w4 : t.Place = o.Place := by simpa using w4
        have w5 : t.Stamp = o.Stamp := by simpa using w5
        have w6 : 0 ≤ t.Hurt := by simpa using w6
        have w7 : 0 ≤ t.Done := by simpa using w7
        have : okW o t ↔ okMs t.Marks := ⟨fun q => q.2.2.2.2.2.2.2, fun q => ⟨w1, w2, w3, w4, w5, w6, w7, q⟩⟩
        rw [this, ← hr]; cases r <;> simp
    · rw [if_neg (hr.1 h1)] at hq
      exact hq H h (.refl _ _)
    · have hw : okW o t := Classical.byContradiction fun q => by rw [hr.2 q] at h1; cases h1
      rw [if_pos hw] at hq
      refine h.ld_t rfl ?_
      rw [i64w (by omega) (by omega)]
      obtain ⟨c, A, B, hp, hA, hrow, hb⟩ := h.at hk
      refine idx_of hp (n := k) (by omega) (by omega) (st_all hrow (by omega) t fun H4 r4 f4 => ?_)
      exact hq H4 (hb t H4 r4 f4) ⟨f4.mono fun d hd => mem_fp.2 (.inr (.inl (by rw [hp]; simpa [bl] using hd))), fun _ h => .inl h⟩

theorem plen_c (h : ZR [] H b z st ss) (hn : 1 ≤ z.n) {Q : Int × Unit → Heap → Prop} (hq : Q ((z.t.length : Int), ()) H) : CALL P [TN] n_zone_Zones_Len [ad b] H Q := by
  apply c_zone_Zones_Len
  unfold S_zone_Zones_Len
  have htl := h.tl
  refine is_c h hn (ifB_f rfl (h.ld_t rfl ?_))
  rw [htl]; exact hq
theorem pstamp_c (h : ZR [] H b z st ss) (hn : 1 ≤ z.n) {Q : Int × Unit → Heap → Prop} (hq : Q (z.n, ()) H) : CALL P [TN] n_zone_Zones_Stamp [ad b] H Q := by
  apply c_zone_Zones_Stamp
  unfold S_zone_Zones_Stamp
  exact is_c h hn (ifB_f rfl (h.ld_n rfl hq))

theorem new0 (T : Tag) (H : Heap) : NewO T H ⟨some ⟨H.length, 0, none⟩, 0, 0⟩ (mk H [] T.n false) [] [] :=
  ⟨⟨rfl, rfl, by simp, .inr ⟨H.length, rfl, by simp [mk, fl]⟩⟩, fun d hd => by simp at hd; omega, Frs.app _ _ _⟩
theorem told_g {E : Env} {T : Tag} {ts tx : TypeId} {x : T.α} (ty : TyS E T ts x) {tj : TI} (h2 : E.ty tx = some tj) (h4 : ∀ k, tj.k ≠ .int k) {a : Sl} {l : List T.α} (ha : SlF T H a l) (hl : l.length ≤ 1048600) {n : Nat} (hn : n = T.n) {k : Sl → Heap → Prop}
    (hk : ∀ s' H' sp, NewO T H s' H' l sp → k s' H') : NEW H [] n fun H1 => APP T_sl (lenV (Sl.mk (some ⟨H.length, 0, none⟩) 0 0).v + (lenX a.v).getD 0) (aAppendE E [ts, tx] (Sl.mk (some ⟨H.length, 0, none⟩) 0 0).v a.v H1) k := by
  subst hn
  have n0 := new0 T H
  refine apps_c ty h2 h4 (ha.frs n0.2.2 (by simp)) (by simp only [List.length_nil]; omega) n0.1 fun s' H' sp k1 k2 k3 => ?_
  exact hk s' H' sp (n0.app (by simpa only [List.nil_append] using k1) k2 k3)
theorem toldi_c {a : Sl} {l : List Int} (ha : SlF TN H a l) (hl : l.length ≤ 1048600) {Q : Sl × Unit → Heap → Prop} (hq : ∀ s' H' sp, NewO TN H s' H' l sp → Q (s', ()) H') : CALL P [T_sl] n_zone_told_int [a.v] H Q := by
  apply c_zone_told_int
  unfold S_zone_told_int
  exact told_g KInts.tyS rfl (fun _ => by simp) ha hl rfl hq
theorem toldt_c {a : Sl} {l : List Th} (ha : SlF TT H a l) (hl : l.length ≤ 1048600) {Q : Sl × Unit → Heap → Prop} (hq : ∀ s' H' sp, NewO TT H s' H' l sp → Q (s', ()) H') : CALL P [T_sl] n_zone_told_api_Thing [a.v] H Q := by
  apply c_zone_told_api_Thing
  unfold S_zone_told_api_Thing
  exact told_g KThings.tyS rfl (fun _ => by simp) ha hl rfl hq
theorem pthings_c (h : ZR [] H b z st ss) (hi : InvZ z) {Q : Sl × Unit → Heap → Prop} (hq : ∀ s' H' sp, NewO TT H s' H' z.t sp → Q (s', ()) H') : CALL P [T_sl] n_zone_Zones_Things [ad b] H Q := by
  apply c_zone_Zones_Things
  unfold S_zone_Zones_Things
  exact is_c h hi.n1 (ifB_f rfl (h.ld_t rfl (toldt_c h.t.slf (by have := hi.few; omega) hq)))
end
end
theorem newmv {T : Tag} {H H' : Heap} {s : Sl} {l sp : List T.α} (h : NewO T H s H' l sp) (F : List Nat) : ∀ d ∈ bl s.p, d ∈ F ∨ H.length ≤ d := fun d hd => by
  rcases h.1.j.ptr with q | ⟨c, q, q2⟩
  · rw [q] at hd; simp [bl] at hd
  · rw [q2] at hd; simp at hd; subst hd; exact .inr (h.2.1 _ q)
end

section
/- Worlds, as they are told: in memory, as values; calls, in memory. -/
open Zv
abbrev OT : Tag := T_G_law17_Op
theorem hOT (x : OT.α) : (OT.cells x).length = OT.n := rfl
section
variable {H : Heap}
abbrev Wld := G_law17_World
def sdW (x : Wld) (p : Nat) : Sl := if p = 0 then x.Decks.1 else x.Decks.2
def shW (x : Wld) (p : Nat) : Sl := if p = 0 then x.Hands.1 else x.Hands.2
/-- The world, in memory. -/
def WR (H : Heap) (wb : Nat) (x : Wld) : Prop := H[wb]? = some (.row [x.Things.v, x.Decks.1.v, x.Decks.2.v, x.Hands.1.v, x.Hands.2.v, .int .i64 x.Stamp] 6 false false true)
variable {wb : Nat} {x : Wld}
theorem WR.frs {H' : Heap} {B : List Nat} (h : WR H wb x) (f : Frs B H H') (hb : wb ∉ B) : WR H' wb x := f.get hb h
theorem WR.t (h : WR H wb x) {k : Sl → Prop} (hk : k x.Things) : LD T_sl H wb 0 k := LD_of (T := T_sl) x.Things [] _ h rfl rfl rfl hk
theorem WR.d (h : WR H wb x) {p : Nat} (hp : p < 2) {k : Sl → Prop} (hk : k (sdW x p)) : LD T_sl H wb (1 + (p : Int).toNat * 1) k := by
  rcases (by omega : p = 0 ∨ p = 1) with rfl | rfl
  · exact LD_of (T := T_sl) x.Decks.1 [x.Things.v] _ h rfl rfl rfl hk
  · exact LD_of (T := T_sl) x.Decks.2 [x.Things.v, x.Decks.1.v] _ h rfl rfl rfl hk
theorem WR.h (h : WR H wb x) {p : Nat} (hp : p < 2) {k : Sl → Prop} (hk : k (shW x p)) : LD T_sl H wb (3 + (p : Int).toNat * 1) k := by
  rcases (by omega : p = 0 ∨ p = 1) with rfl | rfl
  · exact LD_of (T := T_sl) x.Hands.1 [x.Things.v, x.Decks.1.v, x.Decks.2.v] _ h rfl rfl rfl hk
  · exact LD_of (T := T_sl) x.Hands.2 [x.Things.v, x.Decks.1.v, x.Decks.2.v, x.Hands.1.v] _ h rfl rfl rfl hk
theorem WR.d2 (h : WR H wb x) {k : Sl × Sl → Prop} (hk : k (sdW x 0, sdW x 1)) : LD T_arr2_T_sl H wb 1 k := LD_of (T := T_arr2_T_sl) (sdW x 0, sdW x 1) [x.Things.v] _ h rfl rfl rfl hk
theorem WR.h2 (h : WR H wb x) {k : Sl × Sl → Prop} (hk : k (shW x 0, shW x 1)) : LD T_arr2_T_sl H wb 3 k := LD_of (T := T_arr2_T_sl) (shW x 0, shW x 1) [x.Things.v, x.Decks.1.v, x.Decks.2.v] _ h rfl rfl rfl hk
theorem WR.s (h : WR H wb x) {k : Int → Prop} (hk : k x.Stamp) : LD TN H wb 5 k := LD_of (T := TN) x.Stamp [x.Things.v, x.Decks.1.v, x.Decks.2.v, x.Hands.1.v, x.Hands.2.v] _ h rfl rfl rfl hk


/-- A world's head is another slice. -/
def setD (x : Wld) (p : Nat) (s : Sl) : Wld := if p = 0 then { x with Decks := (s, x.Decks.2) } else { x with Decks := (x.Decks.1, s) }
def setH (x : Wld) (p : Nat) (s : Sl) : Wld := if p = 0 then { x with Hands := (s, x.Hands.2) } else { x with Hands := (x.Hands.1, s) }
theorem lt2 {p : Nat} (h : p < 2) : p = 0 ∨ p = 1 := by omega
theorem setD_d {p q : Nat} (hp : p < 2) (hq : q < 2) (s : Sl) : sdW (setD x p s) q = if q = p then s else sdW x q := by
  rcases lt2 hp with rfl | rfl <;> rcases lt2 hq with rfl | rfl <;> rfl
theorem setH_h {p q : Nat} (hp : p < 2) (hq : q < 2) (s : Sl) : shW (setH x p s) q = if q = p then s else shW x q := by
  rcases lt2 hp with rfl | rfl <;> rcases lt2 hq with rfl | rfl <;> rfl
theorem setD_h {p q : Nat} (s : Sl) : shW (setD x p s) q = shW x q := by unfold setD; split <;> rfl
theorem setH_d {p q : Nat} (s : Sl) : sdW (setH x p s) q = sdW x q := by unfold setH; split <;> rfl
theorem setD_t {p : Nat} (s : Sl) : (setD x p s).Things = x.Things ∧ (setD x p s).Stamp = x.Stamp := by unfold setD; split <;> exact ⟨rfl, rfl⟩
theorem setH_t {p : Nat} (s : Sl) : (setH x p s).Things = x.Things ∧ (setH x p s).Stamp = x.Stamp := by unfold setH; split <;> exact ⟨rfl, rfl⟩
theorem WR.pd (h : WR H wb x) {p : Nat} (hp : p < 2) (s : Sl) {K : Heap → Prop} (hK : ∀ H', WR H' wb (setD x p s) → Frs [wb] H H' → K H') : ST H wb (1 + (p : Int).toNat * 1) [.slice s.p s.len s.cap] K := by
  have hlt := get_lt h
  rcases lt2 hp with rfl | rfl
  · exact ST_of [x.Things.v] [x.Decks.1.v] _ h rfl rfl rfl rfl (hK _ (by unfold WR; rw [set_get hlt]; rfl) (Frs.set _ _ (by simp)))
  · exact ST_of [x.Things.v, x.Decks.1.v] [x.Decks.2.v] _ h rfl rfl rfl rfl (hK _ (by unfold WR; rw [set_get hlt]; rfl) (Frs.set _ _ (by simp)))
theorem WR.ph (h : WR H wb x) {p : Nat} (hp : p < 2) (s : Sl) {K : Heap → Prop} (hK : ∀ H', WR H' wb (setH x p s) → Frs [wb] H H' → K H') : ST H wb (3 + (p : Int).toNat * 1) [.slice s.p s.len s.cap] K := by
  have hlt := get_lt h
  rcases lt2 hp with rfl | rfl
  · exact ST_of [x.Things.v, x.Decks.1.v, x.Decks.2.v] [x.Hands.1.v] _ h rfl rfl rfl rfl (hK _ (by unfold WR; rw [set_get hlt]; rfl) (Frs.set _ _ (by simp)))
  · exact ST_of [x.Things.v, x.Decks.1.v, x.Decks.2.v, x.Hands.1.v] [x.Hands.2.v] _ h rfl rfl rfl rfl (hK _ (by unfold WR; rw [set_get hlt]; rfl) (Frs.set _ _ (by simp)))
theorem WR.all (h : WR H wb x) {k : Wld → Prop} (hk : k x) : LD T_G_law17_World H wb 0 k := LD_of (T := T_G_law17_World) x [] [] h rfl rfl rfl hk
end
end
end Go.Proofs.YthgfjbafhjkhnaaGreat.Zq
