/- Zones, plainly: what a thing's coming does, the program's way and the document's; what holds of zones. -/
import Derived.Test.YthgfjbafhjkhnaaGreatZT
namespace Go.Proofs.YthgfjbafhjkhnaaGreat.Zq
section
/- Zones, plainly: what a thing's coming does, the program's way and the document's; what holds of zones. -/
open Zv
abbrev Th := G_api_Thing
/-- A thing as it is off the table. -/
def homeT (t : Th) : Th := ⟨t.Card, t.Owner, t.Place, 0, 0, (0, 0, 0, 0), 0, false⟩
/-- What zones are: things; decks (0, 1) and hands (2, 3); the next stamp. -/
structure Zo where
  t : List Th
  l : Nat → List Int
  n : Int
def upd {α : Type} (l : Nat → α) (i : Nat) (x : α) : Nat → α := fun j => if j = i then x else l j
/-- The list in which a thing of an owner stands in a place. -/
def li (o pl : Int) : Option Nat := if pl = 1 then some o.toNat else if pl = 2 then some (2 + o.toNat) else none
/-- The lists without a thing. -/
def outL (z : Zo) (k : Nat) (th : Th) : Nat → List Int := match li th.Owner th.Place with | some i => upd z.l i ((z.l i).erase ((k : Int) + 1)) | none => z.l
/-- The lists with a thing. -/
def intoL (l : Nat → List Int) (k : Nat) (o to : Int) : Nat → List Int := match li o to with | some i => upd l i (l i ++ [(k : Int) + 1]) | none => l
theorem outL_some {z : Zo} {k : Nat} {th : Th} {i : Nat} (h : li th.Owner th.Place = some i) : outL z k th = upd z.l i ((z.l i).erase ((k : Int) + 1)) := by unfold outL; rw [h]
theorem outL_none {z : Zo} {k : Nat} {th : Th} (h : li th.Owner th.Place = none) : outL z k th = z.l := by unfold outL; rw [h]
theorem intoL_some {l : Nat → List Int} {k : Nat} {o to : Int} {i : Nat} (h : li o to = some i) : intoL l k o to = upd l i (l i ++ [(k : Int) + 1]) := by unfold intoL; rw [h]
theorem intoL_none {l : Nat → List Int} {k : Nat} {o to : Int} (h : li o to = none) : intoL l k o to = l := by unfold intoL; rw [h]
def putT (z : Zo) (k : Nat) (th : Th) (to : Int) (l : Nat → List Int) : Zo :=
  if to = 4 then ⟨z.t.set k { homeT th with Place := to, Stamp := z.n, Fresh := true }, intoL l k th.Owner to, z.n + 1⟩ else ⟨z.t.set k { homeT th with Place := to }, intoL l k th.Owner to, z.n⟩
/-- A thing comes to a place: as the program has it. -/
def come (z : Zo) (k : Nat) (th : Th) (to : Int) : Zo :=
  putT z k th to (outL z k th)
/-- .. as the document has it. -/
def rcome (z : Zo) (k : Nat) (th : Th) (to : Int) : Zo :=
  putT z k th to (upd (upd z.l th.Owner.toNat ((z.l th.Owner.toNat).filter (· != (k : Int) + 1))) (2 + th.Owner.toNat) ((z.l (2 + th.Owner.toNat)).filter (· != (k : Int) + 1)))

structure InvZ (z : Zo) : Prop where
  few : z.t.length ≤ 2048
  n1 : 1 ≤ z.n
  n2 : z.n ≤ 1099511627776
  th : ∀ th ∈ z.t, (th.Owner = 0 ∨ th.Owner = 1) ∧ 1 ≤ th.Place ∧ th.Place ≤ 5 ∧ (th.Place ≠ 4 → th.Stamp = 0) ∧ (th.Place = 4 → 1 ≤ th.Stamp ∧ th.Stamp < z.n)
  st : ∀ (i j : Nat) (a b : Th), i ≠ j → z.t[i]? = some a → z.t[j]? = some b → a.Place = 4 → b.Place = 4 → a.Stamp ≠ b.Stamp
  nd : ∀ q, (z.l q).Nodup
  mem : ∀ (q : Nat) (m : Int), m ∈ z.l q ↔ ∃ (i : Nat) (th : Th), m = (i : Int) + 1 ∧ z.t[i]? = some th ∧ li th.Owner th.Place = some q

theorem not_in {z : Zo} (h : InvZ z) {k : Nat} {th : Th} (hk : z.t[k]? = some th) {q : Nat} (hq : li th.Owner th.Place ≠ some q) : (k : Int) + 1 ∉ z.l q := fun hm => by
  obtain ⟨i, th', e, h1, h2⟩ := (h.mem q _).1 hm
  have : i = k := by omega
  subst this
  rw [hk] at h1; cases h1
  exact hq h2

theorem filter_not {l : List Int} {x : Int} (h : x ∉ l) : l.filter (· != x) = l := by
  rw [List.filter_eq_self]
  intro a ha
  simp only [bne_iff_ne, ne_eq]
  rintro rfl; exact h ha

/-- Both ways come to the same. -/
theorem rcome_eq {z : Zo} (h : InvZ z) {k : Nat} {th : Th} (hk : z.t[k]? = some th) (to : Int) : rcome z k th to = come z k th to := by
  obtain ⟨ho, hp1, hp2, _⟩ := h.th th (List.mem_of_getElem? hk)
  have key : (upd (upd z.l th.Owner.toNat ((z.l th.Owner.toNat).filter (· != (k : Int) + 1))) (2 + th.Owner.toNat) ((z.l (2 + th.Owner.toNat)).filter (· != (k : Int) + 1))) = (outL z k th) := by
    have hf : ∀ q, li th.Owner th.Place ≠ some q → (z.l q).filter (· != (k : Int) + 1) = z.l q := fun q hq => filter_not (not_in h hk hq)
    have he : ∀ q, (z.l q).filter (· != (k : Int) + 1) = (z.l q).erase ((k : Int) + 1) := fun q => by
      rw [(h.nd q).erase_eq_filter]
    funext q
    unfold upd
    cases hl : li th.Owner th.Place with
    | none =>
      rw [hl] at hf
      rw [outL_none hl]
      split
      · rename_i e; rw [hf _ (by simp), e]
      · split
        · rename_i e; rw [hf _ (by simp), e]
        · rfl
    | some i =>
      rw [outL_some hl]
      show _ = if q = i then (z.l i).erase ((k : Int) + 1) else z.l q
      have hi : i = th.Owner.toNat ∨ i = 2 + th.Owner.toNat := by
        unfold li at hl
        split at hl
        · cases hl; exact .inl rfl
        · split at hl
          · cases hl; exact .inr rfl
          · cases hl
      rw [hl] at hf
      by_cases e2 : q = 2 + th.Owner.toNat
      · subst e2
        simp only [if_true]
        by_cases e3 : 2 + th.Owner.toNat = i
        · rw [if_pos e3, he, e3]
        · rw [if_neg e3, hf _ (by simpa using Ne.symm e3)]
      · rw [if_neg e2]
        by_cases e1 : q = th.Owner.toNat
        · subst e1
          simp only [if_true]
          by_cases e3 : th.Owner.toNat = i
          · rw [if_pos e3, he, e3]
          · rw [if_neg e3, hf _ (by simpa using Ne.symm e3)]
        · rw [if_neg e1, if_neg (by rintro rfl; rcases hi with q | q <;> omega)]
  unfold rcome come
  rw [key]

theorem mem_erase' {l : List Int} (h : l.Nodup) {a b : Int} : a ∈ l.erase b ↔ a ≠ b ∧ a ∈ l := h.mem_erase_iff

/-- Behind a coming zones are sound. -/
theorem come_inv {z : Zo} (h : InvZ z) {k : Nat} {th : Th} (hk : z.t[k]? = some th) {to : Int} (h1 : 1 ≤ to) (h4 : to ≤ 5) (h3 : to = 4 → z.n < 1099511627776) : InvZ (come z k th to) := by
  obtain ⟨ho, hp1, hp2, _⟩ := h.th th (List.mem_of_getElem? hk)
  have hkl : k < z.t.length := (List.getElem?_eq_some_iff.1 hk).1
  -- the lists
  generalize hl1 : (outL z k th) = l1
  have nd1 : ∀ q, (l1 q).Nodup := fun q => by
    rw [← hl1]
    cases hli : li th.Owner th.Place with
    | none => rw [outL_none hli]; exact h.nd q
    | some i =>
      rw [outL_some hli]
      simp only [upd]
      split
      · exact (h.nd i).erase _
      · exact h.nd q
  have mem1 : ∀ (q : Nat) (m : Int), m ∈ l1 q ↔ m ≠ (k : Int) + 1 ∧ m ∈ z.l q := fun q m => by
    rw [← hl1]
    cases hli : li th.Owner th.Place with
    | none =>
      rw [outL_none hli]
      refine ⟨fun hm => ⟨?_, hm⟩, fun hm => hm.2⟩
      rintro rfl
      exact not_in h hk (by rw [hli]; simp) hm
    | some i =>
      rw [outL_some hli]
      simp only [upd]
      split
      · rename_i e; subst e; exact (h.nd q).mem_erase_iff
      · rename_i e
        refine ⟨fun hm => ⟨?_, hm⟩, fun hm => hm.2⟩
        rintro rfl
        exact not_in h hk (by rw [hli]; simpa using Ne.symm e) hm
  generalize hl2 : (intoL l1 k th.Owner to) = l2
  have nd2 : ∀ q, (l2 q).Nodup := fun q => by
    rw [← hl2]
    cases hli : li th.Owner to with
    | none => rw [intoL_none hli]; exact nd1 q
    | some i =>
      rw [intoL_some hli]
      simp only [upd]
      split
      · rw [List.nodup_append]
        refine ⟨nd1 i, by simp, fun a ha b hb hab => ?_⟩
        simp at hb; subst hb; subst hab
        exact ((mem1 i _).1 ha).1 rfl
      · exact nd1 q
  have mem2 : ∀ (q : Nat) (m : Int), m ∈ l2 q ↔ (m ≠ (k : Int) + 1 ∧ m ∈ z.l q) ∨ (m = (k : Int) + 1 ∧ li th.Owner to = some q) := fun q m => by
    rw [← hl2]
    cases hli : li th.Owner to with
    | none => rw [intoL_none hli]; simp only [mem1]; simp
    | some i =>
      rw [intoL_some hli]
      simp only [upd]
      split
      · rename_i e; subst e
        rw [List.mem_append, mem1]; simp
      · rename_i e
        rw [mem1]
        have : ¬ (some i = some q) := by simpa using Ne.symm e
        simp [this]
  have all : ∀ th' : Th, th'.Owner = th.Owner → th'.Place = to → ∀ n', z.n ≤ n' → n' ≤ 1099511627776 → (to ≠ 4 → th'.Stamp = 0) → (to = 4 → th'.Stamp = z.n ∧ z.n < n') → InvZ ⟨z.t.set k th', l2, n'⟩ := by
    intro th' e1 e2 n' hn hn2 e3 e4
    refine ⟨by simpa using h.few, by have := h.n1; show 1 ≤ n'; omega, hn2, fun t ht => ?_, fun i j a b hij hi hj ha hb => ?_, nd2, fun q m => ?_⟩
    · rcases List.mem_or_eq_of_mem_set ht with hm | rfl
      · obtain ⟨q1, q2, q3, q4, q5⟩ := h.th t hm
        exact ⟨q1, q2, q3, q4, fun e => ⟨(q5 e).1, by have := (q5 e).2; show t.Stamp < n'; omega⟩⟩
      · refine ⟨by rw [e1]; exact ho, by rw [e2]; exact h1, by rw [e2]; exact h4, fun e => e3 (by rw [← e2]; exact e), fun e => ?_⟩
        rw [e2] at e
        obtain ⟨q1, q2⟩ := e4 e
        rw [q1]
        exact ⟨h.n1, q2⟩
    · have old : ∀ (i : Nat) (a : Th), i ≠ k → (z.t.set k th')[i]? = some a → z.t[i]? = some a := fun i a hne hx => by rwa [List.getElem?_set_ne (Ne.symm hne)] at hx
      have new : ∀ a : Th, (z.t.set k th')[k]? = some a → a = th' := fun a hx => by rw [List.getElem?_set_self hkl] at hx; exact (Option.some.inj hx).symm
      have lt : ∀ (i : Nat) (a : Th), z.t[i]? = some a → a.Place = 4 → a.Stamp < z.n := fun i a hx hp => ((h.th a (List.mem_of_getElem? hx)).2.2.2.2 hp).2
      by_cases ei : i = k
      · subst ei
        have := new a hi; subst this
        have hjo := old j b (Ne.symm hij) hj
        have hs := (e4 (by rw [← e2]; exact ha)).1
        have := lt j b hjo hb
        omega
      · have hio := old i a ei hi
        by_cases ej : j = k
        · subst ej
          have := new b hj; subst this
          have hs := (e4 (by rw [← e2]; exact hb)).1
          have := lt i a hio ha
          omega
        · exact h.st i j a b hij hio (old j b ej hj) ha hb
    · show m ∈ l2 q ↔ _
      rw [mem2]
      constructor
      · rintro (⟨hne, hm⟩ | ⟨rfl, hq⟩)
        · obtain ⟨i, t, rfl, g1, g2⟩ := (h.mem q m).1 hm
          exact ⟨i, t, rfl, by rw [List.getElem?_set_ne (by omega)]; exact g1, g2⟩
        · exact ⟨k, th', rfl, List.getElem?_set_self hkl, by rw [e1, e2]; exact hq⟩
      · rintro ⟨i, t, rfl, g1, g2⟩
        by_cases ei : i = k
        · subst ei
          rw [List.getElem?_set_self hkl] at g1
          cases g1
          rw [e1, e2] at g2
          exact .inr ⟨rfl, g2⟩
        · rw [List.getElem?_set_ne (Ne.symm ei)] at g1
          exact .inl ⟨by omega, (h.mem q _).2 ⟨i, t, rfl, g1, g2⟩⟩
  unfold come putT
  rw [hl1]
  simp only [hl2]
  split
  · rename_i e
    exact all { homeT th with Place := to, Stamp := z.n, Fresh := true } rfl rfl (z.n + 1) (by omega) (by have := h3 e; omega) (fun q => absurd e q) (fun _ => ⟨rfl, by omega⟩)
  · rename_i e
    exact all { homeT th with Place := to } rfl rfl z.n (Int.le_refl _) h.n2 (fun _ => rfl) (fun q => absurd q e)
end

section
/- Zones, plainly: what the calls do. -/
open Zv
def th0 : Th := ⟨0, 0, 0, 0, 0, (0, 0, 0, 0), 0, false⟩
/-- How many of an owner's lie on the table. -/
def own (z : Zo) (p : Int) : Nat := z.t.countP fun t => t.Place == 4 && t.Owner == p
def getT (z : Zo) (n : Int) : Option Th := if 1 ≤ n then z.t[(n - 1).toNat]? else none
theorem getT_some {z : Zo} {n : Int} {t : Th} (h : getT z n = some t) : ∃ k : Nat, n = (k : Int) + 1 ∧ z.t[k]? = some t ∧ (n - 1).toNat = k := by
  unfold getT at h
  split at h
  · exact ⟨(n - 1).toNat, by omega, h, rfl⟩
  · cases h
theorem getT_at {z : Zo} {k : Nat} {t : Th} (h : z.t[k]? = some t) : getT z ((k : Int) + 1) = some t := by
  unfold getT
  rw [if_pos (by omega), show ((k : Int) + 1 - 1).toNat = k by omega]; exact h
theorem getT_none {z : Zo} {n : Int} (h : n < 1 ∨ (z.t.length : Int) < n) : getT z n = none := by
  unfold getT
  split
  · rw [List.getElem?_eq_none (by omega)]
  · rfl
theorem getT_cases (z : Zo) (n : Int) : (n < 1 ∨ (z.t.length : Int) < n) ∧ getT z n = none ∨ ∃ (k : Nat) (t : Th), n = (k : Int) + 1 ∧ z.t[k]? = some t ∧ getT z n = some t := by
  by_cases h : n < 1 ∨ (z.t.length : Int) < n
  · exact .inl ⟨h, getT_none h⟩
  · have hk : (n - 1).toNat < z.t.length := by omega
    refine .inr ⟨(n - 1).toNat, z.t[(n - 1).toNat], by omega, List.getElem?_eq_getElem hk, ?_⟩
    unfold getT
    rw [if_pos (by omega)]; exact List.getElem?_eq_getElem hk

/-- Move; c: how a thing comes. -/
def moveZ (c : Zo → Nat → Th → Int → Zo) (z : Zo) (n to : Int) : Int × Zo :=
  (getT z n).elim (6, z) fun t =>
    if to < 1 ∨ 5 < to then (2, z)
    else if to = 2 ∧ t.Place ≠ 2 ∧ 10 ≤ (z.l (2 + t.Owner.toNat)).length then (14, z)
    else if to = 4 ∧ (1099511627776 ≤ z.n ∨ t.Place ≠ 4 ∧ 8 ≤ own z t.Owner) then (14, z)
    else (0, c z (n - 1).toNat t to)
def newT (card p pl : Int) : Th := ⟨card, p, pl, 0, 0, (0, 0, 0, 0), 0, false⟩
def plus (z : Zo) (t : Th) : Zo := { z with t := z.t ++ [t] }
/-- Make: pl: where the thing is before it comes. -/
def makeZ (c : Zo → Nat → Th → Int → Zo) (pl : Int) (z : Zo) (card p : Int) : Int × Int × Zo :=
  if card < 1 ∨ ¬ (p = 0 ∨ p = 1) then (0, 2, z)
  else if 2048 ≤ z.t.length ∨ 8 ≤ own z p ∨ 1099511627776 ≤ z.n then (0, 14, z)
  else ((z.t.length : Int) + 1, 0, c (plus z (newT card p pl)) z.t.length (newT card p pl) 4)
def okM (x : Int) : Prop := 0 ≤ x ∧ x ≤ 99
def okMs (m : Int × Int × Int × Int) : Prop := okM m.1 ∧ okM m.2.1 ∧ okM m.2.2.1 ∧ okM m.2.2.2
def okW (o t : Th) : Prop := o.Place = 4 ∧ t.Card = o.Card ∧ t.Owner = o.Owner ∧ t.Place = o.Place ∧ t.Stamp = o.Stamp ∧ 0 ≤ t.Hurt ∧ 0 ≤ t.Done ∧ okMs t.Marks
open Classical in
noncomputable def writeZ (z : Zo) (n : Int) (t : Th) : Int × Zo :=
  (getT z n).elim (6, z) fun o => if okW o t then (0, { z with t := z.t.set (n - 1).toNat t }) else (2, z)
open Classical in
noncomputable def arrZ (z : Zo) (p : Int) (l : List Int) : Int × Zo :=
  if ¬ (p = 0 ∨ p = 1) then (2, z) else if l.Perm (z.l p.toNat) then (0, { z with l := upd z.l p.toNat l }) else (2, z)

/-- A list without one more than n in it is not longer. -/
theorem nodup_le : ∀ (n : Nat) (l : List Int), l.Nodup → (∀ x ∈ l, 1 ≤ x ∧ x ≤ (n : Int)) → l.length ≤ n
  | 0, l, _, h => by
    cases l with
    | nil => simp
    | cons x r => have := h x (by simp); omega
  | n + 1, l, hl, h => by
    have h1 := nodup_le n (l.erase ((n : Int) + 1)) (hl.erase _) fun x hx => by
      have hx' := (hl.mem_erase_iff).1 hx
      have := h x hx'.2
      have h3 := hx'.1
      constructor
      · omega
      · have : x ≤ (n : Int) + 1 := by simpa using this.2
        omega
    have h2 := List.length_erase (a := (n : Int) + 1) (l := l)
    split at h2 <;> omega
theorem InvZ.len {z : Zo} (h : InvZ z) (q : Nat) : (z.l q).length ≤ 2048 := by
  refine nodup_le 2048 _ (h.nd q) fun x hx => ?_
  obtain ⟨i, th, rfl, h1, _⟩ := (h.mem q x).1 hx
  have := (List.getElem?_eq_some_iff.1 h1).1
  have := h.few
  omega

theorem move_same {z : Zo} (h : InvZ z) (n to : Int) : moveZ rcome z n to = moveZ come z n to := by
  unfold moveZ
  rcases getT_cases z n with ⟨_, e⟩ | ⟨k, t, rfl, hk, e⟩
  · rw [e]; rfl
  · rw [e]
    simp only [Option.elim_some, show ((k : Int) + 1 - 1).toNat = k by omega, rcome_eq h hk]
theorem move_inv {z : Zo} (h : InvZ z) (n to : Int) : InvZ (moveZ come z n to).2 := by
  unfold moveZ
  rcases getT_cases z n with ⟨_, e⟩ | ⟨k, t, rfl, hk, e⟩
  · rw [e]; exact h
  · rw [e]
    simp only [Option.elim_some, show ((k : Int) + 1 - 1).toNat = k by omega]
    split
    · exact h
    · split
      · exact h
      · split
        · exact h
        · rename_i h1 h2 h3
          exact come_inv h hk (by omega) (by omega) fun e => by
            have := not_and.1 h3 e
            omega

theorem plus_inv {z : Zo} (h : InvZ z) {card p : Int} (hp : p = 0 ∨ p = 1) (hl : z.t.length < 2048) : InvZ (plus z (newT card p 5)) := by
  have hg : ∀ (i : Nat) (t : Th), (z.t ++ [newT card p 5])[i]? = some t → z.t[i]? = some t ∨ i = z.t.length ∧ t = newT card p 5 := fun i t hi => by
    rcases Nat.lt_trichotomy i z.t.length with h1 | h1 | h1
    · rw [List.getElem?_append_left h1] at hi; exact .inl hi
    · subst h1; rw [List.getElem?_append_right (Nat.le_refl _)] at hi; simp at hi; exact .inr ⟨rfl, hi.symm⟩
    · rw [List.getElem?_eq_none (by simp; omega)] at hi; cases hi
  refine ⟨by simp [plus]; omega, h.n1, h.n2, fun t ht => ?_, fun i j a b hij hi hj ha hb => ?_, h.nd, fun q m => ?_⟩
  · rcases List.mem_append.1 ht with h1 | h1
    · exact h.th t h1
    · simp at h1; subst h1
      exact ⟨hp, by simp [newT], by simp [newT], by simp [newT], by simp [newT]⟩
  · rcases hg i a hi with h1 | ⟨_, rfl⟩
    · rcases hg j b hj with h2 | ⟨_, rfl⟩
      · exact h.st i j a b hij h1 h2 ha hb
      · simp [newT] at hb
    · simp [newT] at ha
  · show m ∈ z.l q ↔ _
    rw [h.mem]
    constructor
    · rintro ⟨i, t, e, h1, h2⟩
      exact ⟨i, t, e, by show (z.t ++ _)[i]? = _; rw [List.getElem?_append_left (List.getElem?_eq_some_iff.1 h1).1]; exact h1, h2⟩
    · rintro ⟨i, t, e, h1, h2⟩
      rcases hg i t h1 with h3 | ⟨_, rfl⟩
      · exact ⟨i, t, e, h3, h2⟩
      · simp [newT, li] at h2

/-- The program's new thing is nowhere, the document's in the grave. -/
theorem come_new {z : Zo} {card p : Int} : come (plus z (newT card p 0)) z.t.length (newT card p 0) 4 = come (plus z (newT card p 5)) z.t.length (newT card p 5) 4 := by
  have h1 : ∀ pl, pl = 0 ∨ pl = 5 → outL (plus z (newT card p pl)) z.t.length (newT card p pl) = z.l := fun pl hpl => outL_none (by rcases hpl with rfl | rfl <;> rfl)
  unfold come
  rw [h1 0 (.inl rfl), h1 5 (.inr rfl)]
  unfold putT
  simp only [plus, newT, homeT]
  rw [if_pos trivial, if_pos trivial]
  simp
theorem make_same {z : Zo} (h : InvZ z) (card p : Int) : makeZ rcome 5 z card p = makeZ come 0 z card p := by
  unfold makeZ
  split
  · rfl
  · split
    · rfl
    · rename_i h1 h2
      have hi := plus_inv h (card := card) (p := p) (by omega) (by omega)
      have hk : (plus z (newT card p 5)).t[z.t.length]? = some (newT card p 5) := by simp [plus]
      rw [rcome_eq hi hk, come_new]
theorem make_inv {z : Zo} (h : InvZ z) (card p : Int) : InvZ (makeZ come 0 z card p).2.2 := by
  unfold makeZ
  split
  · exact h
  · split
    · exact h
    · rename_i h1 h2
      have hi := plus_inv h (card := card) (p := p) (by omega) (by omega)
      have hk : (plus z (newT card p 5)).t[z.t.length]? = some (newT card p 5) := by simp [plus]
      rw [come_new]
      exact come_inv (to := 4) hi hk (by omega) (by omega) fun _ => by show z.n < _; omega

theorem write_inv {z : Zo} (h : InvZ z) (n : Int) (t : Th) : InvZ (writeZ z n t).2 := by
  unfold writeZ
  rcases getT_cases z n with ⟨_, e⟩ | ⟨k, o, rfl, hk, e⟩
  · rw [e]; exact h
  · rw [e]
    simp only [Option.elim_some, show ((k : Int) + 1 - 1).toNat = k by omega]
    split
    · rename_i hw
      obtain ⟨w1, w2, w3, w4, w5, _⟩ := hw
      have hkl := (List.getElem?_eq_some_iff.1 hk).1
      have ho := h.th o (List.mem_of_getElem? hk)
      have hs : ∀ (i : Nat) (a : Th), (z.t.set k t)[i]? = some a → ∃ a', z.t[i]? = some a' ∧ a.Place = a'.Place ∧ a.Stamp = a'.Stamp ∧ a.Owner = a'.Owner := fun i a hi => by
        by_cases e : i = k
        · subst e; rw [List.getElem?_set_self hkl] at hi; cases hi; exact ⟨o, hk, w4, w5, w3⟩
        · rw [List.getElem?_set_ne (Ne.symm e)] at hi; exact ⟨a, hi, rfl, rfl, rfl⟩
      refine ⟨by simpa using h.few, h.n1, h.n2, fun a ha => ?_, fun i j a b hij hi hj ha hb => ?_, h.nd, fun q m => ?_⟩
      · rcases List.mem_or_eq_of_mem_set ha with h1 | rfl
        · exact h.th a h1
        · rw [w3, w4, w5]; exact ho
      · obtain ⟨a', g1, g2, g3, _⟩ := hs i a hi
        obtain ⟨b', k1, k2, k3, _⟩ := hs j b hj
        rw [g3, k3]
        exact h.st i j a' b' hij g1 k1 (by rw [← g2]; exact ha) (by rw [← k2]; exact hb)
      · show m ∈ z.l q ↔ _
        rw [h.mem]
        constructor
        · rintro ⟨i, a, em, h1, h2⟩
          by_cases ei : i = k
          · subst ei; rw [hk] at h1; cases h1
            exact ⟨i, t, em, List.getElem?_set_self hkl, by rw [w3, w4]; exact h2⟩
          · exact ⟨i, a, em, by show (z.t.set k t)[i]? = _; rw [List.getElem?_set_ne (Ne.symm ei)]; exact h1, h2⟩
        · rintro ⟨i, a, em, h1, h2⟩
          obtain ⟨a', g1, g2, _, g4⟩ := hs i a h1
          exact ⟨i, a', em, g1, by rw [← g2, ← g4]; exact h2⟩
    · exact h

theorem arr_inv {z : Zo} (h : InvZ z) (p : Int) (l : List Int) : InvZ (arrZ z p l).2 := by
  unfold arrZ
  split
  · exact h
  · split
    · rename_i hp
      refine ⟨h.few, h.n1, h.n2, h.th, h.st, fun q => ?_, fun q m => ?_⟩
      · simp only [upd]
        split
        · exact hp.symm.nodup (h.nd _)
        · exact h.nd q
      · simp only [upd]
        split
        · rename_i e; subst e
          rw [hp.mem_iff]; exact h.mem _ m
        · exact h.mem q m
    · exact h
end

section
/- Zones, plainly: what lies on the table, in the order of stamps. -/
open Zv
/-- The numbers of the things, of the first n, of which f holds. -/
def numsZ (t : List Th) (f : Th → Bool) : Nat → List Int
  | 0 => []
  | n + 1 => numsZ t f n ++ if (t[n]?.map f).getD false = true then [(n : Int) + 1] else []
theorem numsZ_succ {t : List Th} {f : Th → Bool} {n : Nat} (h : n < t.length) : numsZ t f (n + 1) = numsZ t f n ++ if f t[n] = true then [(n : Int) + 1] else [] := by
  show numsZ t f n ++ _ = _
  rw [List.getElem?_eq_getElem h]; rfl
theorem mem_numsZ {t : List Th} {f : Th → Bool} {m : Int} : ∀ {n : Nat}, m ∈ numsZ t f n ↔ ∃ (k : Nat) (x : Th), k < n ∧ m = (k : Int) + 1 ∧ t[k]? = some x ∧ f x = true
  | 0 => by simp [numsZ]
  | n + 1 => by
    show m ∈ numsZ t f n ++ _ ↔ _
    rw [List.mem_append, mem_numsZ]
    constructor
    · rintro (⟨k, x, h1, h2, h3⟩ | h)
      · exact ⟨k, x, by omega, h2, h3⟩
      · split at h
        · rename_i hf
          simp at h; subst h
          cases hx : t[n]? with
          | none => rw [hx] at hf; simp at hf
          | some x => rw [hx] at hf; exact ⟨n, x, by omega, rfl, hx, by simpa using hf⟩
        · cases h
    · rintro ⟨k, x, h1, h2, h3, h4⟩
      by_cases e : k = n
      · subst e
        right
        rw [h3]; simp [h4, h2]
      · exact .inl ⟨k, x, by omega, h2, h3, h4⟩
theorem numsZ_nodup {t : List Th} {f : Th → Bool} : ∀ n : Nat, (numsZ t f n).Nodup
  | 0 => by simp [numsZ]
  | n + 1 => by
    show (numsZ t f n ++ _).Nodup
    rw [List.nodup_append]
    refine ⟨numsZ_nodup n, by split <;> simp, fun a ha b hb => ?_⟩
    obtain ⟨k, x, h1, h2, _⟩ := mem_numsZ.1 ha
    split at hb
    · simp at hb; omega
    · cases hb
theorem numsZ_le {t : List Th} {f : Th → Bool} : ∀ n : Nat, (numsZ t f n).length ≤ n
  | 0 => by simp [numsZ]
  | n + 1 => by
    have := numsZ_le (t := t) (f := f) n
    show (numsZ t f n ++ _).length ≤ _
    split <;> simp <;> omega
theorem numsZ_filter {t : List Th} {f g : Th → Bool} {p : Int → Bool} (h : ∀ (k : Nat) (x : Th), t[k]? = some x → (f x && p ((k : Int) + 1)) = g x) : ∀ n : Nat, n ≤ t.length → (numsZ t f n).filter p = numsZ t g n
  | 0, _ => rfl
  | n + 1, hn => by
    rw [numsZ_succ (by omega), numsZ_succ (by omega), List.filter_append, numsZ_filter h n (by omega)]
    congr 1
    have := h n t[n] (List.getElem?_eq_getElem (by omega))
    cases hf : f t[n] <;> cases hp : p ((n : Int) + 1) <;> simp_all

def atZ (z : Zo) (m : Int) : Th := (getT z m).getD th0
def onT (z : Zo) : List Int := numsZ z.t (fun t => t.Place == 4) z.t.length
/-- What lies on the table, the eldest stamp first. -/
def IsTab (z : Zo) (l : List Int) : Prop := l.Perm (onT z) ∧ l.Pairwise fun a b => (atZ z a).Stamp ≤ (atZ z b).Stamp
theorem mem_onT {z : Zo} {m : Int} : m ∈ onT z ↔ ∃ (k : Nat) (x : Th), m = (k : Int) + 1 ∧ z.t[k]? = some x ∧ x.Place = 4 := by
  unfold onT
  rw [mem_numsZ]
  constructor
  · rintro ⟨k, x, _, h2, h3, h4⟩; exact ⟨k, x, h2, h3, by simpa using h4⟩
  · rintro ⟨k, x, h2, h3, h4⟩; exact ⟨k, x, (List.getElem?_eq_some_iff.1 h3).1, h2, h3, by simpa using h4⟩
theorem atZ_at {z : Zo} {k : Nat} {x : Th} (h : z.t[k]? = some x) : atZ z ((k : Int) + 1) = x := by unfold atZ; rw [getT_at h]; rfl
theorem tab_unique {z : Zo} (h : InvZ z) {l m : List Int} (hl : IsTab z l) (hm : IsTab z m) : l = m := by
  refine List.Perm.eq_of_pairwise (fun a b ha hb h1 h2 => ?_) hl.2 hm.2 (hl.1.trans hm.1.symm)
  obtain ⟨i, x, rfl, g1, g2⟩ := mem_onT.1 (hl.1.mem_iff.1 ha)
  obtain ⟨j, y, rfl, k1, k2⟩ := mem_onT.1 (hm.1.mem_iff.1 hb)
  rw [atZ_at g1, atZ_at k1] at h1 h2
  by_cases e : i = j
  · subst e; rfl
  · exact absurd (by omega) (h.st i j x y e g1 k1 g2 k2)
/-- What a look into a place tells. -/
def IsIn (z : Zo) (p pl : Int) (l : List Int) : Prop :=
  (¬ (p = 0 ∨ p = 1) ∧ l = []) ∨ ((p = 0 ∨ p = 1) ∧ (pl = 1 ∧ l = z.l p.toNat ∨ pl = 2 ∧ l = z.l (2 + p.toNat) ∨ pl = 4 ∧ (∃ tab, IsTab z tab ∧ l = tab.filter fun m => (atZ z m).Owner == p) ∨ pl ≠ 1 ∧ pl ≠ 2 ∧ pl ≠ 4 ∧ l = numsZ z.t (fun t => t.Owner == p && t.Place == pl) z.t.length))
theorem in_unique {z : Zo} (h : InvZ z) {p pl : Int} {l m : List Int} (hl : IsIn z p pl l) (hm : IsIn z p pl m) : l = m := by
  rcases hl with ⟨h1, rfl⟩ | ⟨h1, h2⟩
  · rcases hm with ⟨_, rfl⟩ | ⟨k1, _⟩
    · rfl
    · exact absurd k1 h1
  · rcases hm with ⟨k1, _⟩ | ⟨_, k2⟩
    · exact absurd h1 k1
    · rcases h2 with ⟨e, rfl⟩ | ⟨e, rfl⟩ | ⟨e, tab, t1, rfl⟩ | ⟨e1, e2, e3, rfl⟩ <;> rcases k2 with ⟨f, rfl⟩ | ⟨f, rfl⟩ | ⟨f, tab2, t2, rfl⟩ | ⟨f1, f2, f3, rfl⟩ <;> first | rfl | omega | (rw [tab_unique h t1 t2])
theorem exists_map {α : Type} {enc : α → Int} : ∀ l : List Int, (∀ m ∈ l, ∃ x, enc x = m) → ∃ d : List α, d.map enc = l
  | [], _ => ⟨[], rfl⟩
  | m :: r, h => by
    obtain ⟨x, hx⟩ := h m (by simp)
    obtain ⟨d, hd⟩ := exists_map r fun m hm => h m (by simp [hm])
    exact ⟨x :: d, by simp [hx, hd]⟩
end
/-- A list holds each thing of an owner's in a place, once, and nothing else. -/
def At (z : Zo) (p pl m : Int) : Prop := ∃ (k : Nat) (t : Th), m = (k : Int) + 1 ∧ z.t[k]? = some t ∧ t.Owner = p ∧ t.Place = pl
def Holds (z : Zo) (l : List Int) (p pl : Int) : Prop := l.Nodup ∧ ∀ m, m ∈ l ↔ At z p pl m
end Go.Proofs.YthgfjbafhjkhnaaGreat.Zq
