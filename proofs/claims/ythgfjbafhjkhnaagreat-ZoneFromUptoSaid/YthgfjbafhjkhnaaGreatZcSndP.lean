/- Zones, plainly: when they are sound. -/
import Derived.Test.YthgfjbafhjkhnaaGreatZcTab
namespace Go.Proofs.YthgfjbafhjkhnaaGreat.Zq
section
/- Zones, plainly: when they are sound. -/
open Zv
/-- A thing that may be. -/
def okT (n : Int) (t : Th) : Prop := 1 ≤ t.Card ∧ (t.Owner = 0 ∨ t.Owner = 1) ∧ 1 ≤ t.Place ∧ t.Place ≤ 5 ∧ (t.Place ≠ 4 → t = homeT t) ∧ (t.Place = 4 → 1 ≤ t.Stamp ∧ t.Stamp < n ∧ 0 ≤ t.Hurt ∧ 0 ≤ t.Done ∧ okMs t.Marks)
/-- No stamp twice. -/
def DstS (l : List Th) : Prop := l.Pairwise fun x y => x.Place = 4 → y.Place = 4 → x.Stamp ≠ y.Stamp
/-- Zones that may be. -/
structure Snd (z : Zo) : Prop where
  few : z.t.length ≤ 2048
  n1 : 1 ≤ z.n
  n2 : z.n ≤ 1099511627776
  ok : ∀ t ∈ z.t, okT z.n t
  own : ∀ p : Nat, p < 2 → Zq.own z p ≤ 8
  hand : ∀ p : Nat, p < 2 → (z.l (2 + p)).length ≤ 10
  deck : ∀ p : Nat, p < 2 → Holds z (z.l p) p 1
  held : ∀ p : Nat, p < 2 → Holds z (z.l (2 + p)) p 2
  st : DstS z.t
  nil : ∀ q, 4 ≤ q → z.l q = []
theorem at_li {z : Zo} {p : Nat} (hp : p < 2) {pl : Nat} (hpl : pl = 1 ∨ pl = 2) {m : Int} (ho : ∀ t ∈ z.t, t.Owner = 0 ∨ t.Owner = 1) : At z p pl m ↔ ∃ (i : Nat) (th : Th), m = (i : Int) + 1 ∧ z.t[i]? = some th ∧ li th.Owner th.Place = some (if pl = 1 then p else 2 + p) := by
  constructor
  · rintro ⟨k, t, e, e2, e3, e4⟩
    refine ⟨k, t, e, e2, ?_⟩
    rcases hpl with rfl | rfl
    · simp [li, e3, e4]
    · simp [li, e3, e4]
  · rintro ⟨k, t, e, e2, e3⟩
    have h := ho t (List.mem_of_getElem? e2)
    refine ⟨k, t, e, e2, ?_⟩
    unfold li at e3
    rcases hpl with rfl | rfl
    · simp only [if_true] at e3
      split at e3
      · rename_i e4; simp at e3; exact ⟨by omega, e4⟩
      · split at e3
        · simp at e3; omega
        · cases e3
    · rw [if_neg (by decide : ¬ (2 : Nat) = 1)] at e3
      split at e3
      · simp at e3; omega
      · split at e3
        · rename_i e4; simp at e3; exact ⟨by omega, e4⟩
        · cases e3
theorem Snd.inv {z : Zo} (h : Snd z) : InvZ z := by
  have ho : ∀ t ∈ z.t, t.Owner = 0 ∨ t.Owner = 1 := fun t ht => (h.ok t ht).2.1
  refine ⟨h.few, h.n1, h.n2, fun t ht => ?_, fun i j a b hij hi hj ha hb => ?_, fun q => ?_, fun q m => ?_⟩
  · obtain ⟨_, h1, h2, h3, h4, h5⟩ := h.ok t ht
    exact ⟨h1, h2, h3, fun e => by rw [h4 e]; rfl, fun e => ⟨(h5 e).1, (h5 e).2.1⟩⟩
  · have hst := List.pairwise_iff_getElem.1 h.st
    obtain ⟨il, ie⟩ := List.getElem?_eq_some_iff.1 hi
    obtain ⟨jl, je⟩ := List.getElem?_eq_some_iff.1 hj
    rcases Nat.lt_trichotomy i j with q | q | q
    · have := hst i j il jl q; rw [ie, je] at this; exact this ha hb
    · exact absurd q hij
    · have := hst j i jl il q; rw [ie, je] at this; exact fun e => this hb ha e.symm
  · by_cases hq : q < 4
    · rcases lt4 hq with rfl | rfl | rfl | rfl
      · exact (h.deck 0 (by omega)).1
      · exact (h.deck 1 (by omega)).1
      · exact (h.held 0 (by omega)).1
      · exact (h.held 1 (by omega)).1
    · rw [h.nil q (by omega)]; exact List.nodup_nil
  · by_cases hq : q < 4
    · rcases lt4 hq with rfl | rfl | rfl | rfl
      · rw [(h.deck 0 (by omega)).2 m]; exact at_li (pl := 1) (by omega) (.inl rfl) ho
      · rw [(h.deck 1 (by omega)).2 m]; exact at_li (pl := 1) (by omega) (.inl rfl) ho
      · rw [(h.held 0 (by omega)).2 m]; exact at_li (pl := 2) (by omega) (.inr rfl) ho
      · rw [(h.held 1 (by omega)).2 m]; exact at_li (pl := 2) (by omega) (.inr rfl) ho
    · rw [h.nil q (by omega)]
      constructor
      · intro hm; cases hm
      · rintro ⟨i, t, _, h2, h3⟩
        have := ho t (List.mem_of_getElem? h2)
        have := li_lt this h3
        omega

/-- Lists without one twice. -/
theorem nodup_sub_le {α : Type} [BEq α] [LawfulBEq α] : ∀ (l m : List α), l.Nodup → (∀ x ∈ l, x ∈ m) → l.length ≤ m.length
  | [], _, _, _ => by simp
  | x :: r, m, hl, h => by
    have hx := h x (by simp)
    rw [List.nodup_cons] at hl
    have := nodup_sub_le r (m.erase x) hl.2 fun y hy => by
      have : y ≠ x := fun e => hl.1 (e ▸ hy)
      exact (List.mem_erase_of_ne this).2 (h y (by simp [hy]))
    rw [List.length_erase_of_mem hx] at this
    have := List.length_pos_of_mem hx
    simp; omega
theorem nodup_sub_eq {α : Type} [BEq α] [LawfulBEq α] {l m : List α} (hl : l.Nodup) (h : ∀ x ∈ l, x ∈ m) (he : l.length = m.length) : ∀ x ∈ m, x ∈ l := fun x hx => Classical.byContradiction fun q => by
  have := nodup_sub_le l (m.erase x) hl fun y hy => by
    have : y ≠ x := fun e => q (e ▸ hy)
    exact (List.mem_erase_of_ne this).2 (h y hy)
  rw [List.length_erase_of_mem hx] at this
  have := List.length_pos_of_mem hx
  omega
theorem numsZ_count (t : List Th) (f : Th → Bool) : ∀ n : Nat, n ≤ t.length → (numsZ t f n).length = (t.take n).countP f
  | 0, _ => by simp [numsZ]
  | n + 1, h => by
    rw [numsZ_succ (by omega), List.length_append, numsZ_count t f n (by omega), List.take_succ_eq_append_getElem (by omega), List.countP_append]
    simp only [List.countP_cons, List.countP_nil]
    split <;> simp

/-- The lists, in the order in which they are looked at. -/
def wl (z : Zo) (q : Nat) : List Int := z.l (2 * (q % 2) + q / 2)
def Mz (z : Zo) : Nat → List Int
  | 0 => []
  | q + 1 => Mz z q ++ wl z q
theorem mem_Mz {z : Zo} {x : Int} : ∀ {q : Nat}, x ∈ Mz z q ↔ ∃ r, r < q ∧ x ∈ wl z r
  | 0 => by simp [Mz]
  | q + 1 => by
    simp only [Mz, List.mem_append, mem_Mz (q := q)]
    constructor
    · rintro (⟨r, h1, h2⟩ | h)
      · exact ⟨r, by omega, h2⟩
      · exact ⟨q, by omega, h⟩
    · rintro ⟨r, h1, h2⟩
      by_cases e : r = q
      · subst e; exact .inr h2
      · exact .inl ⟨r, by omega, h2⟩
/-- What stands in a list is of that owner, in that place. -/
def okL (z : Zo) (q : Nat) : Prop := (wl z q).Nodup ∧ ∀ x ∈ wl z q, At z ((q / 2 : Nat) : Int) (((q % 2 : Nat) : Int) + 1) x
theorem at_inj {z : Zo} {p p' pl pl' x : Int} (h : At z p pl x) (h' : At z p' pl' x) : p = p' ∧ pl = pl' := by
  obtain ⟨k, t, e, e2, e3, e4⟩ := h
  obtain ⟨k', t', e', e2', e3', e4'⟩ := h'
  have : k = k' := by omega
  subst this
  rw [e2] at e2'; cases e2'
  exact ⟨e3.symm.trans e3', e4.symm.trans e4'⟩
theorem q_inj {q r : Nat} (h : ((q / 2 : Nat) : Int) = ((r / 2 : Nat) : Int)) (h2 : ((q % 2 : Nat) : Int) + 1 = ((r % 2 : Nat) : Int) + 1) : q = r := by omega
theorem Mz_nodup {z : Zo} : ∀ {q : Nat}, (∀ r, r < q → okL z r) → (Mz z q).Nodup
  | 0, _ => by simp [Mz]
  | q + 1, h => by
    simp only [Mz]
    rw [List.nodup_append]
    refine ⟨Mz_nodup fun r hr => h r (by omega), (h q (by omega)).1, fun a ha b hb => ?_⟩
    rintro rfl
    obtain ⟨r, hr, hra⟩ := mem_Mz.1 ha
    obtain ⟨h1, h2⟩ := at_inj ((h r (by omega)).2 a hra) ((h q (by omega)).2 a hb)
    have := q_inj h1 h2; omega
/-- How many things are held in lists. -/
def heldZ (t : List Th) : Nat := t.countP fun x => x.Place == 1 || x.Place == 2
theorem Mz_all {z : Zo} (h : ∀ r, r < 4 → okL z r) (ho : ∀ t ∈ z.t, t.Owner = 0 ∨ t.Owner = 1) : (Mz z 4).length = heldZ z.t ↔ ∀ r, r < 4 → ∀ m, At z ((r / 2 : Nat) : Int) (((r % 2 : Nat) : Int) + 1) m → m ∈ wl z r := by
  have hc : heldZ z.t = (numsZ z.t (fun x => x.Place == 1 || x.Place == 2) z.t.length).length := by
    rw [numsZ_count _ _ _ (Nat.le_refl _), List.take_length]; rfl
  have hsub : ∀ x ∈ Mz z 4, x ∈ numsZ z.t (fun x => x.Place == 1 || x.Place == 2) z.t.length := fun x hx => by
    obtain ⟨r, hr, hx⟩ := mem_Mz.1 hx
    obtain ⟨k, t, e, e2, e3, e4⟩ := (h r hr).2 x hx
    rw [mem_numsZ]
    refine ⟨k, t, (List.getElem?_eq_some_iff.1 e2).1, e, e2, ?_⟩
    simp only [Bool.or_eq_true, beq_iff_eq]
    omega
  rw [hc]
  constructor
  · intro hl r hr m hm
    have hin := nodup_sub_eq (Mz_nodup h) hsub hl m (by
      obtain ⟨k, t, e, e2, e3, e4⟩ := hm
      rw [mem_numsZ]
      refine ⟨k, t, (List.getElem?_eq_some_iff.1 e2).1, e, e2, ?_⟩
      simp only [Bool.or_eq_true, beq_iff_eq]; omega)
    obtain ⟨r', hr', hm'⟩ := mem_Mz.1 hin
    obtain ⟨h1, h2⟩ := at_inj hm ((h r' hr').2 m hm')
    have := q_inj h1 h2
    subst this; exact hm'
  · intro hall
    refine Nat.le_antisymm (nodup_sub_le _ _ (Mz_nodup h) hsub) (nodup_sub_le _ _ (numsZ_nodup _) fun x hx => ?_)
    obtain ⟨k, t, _, e, e2, e3⟩ := mem_numsZ.1 hx
    have h1 := ho t (List.mem_of_getElem? e2)
    simp only [Bool.or_eq_true, beq_iff_eq] at e3
    rw [mem_Mz]
    refine ⟨2 * t.Owner.toNat + (t.Place.toNat - 1), by omega, hall _ (by omega) x ⟨k, t, e, e2, by omega, by omega⟩⟩
/-- All that is asked, as the lists are looked at. -/
theorem snd_lists {z : Zo} : (∀ r, r < 4 → okL z r) ∧ (∀ r, r < 4 → ∀ m, At z ((r / 2 : Nat) : Int) (((r % 2 : Nat) : Int) + 1) m → m ∈ wl z r) ↔ (∀ p : Nat, p < 2 → Holds z (z.l p) p 1) ∧ ∀ p : Nat, p < 2 → Holds z (z.l (2 + p)) p 2 := by
  have w : ∀ p k : Nat, p < 2 → k < 2 → wl z (2 * p + k) = z.l (2 * k + p) ∧ (2 * p + k) / 2 = p ∧ (2 * p + k) % 2 = k := fun p k hp hk => by
    have h1 : (2 * p + k) / 2 = p := by omega
    have h2 : (2 * p + k) % 2 = k := by omega
    exact ⟨by unfold wl; rw [h1, h2], h1, h2⟩
  constructor
  · rintro ⟨h1, h2⟩
    refine ⟨fun p hp => ?_, fun p hp => ?_⟩
    · obtain ⟨e1, e2, e3⟩ := w p 0 hp (by omega)
      have a := h1 (2 * p + 0) (by omega)
      have b := h2 (2 * p + 0) (by omega)
      unfold okL at a
      rw [e1, e2, e3] at a; rw [e1, e2, e3] at b
      simp only [Nat.mul_zero, Nat.zero_add] at a b
      exact ⟨a.1, fun m => ⟨a.2 m, b m⟩⟩
    · obtain ⟨e1, e2, e3⟩ := w p 1 hp (by omega)
      have a := h1 (2 * p + 1) (by omega)
      have b := h2 (2 * p + 1) (by omega)
      unfold okL at a
      rw [e1, e2, e3] at a; rw [e1, e2, e3] at b
      exact ⟨a.1, fun m => ⟨a.2 m, b m⟩⟩
  · rintro ⟨h1, h2⟩
    have key : ∀ r, r < 4 → okL z r ∧ ∀ m, At z ((r / 2 : Nat) : Int) (((r % 2 : Nat) : Int) + 1) m → m ∈ wl z r := fun r hr => by
      unfold okL wl
      rcases lt4 hr with rfl | rfl | rfl | rfl
      · have a := h1 0 (by omega); exact ⟨⟨a.1, fun x hx => (a.2 x).1 hx⟩, fun m hm => (a.2 m).2 hm⟩
      · have a := h2 0 (by omega); exact ⟨⟨a.1, fun x hx => (a.2 x).1 hx⟩, fun m hm => (a.2 m).2 hm⟩
      · have a := h1 1 (by omega); exact ⟨⟨a.1, fun x hx => (a.2 x).1 hx⟩, fun m hm => (a.2 m).2 hm⟩
      · have a := h2 1 (by omega); exact ⟨⟨a.1, fun x hx => (a.2 x).1 hx⟩, fun m hm => (a.2 m).2 hm⟩
    exact ⟨fun r hr => (key r hr).1, fun r hr => (key r hr).2⟩
end

section
/- Sound zones: what each call leaves of them, plainly. -/
open Zv
theorem upd_same' {α : Type} (l : Nat → α) (i : Nat) (x : α) : upd l i x i = x := by simp [upd]
structure Xt (z : Zo) : Prop where
  ok : ∀ t ∈ z.t, okT z.n t
  own : ∀ p : Nat, p < 2 → Zq.own z p ≤ 8
  hand : ∀ p : Nat, p < 2 → (z.l (2 + p)).length ≤ 10
theorem Snd.xt {z : Zo} (h : Snd z) : Xt z := ⟨h.ok, h.own, h.hand⟩
theorem snd_of {z : Zo} (h : InvZ z) (x : Xt z) : Snd z := by
  have ho : ∀ t ∈ z.t, t.Owner = 0 ∨ t.Owner = 1 := fun t ht => (x.ok t ht).2.1
  refine ⟨h.few, h.n1, h.n2, x.ok, x.own, x.hand, fun p hp => ⟨h.nd p, fun m => ?_⟩, fun p hp => ⟨h.nd _, fun m => ?_⟩, List.pairwise_iff_getElem.2 fun i j hi hj hij ha hb => h.st i j _ _ (by omega) (List.getElem?_eq_getElem hi) (List.getElem?_eq_getElem hj) ha hb, fun q hq => List.eq_nil_iff_forall_not_mem.2 fun m hm => ?_⟩
  · rw [h.mem]; exact (at_li (pl := 1) hp (.inl rfl) ho).symm
  · rw [h.mem]; exact (at_li (pl := 2) hp (.inr rfl) ho).symm
  · obtain ⟨i, t, _, h2, h3⟩ := (h.mem q m).1 hm
    have := ho t (List.mem_of_getElem? h2)
    have := li_lt this h3
    omega
theorem okT.mono {n n' : Int} {t : Th} (h : okT n t) (hn : n ≤ n') : okT n' t := ⟨h.1, h.2.1, h.2.2.1, h.2.2.2.1, h.2.2.2.2.1, fun e => by obtain ⟨q1, q2, q3⟩ := h.2.2.2.2.2 e; exact ⟨q1, by omega, q3⟩⟩
theorem own_set {z : Zo} {k : Nat} {th th' : Th} (hk : z.t[k]? = some th) (p : Int) {l : Nat → List Int} {n : Int} : own ⟨z.t.set k th', l, n⟩ p = own z p - (if th.Place = 4 ∧ th.Owner = p then 1 else 0) + if th'.Place = 4 ∧ th'.Owner = p then 1 else 0 := by
  obtain ⟨h1, h2⟩ := List.getElem?_eq_some_iff.1 hk
  unfold own
  rw [List.countP_set h1, h2]
  simp only [Bool.and_eq_true, beq_iff_eq]
theorem outL_le {z : Zo} {k : Nat} {th : Th} (q : Nat) : (outL z k th q).length ≤ (z.l q).length := by
  cases hli : li th.Owner th.Place with
  | none => rw [outL_none hli]; exact Nat.le_refl _
  | some i =>
    rw [outL_some hli]
    simp only [upd]; split
    · rename_i e; subst e; exact List.length_erase_le
    · exact Nat.le_refl _
theorem okT_home {n : Int} {th : Th} (h : okT n th) {to : Int} (h1 : 1 ≤ to) (h5 : to ≤ 5) (h4 : to ≠ 4) : okT n { homeT th with Place := to } := ⟨h.1, h.2.1, h1, h5, fun _ => rfl, fun e => absurd e h4⟩
theorem okT_table {n : Int} {th : Th} (h : okT n th) (hn : 1 ≤ n) : okT (n + 1) { homeT th with Place := 4, Stamp := n, Fresh := true } := ⟨h.1, h.2.1, by show (1 : Int) ≤ 4; omega, by show (4 : Int) ≤ 5; omega, fun q => absurd rfl q, fun _ => ⟨hn, by show n < n + 1; omega, by show (0 : Int) ≤ 0; omega, by show (0 : Int) ≤ 0; omega, by simp [okMs, okM, homeT]⟩⟩
/-- What comes, comes within the limits. -/
theorem come_xt {z : Zo} (h : InvZ z) (x : Xt z) {k : Nat} {th : Th} (hk : z.t[k]? = some th) {to : Int} (h1 : 1 ≤ to) (h5 : to ≤ 5) (hh : to = 2 → th.Place ≠ 2 → (z.l (2 + th.Owner.toNat)).length < 10) (hw : to = 4 → th.Place ≠ 4 → own z th.Owner < 8) : Xt (come z k th to) := by
  have ho := (x.ok th (List.mem_of_getElem? hk)).2.1
  have okth := x.ok th (List.mem_of_getElem? hk)
  have hands : ∀ p : Nat, p < 2 → (intoL (outL z k th) k th.Owner to (2 + p)).length ≤ 10 := fun p hp => by
    have b1 := x.hand p hp
    have b2 := outL_le (z := z) (k := k) (th := th) (2 + p)
    cases hli : li th.Owner to with
    | none => rw [intoL_none hli]; omega
    | some i =>
      rw [intoL_some hli]
      simp only [upd]
      split
      · rename_i e; subst e
        have hto : to = 2 ∧ th.Owner.toNat = p := by
          unfold li at hli
          split at hli
          · simp at hli; omega
          · split at hli
            · rename_i e; simp at hli; exact ⟨e, hli⟩
            · cases hli
        obtain ⟨rfl, rfl⟩ := hto
        rw [List.length_append]
        by_cases e : th.Place = 2
        · have hl2 : li th.Owner th.Place = some (2 + th.Owner.toNat) := by rw [e]; rfl
          have hmem : ((k : Int) + 1) ∈ z.l (2 + th.Owner.toNat) := (h.mem _ _).2 ⟨k, th, rfl, hk, hl2⟩
          rw [outL_some hl2, upd_same', List.length_erase_of_mem hmem]
          have := List.length_pos_of_mem hmem
          simp; omega
        · have := hh rfl e
          simp; omega
      · omega
  unfold come putT
  split
  · rename_i e; subst e
    refine ⟨fun t ht => ?_, fun p hp => ?_, hands⟩
    · rcases List.mem_or_eq_of_mem_set ht with q | rfl
      · exact (x.ok t q).mono (by show z.n ≤ z.n + 1; omega)
      · exact okT_table okth h.n1
    · rw [own_set hk]
      have b := x.own p hp
      by_cases e : th.Owner = p
      · by_cases e4 : th.Place = 4
        · rw [if_pos ⟨e4, e⟩, if_pos ⟨rfl, e⟩]; omega
        · have := hw rfl e4
          rw [e] at this
          rw [if_neg (fun q => e4 q.1), if_pos ⟨rfl, e⟩]; omega
      · rw [if_neg (fun q => e q.2), if_neg (fun q => e q.2)]; omega
  · rename_i e
    refine ⟨fun t ht => ?_, fun p hp => ?_, hands⟩
    · rcases List.mem_or_eq_of_mem_set ht with q | rfl
      · exact x.ok t q
      · exact okT_home okth h1 h5 e
    · rw [own_set hk]
      have b := x.own p hp
      have e2 : (if ({ homeT th with Place := to } : Th).Place = 4 ∧ ({ homeT th with Place := to } : Th).Owner = (p : Int) then 1 else 0) = 0 := if_neg fun q => e q.1
      rw [e2]; omega
theorem move_snd {z : Zo} (h : Snd z) (n to : Int) : Snd (moveZ come z n to).2 := by
  refine snd_of (move_inv h.inv n to) ?_
  unfold moveZ
  rcases getT_cases z n with ⟨_, e⟩ | ⟨k, t, rfl, hk, e⟩
  · rw [e]; exact h.xt
  · rw [e]
    simp only [Option.elim_some, show ((k : Int) + 1 - 1).toNat = k by omega]
    split
    · exact h.xt
    · split
      · exact h.xt
      · split
        · exact h.xt
        · rename_i h1 h2 h3
          exact come_xt h.inv h.xt hk (by omega) (by omega) (fun e1 e2 => by omega) (fun e1 e2 => by omega)
theorem plus_xt {z : Zo} (x : Xt z) {card p : Int} (hc : 1 ≤ card) (hp : p = 0 ∨ p = 1) : Xt (plus z (newT card p 5)) ∧ ∀ q, own (plus z (newT card p 5)) q = own z q := by
  have ho : ∀ q, own (plus z (newT card p 5)) q = own z q := fun q => by
    unfold own plus
    simp [List.countP_append, newT]
  refine ⟨⟨fun t ht => ?_, fun q hq => by rw [ho]; exact x.own q hq, x.hand⟩, ho⟩
  rcases List.mem_append.1 ht with q | q
  · exact x.ok t q
  · simp at q; subst q
    exact ⟨hc, hp, by simp [newT], by simp [newT], fun _ => rfl, fun e => by simp [newT] at e⟩
theorem make_snd {z : Zo} (h : Snd z) (card p : Int) : Snd (makeZ come 0 z card p).2.2 := by
  refine snd_of (make_inv h.inv card p) ?_
  unfold makeZ
  split
  · exact h.xt
  · split
    · exact h.xt
    · rename_i h1 h2
      obtain ⟨x1, x2⟩ := plus_xt h.xt (card := card) (p := p) (by omega) (by omega)
      rw [come_new]
      exact come_xt (k := z.t.length) (th := newT card p 5) (to := 4) (plus_inv h.inv (card := card) (p := p) (by omega) (by omega)) x1 (by simp [plus]) (by omega) (by omega) (fun e => by omega) (fun _ _ => by rw [x2]; show own z p < 8; omega)
theorem write_snd {z : Zo} (h : Snd z) (n : Int) (t : Th) : Snd (writeZ z n t).2 := by
  refine snd_of (write_inv h.inv n t) ?_
  unfold writeZ
  rcases getT_cases z n with ⟨_, e⟩ | ⟨k, o, rfl, hk, e⟩
  · rw [e]; exact h.xt
  · rw [e]
    simp only [Option.elim_some, show ((k : Int) + 1 - 1).toNat = k by omega]
    split
    · rename_i hw
      obtain ⟨w1, w2, w3, w4, w5, w6, w7, w8⟩ := hw
      have oko := h.ok o (List.mem_of_getElem? hk)
      obtain ⟨o1, o2, o3, o4, o5, o6⟩ := oko
      obtain ⟨o7, o8, _⟩ := o6 w1
      refine ⟨fun a ha => ?_, fun p hp => ?_, h.hand⟩
      · rcases List.mem_or_eq_of_mem_set ha with q | rfl
        · exact h.ok a q
        · exact ⟨by omega, by omega, by omega, by omega, fun e => absurd (w4.trans w1) e, fun _ => ⟨by omega, by show a.Stamp < z.n; omega, w6, w7, w8⟩⟩
      · have b := h.own p hp
        have e := own_set (z := z) (th' := t) hk p (l := z.l) (n := z.n)
        show own ⟨z.t.set k t, z.l, z.n⟩ p ≤ 8
        rw [e]
        by_cases e5 : o.Owner = p
        · rw [if_pos ⟨w1, e5⟩]
          have : 1 ≤ own z p := by
            unfold own
            exact List.countP_pos_iff.2 ⟨o, List.mem_of_getElem? hk, by simp [w1, e5]⟩
          split <;> omega
        · rw [if_neg (fun q => e5 q.2), if_neg (fun q => e5 (by rw [← w3]; exact q.2))]; omega
    · exact h.xt
theorem arr_snd {z : Zo} (h : Snd z) (p : Int) (l : List Int) : Snd (arrZ z p l).2 := by
  refine snd_of (arr_inv h.inv p l) ?_
  unfold arrZ
  split
  · exact h.xt
  · split
    · refine ⟨h.ok, h.own, fun q hq => ?_⟩
      simp only [upd]
      rw [if_neg (by omega)]; exact h.hand q hq
    · exact h.xt
theorem fill_xt {p : Nat} (hp : p < 2) : ∀ (l : List Int) {z : Zo}, InvZ z → Xt z → (∀ c ∈ l, 1 ≤ c) → z.t.length + l.length ≤ 2048 → Xt (fillZ z p l)
  | [], _, _, x, _, _ => x
  | c :: r, z, h, x, hc, hl => by
    simp only [List.length_cons] at hl
    refine fill_xt hp r (step_inv h hp c (by omega)) ?_ (fun c' hc' => hc c' (by simp [hc'])) (by simp [stepNew]; omega)
    rw [step_come]
    exact come_xt (k := z.t.length) (th := newT c p 5) (plus_inv h (by omega) (by omega)) (plus_xt x (hc c (by simp)) (by omega)).1 (by simp [plus]) (by omega) (by omega) (fun e => by omega) (fun e => by omega)
theorem new_snd {one two : List Int} (h : one.length + two.length ≤ 2048) (h1 : okC one) (h2 : okC two) : Snd (newZ one two) := by
  refine snd_of (new_inv h) ?_
  exact fill_xt (by omega) two (fill_inv (by omega) one z0_inv (by simp [z0]; omega)) (fill_xt (by omega) one z0_inv ⟨by simp [z0], by simp [z0, own], by simp [z0]⟩ h1 (by simp [z0]; omega)) h2 (by rw [fillZ_len]; simp [z0]; omega)

theorem move_ref {z : Zo} {n to : Int} (h : (moveZ come z n to).1 ≠ 0) : (moveZ come z n to).2 = z := by
  unfold moveZ at h ⊢
  rcases getT_cases z n with ⟨_, e⟩ | ⟨k, t, rfl, hk, e⟩
  · rw [e]; rfl
  · rw [e] at h ⊢
    simp only [Option.elim_some] at h ⊢
    split
    · rfl
    · split
      · rfl
      · split
        · rfl
        · rename_i h1 h2 h3
          rw [if_neg h1, if_neg h2, if_neg h3] at h
          exact absurd rfl h
theorem make_ref {z : Zo} {card p : Int} (h : (makeZ come 0 z card p).2.1 ≠ 0) : (makeZ come 0 z card p).2.2 = z := by
  unfold makeZ at h ⊢
  split
  · rfl
  · split
    · rfl
    · rename_i h1 h2
      rw [if_neg h1, if_neg h2] at h
      exact absurd rfl h
theorem write_ref {z : Zo} {n : Int} {t : Th} (h : (writeZ z n t).1 ≠ 0) : (writeZ z n t).2 = z := by
  unfold writeZ at h ⊢
  rcases getT_cases z n with ⟨_, e⟩ | ⟨k, o, rfl, hk, e⟩
  · rw [e]; rfl
  · rw [e] at h ⊢
    simp only [Option.elim_some] at h ⊢
    split
    · rename_i h1
      rw [if_pos h1] at h
      exact absurd rfl h
    · rfl
theorem arr_ref {z : Zo} {p : Int} {l : List Int} (h : (arrZ z p l).1 ≠ 0) : (arrZ z p l).2 = z := by
  unfold arrZ at h ⊢
  split
  · rfl
  · split
    · rename_i h1 h2
      rw [if_neg h1, if_pos h2] at h
      exact absurd rfl h
    · rfl
end
end Go.Proofs.YthgfjbafhjkhnaaGreat.Zq
