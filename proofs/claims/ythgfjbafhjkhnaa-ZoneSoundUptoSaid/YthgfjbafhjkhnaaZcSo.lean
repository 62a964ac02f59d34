/- ZoneSound: what its own functions tell. -/
import Derived.Test.YthgfjbafhjkhnaaZcZr
import Derived.Test.YthgfjbafhjkhnaaZcFrom
import Derived.Test.YthgfjbafhjkhnaaZcSndP
import Derived.Test.YthgfjbafhjkhnaaZwClosed
namespace Go.Proofs.Ythgfjbafhjkhnaa.Zq
section
/- ZoneSound: what its own functions tell. -/
open Zv
/-- A world that tells what zones are. -/
structure HW (H : Heap) (x : Wld) (z : Zo) : Prop where
  t : SlF TT H x.Things z.t
  d : ∀ p : Nat, p < 2 → SlF TN H (sdW x p) (z.l p)
  h : ∀ p : Nat, p < 2 → SlF TN H (shW x p) (z.l (2 + p))
  s : x.Stamp = z.n
theorem HW.new {H H' : Heap} {x : Wld} {z : Zo} (h : HW H x z) (f : Frs [] H H') : HW H' x z := ⟨h.t.frs f (by simp), fun p hp => (h.d p hp).frs f (by simp), fun p hp => (h.h p hp).frs f (by simp), h.s⟩
/-- It lies behind n. -/
structure HWl (n : Nat) (x : Wld) : Prop where
  t : ∀ d ∈ bl x.Things.p, n ≤ d
  d : ∀ p : Nat, p < 2 → ∀ d ∈ bl (sdW x p).p, n ≤ d
  h : ∀ p : Nat, p < 2 → ∀ d ∈ bl (shW x p).p, n ≤ d
theorem HW.off {H H' : Heap} {x : Wld} {z : Zo} {n : Nat} {B : List Nat} (h : HW H x z) (k : HWl n x) (f : Frs B H H') (hB : ∀ d ∈ B, d < n) : HW H' x z := by
  have key : ∀ s : Sl, (∀ d ∈ bl s.p, n ≤ d) → ∀ c ∈ B, ∀ o, s.p ≠ some ⟨c, o, none⟩ := fun s hs c hc o e => by
    have := hs c (by rw [e]; simp [bl])
    have := hB c hc; omega
  exact ⟨h.t.frs f (key _ k.t), fun p hp => (h.d p hp).frs f (key _ (k.d p hp)), fun p hp => (h.h p hp).frs f (key _ (k.h p hp)), h.s⟩
theorem new_bl {T : Tag} {H H' : Heap} {s : Sl} {l sp : List T.α} (n : NewO T H s H' l sp) : ∀ d ∈ bl s.p, H.length ≤ d := fun d hd => by
  obtain ⟨_, _, _, ⟨q, _⟩ | ⟨c, q, _⟩⟩ := n.1
  · rw [q] at hd; simp [bl] at hd
  · have := n.2.1 c q
    rw [q] at hd; simp [bl] at hd; omega
theorem in_deck {z : Zo} {p : Nat} (hp : p < 2) {l : List Int} (h : IsIn z (p : Int) 1 l) : l = z.l p := by
  rcases h with ⟨h1, _⟩ | ⟨_, h2⟩
  · omega
  · rcases h2 with ⟨_, e⟩ | ⟨e, _⟩ | ⟨e, _⟩ | ⟨e, _⟩
    · simpa using e
    · omega
    · omega
    · omega
theorem in_hand {z : Zo} {p : Nat} (hp : p < 2) {l : List Int} (h : IsIn z (p : Int) 2 l) : l = z.l (2 + p) := by
  rcases h with ⟨h1, _⟩ | ⟨_, h2⟩
  · omega
  · rcases h2 with ⟨e, _⟩ | ⟨_, e⟩ | ⟨e, _⟩ | ⟨e1, e2, _⟩
    · omega
    · simpa using e
    · omega
    · omega
section
variable {H : Heap} {b : Nat} {z : Zo} {st : Sl} {ss : Nat → Sl}
theorem whole_c (h : ZR [] H b z st ss) (hi : InvZ z) {Q : Wld × Unit → Heap → Prop} (hq : ∀ x H', HW H' x z → HWl H.length x → Frs [] H H' → Q (x, ()) H') : CALL P [T_G_law17_World] n_law17_whole [ad b] H Q := by
  apply c_law17_whole
  unfold S_law17_whole
  refine pthings_c h hi fun s1 H1 sp1 n1 => ?_
  have f1 := n1.2.2
  refine pstamp_c (h.new f1) hi.n1 ?_
  unfold NEW
  have w0 : WR (mk H1 [(.slice none 0 0), (.slice none 0 0), (.slice none 0 0), (.slice none 0 0), (.slice none 0 0), (.int .i64 0)] 6 false) H1.length (⟨⟨none, 0, 0⟩, (⟨none, 0, 0⟩, ⟨none, 0, 0⟩), (⟨none, 0, 0⟩, ⟨none, 0, 0⟩), 0⟩ : Wld) := by unfold WR; simp [mk, Sl.v]
  have f2 : Frs [] H1 (mk H1 [(.slice none 0 0), (.slice none 0 0), (.slice none 0 0), (.slice none 0 0), (.slice none 0 0), (.int .i64 0)] 6 false) := Frs.app _ _ _
  generalize mk H1 [(.slice none 0 0), (.slice none 0 0), (.slice none 0 0), (.slice none 0 0), (.slice none 0 0), (.int .i64 0)] 6 false = H2 at w0 f2
  have hlt := get_lt w0
  refine ST_of [] [(.slice none 0 0), (.slice none 0 0), (.slice none 0 0), (.slice none 0 0), (.slice none 0 0), (.int .i64 0)] [] w0 rfl rfl rfl rfl ?_
  have w1 : WR (H2.set H1.length (.row ([] ++ ([(.slice s1.p s1.len s1.cap), (.slice none 0 0), (.slice none 0 0), (.slice none 0 0), (.slice none 0 0), (.int .i64 z.n)] ++ [])) 6 false false true)) H1.length (⟨s1, (⟨none, 0, 0⟩, ⟨none, 0, 0⟩), (⟨none, 0, 0⟩, ⟨none, 0, 0⟩), z.n⟩ : Wld) := by unfold WR; rw [set_get hlt]; rfl
  have f3 : Frs [H1.length] H2 (H2.set H1.length (.row ([] ++ ([(.slice s1.p s1.len s1.cap), (.slice none 0 0), (.slice none 0 0), (.slice none 0 0), (.slice none 0 0), (.int .i64 z.n)] ++ [])) 6 false false true)) := Frs.set _ _ (by simp)
  generalize H2.set H1.length (.row ([] ++ ([(.slice s1.p s1.len s1.cap), (.slice none 0 0), (.slice none 0 0), (.slice none 0 0), (.slice none 0 0), (.int .i64 z.n)] ++ [])) 6 false false true) = H3 at w1 f3
  have hl1 := f1.1
  have fr : Frs [] H H3 := (f1.trans f2).then f3 fun c hc => by simp at hc; exact .inr (by omega)
  have fr1 : Frs [] H1 H3 := f2.then f3 fun c hc => by simp at hc; exact .inr (by omega)
  have t3 : SlF TT H3 s1 z.t := n1.1.slf.frs fr1 (by simp)
  refine JOIN_inv (fun _ H' => ∃ x : Wld, WR H' H1.length x ∧ HW H' x z ∧ HWl H.length x ∧ Frs [] H H') (fun j hj => ?_) ?_
  · refine loop_of (fun (s : (Int × Unit) × Unit) H' => ∃ (p : Nat) (x : Wld), s.1.1 = p ∧ p ≤ 2 ∧ WR H' H1.length x ∧ Frs [] H H' ∧ Frs [H1.length] H3 H' ∧ x.Things = s1 ∧ x.Stamp = z.n ∧ ∀ q : Nat, q < p → (SlF TN H' (sdW x q) (z.l q) ∧ SlF TN H' (shW x q) (z.l (2 + q))) ∧ (∀ d ∈ bl (sdW x q).p, H1.length < d) ∧ (∀ d ∈ bl (shW x q).p, H1.length < d)) (fun s => 2 - s.1.1.toNat) ?_ ⟨0, _, rfl, by omega, w1, fr, .refl _ _, rfl, rfl, fun q hq => by omega⟩
    rintro G ⟨⟨i, _⟩, _⟩ H' ⟨p, x, hi', hp2, w, f, fg, e1, e2, hx⟩ hG
    simp only at hi'; subst hi'
    dsimp only at hG ⊢
    have h' := h.new f
    have hg1 := fg.1
    refine ifB_of (fun hlt' => ?_) (fun hge => ?_)
    · have hp : p < 2 := by have := of_decide_eq_true hlt'; omega
      have hA : (0 : Int) ≤ (p : Int) ∧ (p : Int) < 2 := by omega
      have hl3 := fr1.1
      have hl2 := f3.1
      refine pdeck_c h' hi fun s7 H7 l7 sp7 q7 n7 => ⟨hA, phand_c (h'.new n7.2.2) hi fun s8 H8 l8 sp8 q8 n8 => ?_⟩
      have q7 := in_deck hp q7
      have q8 := in_hand hp q8
      subst q7; subst q8
      have w8 := (w.frs n7.2.2 (by simp)).frs n8.2.2 (by simp)
      have hn7 := n7.2.2.1
      have b7 : ∀ d ∈ bl s7.p, H1.length < d := fun d hd => by have := new_bl n7 d hd; omega
      have b8 : ∀ d ∈ bl s8.p, H1.length < d := fun d hd => by have := new_bl n8 d hd; omega
      have off : ∀ {s : Sl}, (∀ d ∈ bl s.p, H1.length < d) → ∀ c ∈ [H1.length], ∀ o, s.p ≠ some ⟨c, o, none⟩ := fun {s} hb c hc o e => by
        simp at hc; subst hc
        have := hb H1.length (by rw [e]; simp [bl]); omega
      refine w8.pd hp s7 fun H9 w9 f9 => ⟨hA, w9.ph hp s8 fun H10 w10 f10 => ?_⟩
      rw [i64w (by omega) (by omega)]
      have f8 : Frs [] H' H8 := n7.2.2.trans n8.2.2
      have f810 : Frs [H1.length] H8 H10 := f9.trans f10
      have fin : Frs [] H H10 := (f.trans f8).then f810 fun c hc => by simp at hc; exact .inr (by omega)
      refine hG _ _ ⟨p + 1, _, by simp, by omega, w10, fin, fg.trans ((f8.mono (by simp)).trans f810), by rw [(setH_t _).1, (setD_t _).1, e1], by rw [(setH_t _).2, (setD_t _).2, e2], fun q hq => ?_⟩ (by simp; omega)
      rw [setH_d, setD_d hp (by omega), setH_h hp (by omega), setD_h]
      by_cases eq : q = p
      · subst eq
        rw [if_pos rfl, if_pos rfl]
        exact ⟨⟨((n7.1.slf.frs n8.2.2 (by simp)).frs f810 (off b7)), n8.1.slf.frs f810 (off b8)⟩, b7, b8⟩
      · rw [if_neg eq, if_neg eq]
        obtain ⟨⟨g1, g2⟩, g3, g4⟩ := hx q (by omega)
        exact ⟨⟨(g1.frs f8 (by simp)).frs f810 (off g3), (g2.frs f8 (by simp)).frs f810 (off g4)⟩, g3, g4⟩
    · have hge : p = 2 := by have := of_decide_eq_false hge; omega
      subst hge
      refine hj _ _ ⟨x, w, ⟨?_, fun q hq => (hx q hq).1.1, fun q hq => (hx q hq).1.2, e2⟩, ⟨?_, fun q hq d hd => ?_, fun q hq d hd => ?_⟩, f⟩
      · rw [e1]
        refine t3.frs fg fun c hc o e => ?_
        simp at hc; subst hc
        obtain ⟨_, _, _, ⟨q, _⟩ | ⟨c, q, _⟩⟩ := id n1.1
        · rw [q] at e; cases e
        · have := n1.1.lt q
          rw [q] at e; simp at e
      · rw [e1]; exact new_bl n1
      · have := (hx q hq).2.1 d hd; omega
      · have := (hx q hq).2.2 d hd; omega
  · rintro _ H5 ⟨x, w, hw, hl, f⟩
    exact w.all (hq x H5 hw hl f)

theorem sameWorld_c {x y : Wld} (hx : HW H x z) (hy : HW H y z) (hi : InvZ z) {Q : Bool × Unit → Heap → Prop} (hq : ∀ H', Frs [] H H' → Q (true, ()) H') : CALL P [T_bool] n_law17_sameWorld [T_G_law17_World.enc x, T_G_law17_World.enc y] H Q := by
  apply c_law17_sameWorld
  unfold S_law17_sameWorld
  have few := hi.few
  show NEW H _ 6 _
  unfold NEW
  have w1 : WR (mk H [(.slice x.Things.p x.Things.len x.Things.cap), (.slice x.Decks.1.p x.Decks.1.len x.Decks.1.cap), (.slice x.Decks.2.p x.Decks.2.len x.Decks.2.cap), (.slice x.Hands.1.p x.Hands.1.len x.Hands.1.cap), (.slice x.Hands.2.p x.Hands.2.len x.Hands.2.cap), (.int .i64 x.Stamp)] 6 false) H.length x := by unfold WR; simp [mk, Sl.v]
  have f1 : Frs [] H (mk H [(.slice x.Things.p x.Things.len x.Things.cap), (.slice x.Decks.1.p x.Decks.1.len x.Decks.1.cap), (.slice x.Decks.2.p x.Decks.2.len x.Decks.2.cap), (.slice x.Hands.1.p x.Hands.1.len x.Hands.1.cap), (.slice x.Hands.2.p x.Hands.2.len x.Hands.2.cap), (.int .i64 x.Stamp)] 6 false) := Frs.app _ _ _
  show JOIN _ _
  generalize mk H [(.slice x.Things.p x.Things.len x.Things.cap), (.slice x.Decks.1.p x.Decks.1.len x.Decks.1.cap), (.slice x.Decks.2.p x.Decks.2.len x.Decks.2.cap), (.slice x.Hands.1.p x.Hands.1.len x.Hands.1.cap), (.slice x.Hands.2.p x.Hands.2.len x.Hands.2.cap), (.int .i64 x.Stamp)] 6 false = H1 at w1 f1 ⊢
  have w2 : WR (mk H1 [(.slice y.Things.p y.Things.len y.Things.cap), (.slice y.Decks.1.p y.Decks.1.len y.Decks.1.cap), (.slice y.Decks.2.p y.Decks.2.len y.Decks.2.cap), (.slice y.Hands.1.p y.Hands.1.len y.Hands.1.cap), (.slice y.Hands.2.p y.Hands.2.len y.Hands.2.cap), (.int .i64 y.Stamp)] 6 false) H1.length y := by unfold WR; simp [mk, Sl.v]
  have f2 : Frs [] H1 (mk H1 [(.slice y.Things.p y.Things.len y.Things.cap), (.slice y.Decks.1.p y.Decks.1.len y.Decks.1.cap), (.slice y.Decks.2.p y.Decks.2.len y.Decks.2.cap), (.slice y.Hands.1.p y.Hands.1.len y.Hands.1.cap), (.slice y.Hands.2.p y.Hands.2.len y.Hands.2.cap), (.int .i64 y.Stamp)] 6 false) := Frs.app _ _ _
  generalize mk H1 [(.slice y.Things.p y.Things.len y.Things.cap), (.slice y.Decks.1.p y.Decks.1.len y.Decks.1.cap), (.slice y.Decks.2.p y.Decks.2.len y.Decks.2.cap), (.slice y.Hands.1.p y.Hands.1.len y.Hands.1.cap), (.slice y.Hands.2.p y.Hands.2.len y.Hands.2.cap), (.int .i64 y.Stamp)] 6 false = H2 at w2 f2 ⊢
  have w1 := w1.frs f2 (by simp)
  have f := f1.trans f2
  have hx := hx.new f
  have hy := hy.new f
  have ns : (x.Stamp != y.Stamp) = false := by rw [hx.s, hy.s]; simp
  refine JOIN_inv (fun s H' => (s : (Bool × Unit) × Unit).1.1 = false ∧ H' = H2) (fun j hj => ?_) ?_
  · refine w1.t (w2.t (KThings.same_c hx.t hy.t (by omega) fun r hr => ?_))
    have hr : r = true := hr.2 rfl
    subst hr
    exact ifB_f rfl (w1.s (w2.s (hj _ _ ⟨ns, rfl⟩)))
  · rintro ⟨⟨r, _⟩, _⟩ H3 ⟨hr, rfl⟩
    simp only at hr; subst hr
    refine ifB_f rfl (JOIN_of ?_)
    refine loop_of (fun (s : (Int × Unit) × Unit) H' => H' = H3 ∧ ∃ p : Nat, s.1.1 = p ∧ p ≤ 2) (fun s => 2 - s.1.1.toNat) ?_ ⟨rfl, 0, rfl, by omega⟩
    rintro G ⟨⟨i, _⟩, _⟩ H' ⟨rfl, p, hi', hp2⟩ hG
    simp only at hi'; subst hi'
    dsimp only at hG ⊢
    refine ifB_of (fun hlt' => ?_) (fun hge => hq _ f)
    have hp : p < 2 := by have := of_decide_eq_true hlt'; omega
    have hA : (0 : Int) ≤ (p : Int) ∧ (p : Int) < 2 := by omega
    have l1 := hi.len p
    have l2 := hi.len (2 + p)
    refine JOIN_of ⟨hA, w1.d hp ⟨hA, w2.d hp (KInts.same_c (hx.d p hp) (hy.d p hp) (by omega) fun r hr => ?_)⟩⟩
    have hr : r = true := hr.2 rfl
    subst hr
    refine ifB_f rfl ⟨hA, w1.h hp ⟨hA, w2.h hp (KInts.same_c (hx.h p hp) (hy.h p hp) (by omega) fun r hr => ?_)⟩⟩
    have hr : r = true := hr.2 rfl
    subst hr
    refine ifB_f rfl ?_
    rw [i64w (by omega) (by omega)]
    exact hG _ _ ⟨rfl, p + 1, by simp, by omega⟩ (by simp; omega)

/-- What a call of the script does. -/
noncomputable def doZ (z : Zo) (op : G_law17_Op) (li : List Int) : Bool × Zo :=
  if op.Call = 0 then ((moveZ come z op.N op.To).1 == 0, (moveZ come z op.N op.To).2)
  else if op.Call = 1 then ((makeZ come 0 z op.N op.Owner).2.1 == 0, (makeZ come 0 z op.N op.Owner).2.2)
  else if op.Call = 2 then ((writeZ z op.N op.T).1 == 0, (writeZ z op.N op.T).2)
  else if op.Call = 3 then ((arrZ z op.Owner li).1 == 0, (arrZ z op.Owner li).2)
  else (false, z)
theorem do_snd (h : Snd z) (op : G_law17_Op) (li : List Int) : Snd (doZ z op li).2 := by
  unfold doZ
  split
  · exact move_snd h _ _
  · split
    · exact make_snd h _ _
    · split
      · exact write_snd h _ _
      · split
        · exact arr_snd h _ _
        · exact h
theorem do_ref {op : G_law17_Op} {li : List Int} (h : (doZ z op li).1 = false) : (doZ z op li).2 = z := by
  unfold doZ at h ⊢
  split
  · rename_i e; rw [if_pos e] at h; exact move_ref (by simpa using h)
  · rename_i e; rw [if_neg e] at h
    split
    · rename_i e; rw [if_pos e] at h; exact make_ref (by simpa using h)
    · rename_i e; rw [if_neg e] at h
      split
      · rename_i e; rw [if_pos e] at h; exact write_ref (by simpa using h)
      · rename_i e; rw [if_neg e] at h
        split
        · rename_i e; rw [if_pos e] at h; exact arr_ref (by simpa using h)
        · rfl
theorem do_c (h : ZR [] H b z st ss) (hi : InvZ z) {op : G_law17_Op} {li : List Int} (hL : SlF TN H op.L li) (hll : li.length ≤ 1048576) {Q : Bool × Unit → Heap → Prop}
    (hq : ∀ H' st' ss', ZR [] H' b (doZ z op li).2 st' ss' → Bh (fp b st ss) H (fp b st' ss') H' → Q ((doZ z op li).1, ()) H') : CALL P [T_bool] n_law17_do [ad b, T_G_law17_Op.enc op] H Q := by
  apply c_law17_do
  unfold S_law17_do
  unfold doZ at hq
  refine ifB_of (fun e => ?_) (fun e => ifB_of (fun e1 => ?_) (fun e1 => ifB_of (fun e2 => ?_) (fun e2 => ifB_of (fun e3 => ?_) (fun e3 => ?_))))
  · have e : op.Call = 0 := by simpa using e
    rw [if_pos e] at hq
    exact pmove_c h hi fun H1 ss1 p1 b1 => hq H1 _ _ p1 b1
  · have e : op.Call ≠ 0 := by simpa using e
    have e1 : op.Call = 1 := by simpa using e1
    rw [if_neg e, if_pos e1] at hq
    exact pmake_c h hi fun H1 st1 ss1 p1 b1 => hq H1 _ _ p1 b1
  · have e : op.Call ≠ 0 := by simpa using e
    have e1 : op.Call ≠ 1 := by simpa using e1
    have e2 : op.Call = 2 := by simpa using e2
    rw [if_neg e, if_neg e1, if_pos e2] at hq
    exact pwrite_c h hi fun H1 p1 b1 => hq H1 _ _ p1 b1
  · have e : op.Call ≠ 0 := by simpa using e
    have e1 : op.Call ≠ 1 := by simpa using e1
    have e2 : op.Call ≠ 2 := by simpa using e2
    have e3 : op.Call = 3 := by simpa using e3
    rw [if_neg e, if_neg e1, if_neg e2, if_pos e3] at hq
    exact parr_c h hi hL (by omega) fun H1 ss1 p1 b1 => hq H1 _ _ p1 b1
  · have e : op.Call ≠ 0 := by simpa using e
    have e1 : op.Call ≠ 1 := by simpa using e1
    have e2 : op.Call ≠ 2 := by simpa using e2
    have e3 : op.Call ≠ 3 := by simpa using e3
    rw [if_neg e, if_neg e1, if_neg e2, if_neg e3] at hq
    exact hq H _ _ h (.refl _ _)

theorem hTS (x : Sl) : (T_sl.cells x).length = T_sl.n := rfl
def cnts (n : Int) (L : List (List Int)) : Nat := (L.map (List.count n)).sum
theorem cnts_succ {n : Int} {L : List (List Int)} {i : Nat} (h : i < L.length) : cnts n (L.take (i + 1)) = cnts n (L.take i) + (L[i]).count n := by
  unfold cnts
  rw [List.take_succ_eq_append_getElem h, List.map_append, List.sum_append]; rfl
theorem cnts_le {n : Int} : ∀ {L : List (List Int)}, (∀ l ∈ L, l.length ≤ 4096) → cnts n L ≤ L.length * 4096
  | [], _ => by simp [cnts]
  | l :: L, h => by
    have h1 := cnts_le (n := n) (L := L) fun l hl => h l (by simp [hl])
    have h2 := h l (by simp)
    have h3 := List.count_le_length (a := n) (l := l)
    unfold cnts at h1 ⊢
    simp only [List.map_cons, List.sum_cons, List.length_cons]
    omega
theorem count_c {s : Sl} {ls : List Sl} {L : List (List Int)} {n : Int} (hs : SlF T_sl H s ls) (hl : ls.length = L.length) (hL : ∀ (i : Nat) (a : Sl) (l : List Int), ls[i]? = some a → L[i]? = some l → SlF TN H a l) (few : L.length ≤ 4) (hb : ∀ l ∈ L, l.length ≤ 4096) {Q : Int × Unit → Heap → Prop} (hq : Q ((cnts n L : Int), ()) H) : CALL P [TN] n_law17_count [.int .i64 n, s.v] H Q := by
  apply c_law17_count
  unfold S_law17_count
  have hsl := hs.1
  refine JOIN_of ?_
  refine loop_of (fun (s : (Int × Int × Unit) × Unit) H' => H' = H ∧ ∃ i : Nat, s.1.2.1 = i ∧ i ≤ L.length ∧ s.1.1 = (cnts n (L.take i) : Int)) (fun s => L.length - s.1.2.1.toNat) ?_ ⟨rfl, 0, rfl, Nat.zero_le _, by simp [cnts]⟩
  rintro G ⟨⟨c, i, _⟩, _⟩ H' ⟨rfl, i, hi, hil, hc⟩ hG
  simp only at hi hc; subst hi; subst hc
  dsimp only at hG ⊢
  refine ifB_of (fun hlt => ?_) (fun hge => ?_)
  · have hlt : i < L.length := by have := of_decide_eq_true hlt; omega
    have hx : ls[i]? = some ls[i] := List.getElem?_eq_getElem (by omega)
    have hy : L[i]? = some L[i] := List.getElem?_eq_getElem hlt
    have ha := hL i _ _ hx hy
    have hal := ha.1
    have hlb := hb _ (List.getElem_mem hlt)
    have c1 := cnts_le (n := n) (L := L.take i) fun l hl => hb l (List.mem_of_mem_take hl)
    have c2 : (L.take i).length ≤ 4 := by simp; omega
    have rd : ∀ {K : Sl → Prop}, K ls[i] → IDX s.p s.len (i : Int) 1 fun b11 o12 => LD T_sl H' b11 o12 K := fun hK => idx_ldF (T := T_sl) hTS hs rfl hx rfl hK
    refine JOIN_of (JOIN_of ?_)
    refine loop_of (fun (s : (Int × Int × Unit) × Unit) H2 => H2 = H' ∧ ∃ j : Nat, s.1.2.1 = j ∧ j ≤ L[i].length ∧ s.1.1 = (cnts n (L.take i) : Int) + ((L[i].take j).count n : Int)) (fun s => L[i].length - s.1.2.1.toNat) ?_ ⟨rfl, 0, rfl, Nat.zero_le _, by simp⟩
    rintro G2 ⟨⟨c, j, _⟩, _⟩ H2 ⟨rfl, j, hj, hjl, hc⟩ hG2
    simp only at hj hc; subst hj; subst hc
    dsimp only at hG2 ⊢
    have c3 := List.count_le_length (a := n) (l := L[i].take j)
    have c4 : (L[i].take j).length ≤ 4096 := by simp; omega
    refine rd (ifB_of (fun hlt2 => rd ?_) (fun hge2 => ?_))
    · have hlt2 : j < L[i].length := by have := of_decide_eq_true hlt2; omega
      refine idx_ldF (T := TN) hTN ha rfl (List.getElem?_eq_getElem hlt2) rfl ?_
      have tk : (L[i].take (j + 1)).count n = (L[i].take j).count n + if L[i][j] = n then 1 else 0 := by
        rw [List.take_succ_eq_append_getElem hlt2, List.count_append, List.count_singleton]
        by_cases e : L[i][j] = n <;> simp [e]
      refine JOIN_of (ifB_of (fun e => ?_) (fun e => ?_))
      · have e : L[i][j] = n := by simpa using e
        rw [if_pos e] at tk
        rw [i64w (by omega) (by omega), i64w (by omega) (by omega)]
        exact hG2 _ _ ⟨rfl, j + 1, by simp, hlt2, by rw [tk]; simp; omega⟩ (by simp; omega)
      · have e : L[i][j] ≠ n := by simpa using e
        rw [if_neg e] at tk
        dsimp only
        rw [i64w (by omega) (by omega)]
        exact hG2 _ _ ⟨rfl, j + 1, by simp, hlt2, by rw [tk]; simp⟩ (by simp; omega)
    · have hge2 : j = L[i].length := by have := of_decide_eq_false hge2; omega
      subst hge2
      rw [List.take_length]
      rw [i64w (by omega) (by omega)]
      exact hG _ _ ⟨rfl, i + 1, by simp, hlt, by rw [cnts_succ hlt]; simp⟩ (by simp; omega)
  · have hge : i = L.length := by have := of_decide_eq_false hge; omega
    subst hge
    rw [List.take_length]
    exact hq
end
end

section
/- ZoneSound: each thing stands in its place. -/
open Zv
/-- Zones' table, its stamps. -/
theorem tab_lt {z : Zo} (hi : InvZ z) {tab : List Int} (h : IsTab z tab) {i j : Nat} (hj : j < tab.length) (hij : i < j) : (atZ z (tab[i]'(by omega))).Stamp < (atZ z tab[j]).Stamp := by
  have h1 := List.pairwise_iff_getElem.1 h.2 i j (by omega) hj hij
  have nd : tab.Nodup := h.1.symm.nodup (numsZ_nodup _)
  have hne := List.pairwise_iff_getElem.1 nd i j (by omega) hj hij
  obtain ⟨a, x, ea, ha, pa⟩ := mem_onT.1 (h.1.mem_iff.1 (List.getElem_mem (by omega : i < tab.length)))
  obtain ⟨c, y, ec, hc, pc⟩ := mem_onT.1 (h.1.mem_iff.1 (List.getElem_mem hj))
  rw [ea, ec] at h1 hne ⊢
  rw [atZ_at ha, atZ_at hc] at h1 ⊢
  have := hi.st a c x y (fun e => hne (by rw [e])) ha hc pa pc
  omega
theorem tab_own {z : Zo} {tab : List Int} (h : IsTab z tab) (p : Int) : tab.countP (fun m => (atZ z m).Owner == p) = own z p := by
  rw [h.1.countP_eq, List.countP_eq_length_filter]
  unfold onT
  rw [numsZ_filter (g := fun t => t.Place == 4 && t.Owner == p) (fun k x hk => by rw [atZ_at hk]) _ (Nat.le_refl _), numsZ_count _ _ _ (Nat.le_refl _), List.take_length]
  rfl
theorem one_iff {l : List Int} (h : l.Nodup) (x : Int) : l.count x = 1 ↔ x ∈ l := by
  rw [← List.count_pos_iff]
  have := List.nodup_iff_count.1 h x
  omega
theorem zero_iff {l : List Int} (x : Int) : l.count x = 0 ↔ x ∉ l := List.count_eq_zero
section
variable {H : Heap} {b : Nat} {z : Zo} {st : Sl} {ss : Nat → Sl}
theorem row1 (H : Heap) (s : Sl) : SlF T_sl (mk H [(.slice s.p s.len s.cap)] 1 false) ⟨some ⟨H.length, 0, none⟩, 1, 1⟩ [s] :=
  ⟨rfl, .inr (.inr ⟨H.length, [], [], 1, false, false, rfl, by simp [mk, fl]⟩)⟩
theorem row2 (H : Heap) (s t : Sl) : SlF T_sl (mk H [(.slice s.p s.len s.cap), (.slice t.p t.len t.cap)] 1 false) ⟨some ⟨H.length, 0, none⟩, 2, 2⟩ [s, t] :=
  ⟨rfl, .inr (.inr ⟨H.length, [], [], 1, false, false, rfl, by simp [mk, fl]⟩)⟩
theorem cnt1_c {s : Sl} {l : List Int} {n : Int} (hs : SlF TN H s l) (hl : l.length ≤ 4096) {Q : Int × Unit → Heap → Prop} (hq : ∀ H', Frs [] H H' → Q ((l.count n : Int), ()) H') : CALL P [TN] n_law17_count [.int .i64 n, (Sl.mk (some ⟨H.length, 0, none⟩) 1 1).v] (mk H [(.slice s.p s.len s.cap)] 1 false) Q := by
  have f : Frs [] H (mk H [(.slice s.p s.len s.cap)] 1 false) := Frs.app _ _ _
  refine count_c (row1 H s) (L := [l]) rfl (fun i a l' h1 h2 => ?_) (by simp) (by simpa using hl) ?_
  · match i, h1, h2 with
    | 0, h1, h2 => simp at h1 h2; subst h1; subst h2; exact hs.frs f (by simp)
    | i + 1, h1, h2 => simp at h1
  · simpa [cnts] using hq _ f
theorem cnt2_c {s t : Sl} {l m : List Int} {n : Int} (hs : SlF TN H s l) (ht : SlF TN H t m) (hl : l.length ≤ 4096) (hm : m.length ≤ 4096) {Q : Int × Unit → Heap → Prop} (hq : ∀ H', Frs [] H H' → Q (((l.count n + m.count n : Nat) : Int), ()) H') : CALL P [TN] n_law17_count [.int .i64 n, (Sl.mk (some ⟨H.length, 0, none⟩) 2 2).v] (mk H [(.slice s.p s.len s.cap), (.slice t.p t.len t.cap)] 1 false) Q := by
  have f : Frs [] H (mk H [(.slice s.p s.len s.cap), (.slice t.p t.len t.cap)] 1 false) := Frs.app _ _ _
  refine count_c (row2 H s t) (L := [l, m]) rfl (fun i a l' h1 h2 => ?_) (by simp) (by simp; omega) ?_
  · match i, h1, h2 with
    | 0, h1, h2 => simp at h1 h2; subst h1; subst h2; exact hs.frs f (by simp)
    | 1, h1, h2 => simp at h1 h2; subst h1; subst h2; exact ht.frs f (by simp)
    | i + 2, h1, h2 => simp at h1
  · simpa [cnts] using hq _ f

/-- Where a thing stands. -/
theorem stand {z : Zo} (h : Snd z) {k : Nat} {t : Th} (hk : z.t[k]? = some t) {p : Nat} (hp : p < 2) : (((k : Int) + 1) ∈ z.l p ↔ t.Owner = p ∧ t.Place = 1) ∧ (((k : Int) + 1) ∈ z.l (2 + p) ↔ t.Owner = p ∧ t.Place = 2) := by
  have key : ∀ pl : Int, At z p pl ((k : Int) + 1) ↔ t.Owner = p ∧ t.Place = pl := fun pl => by
    constructor
    · rintro ⟨k', t', e, e2, e3⟩
      have : k' = k := by omega
      subst this; rw [hk] at e2; cases e2; exact e3
    · exact fun q => ⟨k, t, rfl, hk, q⟩
  exact ⟨by rw [(h.deck p hp).2, key], by rw [(h.held p hp).2, key]⟩

theorem placed_c (h : ZR [] H b z st ss) (hs : Snd z) {Q : Bool × Unit → Heap → Prop} (hq : ∀ H', Frs [] H H' → Q (true, ()) H') : CALL P [T_bool] n_law17_placed [ad b] H Q := by
  apply c_law17_placed
  unfold S_law17_placed
  have hi := hs.inv
  have few := hs.few
  have hn2 := hs.n2
  refine ptable_c h hi fun s1 H1 tab sp1 ht n1 => ?_
  have htl := tab_le hi ht
  have hsl := n1.1.slf.1
  unfold NEW
  have f2 : Frs [] H1 (mk H1 [(.int .i64 0), (.int .i64 0)] 2 false) := Frs.app _ _ _
  have a2 : (mk H1 [(.int .i64 0), (.int .i64 0)] 2 false)[H1.length]? = some (.row [.int .i64 0, .int .i64 0] 2 false false true) := by simp [mk]
  generalize mk H1 [(.int .i64 0), (.int .i64 0)] 2 false = H2 at f2 a2
  refine ST_of [] [.int .i64 0, .int .i64 0] [] a2 rfl rfl rfl rfl ?_
  have f3 : Frs [H1.length] H2 (H2.set H1.length (.row ([] ++ ([.int .i64 0, .int .i64 0] ++ [])) 2 false false true)) := Frs.set _ _ (by simp)
  have a3 : Arr2 (H2.set H1.length (.row ([] ++ ([.int .i64 0, .int .i64 0] ++ [])) 2 false false true)) H1.length (fun _ => 0) := by unfold Arr2; rw [set_get (get_lt a2)]; rfl
  generalize H2.set H1.length (.row ([] ++ ([.int .i64 0, .int .i64 0] ++ [])) 2 false false true) = H3 at f3 a3
  have hn1 := n1.2.2.1
  have fr3 : Frs [] H1 H3 := f2.then f3 fun c hc => by simp at hc; exact .inr (by omega)
  refine JOIN_inv (fun _ H4 => Frs [] H1 H4 ∧ ∃ o : Nat → Int, Arr2 H4 H1.length o ∧ ∀ p : Nat, p < 2 → o p = (own z p : Int)) (fun j hj => ?_) ?_
  · refine loop_of (fun (s : (Int × Int × Unit) × Unit) H' => ∃ (i : Nat) (o : Nat → Int), s.1.2.1 = i ∧ i ≤ tab.length ∧ 0 ≤ s.1.1 ∧ (∀ (hi : i < tab.length), s.1.1 < (atZ z tab[i]).Stamp) ∧ Frs [] H1 H' ∧ Arr2 H' H1.length o ∧ ∀ p : Nat, p < 2 → o p = ((tab.take i).countP (fun m => (atZ z m).Owner == (p : Int)) : Int)) (fun s => tab.length - s.1.2.1.toNat) ?_ ⟨0, _, rfl, Nat.zero_le _, Int.le_refl _, fun h0 => ?_, fr3, a3, by simp⟩
    · rintro G ⟨⟨last, i, _⟩, _⟩ H' ⟨i, o, hi', hil, hl0, hlast, fr, ar, ho⟩ hG
      simp only at hi' hl0 hlast; subst hi'
      dsimp only at hG ⊢
      have f0 := n1.2.2.trans fr
      have h' := h.new f0
      refine ifB_of (fun hlt => ?_) (fun hge => ?_)
      · have hlt : i < tab.length := by have := of_decide_eq_true hlt; omega
        obtain ⟨k, x, ek, hk, hp4⟩ := tab_at ht hlt
        have hg : getT z tab[i] = some x := by rw [ek]; exact getT_at hk
        have hat : atZ z tab[i] = x := by rw [ek]; exact atZ_at hk
        have hxo := (hs.ok x (List.mem_of_getElem? hk))
        have hown := hxo.2.1
        have hst := hxo.2.2.2.2.2 hp4
        have hl := hlast hlt
        rw [hat] at hl
        refine idx_ldF (T := TN) hTN (n1.1.slf.frs fr (by simp)) rfl (List.getElem?_eq_getElem hlt) rfl (thing_c h' hs.n1 (by omega) ?_)
        rw [hg]
        refine JOIN_inv (fun y H2' => (y : (Bool × Unit) × Unit).1.1 = false ∧ H2' = H') (fun j2 hj2 => ?_) ?_
        · refine ifB_f rfl (ifB_f (by simp [hp4]) (ifB_f (decide_eq_false (by simp only [Option.getD_some]; omega)) (pstamp_c h' hs.n1 ⟨rfl, hj2 _ _ ⟨decide_eq_false (by simp only [Option.getD_some]; omega), rfl⟩⟩)))
        · rintro ⟨⟨r, _⟩, _⟩ H2' ⟨hr, rfl⟩
          simp only at hr; subst hr
          have hA : 0 ≤ x.Owner ∧ x.Owner < 2 := by omega
          have hop : x.Owner.toNat < 2 := by omega
          have hoc : ((x.Owner.toNat : Nat) : Int) = x.Owner := by omega
          have hov := ho _ hop
          have hcl : (tab.take i).countP (fun m => (atZ z m).Owner == x.Owner) ≤ tab.length := Nat.le_trans List.countP_le_length (by simp; omega)
          rw [hoc] at hov
          refine ifB_f rfl ⟨hA, ar.ld hown ⟨hA, ?_⟩⟩
          simp only [Option.getD_some]
          rw [i64w (x := o x.Owner.toNat + 1) (by omega) (by omega), i64w (x := (i : Int) + 1) (by omega) (by omega)]
          refine ar.put hown fun H9 a9 f9 => hG _ _ ⟨i + 1, _, by simp, hlt, by show 0 ≤ x.Stamp; omega, fun hi1 => ?_, fr.then f9 fun c hc => by simp at hc; exact .inr (by omega), a9, fun p hp => ?_⟩ (by simp; omega)
          · have := tab_lt hi ht hi1 (by omega : i < i + 1)
            rw [hat] at this; exact this
          · rw [List.take_succ_eq_append_getElem hlt, List.countP_append]
            by_cases ep : p = x.Owner.toNat
            · subst ep
              rw [upd_same, hoc, hov]
              simp [hat]
            · rw [upd_ne _ _ ep, ho p hp]
              have : ¬ x.Owner = (p : Int) := by omega
              simp [hat, this]
      · have hge : i = tab.length := by have := of_decide_eq_false hge; omega
        subst hge
        refine hj _ _ ⟨fr, o, ar, fun p hp => ?_⟩
        rw [ho p hp, List.take_length, tab_own ht]
    · obtain ⟨k, x, ek, hk, hp4⟩ := tab_at ht h0
      have hat : atZ z tab[0] = x := by rw [ek]; exact atZ_at hk
      have := ((hs.ok x (List.mem_of_getElem? hk)).2.2.2.2.2 hp4).1
      rw [hat]; show 0 < x.Stamp; omega
  rintro _ H4 ⟨fr4, o, ar4, ho⟩
  refine JOIN_inv (fun _ H5 => Frs [] H1 H5 ∧ Arr2 H5 H1.length o) (fun j hj => ?_) ?_
  · refine loop_of (fun (s : (Int × Unit) × Unit) H' => ∃ k : Nat, s.1.1 = (k : Int) + 1 ∧ k ≤ z.t.length ∧ Frs [] H1 H' ∧ Arr2 H' H1.length o) (fun s => z.t.length + 1 - s.1.1.toNat) ?_ ⟨0, rfl, Nat.zero_le _, fr4, ar4⟩
    rintro G ⟨⟨n, _⟩, _⟩ H' ⟨k, hn, hkl, fr, ar⟩ hG
    simp only at hn; subst hn
    dsimp only at hG ⊢
    have f0 := n1.2.2.trans fr
    have h' := h.new f0
    refine plen_c h' hs.n1 (ifB_of (fun hlt => ?_) (fun hge => hj _ _ ⟨fr, ar⟩))
    have hlt : k < z.t.length := by have := of_decide_eq_true hlt; omega
    have hk : z.t[k]? = some z.t[k] := List.getElem?_eq_getElem hlt
    generalize z.t[k] = x at hk
    have hxo := (hs.ok x (List.mem_of_getElem? hk))
    have hown := hxo.2.1
    refine thing_c h' hs.n1 (by omega) ?_
    rw [getT_at hk]
    simp only [Option.getD_some, Option.elim_some]
    refine JOIN_inv (fun y H2' => (y : (Bool × Unit) × Unit).1.1 = false ∧ H2' = H') (fun j2 hj2 => ?_) ?_
    · exact ifB_f rfl (ifB_f (decide_eq_false (by omega)) (hj2 _ _ ⟨decide_eq_false (by omega), rfl⟩))
    rintro ⟨⟨r, _⟩, _⟩ H2' ⟨hr, eH⟩
    have eH := eH.symm; subst eH
    simp only at hr; subst hr
    refine ifB_f rfl ?_
    obtain ⟨p, hp, hop⟩ : ∃ p : Nat, p < 2 ∧ x.Owner = p := ⟨x.Owner.toNat, by omega, by omega⟩
    obtain ⟨p', hp', hop'⟩ : ∃ p' : Nat, p' < 2 ∧ 1 - x.Owner = p' := ⟨(1 - x.Owner).toNat, by omega, by omega⟩
    rw [i64w (x := 1 - x.Owner) (by omega) (by omega)]
    have e1 : (x.Owner : Int) = (p : Int) := hop
    obtain ⟨g1, g2⟩ := stand hs hk hp
    obtain ⟨g3, g4⟩ := stand hs hk hp'
    have hpp : ¬ (x.Owner = (p' : Int)) := by omega
    have n1' := (hs.deck p hp).1
    have n2' := (hs.held p hp).1
    have d0 := hi.len p
    have d1 := hi.len (2 + p)
    have d2 := hi.len p'
    have d3 := hi.len (2 + p')
    have c3 : (z.l p').count ((k : Int) + 1) = 0 := (zero_iff _).2 fun q => hpp (g3.1 q).1
    have c4 : (z.l (2 + p')).count ((k : Int) + 1) = 0 := (zero_iff _).2 fun q => hpp (g4.1 q).1
    have c1 := one_iff n1' ((k : Int) + 1)
    have c2 := one_iff n2' ((k : Int) + 1)
    have ndt : tab.Nodup := ht.1.symm.nodup (numsZ_nodup _)
    have c5 := one_iff ndt ((k : Int) + 1)
    have b1 := List.nodup_iff_count.1 n1' ((k : Int) + 1)
    have b2 := List.nodup_iff_count.1 n2' ((k : Int) + 1)
    have b5 := List.nodup_iff_count.1 ndt ((k : Int) + 1)
    have mt : ((k : Int) + 1) ∈ tab ↔ x.Place = 4 := by
      rw [ht.1.mem_iff, mem_onT]
      constructor
      · rintro ⟨k', x', e, q1, q2⟩
        have : k' = k := by omega
        subst this; rw [hk] at q1; cases q1; exact q2
      · exact fun q => ⟨k, x, rfl, hk, q⟩
    rw [g1] at c1
    rw [g2] at c2
    rw [mt] at c5
    have c1 : (z.l p).count ((k : Int) + 1) = 1 ↔ x.Place = 1 := by rw [c1]; exact ⟨fun q => q.2, fun q => ⟨hop, q⟩⟩
    have c2 : (z.l (2 + p)).count ((k : Int) + 1) = 1 ↔ x.Place = 2 := by rw [c2]; exact ⟨fun q => q.2, fun q => ⟨hop, q⟩⟩
    rw [hop']
    have fin : ∀ H9, Frs [] H' H9 → G (((k : Int) + 1 + 1, ()), ()) H9 := fun H9 f9 => hG _ _ ⟨k + 1, by simp, hlt, fr.trans f9, ar.frs f9 (by simp)⟩ (by simp; omega)
    have tb : SlF TN H' s1 tab := n1.1.slf.frs fr (by simp)
    rw [e1]
    refine pdeck_c h' hi fun s2 H15 l2 sp2 q2 m2 => ⟨trivial, trivial, trivial, trivial, trivial, trivial, ?_⟩
    have q2 := in_deck hp q2; subst q2
    refine cnt1_c m2.1.slf (by omega) fun H17 u17 => ⟨trivial, trivial, trivial, ?_⟩
    have w17 := m2.2.2.trans u17
    refine phand_c (h'.new w17) hi fun s3 H18 l3 sp3 q3 m3 => ⟨trivial, trivial, trivial, trivial, ?_⟩
    have q3 := in_hand hp q3; subst q3
    refine cnt1_c m3.1.slf (by omega) fun H20 u20 => ⟨trivial, trivial, ?_⟩
    have w20 := w17.trans (m3.2.2.trans u20)
    refine pdeck_c (h'.new w20) hi fun s4 H21 l4 sp4 q4 m4 => ⟨trivial, ?_⟩
    have q4 := in_deck hp' q4; subst q4
    have w21 := w20.trans m4.2.2
    refine phand_c (h'.new w21) hi fun s5 H22 l5 sp5 q5 m5 => ?_
    have q5 := in_hand hp' q5; subst q5
    have w22 := w21.trans m5.2.2
    refine cnt2_c (m4.1.slf.frs m5.2.2 (by simp)) m5.1.slf (by omega) (by omega) fun H24 u24 => ?_
    have w24 := w22.trans u24
    rw [c3, c4]
    refine JOIN_inv (fun y H2 => (y : (Bool × Unit) × Unit).1.1 = false ∧ Frs [] H' H2) (fun j3 hj3 => ?_) ?_
    · refine ifB_f rfl (ifB_f ?_ (ifB_f ?_ ?_))
      · simp only [Bool.not_eq_false', beq_iff_eq]
        rw [Bool.eq_iff_iff]; simp only [beq_iff_eq]; rw [← c1]; omega
      · simp only [Bool.not_eq_false', beq_iff_eq]
        rw [Bool.eq_iff_iff]; simp only [beq_iff_eq]; rw [← c2]; omega
      · refine ⟨trivial, cnt1_c (tb.frs w24 (by simp)) (by omega) fun H27 u27 => ⟨trivial, ifB_f ?_ ?_⟩⟩
        · simp only [Bool.not_eq_false', beq_iff_eq]
          rw [Bool.eq_iff_iff]; simp only [beq_iff_eq]; rw [← c5]; omega
        · have w27 := w24.trans u27
          refine cnt1_c (tb.frs w27 (by simp)) (by omega) fun H29 u29 => hj3 _ _ ⟨?_, w27.trans u29⟩
          rw [i64w (x := ((z.l p).count ((k : Int) + 1) : Int) + ((z.l (2 + p)).count ((k : Int) + 1) : Int)) (by omega) (by omega), i64w (by omega) (by omega)]
          refine decide_eq_false ?_
          omega
    · rintro ⟨⟨r, _⟩, _⟩ H25 ⟨hr, w25⟩
      simp only at hr; subst hr
      refine ifB_f rfl (JOIN_inv (fun y H2 => (y : (Bool × Unit) × Unit).1.1 = false ∧ H2 = H25) (fun j4 hj4 => ?_) ?_)
      · refine ifB_of (fun e => hj4 _ _ ⟨?_, rfl⟩) (fun e => hj4 _ _ ⟨rfl, rfl⟩)
        have e : x.Place ≠ 4 := by simpa using e
        have hx := hxo.2.2.2.2.1 e
        have x1 : x.Stamp = 0 := by rw [hx]; rfl
        have x2 : x.Hurt = 0 := by rw [hx]; rfl
        have x3 : x.Marks = (0, 0, 0, 0) := by rw [hx]; rfl
        have x4 : x.Done = 0 := by rw [hx]; rfl
        have x5 : x.Fresh = false := by rw [hx]; rfl
        simp [x1, x2, x3, x4, x5]
      · rintro ⟨⟨r, _⟩, _⟩ H30 ⟨hr, rfl⟩
        simp only at hr; subst hr
        refine ifB_f rfl ?_
        rw [i64w (by omega) (by omega)]
        exact fin _ w25
  rintro _ H5 ⟨fr5, ar5⟩
  have f5 := n1.2.2.trans fr5
  have h0 := hs.hand 0 (by omega)
  have h1 := hs.hand 1 (by omega)
  have o0 : own z 0 ≤ 8 := hs.own 0 (by omega)
  have o1 : own z 1 ≤ 8 := hs.own 1 (by omega)
  have v0 : o 0 = (own z 0 : Int) := ho 0 (by omega)
  have v1 : o 1 = (own z 1 : Int) := ho 1 (by omega)
  refine JOIN_inv (fun y H' => (y : (Bool × Unit) × Unit).1.1 = true ∧ Frs [] H H') (fun j hj => ?_) ?_
  · refine phand_c (h.new f5) hi fun s6 H6 l6 sp6 q6 m6 => ?_
    have q6 := in_hand (p := 0) (by omega) q6; subst q6
    have l6 := m6.1.slf.1
    refine ifB_t (decide_eq_true (by dsimp only; omega)) (phand_c (h.new (f5.trans m6.2.2)) hi fun s7 H7 l7 sp7 q7 m7 => ?_)
    have q7 := in_hand (p := 1) (by omega) q7; subst q7
    have l7 := m7.1.slf.1
    have ar7 := (ar5.frs m6.2.2 (by simp)).frs m7.2.2 (by simp)
    refine ifB_t (decide_eq_true (by dsimp only; omega)) ⟨by decide, ar7.ld (.inl rfl) (ifB_t (decide_eq_true ?_) ⟨by decide, ar7.ld (.inr rfl) (hj _ _ ⟨decide_eq_true ?_, (f5.trans m6.2.2).trans m7.2.2⟩)⟩)⟩
    · show o 0 ≤ 8; omega
    · show o 1 ≤ 8; omega
  · rintro ⟨⟨r, _⟩, _⟩ H31 ⟨hr, f⟩
    simp only at hr; subst hr
    exact hq _ f
end
end

section
/- ZoneSound: the law's contract. -/
open Zv
/-- Two zones of the program's, the same, apart, behind n. -/
structure Tw (n : Nat) (H : Heap) (b c : Nat) (z : Zo) (st : Sl) (ss : Nat → Sl) (sr : Sl) (sq : Nat → Sl) : Prop where
  p : ZR [] H b z st ss
  r : ZR [] H c z sr sq
  dj : ∀ d ∈ fp b st ss, d ∉ fp c sr sq
  lp : ∀ d ∈ fp b st ss, n ≤ d
  lr : ∀ d ∈ fp c sr sq, n ≤ d
section
variable {n : Nat} {H H' : Heap} {b c : Nat} {z : Zo} {st sr : Sl} {ss sq : Nat → Sl}
theorem Tw.new (h : Tw n H b c z st ss sr sq) (f : Frs [] H H') : Tw n H' b c z st ss sr sq := ⟨h.p.new f, h.r.new f, h.dj, h.lp, h.lr⟩
theorem Tw.nl (h : Tw n H b c z st ss sr sq) : n ≤ H.length := by
  have h1 := h.lp b (mem_fp.2 (.inl rfl))
  have := h.p.blt; omega
theorem Tw.step {H1 H2 : Heap} {z1 : Zo} {st1 sr2 : Sl} {ss1 sq2 : Nat → Sl} (h : Tw n H b c z st ss sr sq) (p1 : ZR [] H1 b z1 st1 ss1) (b1 : Bh (fp b st ss) H (fp b st1 ss1) H1) (r2 : ZR [] H2 c z1 sr2 sq2) (b2 : Bh (fp c sr sq) H1 (fp c sr2 sq2) H2) : Tw n H2 b c z1 st1 ss1 sr2 sq2 := by
  have hn := h.nl
  have dj1 : ∀ d ∈ fp b st1 ss1, d ∉ fp c sr sq := fun d hd hm => by
    rcases b1.g d hd with q | q
    · exact h.dj d q hm
    · have := h.r.lt d hm; omega
  refine ⟨p1.frs b2.f dj1, r2, fun d hd hm => ?_, fun d hd => ?_, fun d hd => ?_⟩
  · rcases b2.g d hm with q | q
    · exact dj1 d hd q
    · have := p1.lt d hd; omega
  · rcases b1.g d hd with q | q
    · exact h.lp d q
    · omega
  · rcases b2.g d hd with q | q
    · exact h.lr d q
    · have := b1.f.1; omega
theorem fr_by {H0 H1 : Heap} {F F' : List Nat} (f : Frs [] H0 H) (b : Bh F H F' H1) (lo : ∀ d ∈ F, H0.length ≤ d) : Frs [] H0 H1 := f.then b.f fun c hc => .inr (lo c hc)
theorem idx_any {T : Tag} (hT : ∀ x, (T.cells x).length = T.n) {s : Sl} {l : List T.α} (h : SlF T H s l) {i : Int} {n : Nat} {x : T.α} (hi : i = n) (hx : l[n]? = some x) {sz : Nat} (hz : sz = T.n) {K : Nat → Nat → Prop} (hk : ∀ b o, (∀ H2, SlF T H2 s l → ∀ k : T.α → Prop, k x → LD T H2 b o k) → K b o) : IDX s.p s.len i sz K := by
  have t := idx_ldF hT h hi hx (k := fun _ => True) hz trivial
  have hl := (List.getElem?_eq_some_iff.1 hx).1
  obtain ⟨h1, ⟨_, h2, _⟩ | ⟨_, _, _, h2, _⟩ | ⟨b, A, B, z, o, ro, h3, h4⟩⟩ := id h
  · subst h2; simp at hl
  · subst h2; simp at hl
  · unfold IDX NIL at t ⊢
    rw [h3] at t ⊢
    refine ⟨t.1, hk _ _ fun H2 h2 k hk => ?_⟩
    have t2 := idx_ldF hT h2 hi hx (k := k) hz hk
    unfold IDX NIL at t2
    rw [h3] at t2
    exact t2.2
theorem zz_self (h : Snd z) : zz z.t z.l (fun p => z.l (2 + p)) z.n 2 = z := by
  obtain ⟨t, l, n⟩ := z
  unfold zz
  congr 1
  funext q
  dsimp only
  by_cases h2 : q < 2
  · rw [if_pos h2, if_pos h2]
  · rw [if_neg h2]
    by_cases h4 : q < 4
    · rw [if_pos h4, if_pos (by omega), show 2 + (q - 2) = q by omega]
    · rw [if_neg h4]; exact (h.nil q (by omega)).symm
end
section
variable {H : Heap} {a0 a1 a2 : Sl} {l0 l1 : List Int} {ops : List G_law17_Op}
theorem zoneSound_c (h0 : SlF TN H a0 l0) (h1 : SlF TN H a1 l1) (ho : SlF OT H a2 ops) (b0 : l0.length ≤ 1048576) (b1 : l1.length ≤ 1048576) (hL : ∀ op ∈ ops, ∃ li : List Int, SlF TN H op.L li ∧ li.length ≤ 1048576) {Q : Bool × Unit → Heap → Prop} (hq : ∀ H', Q (true, ()) H') :
    CALL P [T_bool] n_law17_ZoneSound [a0.v, a1.v, a2.v] H Q := by
  apply c_law17_ZoneSound
  unfold S_law17_ZoneSound
  have e2 : a2.len = ops.length := ho.1
  refine CALL.closedF (Try.fnOk 100) (by kernel_rfl) (ifB_f rfl ?_)
  refine pnew_c h0 h1 (by omega) (by omega) (fun hlong => ?_) (fun H2 hle hbad f => ?_) (fun H2 b st ss hle hok zr f lo => ?_)
  · refine JOIN_inv (fun y H' => (y : (Bool × Unit) × Unit).1.1 = true) (fun j hj => ifB_t rfl (hj _ _ rfl)) ?_
    rintro ⟨⟨r, _⟩, _⟩ H3 hr
    simp only at hr; subst hr
    exact ifB_t rfl (JOIN_of (ifB_f rfl (hq _)))
  · refine JOIN_inv (fun y H' => (y : (Bool × Unit) × Unit).1.1 = true) (fun j hj => ifB_t rfl (hj _ _ rfl)) ?_
    rintro ⟨⟨r, _⟩, _⟩ H3 hr
    simp only at hr; subst hr
    exact ifB_t rfl (JOIN_of (ifB_f rfl (hq _)))
  refine JOIN_inv (fun y H' => H' = H2 ∧ ((y : (Bool × Unit) × Unit).1.1 = false → ops.length ≤ 60)) (fun j hj => ifB_f rfl (ifB_of (fun _ => hj _ _ ⟨rfl, fun q => by cases q⟩) (fun _ => hj _ _ ⟨rfl, fun q => by have := of_decide_eq_false q; omega⟩))) ?_
  rintro ⟨⟨r, _⟩, _⟩ H3 ⟨rfl, hr⟩
  simp only at hr
  refine ifB_of (fun _ => JOIN_of (ifB_t rfl (hq _))) (fun hrf => ?_)
  have hops := hr hrf
  have hs : Snd (newZ l0 l1) := new_snd hle hok.1 hok.2
  have rdop : ∀ {H' : Heap} {i : Nat} (hlt : i < ops.length) (f : Frs [] H H') {K : Nat → Nat → Prop}, (∀ b o, (∀ H2, Frs [] H H2 → ∀ k : G_law17_Op → Prop, k ops[i] → LD T_G_law17_Op H2 b o k) → K b o) → IDX a2.p a2.len (i : Int) 16 K := fun {H' i} hlt f {K} hk =>
    idx_any (T := OT) hOT ho rfl (List.getElem?_eq_getElem hlt) rfl fun b o q => hk b o fun H2 f2 k hk2 => q H2 (ho.frs f2 (by simp)) k hk2
  refine JOIN_inv (fun _ H' => ∃ z st ss, ZR [] H' b z st ss ∧ Snd z ∧ Frs [] H H' ∧ ∀ d ∈ fp b st ss, H.length ≤ d) (fun j hj => ?_) ?_
  · refine loop_of (fun (s : (Int × Unit) × Unit) H' => ∃ (i : Nat) (z : Zo) (st : Sl) (ss : Nat → Sl), s.1.1 = i ∧ i ≤ ops.length ∧ ZR [] H' b z st ss ∧ Snd z ∧ Frs [] H H' ∧ ∀ d ∈ fp b st ss, H.length ≤ d) (fun s => ops.length - s.1.1.toNat) ?_ ⟨0, _, _, _, rfl, Nat.zero_le _, zr, hs, f, lo⟩
    rintro G ⟨⟨i, _⟩, _⟩ H' ⟨i, z, st, ss, hi, hil, zr, hs, f, lo⟩ hG
    simp only at hi; subst hi
    dsimp only at hG ⊢
    refine ifB_of (fun hlt => ?_) (fun hge => hj _ _ ⟨z, st, ss, zr, hs, f, lo⟩)
    have hlt : i < ops.length := by have := of_decide_eq_true hlt; omega
    refine whole_c zr hs.inv fun x11 H7 hw hwl f7 => rdop hlt (f.trans f7) fun bo oo rd => rd H7 (f.trans f7) _ ?_
    obtain ⟨li, hli, hll⟩ := hL ops[i] (List.getElem_mem hlt)
    have z7 := zr.new f7
    have lt0 := zr.lt
    refine do_c z7 hs.inv (hli.frs (f.trans f7) (by simp)) hll fun H8 st8 ss8 z8 b8 => ?_
    have hs8 := do_snd hs ops[i] li
    have f8 : Frs [] H H8 := fr_by (f.trans f7) b8 lo
    have lo8 : ∀ d ∈ fp b st8 ss8, H.length ≤ d := fun d hd => by
      rcases b8.g d hd with q | q
      · exact lo d q
      · have := (f.trans f7).1; omega
    refine placed_c z8 hs8 fun H9 f9 => ?_
    refine JOIN_inv (fun y H2 => (y : (Bool × Unit) × Unit).1.1 = false ∧ Frs [] H8 H2) (fun j2 hj2 => ?_) ?_
    · refine ifB_f rfl (ifB_of (fun e => ?_) (fun e => hj2 _ _ ⟨rfl, f9⟩))
      have hz : (doZ z ops[i] li).2 = z := do_ref (by simpa using e)
      rw [hz] at z8 hs8
      refine whole_c (z8.new f9) hs8.inv fun x19 H11 hw2 _ f11 => ⟨rfl, ?_⟩
      have hw11 : HW H11 x11 z := ((hw.off hwl b8.f fun d hd => lt0 d hd).new f9).new f11
      exact sameWorld_c hw11 hw2 hs.inv fun H12 f12 => hj2 _ _ ⟨rfl, (f9.trans f11).trans f12⟩
    · rintro ⟨⟨r, _⟩, _⟩ H10 ⟨hr, f10⟩
      simp only at hr; subst hr
      refine ifB_f rfl ?_
      rw [i64w (by omega) (by omega)]
      exact hG _ _ ⟨i + 1, _, st8, ss8, by simp, hlt, z8.new f10, hs8, f8.trans f10, lo8⟩ (by simp; omega)
  rintro _ H5 ⟨z, st, ss, zr, hs, f, lo⟩
  have few := hs.few
  refine whole_c zr hs.inv fun x21 H13 hw hwl f13 => ?_
  have hzz : zz z.t z.l (fun p => z.l (2 + p)) x21.Stamp 2 = z := by rw [hw.s]; exact zz_self hs
  have ll := hs.inv.len
  show CALL P [T_ptr, TN] n_zone_From [x21.Things.v, T_arr2_T_sl.enc (sdW x21 0, sdW x21 1), T_arr2_T_sl.enc (shW x21 0, shW x21 1), .int .i64 x21.Stamp] H13 _
  refine pfrom_c (ld := z.l) (lh := fun p => z.l (2 + p)) hw.t hw.d hw.h (by omega) (fun p hp => by have := ll p; omega) (fun p hp => by have := ll (2 + p); show (z.l (2 + p)).length ≤ _; omega) (fun H20 hl _ => ?_) (fun H20 hl hn _ => ?_) (fun H14 c sr sq hl _ yr f14 loc => ?_)
  · exfalso
    rcases hl with q | ⟨p, _, q | q⟩
    · omega
    · have := ll p; omega
    · have := ll (2 + p); dsimp only at q; omega
  · rw [hzz] at hn; exact absurd hs hn
  rw [hzz] at yr
  have tw : Tw H.length H14 b c z st ss sr sq := ⟨(zr.new f13).new f14, yr, fun d hd hm => by have := zr.lt d hd; have := loc d hm; have := f13.1; omega, lo, fun d hd => by have := loc d hd; have := f13.1; have := f.1; omega⟩
  have f014 := (f.trans f13).trans f14
  refine JOIN_inv (fun y H' => (y : (Bool × Unit) × Unit).1.1 = false ∧ Frs [] H14 H') (fun j hj => ?_) ?_
  · refine ifB_f rfl (ifB_f rfl (whole_c yr hs.inv fun x25 H16 hw2 _ f16 => ⟨rfl, sameWorld_c ((hw.new f14).new f16) hw2 hs.inv fun H17 f17 => hj _ _ ⟨rfl, f16.trans f17⟩⟩))
  rintro ⟨⟨r, _⟩, _⟩ H15 ⟨hr, f15⟩
  simp only at hr; subst hr
  refine ifB_f rfl (JOIN_inv (fun _ H' => ∃ z st ss sr sq, Tw H.length H' b c z st ss sr sq ∧ Snd z) (fun j hj => ?_) ?_)
  · refine loop_of (fun (s : (Int × Unit) × Unit) H' => ∃ (i : Nat) (z : Zo) (st : Sl) (ss : Nat → Sl) (sr : Sl) (sq : Nat → Sl), s.1.1 = i ∧ i ≤ ops.length ∧ Tw H.length H' b c z st ss sr sq ∧ Snd z ∧ Frs [] H H') (fun s => ops.length - s.1.1.toNat) ?_ ⟨0, _, _, _, _, _, rfl, Nat.zero_le _, tw.new f15, hs, f014.trans f15⟩
    rintro G ⟨⟨i, _⟩, _⟩ H' ⟨i, z, st, ss, sr, sq, hi, hil, tw, hs, f⟩ hG
    simp only at hi; subst hi
    dsimp only at hG ⊢
    refine ifB_of (fun hlt => ?_) (fun hge => hj _ _ ⟨z, st, ss, sr, sq, tw, hs⟩)
    have hlt : i < ops.length := by have := of_decide_eq_true hlt; omega
    refine rdop hlt f fun bo oo rd => rd H' f _ (rdop hlt f fun bo2 oo2 rd2 => rd2 H' f _ ?_)
    obtain ⟨li, hli, hll⟩ := hL ops[i] (List.getElem_mem hlt)
    refine do_c tw.p hs.inv (hli.frs f (by simp)) hll fun H8 st8 ss8 z8 b8 => ?_
    have f8 : Frs [] H H8 := fr_by f b8 tw.lp
    have r8 : ZR [] H8 c z sr sq := tw.r.frs b8.f fun d hd hm => tw.dj d hm hd
    refine rd2 H8 f8 _ ⟨rfl, ?_⟩
    refine do_c r8 hs.inv (hli.frs f8 (by simp)) hll fun H9 sr9 sq9 r9 b9 => ifB_f (by simp) ?_
    rw [i64w (by omega) (by omega)]
    exact hG _ _ ⟨i + 1, _, st8, ss8, sr9, sq9, by simp, hlt, tw.step z8 b8 r9 b9, do_snd hs ops[i] li, fr_by f8 b9 tw.lr⟩ (by simp; omega)
  · rintro _ H18 ⟨z, st, ss, sr, sq, tw, hs⟩
    refine whole_c tw.p hs.inv fun x40 H22 hw _ f22 => whole_c (tw.r.new f22) hs.inv fun x41 H23 hw2 _ f23 => ?_
    exact sameWorld_c (hw.new f23) hw2 hs.inv fun H24 _ => hq H24
end
end
end Go.Proofs.Ythgfjbafhjkhnaa.Zq
