/- ZoneFrom: the law's contract. -/
import Derived.Test.YthgfjbafhjkhnaaGreatZcFromR
import Derived.Test.YthgfjbafhjkhnaaGreatZcZr
import Derived.Test.YthgfjbafhjkhnaaGreatZcTwo
namespace Go.Proofs.YthgfjbafhjkhnaaGreat.Zq
open Zv
section
variable {H : Heap}
variable {wb : Nat} {x : Wld}
/-- A list that was lent, in block b. -/
structure Lq (H : Heap) (s : Sl) (b : Nat) (l : List Int) : Prop where
  ow : ∃ sp, Ow TN H s (l ++ [KInts.w, KInts.w]) sp
  pt : s.p = some ⟨b, 0, none⟩
theorem Lq.frs {H' : Heap} {s : Sl} {b : Nat} {l : List Int} {B : List Nat} (h : Lq H s b l) (f : Frs B H H') (hb : b ∉ B) : Lq H' s b l := by
  obtain ⟨⟨sp, h1⟩, h2⟩ := h
  exact ⟨⟨sp, h1.frs f fun d hd e => by rw [h2] at e; simp at e; subst e; exact hb hd⟩, h2⟩
theorem Lq.lt {s : Sl} {b : Nat} {l : List Int} (h : Lq H s b l) : b < H.length := by obtain ⟨⟨sp, h1⟩, h2⟩ := h; exact h1.lt h2
theorem Lq.pre {s : Sl} {b : Nat} {l : List Int} (h : Lq H s b l) : SlF TN H ⟨s.p, l.length, s.cap⟩ l := by
  obtain ⟨⟨sp, h1⟩, h2⟩ := h
  have := h1.pre l.length s.cap (by simp) (fun e => by rw [h2] at e; cases e)
  rwa [List.take_left' rfl] at this
theorem Lq.cut {s : Sl} {b : Nat} {l : List Int} (h : Lq H s b l) {i : Int} (hi : i = l.length) : aSlice E 22 s.v none (some (.int .i64 i)) none H = some (.slice s.p l.length s.cap) := by
  obtain ⟨⟨sp, h1⟩, h2⟩ := h
  obtain ⟨y, q1, q2⟩ := slice_toO KInts.tyS h1 (n := l.length) hi (by simp) (k := fun y => y = ⟨s.p, l.length, s.cap⟩) rfl
  subst q2; exact q1

/-- Both From. -/
theorem both_from {a0 : Sl} {l : List Th} {dk hk : Nat → Sl} {ld lh : Nat → List Int} (hw : WR H wb x) (h0 : SlF TT H a0 l) (hd : ∀ p, p < 2 → SlF TN H (dk p) (ld p)) (hh : ∀ p, p < 2 → SlF TN H (hk p) (lh p)) (g0 : SlF TT H x.Things l) (gd : ∀ p, p < 2 → SlF TN H (sdW x p) (ld p)) (gh : ∀ p, p < 2 → SlF TN H (shW x p) (lh p))
    (b0 : l.length ≤ 1048600) (bd : ∀ p, p < 2 → (ld p).length ≤ 1048600) (bh : ∀ p, p < 2 → (lh p).length ≤ 1048600) {K : (Option Addr) × Int × Unit → (Option Addr) × Int × Unit → Heap → Prop}
    (hK : ∀ o1 o2 er H', Frs [] H H' → Beg H.length H' o1 o2 → K (o1, er, ()) (o2, er, ()) H') :
    CALL P [T_ptr, TN] n_zone_From [a0.v, T_arr2_T_sl.enc (dk 0, dk 1), T_arr2_T_sl.enc (hk 0, hk 1), .int .i64 x.Stamp] H fun (x42 : (Option Addr) × Int × Unit) H20 =>
      LD T_sl H20 wb 0 fun (x43 : Sl) => LD T_arr2_T_sl H20 wb 1 fun (x44 : Sl × Sl) => LD T_arr2_T_sl H20 wb 3 fun (x45 : Sl × Sl) => LD (T_int .i64) H20 wb 5 fun (x46 : Int) =>
        CALL P [T_ptr, (T_int .i64)] n_ref17_From [x43.v, (T_arr2_T_sl.enc x44), (T_arr2_T_sl.enc x45), (.int .i64 x46)] H20 fun (x47 : (Option Addr) × Int × Unit) H21 => K x42 x47 H21 := by
  have g : ∀ {H20 : Heap} {K2 : (Option Addr) × Int × Unit → Heap → Prop}, Frs [] H H20 → (∀ H', Lng l ld lh 2 → Frs [] H20 H' → K2 (none, 3, ()) H') → (∀ H', ¬ Lng l ld lh 2 → ¬ Snd (zz l ld lh x.Stamp 2) → Frs [] H20 H' → K2 (none, 2, ()) H') →
      (∀ H' b st ss, ¬ Lng l ld lh 2 → Snd (zz l ld lh x.Stamp 2) → ZR e1 H' b (zz l ld lh x.Stamp 2) st ss → Frs [] H20 H' → (∀ d ∈ fp b st ss, H20.length ≤ d) → K2 (some ⟨b, 0, none⟩, 0, ()) H') →
      LD T_sl H20 wb 0 fun (x43 : Sl) => LD T_arr2_T_sl H20 wb 1 fun (x44 : Sl × Sl) => LD T_arr2_T_sl H20 wb 3 fun (x45 : Sl × Sl) => LD (T_int .i64) H20 wb 5 fun (x46 : Int) =>
        CALL P [T_ptr, (T_int .i64)] n_ref17_From [x43.v, (T_arr2_T_sl.enc x44), (T_arr2_T_sl.enc x45), (.int .i64 x46)] H20 fun (x47 : (Option Addr) × Int × Unit) H21 => K2 x47 H21 := fun f q1 q2 q3 => by
    have w := hw.frs f (by simp)
    exact w.t (w.d2 (w.h2 (w.s (rfrom_c (g0.frs f (by simp)) (fun p hp => (gd p hp).frs f (by simp)) (fun p hp => (gh p hp).frs f (by simp)) b0 bd bh q1 q2 q3))))
  refine pfrom_c h0 hd hh b0 bd bh (fun H20 hl f => ?_) (fun H20 hl hs f => ?_) (fun H20 bp st ss hl hs zp f lop => ?_)
  · exact g f (fun H' _ f' => hK _ _ _ H' (f.trans f') (.inl ⟨rfl, rfl⟩)) (fun H' hn _ _ => absurd hl hn) (fun H' b st ss hn _ _ _ _ => absurd hl hn)
  · exact g f (fun H' hn _ => absurd hn hl) (fun H' _ _ f' => hK _ _ _ H' (f.trans f') (.inl ⟨rfl, rfl⟩)) (fun H' b st ss _ hn _ _ _ => absurd hn hs)
  · refine g f (fun H' hn _ => absurd hn hl) (fun H' _ hn _ => absurd hs hn) (fun H' br sr sq _ _ zr f' lor => hK _ _ _ H' (f.trans f') (.inr ⟨bp, br, zz l ld lh x.Stamp 2, st, ss, sr, sq, rfl, rfl, hs.inv, ⟨zp.new f', zr, fun d hd' hm => ?_, lop, fun d hd' => ?_⟩⟩))
    · have := zp.lt d hd'; have := lor d hm; omega
    · have := lor d hd'; have := f.1; omega

theorem zoneFrom_c {a1 : Sl} {lt : List Th} {ld lh : Nat → List Int} {ops : List G_law17_Op} (hT : SlF TT H x.Things lt) (hD : ∀ p, p < 2 → SlF TN H (sdW x p) (ld p)) (hHn : ∀ p, p < 2 → SlF TN H (shW x p) (lh p)) (ho : SlF OT H a1 ops)
    (bT : lt.length ≤ 1048576) (bD : ∀ p, p < 2 → (ld p).length ≤ 1048576) (bH : ∀ p, p < 2 → (lh p).length ≤ 1048576) (hL : ∀ op ∈ ops, ∃ li : List Int, SlF TN H op.L li ∧ li.length ≤ 1048576) {Q : Bool × Unit → Heap → Prop} (hq : ∀ H', Q (true, ()) H') :
    CALL P [T_bool] n_law17_ZoneFrom [T_G_law17_World.enc x, a1.v] H Q := by
  apply c_law17_ZoneFrom
  unfold S_law17_ZoneFrom
  have e2 : a1.len = ops.length := ho.1
  show NEW H _ 6 _
  unfold NEW
  have w1 : WR (mk H [(.slice x.Things.p x.Things.len x.Things.cap), (.slice x.Decks.1.p x.Decks.1.len x.Decks.1.cap), (.slice x.Decks.2.p x.Decks.2.len x.Decks.2.cap), (.slice x.Hands.1.p x.Hands.1.len x.Hands.1.cap), (.slice x.Hands.2.p x.Hands.2.len x.Hands.2.cap), (.int .i64 x.Stamp)] 6 false) H.length x := by unfold WR; simp [mk, Sl.v]
  have f1 : Frs [] H (mk H [(.slice x.Things.p x.Things.len x.Things.cap), (.slice x.Decks.1.p x.Decks.1.len x.Decks.1.cap), (.slice x.Decks.2.p x.Decks.2.len x.Decks.2.cap), (.slice x.Hands.1.p x.Hands.1.len x.Hands.1.cap), (.slice x.Hands.2.p x.Hands.2.len x.Hands.2.cap), (.int .i64 x.Stamp)] 6 false) := Frs.app _ _ _
  show CALL P [T_bool] n_law17_lives [] _ _
  generalize mk H [(.slice x.Things.p x.Things.len x.Things.cap), (.slice x.Decks.1.p x.Decks.1.len x.Decks.1.cap), (.slice x.Decks.2.p x.Decks.2.len x.Decks.2.cap), (.slice x.Hands.1.p x.Hands.1.len x.Hands.1.cap), (.slice x.Hands.2.p x.Hands.2.len x.Hands.2.cap), (.int .i64 x.Stamp)] 6 false = H1 at w1 f1 ⊢
  have hwl : H.length < H1.length := get_lt w1
  refine CALL.closedF (Tryz.fnOk 100) (by kernel_rfl) (ifB_f rfl ?_)
  refine JOIN_inv (fun y H' => H' = H1 ∧ ((y : (Bool × Unit) × Unit).1.1 = false → ops.length ≤ 60)) (fun j hj => ?_) ?_
  · have last : decide ((a1.len : Int) > 30) = false → ops.length ≤ 60 := fun q => by have := of_decide_eq_false q; omega
    exact w1.t (ifB_of (fun _ => w1.t (ifB_of (fun _ => hj _ _ ⟨rfl, fun q => by cases q⟩) (fun _ => hj _ _ ⟨rfl, last⟩))) (fun _ => hj _ _ ⟨rfl, last⟩))
  rintro ⟨⟨r, _⟩, _⟩ H3 ⟨rfl, hr⟩
  simp only at hr
  refine ifB_of (fun _ => hq _) (fun hrf => ?_)
  have hops := hr hrf
  refine JOIN_inv (fun _ H' => H' = H3) (fun j hj => ?_) ?_
  · refine loop_of (fun (s : (Int × Unit) × Unit) H' => H' = H3 ∧ ∃ p : Nat, s.1.1 = p ∧ p ≤ 2) (fun s => 2 - s.1.1.toNat) ?_ ⟨rfl, 0, rfl, by omega⟩
    rintro G ⟨⟨i, _⟩, _⟩ H' ⟨rfl, p, hi, hp2⟩ hG
    simp only at hi; subst hi
    dsimp only at hG ⊢
    refine ifB_of (fun hlt => ?_) (fun hge => hj _ _ rfl)
    have hlt : p < 2 := by have := of_decide_eq_true hlt; omega
    have hA : (0 : Int) ≤ (p : Int) ∧ (p : Int) < 2 := by omega
    refine JOIN_inv (fun _ H2 => H2 = H') (fun j2 hj2 => ?_) ?_
    · have h3 : ∀ {A B : Prop}, A → B → IDXA 2 (p : Int) (LD T_sl H' H.length (3 + (p : Int).toNat * 1) fun (x16 : Sl) => ifB (decide ((x16.len : Int) > 300)) A B) := fun ha hb => ⟨hA, w1.h hlt (ifB_of (fun _ => ha) (fun _ => hb))⟩
      exact ⟨hA, w1.d hlt (ifB_of (fun _ => ⟨hA, w1.d hlt (ifB_of (fun _ => hj2 _ _ rfl) (fun _ => h3 ⟨hA, w1.h hlt (hj2 _ _ rfl)⟩ (hj2 _ _ rfl)))⟩) (fun _ => h3 ⟨hA, w1.h hlt (hj2 _ _ rfl)⟩ (hj2 _ _ rfl)))⟩
    · rintro ⟨⟨r, _⟩, _⟩ H2 rfl
      refine ifB_of (fun _ => hq _) (fun _ => ?_)
      rw [i64w (by omega) (by omega)]
      exact hG _ _ ⟨rfl, p + 1, by simp, by omega⟩ (by simp; omega)
  rintro _ H4 rfl
  refine w1.t (KThings.lent_c (hT.frs f1 (by simp)) (by omega) fun s19 H7 sp19 n19 ⟨d19, e19⟩ => ?_)
  have hd19 := n19.2.1 d19 e19
  have hd19l := n19.1.lt e19
  -- the four arrays
  have fA : Frs [] H7 (mk H7 [(.slice none 0 0), (.slice none 0 0)] 2 false) := Frs.app _ _ _
  have aA : ArS (mk H7 [(.slice none 0 0), (.slice none 0 0)] 2 false) H7.length (fun _ => ⟨none, 0, 0⟩) := ArS.new H7 (fun _ => ⟨none, 0, 0⟩)
  have lA : (mk H7 [(.slice none 0 0), (.slice none 0 0)] 2 false).length = H7.length + 1 := by simp [mk]
  show JOIN _ _
  generalize mk H7 [(.slice none 0 0), (.slice none 0 0)] 2 false = H8 at fA aA lA ⊢
  have fB : Frs [] H8 (mk H8 [(.slice none 0 0), (.slice none 0 0)] 2 false) := Frs.app _ _ _
  have aB : ArS (mk H8 [(.slice none 0 0), (.slice none 0 0)] 2 false) H8.length (fun _ => ⟨none, 0, 0⟩) := ArS.new H8 (fun _ => ⟨none, 0, 0⟩)
  have lB : (mk H8 [(.slice none 0 0), (.slice none 0 0)] 2 false).length = H8.length + 1 := by simp [mk]
  generalize mk H8 [(.slice none 0 0), (.slice none 0 0)] 2 false = H9 at fB aB lB ⊢
  have fC : Frs [] H9 (mk H9 [(.slice none 0 0), (.slice none 0 0)] 2 false) := Frs.app _ _ _
  have aC : ArS (mk H9 [(.slice none 0 0), (.slice none 0 0)] 2 false) H9.length (fun _ => ⟨none, 0, 0⟩) := ArS.new H9 (fun _ => ⟨none, 0, 0⟩)
  have lC : (mk H9 [(.slice none 0 0), (.slice none 0 0)] 2 false).length = H9.length + 1 := by simp [mk]
  generalize mk H9 [(.slice none 0 0), (.slice none 0 0)] 2 false = H10 at fC aC lC ⊢
  have fD : Frs [] H10 (mk H10 [(.slice none 0 0), (.slice none 0 0)] 2 false) := Frs.app _ _ _
  have aD : ArS (mk H10 [(.slice none 0 0), (.slice none 0 0)] 2 false) H10.length (fun _ => ⟨none, 0, 0⟩) := ArS.new H10 (fun _ => ⟨none, 0, 0⟩)
  have lD : (mk H10 [(.slice none 0 0), (.slice none 0 0)] 2 false).length = H10.length + 1 := by simp [mk]
  generalize mk H10 [(.slice none 0 0), (.slice none 0 0)] 2 false = H11 at fD aD lD ⊢
  have hn7 := n19.2.2.1
  have fr11 : Frs [] H4 H11 := (((n19.2.2.trans fA).trans fB).trans fC).trans fD
  have f711 : Frs [] H7 H11 := ((fA.trans fB).trans fC).trans fD
  have aA' := ((aA.frs fB (by simp)).frs fC (by simp)).frs fD (by simp)
  have aB' := (aB.frs fC (by simp)).frs fD (by simp)
  have aC' := aC.frs fD (by simp)
  refine JOIN_inv (fun _ H' => ∃ (f m dk hk : Nat → Sl) (bf bm : Nat → Nat), ArS H' H7.length dk ∧ ArS H' H8.length hk ∧ ArS H' H9.length f ∧ ArS H' H10.length m ∧ Frs [H7.length, H8.length, H9.length, H10.length] H11 H' ∧ ∀ q, q < 2 → Lq H' (f q) (bf q) (ld q) ∧ Lq H' (m q) (bm q) (lh q) ∧ dk q = ⟨(f q).p, (ld q).length, (f q).cap⟩ ∧ hk q = ⟨(m q).p, (lh q).length, (m q).cap⟩ ∧ H11.length ≤ bf q ∧ bf q < bm q ∧ ∀ r, r < q → bm r < bf q) (fun j hj => ?_) ?_
  · refine loop_of (fun (s : (Int × Unit) × Unit) H' => ∃ (p : Nat) (f m dk hk : Nat → Sl) (bf bm : Nat → Nat), s.1.1 = p ∧ p ≤ 2 ∧ ArS H' H7.length dk ∧ ArS H' H8.length hk ∧ ArS H' H9.length f ∧ ArS H' H10.length m ∧ Frs [H7.length, H8.length, H9.length, H10.length] H11 H' ∧ ∀ q, q < p → Lq H' (f q) (bf q) (ld q) ∧ Lq H' (m q) (bm q) (lh q) ∧ dk q = ⟨(f q).p, (ld q).length, (f q).cap⟩ ∧ hk q = ⟨(m q).p, (lh q).length, (m q).cap⟩ ∧ H11.length ≤ bf q ∧ bf q < bm q ∧ ∀ r, r < q → bm r < bf q) (fun s => 2 - s.1.1.toNat) ?_ ⟨0, _, _, _, _, fun _ => 0, fun _ => 0, rfl, by omega, aA', aB', aC', aD, .refl _ _, fun q hq => by omega⟩
    rintro G ⟨⟨i, _⟩, _⟩ H' ⟨p, f, m, dk, hk, bf, bm, hi, hp2, rA, rB, rC, rD, fr, fac⟩ hG
    simp only at hi; subst hi
    dsimp only at hG ⊢
    refine ifB_of (fun hlt => ?_) (fun hge => ?_)
    · have hlt : p < 2 := by have := of_decide_eq_true hlt; omega
      have hA : (0 : Int) ≤ (p : Int) ∧ (p : Int) < 2 := by omega
      have fr1 : Frs [] H4 H' := fr11.then fr fun c hc => by simp at hc; exact .inr (by omega)
      have w' := w1.frs fr1 (by simp)
      have hDp := ((hD p hlt).frs f1 (by simp)).frs fr1 (by simp)
      have hHp := ((hHn p hlt).frs f1 (by simp)).frs fr1 (by simp)
      have bDp := bD p hlt
      have bHp := bH p hlt
      have hfl := fr.1
      refine ⟨hA, w'.d hlt ⟨hA, w'.h hlt (KInts.lent_c hDp (by omega) fun s26 H14 sp26 n26 ⟨d26, e26⟩ => ?_)⟩⟩
      have hd26 := n26.2.1 d26 e26
      have hd26l := n26.1.lt e26
      refine (w'.frs n26.2.2 (by simp)).h hlt ⟨rfl, hA, KInts.lent_c (hHp.frs n26.2.2 (by simp)) (by omega) fun s28 H15 sp28 n28 ⟨d28, e28⟩ => ?_⟩
      have hd28 := n28.2.1 d28 e28
      have hn26 := n26.2.2.1
      have hn28 := n28.2.2.1
      have f15 : Frs [] H' H15 := n26.2.2.trans n28.2.2
      have Lf : Lq H15 s26 d26 (ld p) := ⟨⟨sp26, n26.1.frs n28.2.2 (by simp [Sl.off])⟩, e26⟩
      have Lm : Lq H15 s28 d28 (lh p) := ⟨⟨sp28, n28.1⟩, e28⟩
      refine (rC.frs f15 (by simp)).put hlt s26 fun H16 rC16 f16 _ => ⟨hA, ((rD.frs f15 (by simp)).frs f16 (by simp; omega)).put hlt s28 fun H17 rD17 f17 _ => ?_⟩
      have w15 := w'.frs f15 (by simp)
      have w17 := (w15.frs f16 (by simp; omega)).frs f17 (by simp; omega)
      have rC17 := rC16.frs f17 (by simp; omega)
      have Lf17 := (Lf.frs f16 (by simp; omega)).frs f17 (by simp; omega)
      have Lm17 := (Lm.frs f16 (by simp; omega)).frs f17 (by simp; omega)
      have hdl := (hD p hlt).1
      have hhl := (hHn p hlt).1
      have rdC : ∀ {k : Sl → Prop}, k s26 → LD T_sl H17 H9.length (0 + (p : Int).toNat * 1) k := fun hk => rC17.ld hlt (by rw [upd_same]; exact hk)
      have rdD : ∀ {k : Sl → Prop}, k s28 → LD T_sl H17 H10.length (0 + (p : Int).toNat * 1) k := fun hk => rD17.ld hlt (by rw [upd_same]; exact hk)
      refine ⟨hA, rdC ⟨hA, w17.d hlt ⟨⟨s26.p, (ld p).length, s26.cap⟩, Lf17.cut (by rw [hdl]), hA, rdD ⟨hA, w17.h hlt ⟨⟨s28.p, (lh p).length, s28.cap⟩, Lm17.cut (by rw [hhl]), hA, ?_⟩⟩⟩⟩⟩
      have rA17 := ((rA.frs f15 (by simp)).frs f16 (by simp; omega)).frs f17 (by simp; omega)
      refine rA17.put hlt ⟨s26.p, (ld p).length, s26.cap⟩ fun H18 rA18 f18 _ => ?_
      have rD18 := rD17.frs f18 (by simp; omega)
      have w18 := w17.frs f18 (by simp; omega)
      have Lm18 := Lm17.frs f18 (by simp; omega)
      refine rD18.ld hlt ?_
      rw [upd_same]
      refine ⟨rfl, w18.h hlt ⟨rfl, Lm18.cut (by rw [hhl]), hA, ?_⟩⟩
      have rB18 := (((rB.frs f15 (by simp)).frs f16 (by simp; omega)).frs f17 (by simp; omega)).frs f18 (by simp; omega)
      refine rB18.put hlt ⟨s28.p, (lh p).length, s28.cap⟩ fun H19 rB19 f19 _ => ?_
      have rC19 := (rC17.frs f18 (by simp; omega)).frs f19 (by simp; omega)
      have rD19 := rD18.frs f19 (by simp; omega)
      have rA19 := rA18.frs f19 (by simp; omega)
      have f5 : Frs [H7.length, H8.length, H9.length, H10.length] H' H19 := ((((f15.mono (by simp)).trans (f16.mono (by simp))).trans (f17.mono (by simp))).trans (f18.mono (by simp))).trans (f19.mono (by simp))
      have Lf19 := (Lf17.frs f18 (by simp; omega)).frs f19 (by simp; omega)
      have Lm19 := Lm18.frs f19 (by simp; omega)
      rw [i64w (by omega) (by omega)]
      refine hG _ _ ⟨p + 1, _, _, _, _, upd bf p d26, upd bm p d28, by simp, by omega, rA19, rB19, rC19, rD19, fr.trans f5, fun q hqp => ?_⟩ (by simp; omega)
      by_cases eq : q = p
      · subst eq
        simp only [upd_same]
        refine ⟨Lf19, Lm19, trivial, trivial, by omega, by omega, fun r hr => ?_⟩
        rw [upd_ne _ _ (by omega)]
        have := (fac r hr).2.1.lt; omega
      · have fq := fac q (by omega)
        simp only [upd_ne _ _ eq]
        have hb1 := fq.1.lt
        have hb2 := fq.2.1.lt
        refine ⟨fq.1.frs f5 (by have := fq.2.2.2.2.1; simp; omega), fq.2.1.frs f5 (by have := fq.2.2.2.2.1; have := fq.2.2.2.2.2.1; simp; omega), fq.2.2.1, fq.2.2.2.1, fq.2.2.2.2.1, fq.2.2.2.2.2.1, fun r hr => ?_⟩
        rw [upd_ne _ _ (by omega)]; exact fq.2.2.2.2.2.2 r hr
    · have hge : p = 2 := by have := of_decide_eq_false hge; omega
      subst hge
      exact hj _ _ ⟨f, m, dk, hk, bf, bm, rA, rB, rC, rD, fr, fac⟩
  rintro _ H12 ⟨f, m, dk, hk, bf, bm, rA, rB, rC, rD, fr, fac⟩
  have fr1 : Frs [] H4 H12 := fr11.then fr fun c hc => by simp at hc; exact .inr (by omega)
  have w12 := w1.frs fr1 (by simp)
  have f0 : Frs [] H H12 := f1.trans fr1
  have o19 : Ow TT H12 s19 (lt ++ [KThings.w, KThings.w]) sp19 := (n19.1.frs f711 (by simp [Sl.off])).frs fr fun d hd e => by rw [e19] at e; simp at e hd; omega
  have hTl := hT.1
  refine w12.t (slice_toO KThings.tyS o19 (n := lt.length) (by rw [hTl]) (by simp) ?_)
  have hp19 := o19.pre lt.length s19.cap (by simp) (fun e => by rw [e19] at e; cases e)
  rw [List.take_left' rfl] at hp19
  refine rA.ld2 (rB.ld2 (w12.s ?_))
  have hf11 := fr.1
  refine both_from w12 hp19 (fun q hq => by rw [(fac q hq).2.2.1]; exact (fac q hq).1.pre) (fun q hq => by rw [(fac q hq).2.2.2.1]; exact (fac q hq).2.1.pre) (hT.frs f0 (by simp)) (fun q hq => (hD q hq).frs f0 (by simp)) (fun q hq => (hHn q hq).frs f0 (by simp)) (by omega) (fun q hq => by have := bD q hq; omega) (fun q hq => by have := bH q hq; omega) fun o1 o2 er H21 f21 beg => ?_
  have hiso : o1.isNone = o2.isNone := by
    rcases beg with ⟨rfl, rfl⟩ | ⟨bp, br, _, _, _, _, _, rfl, rfl, _⟩ <;> rfl
  have w21 := w12.frs f21 (by simp)
  have o1921 := o19.frs f21 (by simp [Sl.off])
  refine JOIN_inv (fun y H' => (y : (Bool × Unit) × Unit).1.1 = false ∧ Frs [] H21 H') (fun j hj => ?_) ?_
  · refine ifB_f (nb_self _) (ifB_f (by dsimp only; rw [hiso]; simp) (w21.t (KThings.kept_c o1921.slf (hT.frs (f0.trans f21) (by simp)) (by simp; omega) (by omega) fun r H23 hr f23 => ?_)))
    have hr : r = true := hr.2 rfl
    subst hr
    exact hj _ _ ⟨rfl, f23⟩
  rintro ⟨⟨r, _⟩, _⟩ H22 ⟨hr, f22⟩
  simp only at hr; subst hr
  refine ifB_f rfl ?_
  have f122 := f21.trans f22
  refine JOIN_inv (fun _ H' => Frs (List.range H12.length) H22 H' ∧ Frs [] H4 H' ∧ Ow TT H' s19 (lt ++ [KThings.w, KThings.w]) sp19) (fun j hj => ?_) ?_
  · refine loop_of (fun (s : (Int × Unit) × Unit) H' => ∃ p : Nat, s.1.1 = p ∧ p ≤ 2 ∧ Frs (List.range H12.length) H22 H' ∧ Frs [] H4 H' ∧ Ow TT H' s19 (lt ++ [KThings.w, KThings.w]) sp19 ∧ ArS H' H9.length f ∧ ArS H' H10.length m ∧ ∀ q, p ≤ q → q < 2 → Lq H' (f q) (bf q) (ld q) ∧ Lq H' (m q) (bm q) (lh q)) (fun s => 2 - s.1.1.toNat) ?_ ⟨0, rfl, by omega, .refl _ _, fr1.trans f122, o1921.frs f22 (by simp [Sl.off]), rC.frs f122 (by simp), rD.frs f122 (by simp), fun q _ hq => ⟨(fac q hq).1.frs f122 (by simp), (fac q hq).2.1.frs f122 (by simp)⟩⟩
    rintro G ⟨⟨i, _⟩, _⟩ H' ⟨p, hi, hp2, fr2, fr3, o', rC', rD', L'⟩ hG
    simp only at hi; subst hi
    dsimp only at hG ⊢
    refine ifB_of (fun hlt => ?_) (fun hge => hj _ _ ⟨fr2, fr3, o'⟩)
    have hlt : p < 2 := by have := of_decide_eq_true hlt; omega
    have hA : (0 : Int) ≤ (p : Int) ∧ (p : Int) < 2 := by omega
    obtain ⟨Lf, Lm⟩ := L' p (Nat.le_refl _) hlt
    have facp := fac p hlt
    have w' := w1.frs fr3 (by simp)
    have hDp := ((hD p hlt).frs f1 (by simp)).frs fr3 (by simp)
    have hHp := ((hHn p hlt).frs f1 (by simp)).frs fr3 (by simp)
    have bDp := bD p hlt
    have bHp := bH p hlt
    obtain ⟨⟨spf, owf⟩, epf⟩ := id Lf
    obtain ⟨⟨spm, owm⟩, epm⟩ := id Lm
    refine JOIN_inv (fun y H2 => (y : (Bool × Unit) × Unit).1.1 = false ∧ Frs [] H' H2) (fun j2 hj2 => ?_) ?_
    · refine ⟨hA, rC'.ld hlt ⟨hA, w'.d hlt (KInts.kept_c owf.slf hDp (by simp; omega) (by omega) fun r H27 hr f27 => ?_)⟩⟩
      have hr : r = true := hr.2 rfl
      subst hr
      refine ifB_f rfl ⟨hA, (rD'.frs f27 (by simp)).ld hlt ⟨hA, (w'.frs f27 (by simp)).h hlt (KInts.kept_c (owm.frs f27 (by simp [Sl.off])).slf (hHp.frs f27 (by simp)) (by simp; omega) (by omega) fun r H28 hr f28 => ?_)⟩⟩
      have hr : r = true := hr.2 rfl
      subst hr
      exact hj2 _ _ ⟨rfl, f27.trans f28⟩
    rintro ⟨⟨r, _⟩, _⟩ H26 ⟨hr, f26⟩
    simp only at hr; subst hr
    refine ifB_f rfl ⟨hA, (rC'.frs f26 (by simp)).ld hlt (KInts.over_c (owf.frs f26 (by simp [Sl.off])) (by simp; omega) fun H29 o29 a29 => ?_)⟩
    have f29 : Frs [bf p] H26 H29 := a29.frs fun d hd => .inl (by rw [epf] at hd; simp at hd; simp [hd])
    have g5 := facp.2.2.2.2.1
    have g6 := facp.2.2.2.2.2.1
    have nbf : ∀ c, c < H11.length → c ∉ [bf p] := fun c hc => by simp; omega
    have nbm : ∀ c, c < H11.length → c ∉ [bm p] := fun c hc => by simp; omega
    have rD29 := (rD'.frs f26 (by simp)).frs f29 (nbf _ (by omega))
    refine ⟨hA, rD29.ld hlt (KInts.over_c ((owm.frs f26 (by simp [Sl.off])).frs f29 fun d hd e => by rw [epm] at e; simp at e hd; omega) (by simp; omega) fun H30 o30 a30 => ?_)⟩
    have f30 : Frs [bm p] H29 H30 := a30.frs fun d hd => .inl (by rw [epm] at hd; simp at hd; simp [hd])
    rw [i64w (by omega) (by omega)]
    have hbf12 := facp.1.lt
    have hbm12 := facp.2.1.lt
    have hl4 := fr11.1
    refine hG _ _ ⟨p + 1, by simp, by omega, ?_, ?_, ?_, ((rC'.frs f26 (by simp)).frs f29 (nbf _ (by omega))).frs f30 (nbm _ (by omega)), rD29.frs f30 (nbm _ (by omega)), fun q hq1 hq2 => ?_⟩ (by simp; omega)
    · exact ((fr2.trans (f26.mono (by simp))).trans (f29.mono fun c hc => by simp at hc; subst hc; simpa using hbf12)).trans (f30.mono fun c hc => by simp at hc; subst hc; simpa using hbm12)
    · exact ((fr3.trans f26).then f29 fun c hc => by simp at hc; exact .inr (by omega)).then f30 fun c hc => by simp at hc; exact .inr (by omega)
    · exact ((o'.frs f26 (by simp [Sl.off])).frs f29 fun d hd e => by rw [e19] at e; simp at e hd; omega).frs f30 fun d hd e => by rw [e19] at e; simp at e hd; omega
    · obtain ⟨Lf2, Lm2⟩ := L' q (by omega) hq2
      have fq := fac q hq2
      have := fq.2.2.2.2.2.2 p (by omega)
      have := fq.2.2.2.2.2.1
      exact ⟨((Lf2.frs f26 (by simp)).frs f29 (by simp; omega)).frs f30 (by simp; omega), ((Lm2.frs f26 (by simp)).frs f29 (by simp; omega)).frs f30 (by simp; omega)⟩
  rintro _ H24 ⟨fr2, fr3, o24⟩
  refine KThings.over_c o24 (by simp; omega) fun H31 o31 a31 => ?_
  have f31 : Frs [d19] H24 H31 := a31.frs fun d hd => .inl (by rw [e19] at hd; simp at hd; simp [hd])
  have hl11 := f711.1
  have beg31 : Beg H12.length H31 o1 o2 := ((beg.frs f22 (by simp)).frs fr2 (by simp)).frs f31 fun d hd => by simp at hd; omega
  have frH : Frs [] H H31 := (f1.trans fr3).then f31 fun c hc => by simp at hc; exact .inr (by omega)
  rcases beg31 with ⟨rfl, rfl⟩ | ⟨bp, br, z, st, ss, sr, sq, rfl, rfl, inv, tw⟩
  · exact ifB_t rfl (hq _)
  · refine ifB_f rfl (JOIN_inv (fun _ H' => ∃ z' st' ss' sr' sq', Two H12.length H' bp br z' st' ss' sr' sq' ∧ InvZ z') (fun j hj => ?_) ?_)
    · refine script_c (ops := ops) tw inv frH (k := fun H' => j ((), ()) H') (fun G i H' hlt z' st' sr' ss' sq' tw' inv' f' hG => ?_) (fun G H' hk => ?_) fun H' z' st' ss' sr' sq' tw' inv' => hj _ _ ⟨z', st', ss', sr', sq', tw', inv'⟩
      · refine ifB_t (decide_eq_true (by simp only; omega)) ?_
        have hx : ops[i]? = some ops[i] := List.getElem?_eq_getElem hlt
        refine idx_ldF (T := OT) hOT (ho.frs f' (by simp)) rfl hx rfl ?_
        obtain ⟨li, hli, hll⟩ := hL ops[i] (List.getElem_mem hlt)
        refine call_c tw' inv' f' f0.1 hli hll fun H14 z2 st2 ss2 sr2 sq2 tw2 inv2 f2 => ifB_f rfl ?_
        rw [i64w (by simp only; omega) (by simp only; omega)]
        exact hG _ _ _ _ _ _ tw2 inv2 f2
      · exact ifB_f (decide_eq_false (by simp only; omega)) hk
    · rintro _ H32 ⟨z', st', ss', sr', sq', tw', inv'⟩
      exact alike_c tw' inv' fun H' => hq H'
theorem zoneFrom_w {a1 : Sl} {ops : List G_law17_Op} (z : (∃ li : List Th, SlF TT H x.Things li ∧ li.length ≤ 1048576) ∧ (∃ li : List Int, SlF TN H x.Decks.1 li ∧ li.length ≤ 1048576) ∧ (∃ li : List Int, SlF TN H x.Decks.2 li ∧ li.length ≤ 1048576) ∧ (∃ li : List Int, SlF TN H x.Hands.1 li ∧ li.length ≤ 1048576) ∧ (∃ li : List Int, SlF TN H x.Hands.2 li ∧ li.length ≤ 1048576)) (ho : SlF OT H a1 ops)
    (hL : ∀ op ∈ ops, ∃ li : List Int, SlF TN H op.L li ∧ li.length ≤ 1048576) {Q : Bool × Unit → Heap → Prop} (hq : ∀ H', Q (true, ()) H') : CALL P [T_bool] n_law17_ZoneFrom [T_G_law17_World.enc x, a1.v] H Q := by
  obtain ⟨⟨lt, t1, t2⟩, ⟨d0, p1, p2⟩, ⟨d1, p3, p4⟩, ⟨h0, p5, p6⟩, ⟨h1, p7, p8⟩⟩ := z
  refine zoneFrom_c (ld := fun p => if p = 0 then d0 else d1) (lh := fun p => if p = 0 then h0 else h1) t1 (fun p hp => ?_) (fun p hp => ?_) ho t2 (fun p hp => ?_) (fun p hp => ?_) hL hq
  · rcases lt2 hp with rfl | rfl
    · exact p1
    · exact p3
  · rcases lt2 hp with rfl | rfl
    · exact p5
    · exact p7
  · rcases lt2 hp with rfl | rfl
    · exact p2
    · exact p4
  · rcases lt2 hp with rfl | rfl
    · exact p6
    · exact p8
end
end Go.Proofs.YthgfjbafhjkhnaaGreat.Zq
