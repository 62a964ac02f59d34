/- Lists that lie apart: the kit's function, of whatever elements. -/
import Derived.Test.YthgfjbafhjkhnaaGreatZcSl
namespace Go.Proofs.YthgfjbafhjkhnaaGreat.Zq
section
variable {E : Env} {T : Tag} {ts : TypeId} {z : T.α}

/-- An index, at a place that may be read again. -/
theorem idx_atF (hT : ∀ x, (T.cells x).length = T.n) {H : Heap} {s : Sl} {l : List T.α} (h : SlF T H s l) {i : Int} {n : Nat} {x : T.α} (hi : i = n) (hx : l[n]? = some x) {sz : Nat} (hz : sz = T.n) {K : Nat → Nat → Prop}
    (hk : ∀ b o, (∀ k : T.α → Prop, k x → LD T H b o k) → K b o) : IDX s.p s.len i sz K := by
  have hl := (List.getElem?_eq_some_iff.1 hx).1
  obtain ⟨h1, ⟨_, h2, _⟩ | ⟨_, _, _, h2, _⟩ | ⟨b, A, B, w, o, ro, h3, h4⟩⟩ := h
  · subst h2; simp at hl
  · subst h2; simp at hl
  · unfold IDX NIL
    rw [h3]
    refine ⟨⟨by omega, by omega⟩, hk _ _ fun k hk => ?_⟩
    refine LD_of x (A ++ fl T (l.take n)) (fl T (l.drop (n + 1)) ++ B) h4 ?_ ?_ (hT x) hk
    · rw [fl_cut l n x hx]; simp [List.append_assoc]
    · rw [List.length_append, fl_len hT, hi, hz, List.length_take, Nat.min_eq_left (by omega)]; simp

theorem hTs (x : Sl) : (T_sl.cells x).length = T_sl.n := rfl
/-- The whole of what a slice may be. -/
def full (s : Sl) : Sl := ⟨s.p, s.cap, s.cap⟩

theorem cap_v (ty : TyS E T ts z) {H : Heap} {s : Sl} {l sp : List T.α} (h : Ow T H s l sp) {k : Int → Prop} (hk : k (s.cap : Int)) : GENV (T_int .i64) (aCap E ts s.v H) k := by
  obtain ⟨⟨ti, e, te, e1, e2, e3, e4, e5, e6, e7⟩, hn, hT, hone⟩ := ty
  refine ⟨(s.cap : Int), ?_, hk⟩
  obtain ⟨p, n, c⟩ := s
  obtain ⟨g1, g2, g0, ⟨g3, g4, g5⟩ | ⟨d, g3, g4⟩⟩ := h
  · simp only at g1 g2 g3; subst g3; subst g4; subst g5; subst g1; subst g2
    unfold aCap
    simp only [e1, e2, Option.bind_some, Sl.v, List.length_nil]
    rfl
  · simp only at g1 g2 g3; subst g3
    unfold aCap
    simp only [e1, e2, Option.bind_some, Sl.v]
    have hex : Zq.exact H d 0 c = true := by unfold Zq.exact; rw [g4]; rfl
    rw [if_pos hex]
    rfl

theorem slice_full (ty : TyS E T ts z) {H : Heap} {s : Sl} {l sp : List T.α} (h : Ow T H s l sp) {k : Sl → Prop} (hk : k (full s)) : GENV T_sl (aSlice E ts s.v none (some (.int .i64 (s.cap : Int))) none H) k := by
  obtain ⟨⟨ti, e, te, e1, e2, e3, e4, e5, e6, e7⟩, hn, hT, hone⟩ := ty
  refine ⟨full s, ?_, hk⟩
  obtain ⟨p, n, c⟩ := s
  obtain ⟨g1, g2, g0, ⟨g3, g4, g5⟩ | ⟨d, g3, g4⟩⟩ := h
  · simp only at g1 g2 g3; subst g3; subst g4; subst g5; subst g1; subst g2
    unfold aSlice
    simp only [e1, e2, e3, Option.bind_some, Sl.v, List.length_nil]
    rfl
  · simp only at g1 g2 g3; subst g3
    unfold aSlice
    have hex : Zq.exact H d 0 c = true := by unfold Zq.exact; rw [g4]; rfl
    simp only [e1, e2, e3, Option.bind_some, Sl.v, natOf, Option.isSome_none, Bool.false_and, Bool.false_eq_true, if_false, hex, or_true, if_true]
    rw [if_pos (by omega)]
    simp only [Option.bind_some]
    rw [if_pos (by omega)]
    simp [full, Tag.enc, encC]

/-- Each list whole. -/
theorem apart1 (ty : TyS E T ts z) {tl : TypeId} (tyL : TyS E T_sl tl ⟨none, 0, 0⟩) {tj : TI} (h2 : E.ty tl = some tj) (h4 : ∀ k, tj.k ≠ .int k) {H : Heap} {a : Sl} {ls : List Sl} (ha : SlF T_sl H a ls) (hls : ∀ s ∈ ls, ∃ l sp, Ow T H s l sp) (hn : ls.length ≤ 1048600)
    {k : (Sl × Unit) × Unit → Heap → Prop} (hk : ∀ s' H' sp, NewO T_sl H s' H' (ls.map full) sp → k ((s', ()), ()) H') :
    JOIN (fun (j1 : (Sl × Unit) × (Unit) → Heap → Prop) => LOOP (fun (r3 : (Sl × Int × Unit) × (Unit) → Heap → Prop) (s4 : (Sl × Int × Unit) × (Unit)) H2 =>
      ifB (decide (s4.1.2.1 < (a.len : Int))) (IDX a.p a.len s4.1.2.1 1 fun b5 o6 => LD T_sl H2 b5 o6 fun (x7 : Sl) => IDX a.p a.len s4.1.2.1 1 fun b8 o9 => LD T_sl H2 b8 o9 fun (x10 : Sl) => GENV (T_int .i64) (aCap E ts x10.v H2) fun (x11 : Int) => LD T_sl H2 b5 o6 fun (x12 : Sl) => REQ (T_sl.enc x12 = x7.v) (
        GENV T_sl (aSlice E ts x7.v none (some (.int .i64 x11)) none H2) fun (x13 : Sl) => APP T_sl (lenV s4.1.1.v + 1) (aAppE E [tl, tl] s4.1.1.v 1 [(.slice x13.p x13.len x13.cap)] H2) fun (x14 : Sl) H3 => r3 ((x14, IntKind.wrap .i64 (s4.1.2.1 + 1), ()), (())) H3)) (j1 ((s4.1.1, ()), (())) H2)) (((Sl.mk none 0 0), 0, ()), (())) H) k := by
  have ha1 : a.len = ls.length := ha.1
  refine JOIN_of ?_
  refine loop_of (fun (s : (Sl × Int × Unit) × Unit) H' => ∃ (n : Nat) (sp : List Sl), s.1.2.1 = n ∧ n ≤ ls.length ∧ NewO T_sl H s.1.1 H' ((ls.take n).map full) sp) (fun s => ls.length - s.1.2.1.toNat) ?_ ⟨0, [], rfl, Nat.zero_le _, ⟨Ow.nil T_sl H, by simp, .refl _ _⟩⟩
  rintro G ⟨⟨s, i, _⟩, _⟩ H' ⟨n, sp, hi, hn', n1⟩ hG
  simp only at hi n1; subst hi
  dsimp only at hG ⊢
  refine ifB_of (fun hlt => ?_) (fun hge => ?_)
  · have hlt : n < ls.length := by have := of_decide_eq_true hlt; omega
    have ha' := ha.frs n1.2.2 (by simp)
    obtain ⟨l, lsp, how⟩ := hls _ (List.getElem_mem hlt)
    have how' : Ow T H' ls[n] l lsp := how.frs n1.2.2 (by simp [Sl.off])
    refine idx_atF (T := T_sl) hTs ha' rfl (List.getElem?_eq_getElem hlt) rfl fun b5 o6 hld => ?_
    refine hld _ (idx_atF (T := T_sl) hTs ha' rfl (List.getElem?_eq_getElem hlt) rfl fun b8 o9 hld2 => hld2 _ (cap_v ty how' (hld _ ⟨rfl, slice_full ty how' ?_⟩)))
    refine app_c tyL h2 h4 (m := 1) [full ls[n]] rfl rfl (by simp only [List.length_map, List.length_take, List.length_cons, List.length_nil]; omega) n1.1 fun s' H3 sp' k1 k2 k3 => ?_
    rw [i64w (by omega) (by omega)]
    refine hG _ _ ⟨n + 1, sp', by simp, hlt, ?_⟩ (by simp; omega)
    have := n1.app k1 k2 k3
    rw [List.take_succ_eq_append_getElem hlt, List.map_append]
    exact this
  · have hge : n = ls.length := by have := of_decide_eq_false hge; omega
    subst hge
    rw [List.take_length] at n1
    exact hk _ _ _ n1

/-- The rows behind whole slices. -/
def Rws (T : Tag) (H : Heap) (vs : List Sl) (f : Nat → List T.α) : Prop := ∀ (j : Nat) (v : Sl), vs[j]? = some v → v.len = (f j).length ∧ v.len ≤ 9223372036854775807 ∧ ((v.p = none ∧ f j = []) ∨ ∃ c, v.p = some ⟨c, 0, none⟩ ∧ H[c]? = some (.row (fl T (f j)) T.n false false true))
def Dst (vs : List Sl) : Prop := ∀ (i j : Nat) (u v : Sl) (c : Addr), i ≠ j → vs[i]? = some u → vs[j]? = some v → u.p = some c → v.p ≠ some c
def marks (mk : Int → Int → T.α) (i n : Nat) : List T.α := (List.range n).map fun (k : Nat) => mk (i : Int) (k : Int)
theorem marks_len (mk : Int → Int → T.α) (i n : Nat) : (marks mk i n).length = n := by simp [marks]
theorem marks_get (mk : Int → Int → T.α) (i n k : Nat) (h : k < n) : (marks mk i n)[k]? = some (mk i k) := by simp [marks, h]

theorem Rws.slf {H : Heap} {vs : List Sl} {f : Nat → List T.α} (h : Rws T H vs f) {j : Nat} {v : Sl} (hj : vs[j]? = some v) (hc : v.cap = v.len) : SlF T H v (f j) := by
  obtain ⟨h1, _, ⟨h2, h3⟩ | ⟨c, h2, h3⟩⟩ := h j v hj
  · exact ⟨h1, .inl ⟨h2, h3, by rw [hc, h1, h3]; rfl⟩⟩
  · exact ⟨h1, .inr (.inr ⟨c, [], [], T.n, false, false, h2, by simpa using h3⟩)⟩

/-- A store into one of them. -/
theorem Rws.st (hT : ∀ x, (T.cells x).length = T.n) (hone : ∀ x, (T.cells x).all cell1 = true) {H : Heap} {vs : List Sl} {f : Nat → List T.α} (h : Rws T H vs f) (hd : Dst vs) {j : Nat} {v : Sl} (hj : vs[j]? = some v) {i : Int} {k : Nat} (hi : i = k) (hk : k < (f j).length) (x : T.α) {sz : Nat} (hz : sz = T.n) {K : Heap → Prop}
    (hK : ∀ c H', v.p = some ⟨c, 0, none⟩ → H'.length = H.length → (∀ d, d ≠ c → H'[d]? = H[d]?) → Rws T H' vs (fun q => if q = j then (f j).set k x else f q) → K H') : IDX v.p v.len i sz fun b o => ST H b o (T.cells x) K := by
  obtain ⟨h1, h0, ⟨h2, h3⟩ | ⟨c, h2, h3⟩⟩ := h j v hj
  · rw [h3] at hk; simp at hk
  · have hlt := get_lt h3
    unfold IDX NIL
    rw [h2]
    refine ⟨⟨by omega, by omega⟩, ?_⟩
    have hcut := fl_cut (f j) k (f j)[k] (List.getElem?_eq_getElem hk)
    refine ST_of (fl T ((f j).take k)) (T.cells (f j)[k]) (fl T ((f j).drop (k + 1))) h3 hcut ?_ (by rw [hT, hT]) (hone x) ?_
    · rw [fl_len hT, List.length_take, Nat.min_eq_left (by omega), hi, hz]; simp
    · refine hK c _ h2 (by simp) (fun d hd => by rw [List.getElem?_set_ne (Ne.symm hd)]) ?_
      intro q u hq
      by_cases e : q = j
      · subst e
        rw [hj] at hq; simp at hq; subst hq
        simp only [if_true]
        refine ⟨by simp [h1], h0, .inr ⟨c, h2, ?_⟩⟩
        rw [set_get hlt, List.set_eq_take_append_cons_drop, if_pos hk]
        simp [fl]
      · simp only [if_neg e]
        obtain ⟨g1, g0, ⟨g2, g3⟩ | ⟨c', g2, g3⟩⟩ := h q u hq
        · exact ⟨g1, g0, .inl ⟨g2, g3⟩⟩
        · refine ⟨g1, g0, .inr ⟨c', g2, ?_⟩⟩
          have hne : c ≠ c' := fun e' => by subst e'; exact hd j q v u _ (Ne.symm e) hj hq h2 g2
          rw [List.getElem?_set_ne hne]; exact g3

theorem set_next (mk : Int → Int → T.α) (i k : Nat) (r : List T.α) (hk : k < r.length) (hr : r = marks mk i k ++ (r.drop k)) : r.set k (mk i k) = marks mk i (k + 1) ++ (r.set k (mk i k)).drop (k + 1) := by
  have h1 : marks mk i (k + 1) = marks mk i k ++ [mk i k] := by simp [marks, List.range_succ]
  have h2 : (r.set k (mk i k)).drop (k + 1) = r.drop (k + 1) := by rw [List.drop_set_of_lt (by omega)]
  rw [h1, h2, List.set_eq_take_append_cons_drop, if_pos hk]
  have h3 : r.take k = marks mk i k := by
    conv => lhs; rw [hr]
    rw [List.take_left' (marks_len mk i k)]
  rw [h3]; simp

/-- Each place is written. -/
theorem apart2 (hT : ∀ x, (T.cells x).length = T.n) (hone : ∀ x, (T.cells x).all cell1 = true) {mk : Int → Int → T.α} {C : Int → Int → Heap → (T.α × Unit → Heap → Prop) → Prop} (hC : ∀ i k H Q, Q (mk i k, ()) H → C i k H Q)
    {H : Heap} {a : Sl} {vs asp : List Sl} {f : Nat → List T.α} (ha : Ow T_sl H a vs asp) (hn : vs.length ≤ 1048600) (hr : Rws T H vs f) (hd : Dst vs) (ho : ∀ v ∈ vs, ∀ c, v.p = some c → a.p ≠ some c) {n : Nat} (hn0 : n = T.n)
    {k : Unit × Unit → Heap → Prop} (hk : ∀ H', Ow T_sl H' a vs asp → H'.length = H.length → (∀ d, d < H.length → (∀ v ∈ vs, v.p ≠ some ⟨d, 0, none⟩) → H'[d]? = H[d]?) → Rws T H' vs (fun j => marks mk j (f j).length) → k ((), ()) H') :
    JOIN (fun (j15 : (Unit) × (Unit) → Heap → Prop) => LOOP (fun (r17 : (Int × Unit) × (Unit) → Heap → Prop) (s18 : (Int × Unit) × (Unit)) H5 =>
      ifB (decide (s18.1.1 < (a.len : Int))) (JOIN (fun (j19 : (Unit) × (Unit) → Heap → Prop) => JOIN (fun (j21 : (Unit) × (Unit) → Heap → Prop) => LOOP (fun (r23 : (Int × Unit) × (Unit) → Heap → Prop) (s24 : (Int × Unit) × (Unit)) H8 =>
        IDX a.p a.len s18.1.1 1 fun b25 o26 => LD T_sl H8 b25 o26 fun (x27 : Sl) => ifB (decide (s24.1.1 < (x27.len : Int))) (
          IDX a.p a.len s18.1.1 1 fun b28 o29 => LD T_sl H8 b28 o29 fun (x30 : Sl) => C s18.1.1 s24.1.1 H8 fun (x31 : T.α × Unit) H9 => LD T_sl H9 b28 o29 fun (x32 : Sl) => REQ (T_sl.enc x32 = x30.v) (
            IDX x30.p x30.len s24.1.1 n fun b33 o34 => ST H9 b33 o34 (T.cells x31.1) fun H10 => r23 ((IntKind.wrap .i64 (s24.1.1 + 1), ()), (())) H10)) (
          j21 ((()), (())) H8)) ((0, ()), (())) H5) fun (_ : (Unit) × (Unit)) H7 => j19 ((()), (())) H7) fun (_ : (Unit) × (Unit)) H6 => r17 ((IntKind.wrap .i64 (s18.1.1 + 1), ()), (())) H6) (
        j15 ((()), (())) H5)) ((0, ()), (())) H) k := by
  subst hn0
  have ha1 : a.len = vs.length := ha.1
  have keep : ∀ {H' H2 : Heap} {i : Nat} {v : Sl} {c : Nat}, vs[i]? = some v → v.p = some ⟨c, 0, none⟩ → Ow T_sl H' a vs asp → H2.length = H'.length → (∀ d, d ≠ c → H2[d]? = H'[d]?) → Ow T_sl H2 a vs asp := by
    intro H' H2 i v c hv hp how hl hf
    refine how.frs (B := [c]) ⟨by omega, fun d _ hd => hf d (by simpa using hd)⟩ fun b hb e => ?_
    simp at hb; subst hb
    exact ho v (List.mem_of_getElem? hv) _ hp e
  refine JOIN_of ?_
  refine loop_of (fun (s : (Int × Unit) × Unit) H' => ∃ (n : Nat), s.1.1 = n ∧ n ≤ vs.length ∧ Ow T_sl H' a vs asp ∧ H'.length = H.length ∧ (∀ d, d < H.length → (∀ v ∈ vs, v.p ≠ some ⟨d, 0, none⟩) → H'[d]? = H[d]?) ∧ Rws T H' vs (fun j => if j < n then marks mk j (f j).length else f j)) (fun s => vs.length - s.1.1.toNat) ?_ ⟨0, rfl, Nat.zero_le _, ha, rfl, fun _ _ _ => rfl, by simpa using hr⟩
  rintro G ⟨⟨i, _⟩, _⟩ H' ⟨n, hi, hn', how, hl, hf, hrw⟩ hG
  simp only at hi; subst hi
  dsimp only at hG ⊢
  refine ifB_of (fun hlt => ?_) (fun hge => ?_)
  · have hlt : n < vs.length := by have := of_decide_eq_true hlt; omega
    have hv : vs[n]? = some vs[n] := List.getElem?_eq_getElem hlt
    obtain ⟨hlen, hmax, _⟩ := hrw n _ hv
    simp only [Nat.lt_irrefl, if_false] at hlen
    refine JOIN_of (JOIN_of ?_)
    refine loop_of (fun (s : (Int × Unit) × Unit) H2 => ∃ (m : Nat) (r : List T.α), s.1.1 = m ∧ m ≤ (f n).length ∧ r.length = (f n).length ∧ r = marks mk n m ++ r.drop m ∧ Ow T_sl H2 a vs asp ∧ H2.length = H.length ∧ (∀ d, d < H.length → (∀ v ∈ vs, v.p ≠ some ⟨d, 0, none⟩) → H2[d]? = H[d]?) ∧ Rws T H2 vs (fun j => if j < n then marks mk j (f j).length else if j = n then r else f j)) (fun s => (f n).length - s.1.1.toNat) ?_ ⟨0, f n, rfl, Nat.zero_le _, rfl, by simp [marks], how, hl, hf, ?_⟩
    · rintro G2 ⟨⟨i2, _⟩, _⟩ H2 ⟨m, r, hi2, hm, hrl, hrm, how2, hl2, hf2, hrw2⟩ hG2
      simp only at hi2; subst hi2
      dsimp only at hG2 ⊢
      refine idx_atF (T := T_sl) hTs how2.slf rfl hv rfl fun b25 o26 hld => hld _ ?_
      refine ifB_of (fun hlt2 => ?_) (fun hge2 => ?_)
      · have hlt2 : m < (f n).length := by have := of_decide_eq_true hlt2; omega
        refine idx_atF (T := T_sl) hTs how2.slf rfl hv rfl fun b28 o29 hld2 => hld2 _ (hC _ _ _ _ (hld2 _ ⟨rfl, ?_⟩))
        refine hrw2.st hT hone hd hv rfl (k := m) (by simp only [Nat.lt_irrefl, if_false, if_true]; omega) _ rfl fun c H3 hp hl3 hf3 hrw3 => ?_
        rw [i64w (by omega) (by omega)]
        refine hG2 _ _ ⟨m + 1, r.set m (mk n m), by simp, hlt2, by simpa using hrl, set_next mk n m r (by omega) hrm, keep hv hp how2 hl3 hf3, hl3.trans hl2, fun d hd' hnv => ?_, ?_⟩ (by simp; omega)
        · rw [hf3 d (fun e => hnv _ (List.getElem_mem hlt) (e ▸ hp)), hf2 d hd' hnv]
        · have : (fun q => if q = n then (if n < n then marks mk n (f n).length else if n = n then r else f n).set m (mk n m) else if q < n then marks mk q (f q).length else if q = n then r else f q) = fun j => if j < n then marks mk j (f j).length else if j = n then r.set m (mk n m) else f j := by
            funext q
            by_cases e : q = n
            · subst e; simp
            · simp [e]
          rw [this] at hrw3
          exact hrw3
      · have hge2 : m = (f n).length := by have := of_decide_eq_false hge2; omega
        subst hge2
        have hr2 : r = marks mk n (f n).length := by rw [hrm, List.drop_of_length_le (by omega), List.append_nil]
        rw [i64w (by omega) (by omega)]
        refine hG _ _ ⟨n + 1, by simp, hlt, how2, hl2, hf2, ?_⟩ (by simp; omega)
        have : (fun j => if j < n then marks mk j (f j).length else if j = n then r else f j) = fun j => if j < n + 1 then marks mk j (f j).length else f j := by
          funext j
          by_cases e : j = n
          · subst e; simp [hr2]
          · by_cases e2 : j < n
            · simp [e2, show j < n + 1 by omega]
            · simp [e2, e, show ¬ j < n + 1 by omega]
        rw [this] at hrw2
        exact hrw2
    · have : (fun j => if j < n then marks mk j (f j).length else if j = n then f n else f j) = fun j => if j < n then marks mk j (f j).length else f j := by
        funext j
        by_cases e : j = n
        · subst e; simp
        · simp [e]
      rw [this]
      exact hrw
  · have hge : n = vs.length := by have := of_decide_eq_false hge; omega
    subst hge
    refine hk H' how hl hf fun j v hj => ?_
    have := hrw j v hj
    have hjl := (List.getElem?_eq_some_iff.1 hj).1
    simp only [hjl, if_true] at this
    exact this

/-- Each place is what was written. -/
theorem apart3 (hT : ∀ x, (T.cells x).length = T.n) {mk : Int → Int → T.α} {C : Int → Int → Heap → (T.α × Unit → Heap → Prop) → Prop} (hC : ∀ i k H Q, Q (mk i k, ()) H → C i k H Q) {ne : T.α → T.α → Bool} (hne : ∀ x y, ne x y = false ↔ x = y)
    {H : Heap} {a : Sl} {vs : List Sl} {g : Nat → Nat} (ha : SlF T_sl H a vs) (hn : vs.length ≤ 1048600) (hr : Rws T H vs fun j => marks mk j (g j)) (hc : ∀ v ∈ vs, v.cap = v.len) {n : Nat} (hn0 : n = T.n) {Q : Bool × Unit → Heap → Prop}
    {k : Unit × Unit → Heap → Prop} (hk : k ((), ()) H) :
    JOIN (fun (j35 : (Unit) × (Unit) → Heap → Prop) => LOOP (fun (r37 : (Int × Unit) × (Unit) → Heap → Prop) (s38 : (Int × Unit) × (Unit)) H12 =>
      ifB (decide (s38.1.1 < (a.len : Int))) (JOIN (fun (j39 : (Unit) × (Unit) → Heap → Prop) => JOIN (fun (j41 : (Unit) × (Unit) → Heap → Prop) => LOOP (fun (r43 : (Int × Unit) × (Unit) → Heap → Prop) (s44 : (Int × Unit) × (Unit)) H15 =>
        IDX a.p a.len s38.1.1 1 fun b45 o46 => LD T_sl H15 b45 o46 fun (x47 : Sl) => ifB (decide (s44.1.1 < (x47.len : Int))) (
          IDX a.p a.len s38.1.1 1 fun b48 o49 => LD T_sl H15 b48 o49 fun (x50 : Sl) => IDX x50.p x50.len s44.1.1 n fun b51 o52 => LD T H15 b51 o52 fun (x53 : T.α) => C s38.1.1 s44.1.1 H15 fun (x54 : T.α × Unit) H16 =>
            LD T_sl H16 b48 o49 fun (x55 : Sl) => REQ (T_sl.enc x55 = x50.v) (LD T H16 b51 o52 fun (x56 : T.α) => REQ (T.enc x56 = (T.enc x53)) (
              ifB (ne x53 x54.1) (Q (false, ()) H16) (r43 ((IntKind.wrap .i64 (s44.1.1 + 1), ()), (())) H16)))) (
          j41 ((()), (())) H15)) ((0, ()), (())) H12) fun (_ : (Unit) × (Unit)) H14 => j39 ((()), (())) H14) fun (_ : (Unit) × (Unit)) H13 => r37 ((IntKind.wrap .i64 (s38.1.1 + 1), ()), (())) H13) (
        j35 ((()), (())) H12)) ((0, ()), (())) H) k := by
  subst hn0
  have ha1 : a.len = vs.length := ha.1
  refine JOIN_of ?_
  refine loop_of (fun (s : (Int × Unit) × Unit) H' => H' = H ∧ ∃ (n : Nat), s.1.1 = n ∧ n ≤ vs.length) (fun s => vs.length - s.1.1.toNat) ?_ ⟨rfl, 0, rfl, Nat.zero_le _⟩
  rintro G ⟨⟨i, _⟩, _⟩ H' ⟨rfl, n, hi, hn'⟩ hG
  simp only at hi; subst hi
  dsimp only at hG ⊢
  refine ifB_of (fun hlt => ?_) (fun hge => ?_)
  · have hlt : n < vs.length := by have := of_decide_eq_true hlt; omega
    have hv : vs[n]? = some vs[n] := List.getElem?_eq_getElem hlt
    obtain ⟨hlen, hmax, _⟩ := hr n _ hv
    rw [marks_len] at hlen
    refine JOIN_of (JOIN_of ?_)
    refine loop_of (fun (s : (Int × Unit) × Unit) H2 => H2 = H' ∧ ∃ (m : Nat), s.1.1 = m ∧ m ≤ g n) (fun s => g n - s.1.1.toNat) ?_ ⟨rfl, 0, rfl, Nat.zero_le _⟩
    rintro G2 ⟨⟨i2, _⟩, _⟩ H2 ⟨rfl, m, hi2, hm⟩ hG2
    simp only at hi2; subst hi2
    dsimp only at hG2 ⊢
    refine idx_atF (T := T_sl) hTs ha rfl hv rfl fun b25 o26 hld => hld _ ?_
    refine ifB_of (fun hlt2 => ?_) (fun hge2 => ?_)
    · have hlt2 : m < g n := by have := of_decide_eq_true hlt2; omega
      refine idx_atF (T := T_sl) hTs ha rfl hv rfl fun b28 o29 hld2 => hld2 _ ?_
      refine idx_atF (T := T) hT (hr.slf hv (hc _ (List.getElem_mem hlt))) rfl (marks_get mk n _ m hlt2) rfl fun b51 o52 hld3 => hld3 _ (hC _ _ _ _ (hld2 _ ⟨rfl, hld3 _ ⟨rfl, ?_⟩⟩))
      refine ifB_f ((hne _ _).2 rfl) ?_
      rw [i64w (by omega) (by omega)]
      exact hG2 _ _ ⟨rfl, m + 1, by simp, hlt2⟩ (by simp; omega)
    · rw [i64w (by omega) (by omega)]
      exact hG _ _ ⟨rfl, n + 1, by simp, hlt⟩ (by simp; omega)
  · exact hk

/-- What is asked of lists, so that they lie apart. -/
structure Apt (T : Tag) (H : Heap) (a : Sl) (ls : List Sl) : Prop where
  lst : SlF T_sl H a ls
  few : ls.length ≤ 1048600
  own : ∀ s ∈ ls, ∃ l sp, Ow T H s l sp
  dst : Dst ls
theorem Apt.rws {H : Heap} {a : Sl} {ls : List Sl} (h : Apt T H a ls) {H' : Heap} (fr : Frs [] H H') : ∃ f : Nat → List T.α, Rws T H' (ls.map full) f := by
  have hx : ∀ j : Nat, ∃ c : List T.α, ∀ s, ls[j]? = some s → ∃ l sp, c = l ++ sp ∧ Ow T H s l sp := fun j => by
    cases hj : ls[j]? with
    | none => exact ⟨[], fun s h => by cases h⟩
    | some s =>
      obtain ⟨l, sp, how⟩ := h.own s (List.mem_of_getElem? hj)
      exact ⟨l ++ sp, fun s' h' => by cases h'; exact ⟨l, sp, rfl, how⟩⟩
  obtain ⟨f, hf⟩ := Classical.axiomOfChoice hx
  refine ⟨f, fun j v hv => ?_⟩
  rw [List.getElem?_map] at hv
  obtain ⟨s, hs, rfl⟩ := Option.map_eq_some_iff.1 hv
  obtain ⟨l, sp, e, how⟩ := hf j s hs
  obtain ⟨g1, g2, g0, ⟨g3, g4, g5⟩ | ⟨d, g3, g4⟩⟩ := how.frs fr (by simp [Sl.off])
  · exact ⟨by rw [e, List.length_append]; exact g2, g0, .inl ⟨g3, by rw [e, g4, g5]; rfl⟩⟩
  · exact ⟨by rw [e, List.length_append]; exact g2, g0, .inr ⟨d, g3, by rw [e]; exact g4⟩⟩
theorem dst_full {ls : List Sl} (h : Dst ls) : Dst (ls.map full) := fun i j u v c hij hi hj hu hv => by
  rw [List.getElem?_map] at hi hj
  obtain ⟨s, hs, rfl⟩ := Option.map_eq_some_iff.1 hi
  obtain ⟨t, ht, rfl⟩ := Option.map_eq_some_iff.1 hj
  exact h i j s t c hij hs ht hu hv
end
end Go.Proofs.YthgfjbafhjkhnaaGreat.Zq
