/- What the functions of the document's stack do; the stack that is made of items. -/
import Derived.Test.YtmjonmhpfngkaaaZcKitItems
import Derived.Test.YtmjonmhpfngkaaaZcLay
namespace Go.Proofs.Ytmjonmhpfngkaaa.Zq
open Zv
abbrev KT : Tag := T_G_api_Item
theorem SlR.slf {T : Tag} {H : Heap} {s : Sl} {l : List T.α} (h : SlF T H s l) (h0 : ∀ b off sp, s.p = some ⟨b, off, sp⟩ → off = 0) : SlR T H s l := by
  obtain ⟨h1, ⟨_, h2, _⟩ | ⟨_, _, _, h2, _⟩ | ⟨b, A, B, w, o, ro, h3, h4⟩⟩ := h
  · exact ⟨h1, .inl h2⟩
  · exact ⟨h1, .inl h2⟩
  · have := h0 _ _ _ h3
    have hA : A = [] := List.length_eq_zero_iff.1 this
    subst hA
    exact ⟨h1, .inr ⟨b, B, w, o, ro, h3, h4⟩⟩
/-- The head of what is owned, cut off. -/
theorem slice_to {E : Env} {T : Tag} {ts : TypeId} {z : T.α} (ty : TyS E T ts z) {H : Heap} {s : Sl} {l sp : List T.α} (h : Ow T H s l sp) {i : Int} {n : Nat} (hi : i = n) (hn : n ≤ l.length) {k : Sl → Prop} (hk : k ⟨s.p, n, s.cap⟩) : GENV T_sl (aSlice E ts s.v none (some (.int .i64 i)) none H) k := by
  obtain ⟨⟨ti, e, te, e1, e2, e3, e4, e5, e6, e7⟩, hn0, hT, hone⟩ := ty
  subst hi
  refine ⟨⟨s.p, n, s.cap⟩, ?_, hk⟩
  obtain ⟨p, m, c⟩ := s
  obtain ⟨g1, g2, g0, ⟨g3, g4, g5⟩ | ⟨d, g3, g4⟩⟩ := h
  · simp only at g1 g2 g3; subst g3; subst g4; subst g5; subst g1; subst g2
    have : n = 0 := by simpa using hn
    subst this
    unfold aSlice
    simp only [e1, e2, e3, Option.bind_some, Sl.v, List.length_nil]
    rfl
  · simp only at g1 g2 g3; subst g3
    unfold aSlice
    have hex : Zq.exact H d 0 c = true := by unfold Zq.exact; rw [g4]; rfl
    simp only [e1, e2, e3, Option.bind_some, Sl.v, natOf, Option.isSome_none, Bool.false_and, Bool.false_eq_true, if_false, hex, or_true, if_true]
    rw [if_pos (by omega)]
    simp only [Option.bind_some]
    rw [if_pos (by omega)]
    simp [Tag.enc, encC]
theorem Ow.cut {T : Tag} {H : Heap} {s : Sl} {l sp : List T.α} (h : Ow T H s l sp) {n : Nat} (hn : n ≤ l.length) : Ow T H ⟨s.p, n, s.cap⟩ (l.take n) (l.drop n ++ sp) := by
  obtain ⟨g1, g2, g0, ⟨g3, g4, g5⟩ | ⟨d, g3, g4⟩⟩ := h
  · subst g4; subst g5
    have : n = 0 := by simpa using hn
    subst this
    exact ⟨by simp, by simpa using g2, g0, .inl ⟨g3, by simp, by simp⟩⟩
  · exact ⟨by simp; omega, by simp; omega, g0, .inr ⟨d, g3, by rw [← List.append_assoc, List.take_append_drop]; exact g4⟩⟩

def bl (B : Option Addr) : List Nat := match B with | some a => [a.block] | none => []
/-- A stack of the document's: what is on it; where its list lies. -/
def RStk (H : Heap) (b : Nat) (s : List It) (B : Option Addr) : Prop :=
  ∃ sl sp sz, H[b]? = some (.row [.slice sl.p sl.len sl.cap, .bool true] sz false false true) ∧ Ow KT H sl s sp ∧ sl.p = B ∧ b ∉ bl B
theorem bl_off {s : Sl} {C : List Nat} (hC : ∀ d ∈ bl s.p, d ∉ C) : s.off C := fun b hb e => hC b (by rw [e]; simp [bl]) hb
theorem RStk.frs {H H' : Heap} {b : Nat} {s : List It} {B : Option Addr} {C : List Nat} (h : RStk H b s B) (f : Frs C H H') (hb : b ∉ C) (hB : ∀ d ∈ bl B, d ∉ C) : RStk H' b s B := by
  obtain ⟨sl, sp, sz, h1, h2, rfl, h4⟩ := h
  exact ⟨sl, sp, sz, f.get hb h1, h2.frs f (bl_off hB), rfl, h4⟩
theorem RStk.lt {H : Heap} {b : Nat} {s : List It} {B : Option Addr} (h : RStk H b s B) : b < H.length := by
  obtain ⟨sl, sp, sz, h1, _⟩ := h; exact get_lt h1
theorem RStk.bl_lt {H : Heap} {b : Nat} {s : List It} {B : Option Addr} (h : RStk H b s B) : ∀ d ∈ bl B, d < H.length := by
  obtain ⟨sl, sp, sz, h1, ⟨_, _, _, ⟨q, _⟩ | ⟨c, q, q2⟩⟩, rfl, _⟩ := h
  · rw [q]; simp [bl]
  · rw [q]; simp [bl]; exact get_lt q2
/-- Its list may have come to lie in a new block. -/
def Mv (n : Nat) (B B' : Option Addr) : Prop := ∀ d ∈ bl B', d ∈ bl B ∨ n ≤ d
theorem Mv.refl (n : Nat) (B : Option Addr) : Mv n B B := fun _ h => .inl h
theorem Mv.trans {n m : Nat} {B B' B'' : Option Addr} (h : Mv n B B') (k : Mv m B' B'') (hm : n ≤ m) : Mv n B B'' := fun d hd => by
  rcases k d hd with q | q
  · exact h d q
  · exact .inr (by omega)

theorem none_c {H : Heap} {b : Nat} {s : List It} {B : Option Addr} (h : RStk H b s B) {Q : Bool × Unit → Heap → Prop} (hq : Q (false, ()) H) : CALL P [T_bool] n_ref23_Stack_none [ad b] H Q := by
  obtain ⟨sl, sp, sz, h1, _⟩ := h
  apply c_ref23_Stack_none
  unfold S_ref23_Stack_none
  refine JOIN_of (ifB_f rfl ?_)
  exact LD_of (T := T_bool) true [.slice sl.p sl.len sl.cap] [] h1 rfl rfl rfl hq

theorem rmay_c {H : Heap} (x : It) {Q : Bool × Unit → Heap → Prop} (hq : Q (may x, ()) H) : CALL P [T_bool] n_ref23_May [TI4.enc x] H Q := by
  apply c_ref23_May
  unfold S_ref23_May
  refine JOIN_of ?_
  unfold may at hq
  refine ifB_of (fun h1 => ?_) (fun h1 => by simpa [h1] using hq)
  refine ifB_of (fun h2 => ?_) (fun h2 => by simpa [h2] using hq)
  refine ifB_of (fun h3 => ?_) (fun h3 => by simpa [h3] using hq)
  refine ifB_of (fun h4 => ?_) (fun h4 => by simpa [h4] using hq)
  refine ifB_of (fun h5 => ?_) (fun h5 => ?_)
  · refine ifB_of (fun h6 => ?_) (fun h6 => by simpa [h6] using hq)
    simp only [h1, h2, h3, h4, h5, h6] at hq
    simpa using hq
  · refine ifB_of (fun h5' => ?_) (fun h5' => by simp only [h5, h5'] at hq; simpa using hq)
    refine ifB_of (fun h6 => ?_) (fun h6 => by simpa [h6] using hq)
    simp only [h1, h2, h3, h4, h5, h5', h6] at hq
    simpa using hq

theorem rnew_c {H : Heap} {Q : (Option Addr) × Unit → Heap → Prop} (hq : ∀ H', RStk H' H.length [] none → Frs [] H H' → Q (some ⟨H.length, 0, none⟩, ()) H') : CALL P [T_ptr] n_ref23_New [] H Q := by
  apply c_ref23_New
  unfold S_ref23_New NEW
  refine hq _ ⟨⟨none, 0, 0⟩, [], 2, ?_, Ow.nil KT _, rfl, by simp [bl]⟩ (Frs.app _ _ _)
  simp [mk]

theorem rlen_c {H : Heap} {b : Nat} {s : List It} {B : Option Addr} (h : RStk H b s B) {Q : Int × Unit → Heap → Prop} (hq : Q ((s.length : Int), ()) H) : CALL P [T_int .i64] n_ref23_Stack_Len [ad b] H Q := by
  have h' := h
  obtain ⟨sl, sp, sz, h1, h2, _⟩ := h
  apply c_ref23_Stack_Len
  unfold S_ref23_Stack_Len
  refine none_c h' (ifB_f rfl ?_)
  refine LD_of (T := T_sl) sl [] [.bool true] h1 rfl rfl rfl ?_
  rw [h2.1]; exact hq

/-- Its list is another. -/
theorem RStk.put {H H1 : Heap} {b : Nat} {s : List It} {B : Option Addr} (h : RStk H b s B) {sl : Sl} {s' sp : List It} (k1 : Ow KT H1 sl s' sp) (fr : Frs (b :: bl B) H H1) (mv : Mv H.length B sl.p) {sz : Nat} {v : Value} (hb : H1[b]? = some (.row [v, .bool true] sz false false true)) {K : Heap → Prop}
    (hK : ∀ H', RStk H' b s' sl.p → Frs (b :: bl B) H H' → K H') : ST H1 b 0 [.slice sl.p sl.len sl.cap] K := by
  have hlt := get_lt hb
  have hnb : b ∉ bl sl.p := fun hm => by
    rcases mv b hm with q | q
    · obtain ⟨_, _, _, _, _, _, h4⟩ := h; exact h4 q
    · have := h.lt; omega
  refine ST_of [] [v] [.bool true] hb rfl rfl rfl rfl (hK _ ⟨sl, sp, sz, by rw [set_get hlt]; rfl, ?_, rfl, hnb⟩ (fr.trans (Frs.set _ _ (by simp))))
  exact k1.frs (B := [b]) (Frs.set _ _ (by simp)) (bl_off (fun d hd hm => by simp at hm; subst hm; exact hnb hd))

theorem rpush_c {H : Heap} {b : Nat} {s : List It} {B : Option Addr} (x : It) (h : RStk H b s B) {Q : Int × Unit → Heap → Prop} (hs : s.length ≤ 24) (hq : ∀ H' B', RStk H' b (push s x).2 B' → Frs (b :: bl B) H H' → Mv H.length B B' → Q ((push s x).1, ()) H') : CALL P [T_int .i64] n_ref23_Stack_Push [ad b, TI4.enc x] H Q := by
  have h' := h
  obtain ⟨sl, sp, sz, h1, h2, rfl, h4⟩ := h
  apply c_ref23_Stack_Push
  unfold S_ref23_Stack_Push
  refine none_c h' (ifB_f rfl ?_)
  refine rmay_c x (ifB_of (fun hm => ?_) (fun hm => ?_))
  · have e : push s x = (2, s) := by unfold push; simp only [Bool.not_eq_true'] at hm; simp [hm]
    rw [e] at hq
    exact hq H _ h' (.refl _ _) (.refl _ _)
  have hm : may x = true := by simpa using hm
  have hld : ∀ k : Sl → Prop, k sl → LD T_sl H b (0 + 0) k := fun k hk => LD_of (T := T_sl) sl [] [.bool true] h1 rfl rfl rfl hk
  refine hld _ (ifB_of (fun hn => ?_) (fun hn => ?_))
  · have hn : s.length = 24 := by have := of_decide_eq_true hn; rw [h2.1] at this; omega
    have e : push s x = (14, s) := by unfold push; simp [hm, hn]
    rw [e] at hq
    exact hq H _ h' (.refl _ _) (.refl _ _)
  have hn : s.length ≠ 24 := by have := of_decide_eq_false hn; rw [h2.1] at this; omega
  have e : push s x = (0, s ++ [x]) := by unfold push; simp [hm, hn]
  rw [e] at hq
  refine hld _ (hld _ ⟨rfl, ?_⟩)
  refine app_c KItems.tyS rfl (fun _ => by simp) (m := 1) [x] rfl rfl (by show 2 * (s.length + 1) * 4096 ≤ _; omega) h2 fun s' H3 sp' k1 k2 k3 => ?_
  have hb0 : b < H.length := get_lt h1
  have hoff : sl.p ≠ some ⟨b, 0, none⟩ := fun q => h4 (by rw [q]; simp [bl])
  have fr : Frs (b :: bl sl.p) H H3 := k3.frs fun d hd => .inl (by rw [hd]; simp [bl])
  have mv : Mv H.length sl.p s'.p := by
    rcases k2 with k2 | ⟨k2, _⟩
    · rw [k2]; exact .refl _ _
    · rw [k2]; intro d hd; simp [bl] at hd; subst hd; exact .inr (Nat.le_refl _)
  refine h'.put k1 fr mv (by rw [k3.2 b hb0 hoff]; exact h1) fun H' g1 g2 => ?_
  exact hq H' _ g1 g2 mv

theorem rtop_c {H : Heap} {b : Nat} {s : List It} {B : Option Addr} (h : RStk H b s B) (hs : s.length ≤ 24) {Q : It × Bool × Unit → Heap → Prop} (hq : Q (match s.getLast? with | some x => (x, true, ()) | none => (zero4, false, ())) H) : CALL P [TI4, T_bool] n_ref23_Stack_Top [ad b] H Q := by
  have h' := h
  obtain ⟨sl, sp, sz, h1, h2, rfl, h4⟩ := h
  have hl : sl.len = s.length := h2.1
  apply c_ref23_Stack_Top
  unfold S_ref23_Stack_Top
  have hld : ∀ k : Sl → Prop, k sl → LD T_sl H b (0 + 0) k := fun k hk => LD_of (T := T_sl) sl [] [.bool true] h1 rfl rfl rfl hk
  refine JOIN_of (none_c h' (ifB_f rfl (hld _ ?_)))
  rcases split_last s with rfl | ⟨r, x, rfl⟩
  · exact ifB_t (by rw [hl]; rfl) hq
  · have hlen : (r ++ [x]).length = r.length + 1 := by simp
    refine ifB_f (by rw [hl]; simp; omega) (hld _ (hld _ ?_))
    rw [i64w (by omega) (by omega)]
    refine idx_ldF (T := KT) KItems.hT h2.slf (n := r.length) (by omega) (x := x) (by simp) rfl ?_
    simpa using hq

theorem rpop_c {H : Heap} {b : Nat} {s : List It} {B : Option Addr} (h : RStk H b s B) (hs : s.length ≤ 24) {Q : It × Bool × Unit → Heap → Prop} (hq : ∀ H' B', RStk H' b s.dropLast B' → Frs (b :: bl B) H H' → Mv H.length B B' → Q (match s.getLast? with | some x => (x, true, ()) | none => (zero4, false, ())) H') : CALL P [TI4, T_bool] n_ref23_Stack_Pop [ad b] H Q := by
  have h' := h
  obtain ⟨sl, sp, sz, h1, h2, rfl, h4⟩ := h
  have hl : sl.len = s.length := h2.1
  apply c_ref23_Stack_Pop
  unfold S_ref23_Stack_Pop
  have hld : ∀ k : Sl → Prop, k sl → LD T_sl H b (0 + 0) k := fun k hk => LD_of (T := T_sl) sl [] [.bool true] h1 rfl rfl rfl hk
  refine rtop_c h' hs ?_
  rcases split_last s with rfl | ⟨r, x, rfl⟩
  · exact JOIN_of (ifB_f rfl (hq H _ h' (.refl _ _) (.refl _ _)))
  · have hlen : (r ++ [x]).length = r.length + 1 := by simp
    have hg : (r ++ [x]).getLast? = some x := by simp
    rw [hg] at hq ⊢
    refine JOIN_of (ifB_t rfl (hld _ (hld _ ?_)))
    rw [i64w (by omega) (by omega)]
    refine slice_to KItems.tyS h2 (n := r.length) (by omega) (by omega) ?_
    have hc := h2.cut (n := r.length) (by omega)
    refine h'.put hc (.refl _ _) (.refl _ _) h1 fun H' g1 g2 => ?_
    have e : (r ++ [x]).take r.length = (r ++ [x]).dropLast := by simp
    rw [e] at g1
    exact hq H' _ g1 g2 (.refl _ _)

theorem ritems_c {H : Heap} {b : Nat} {s : List It} {B : Option Addr} (h : RStk H b s B) (hs : s.length ≤ 24) {Q : Sl × Unit → Heap → Prop} (hq : ∀ s' H' sp, NewO KT H s' H' s sp → Q (s', ()) H') : CALL P [T_sl] n_ref23_Stack_Items [ad b] H Q := by
  have h' := h
  obtain ⟨sl, sp, sz, h1, h2, rfl, h4⟩ := h
  apply c_ref23_Stack_Items
  unfold S_ref23_Stack_Items
  refine none_c h' (ifB_f rfl ?_)
  refine LD_of (T := T_sl) sl [] [.bool true] h1 rfl rfl rfl ?_
  exact copy_g KItems.tyS rfl (fun _ => by simp) h2.slf (by omega) hq
end Go.Proofs.Ytmjonmhpfngkaaa.Zq
