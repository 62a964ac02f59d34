/- What the functions of the stack do. -/
import Derived.Test.YtmjonmhpfngkaaaZwHeap
import Derived.Test.YtmjonmhpfngkaaaZS0
namespace Go.Proofs.Ytmjonmhpfngkaaa.Zq
open Zv
abbrev It := G_api_Item
abbrev TI4 : Tag := T_G_api_Item
theorem hT4 (x : TI4.α) : (TI4.cells x).length = TI4.n := rfl
theorem flI_len (s : List It) : (fl TI4 s).length = s.length * 4 := fl_len (T := TI4) hT4 s
theorem flI_app (a b : List It) : fl TI4 (a ++ b) = fl TI4 a ++ fl TI4 b := fl_app TI4 a b
theorem flI_one (x : It) : fl TI4 [x] = TI4.cells x := List.append_nil _
theorem split_last (s : List It) : s = [] ∨ ∃ r x, s = r ++ [x] := by
  rcases List.eq_nil_or_concat s with h | ⟨r, x, h⟩
  · exact .inl h
  · exact .inr ⟨r, x, by rw [h, List.concat_eq_append]⟩

/-- A stack of the program's, and what is on it. -/
def Stk (H : Heap) (b : Nat) (s : List It) : Prop :=
  ∃ j sz, H[b]? = some (.row (.bool true :: .int .i64 s.length :: (fl TI4 s ++ j)) sz false false true) ∧ s.length * 4 + j.length = 96
theorem Stk.fr {H H' : Heap} {b c : Nat} {s : List It} (h : Stk H b s) (f : Fr c H H') (hb : b ≠ c) : Stk H' b s := by
  obtain ⟨j, sz, h1, h2⟩ := h
  exact ⟨j, sz, f.get hb h1, h2⟩
theorem Stk.le {H : Heap} {b : Nat} {s : List It} (h : Stk H b s) : s.length ≤ 24 := by
  obtain ⟨j, sz, h1, h2⟩ := h; omega
theorem Stk.lt {H : Heap} {b : Nat} {s : List It} (h : Stk H b s) : b < H.length := by
  obtain ⟨j, sz, h1, h2⟩ := h; exact get_lt h1

abbrev ad (b : Nat) : Value := .pointer (some ⟨b, 0, none⟩)

theorem is_c {H : Heap} {b : Nat} {s : List It} (h : Stk H b s) {Q : Bool × Unit → Heap → Prop} (hq : Q (true, ()) H) : CALL P [T_bool] n_stack_Stack_is [ad b] H Q := by
  obtain ⟨j, sz, h1, h2⟩ := h
  apply c_stack_Stack_is
  unfold S_stack_Stack_is
  refine JOIN_of (ifB_t rfl ?_)
  refine LD_of (T := T_bool) true [] (.int .i64 s.length :: (fl TI4 s ++ j)) h1 rfl rfl rfl hq
theorem is_nil {H : Heap} {Q : Bool × Unit → Heap → Prop} (hq : Q (false, ()) H) : CALL P [T_bool] n_stack_Stack_is [.pointer none] H Q := by
  apply c_stack_Stack_is
  unfold S_stack_Stack_is
  exact JOIN_of (ifB_f rfl hq)

def may (x : It) : Bool := decide (x.Thing ≥ 1) && decide (x.Thing ≤ 2048) && decide (x.Part ≥ 0) && decide (x.Part ≤ 4) && (x.Holder == 0 || x.Holder == 1) && decide (x.Meant ≥ -2) && decide (x.Meant ≤ 2048)
theorem may_c {H : Heap} (x : It) {Q : Bool × Unit → Heap → Prop} (hq : Q (may x, ()) H) : CALL P [T_bool] n_stack_may [TI4.enc x] H Q := by
  apply c_stack_may
  unfold S_stack_may
  refine JOIN_of ?_
  unfold may at hq
  refine ifB_of (fun h1 => ?_) (fun h1 => by simpa [h1] using hq)
  refine ifB_of (fun h2 => ?_) (fun h2 => by simpa [h2] using hq)
  refine ifB_of (fun h3 => ?_) (fun h3 => by simpa [h3] using hq)
  refine ifB_of (fun h4 => ?_) (fun h4 => by simpa [h4] using hq)
  refine ifB_of (fun h5 => ?_) (fun h5 => ?_)
  · refine ifB_of (fun h6 => ?_) (fun h6 => by simpa [h6] using hq)
    simp only [h1, h2, h3, h4, h5, h6] at hq
    simpa using hq
  · refine ifB_of (fun h5' => ?_) (fun h5' => by simp only [h5, h5'] at hq; simpa using hq)
    refine ifB_of (fun h6 => ?_) (fun h6 => by simpa [h6] using hq)
    simp only [h1, h2, h3, h4, h5, h5', h6] at hq
    simpa using hq

theorem new_c {H : Heap} {Q : (Option Addr) × Unit → Heap → Prop} (hq : ∀ H', Stk H' H.length [] → Fr H.length H H' → Q (some ⟨H.length, 0, none⟩, ()) H') : CALL P [T_ptr] n_stack_New [] H Q := by
  apply c_stack_New
  unfold S_stack_New NEW
  refine hq _ ⟨List.replicate 96 (.int .i64 0), 98, ?_, rfl⟩ (Fr.app _ _ _)
  unfold mk
  rw [List.getElem?_append_right (Nat.le_refl _), Nat.sub_self]
  rfl

theorem len_c {H : Heap} {b : Nat} {s : List It} (h : Stk H b s) {Q : Int × Unit → Heap → Prop} (hq : Q ((s.length : Int), ()) H) : CALL P [T_int .i64] n_stack_Stack_Len [ad b] H Q := by
  have h' := h
  obtain ⟨j, sz, h1, h2⟩ := h
  apply c_stack_Stack_Len
  unfold S_stack_Stack_Len
  refine is_c h' (ifB_f rfl ?_)
  exact LD_of (T := T_int .i64) (s.length : Int) [.bool true] (fl TI4 s ++ j) h1 rfl rfl rfl hq

def push (s : List It) (x : It) : Int × List It := if may x then (if s.length = 24 then (14, s) else (0, s ++ [x])) else (2, s)

theorem push_c {H : Heap} {b : Nat} {s : List It} (x : It) (h : Stk H b s) {Q : Int × Unit → Heap → Prop} (hq : ∀ H', Stk H' b (push s x).2 → Fr b H H' → Q ((push s x).1, ()) H') : CALL P [T_int .i64] n_stack_Stack_Push [ad b, TI4.enc x] H Q := by
  have h' := h
  have hle := h.le
  have hlt := h.lt
  obtain ⟨j, sz, h1, h2⟩ := h
  apply c_stack_Stack_Push
  unfold S_stack_Stack_Push
  refine is_c h' (ifB_f rfl ?_)
  refine may_c x (ifB_of (fun hm => ?_) (fun hm => ?_))
  · have e : push s x = (2, s) := by unfold push; simp only [Bool.not_eq_true'] at hm; simp [hm]
    rw [e] at hq
    exact hq H h' (Fr.refl _ _)
  have hm : may x = true := by simpa using hm
  refine LD_of (T := T_int .i64) (s.length : Int) [.bool true] (fl TI4 s ++ j) h1 rfl rfl rfl ?_
  refine ifB_of (fun hn => ?_) (fun hn => ?_)
  · have hn : s.length = 24 := by have := of_decide_eq_true hn; omega
    have e : push s x = (14, s) := by unfold push; simp [hm, hn]
    rw [e] at hq
    exact hq H h' (Fr.refl _ _)
  have hn : s.length ≠ 24 := by intro hh; rw [hh] at hn; exact absurd hn (by decide)
  have e : push s x = (0, s ++ [x]) := by unfold push; simp [hm, hn]
  rw [e] at hq
  refine LD_of (T := T_int .i64) (s.length : Int) [.bool true] (fl TI4 s ++ j) h1 rfl rfl rfl ?_
  refine ⟨⟨by omega, by omega⟩, ?_⟩
  refine ST_of (.bool true :: .int .i64 s.length :: fl TI4 s) (j.take 4) (j.drop 4) h1 (by simp) (by simp [flI_len]; omega) (by show (j.take 4).length = 4; simp; omega) rfl ?_
  have hget := set_get (x := ABlk.row (.bool true :: .int .i64 s.length :: fl TI4 s ++ (TI4.cells x ++ j.drop 4)) sz false false true) hlt
  refine LD_of (T := T_int .i64) (s.length : Int) [.bool true] (fl TI4 s ++ (TI4.cells x ++ j.drop 4)) hget rfl rfl rfl ?_
  rw [i64w (by omega) (by omega)]
  refine ST_of [.bool true] [.int .i64 s.length] (fl TI4 s ++ (TI4.cells x ++ j.drop 4)) hget rfl rfl rfl rfl ?_
  refine hq _ ⟨j.drop 4, sz, ?_, ?_⟩ ((Fr.set _ _ _).trans (Fr.set _ _ _))
  · rw [set_get (by simpa using hlt)]
    simp [flI_app]; rw [flI_one]; rfl
  · simp; omega

def zero4 : It := ⟨0, 0, 0, 0⟩
theorem top_c {H : Heap} {b : Nat} {s : List It} (h : Stk H b s) {Q : It × Bool × Unit → Heap → Prop} (hq : Q (match s.getLast? with | some x => (x, true, ()) | none => (zero4, false, ())) H) : CALL P [TI4, T_bool] n_stack_Stack_Top [ad b] H Q := by
  have h' := h
  have hle := h.le
  obtain ⟨j, sz, h1, h2⟩ := h
  apply c_stack_Stack_Top
  unfold S_stack_Stack_Top
  refine JOIN_of (is_c h' (ifB_f rfl ?_))
  refine LD_of (T := T_int .i64) (s.length : Int) [.bool true] (fl TI4 s ++ j) h1 rfl rfl rfl ?_
  rcases split_last s with rfl | ⟨r, x, rfl⟩
  · exact ifB_t rfl hq
  · have hl : (r ++ [x]).length = r.length + 1 := by simp
    refine ifB_f (by simp; omega) ?_
    refine LD_of (T := T_int .i64) ((r ++ [x]).length : Int) [.bool true] (fl TI4 (r ++ [x]) ++ j) h1 rfl rfl rfl ?_
    rw [i64w (by omega) (by omega)]
    refine ⟨⟨by omega, by omega⟩, ?_⟩
    refine LD_of (T := TI4) x (.bool true :: .int .i64 (r ++ [x]).length :: fl TI4 r) j h1 (by simp [flI_app]; rw [flI_one]; rfl) (by simp [flI_len]; omega) rfl ?_
    simpa using hq

theorem pop_c {H : Heap} {b : Nat} {s : List It} (h : Stk H b s) {Q : It × Bool × Unit → Heap → Prop} (hq : ∀ H', Stk H' b s.dropLast → Fr b H H' → Q (match s.getLast? with | some x => (x, true, ()) | none => (zero4, false, ())) H') : CALL P [TI4, T_bool] n_stack_Stack_Pop [ad b] H Q := by
  have h' := h
  have hle := h.le
  have hlt := h.lt
  obtain ⟨j, sz, h1, h2⟩ := h
  apply c_stack_Stack_Pop
  unfold S_stack_Stack_Pop
  refine top_c h' ?_
  rcases split_last s with rfl | ⟨r, x, rfl⟩
  · exact JOIN_of (ifB_f rfl (hq H h' (Fr.refl _ _)))
  · have hl : (r ++ [x]).length = r.length + 1 := by simp
    have hg : (r ++ [x]).getLast? = some x := by simp
    rw [hg] at hq ⊢
    refine JOIN_of (ifB_t rfl ?_)
    refine LD_of (T := T_int .i64) ((r ++ [x]).length : Int) [.bool true] (fl TI4 (r ++ [x]) ++ j) h1 rfl rfl rfl ?_
    rw [i64w (by omega) (by omega)]
    have e0 : (((r ++ [x]).length : Int) - 1) = (r.length : Int) := by omega
    rw [e0]
    refine ST_of [.bool true] [.int .i64 (r ++ [x]).length] (fl TI4 (r ++ [x]) ++ j) h1 rfl rfl rfl rfl ?_
    have hget := set_get (x := ABlk.row ([.bool true] ++ ([.int .i64 r.length] ++ (fl TI4 (r ++ [x]) ++ j))) sz false false true) hlt
    refine LD_of (T := T_int .i64) (r.length : Int) [.bool true] (fl TI4 (r ++ [x]) ++ j) hget rfl rfl rfl ?_
    refine ⟨⟨by omega, by omega⟩, ?_⟩
    refine ST_of (.bool true :: .int .i64 r.length :: fl TI4 r) (TI4.cells x) j hget (by simp [flI_app]; rw [flI_one]; rfl) (by simp [flI_len]; omega) rfl rfl ?_
    refine hq _ ⟨[.int .i64 0, .int .i64 0, .int .i64 0, .int .i64 0] ++ j, sz, ?_, ?_⟩ ((Fr.set _ _ _).trans (Fr.set _ _ _))
    · rw [set_get (by simpa using hlt)]
      simp
    · rw [List.dropLast_concat]; simp; omega
end Go.Proofs.Ytmjonmhpfngkaaa.Zq
