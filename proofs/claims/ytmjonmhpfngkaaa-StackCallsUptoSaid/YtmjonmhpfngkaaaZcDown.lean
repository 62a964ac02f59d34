/- The law's own going down a stack. -/
import Derived.Test.YtmjonmhpfngkaaaZcIter
namespace Go.Proofs.Ytmjonmhpfngkaaa.Zq
open Zv
def dn (s : List It) (N : Int) : List It := if 0 < N ∧ N < s.length then s.reverse.take N.toNat else s.reverse
theorem get_set_ne {H : Heap} {a b : Nat} {x : ABlk} (h : a ≠ b) : (H.set a x)[b]? = H[b]? := List.getElem?_set_ne h
theorem Ow.bl_lt {T : Tag} {H : Heap} {s : Sl} {l sp : List T.α} (h : Ow T H s l sp) : ∀ d ∈ bl s.p, d < H.length := by
  obtain ⟨_, _, _, ⟨q, _⟩ | ⟨c, q, q2⟩⟩ := h
  · rw [q]; simp [bl]
  · rw [q]; simp [bl]; exact get_lt q2
theorem After.bl {T : Tag} {H H' : Heap} {s : Sl} {l sp : List T.α} (h : Ow T H s l sp) (a : After s H H') : Frs (Zq.bl s.p) H H' := by
  obtain ⟨_, _, _, ⟨q, _⟩ | ⟨c, q, q2⟩⟩ := h
  · exact a.frs fun d hd => by rw [q] at hd; cases hd
  · exact a.frs fun d hd => by rw [hd]; simp [Zq.bl]
theorem NEW_of {H : Heap} {cs : List Value} {sz : Nat} {k : Heap → Prop} (h : k (mk H cs sz false)) : NEW H cs sz k := h
/-- A struct's new copy. -/
theorem new_it {H : Heap} {x : It} {k : Heap → Prop} (hk : ∀ H', H'[H.length]? = some (.row (TI4.cells x) 4 false false true) → Frs [] H H' → H'.length = H.length + 1 → k H') :
    NEW H [(.int .i64 0), (.int .i64 0), (.int .i64 0), (.int .i64 0)] 4 fun H9 => ST H9 H.length 0 (TI4.cells x) k := by
  unfold NEW
  have h0 : (mk H [(.int .i64 0), (.int .i64 0), (.int .i64 0), (.int .i64 0)] 4 false)[H.length]? = some (.row [(.int .i64 0), (.int .i64 0), (.int .i64 0), (.int .i64 0)] 4 false false true) := by simp [mk]
  refine ST_of [] [(.int .i64 0), (.int .i64 0), (.int .i64 0), (.int .i64 0)] [] h0 rfl rfl rfl rfl (hk _ ?_ ?_ (by simp [mk]))
  · rw [set_get (get_lt h0)]; rfl
  · exact (mk_frs H _ 4).then (Frs.set (B := [H.length]) _ _ (by simp)) (by simp)

theorem ldown_c {H : Heap} {b : Nat} {s : List It} (h : Stk H b s) (N : Int) {Q : Sl × Bool × Unit → Heap → Prop} (hq : ∀ s' H' sp, NewO KT H s' H' (dn s N) sp → Q (s', true, ()) H') : CALL P [T_sl, T_bool] n_law23_down [ad b, .int .i64 N] H Q := by
  have hle := h.le
  apply c_law23_down
  unfold S_law23_down
  refine NEW_of ?_
  have l1 : (mk H [.int .i64 N] 1 false).length = H.length + 1 := mk_len _ _ _
  generalize hH1 : mk H [.int .i64 N] 1 false = H1 at l1 ⊢
  refine NEW_of ?_
  have l2 : (mk H1 [.slice none 0 0] 1 false).length = H.length + 2 := by rw [mk_len, l1]
  generalize hH2 : mk H1 [.slice none 0 0] 1 false = H2 at l2 ⊢
  refine NEW_of ?_
  refine (Cel.new H2 (.bool false) 1).st rfl fun H4 cf f4 l4 => ?_
  have l4' : H4.length = H.length + 3 := by rw [l4, mk_len, l2]
  have cn : Cel H4 H.length (.int .i64 N) := by
    have : Cel H1 H.length (.int .i64 N) := by rw [← hH1]; exact Cel.new H _ 1
    have : Cel H2 H.length (.int .i64 N) := by rw [← hH2]; exact this.frs (mk_frs _ _ _) (by simp)
    exact (this.frs (mk_frs _ _ _) (by simp)).frs f4 (by simp; omega)
  have co : Cel H4 H1.length (.slice none 0 0) := by
    have : Cel H2 H1.length (.slice none 0 0) := by rw [← hH2]; exact Cel.new H1 _ 1
    exact (this.frs (mk_frs _ _ _) (by simp)).frs f4 (by simp; omega)
  have fr4 : Frs [] H H4 := by
    have : Frs [] H H1 := by rw [← hH1]; exact mk_frs _ _ _
    have : Frs [] H H2 := this.trans (by rw [← hH2]; exact mk_frs _ _ _)
    exact (this.trans (mk_frs _ _ _)).then f4 (by simp; omega)
  have hst : Stk H4 b s := by
    obtain ⟨j, sz, g1, g2⟩ := h
    exact ⟨j, sz, fr4.get (by simp) g1, g2⟩
  refine pdown_c hst fun f H5 C hit hC fr5 => JOIN_of ?_
  have l5 : H4.length ≤ H5.length := fr5.1
  have cn5 := cn.frs fr5 (by simp)
  have co5 := co.frs fr5 (by simp)
  have cf5 := cf.frs fr5 (by simp)
  -- what is left when it is done
  have fin : ∀ (lb : LoopState → Option Ex → ABlk) (z : ABlk) (H' : Heap) (so : Sl) (sp : List It), Cel H' H1.length (.slice so.p so.len so.cap) → Ow KT H' so (dn s N) sp → (∀ d ∈ bl so.p, H5.length < d) → Cel H' H2.length (.bool true) → Frs [H1.length, H2.length, H5.length] (H5 ++ [lb .ready none]) H' →
      LD T_sl (H'.set H5.length z) H1.length 0 fun (x17 : Sl) => LD T_bool (H'.set H5.length z) H2.length 0 fun (x18 : Bool) => Q (x17, x18, ()) (H'.set H5.length z) := by
    intro lb z H' so sp c1 o1 d1 c2 fr
    have fs : Frs [H5.length] H' (H'.set H5.length z) := Frs.set _ _ (by simp)
    refine (c1.frs fs (by simp; omega)).ld (T := T_sl) so rfl rfl ((c2.frs fs (by simp; omega)).ld (T := T_bool) true rfl rfl ?_)
    refine hq so _ sp ⟨o1.frs fs (fun d hd e => ?_), fun d hd => ?_, ?_⟩
    · simp at hd
      have := d1 d (by rw [e]; simp [bl]); omega
    · have := d1 d (by rw [hd]; simp [bl]); omega
    · refine ((fr4.trans fr5).trans (Frs.app (B := []) H5 [lb .ready none])).then (fr.trans (fs.mono (by simp))) fun c hc => .inr ?_
      simp at hc; omega
  refine iter_rf (C := C) hle hit
    (fun lb m H' => H'[H5.length]? = some (lb .ready none) ∧ Cel H' H.length (.int .i64 N) ∧ Cel H' H2.length (.bool true) ∧ (∃ so sp, Cel H' H1.length (.slice so.p so.len so.cap) ∧ Ow KT H' so (s.reverse.take m) sp ∧ ∀ d ∈ bl so.p, H5.length < d) ∧ Frs [H1.length, H2.length, H5.length] (H5 ++ [lb .ready none]) H' ∧ (N ≤ 0 ∨ (m : Int) < N))
    (fun lb e H' => e = .exit 0 ∧ H'[H5.length]? = some (lb .done (some e)) ∧ Cel H' H2.length (.bool true) ∧ (∃ so sp, Cel H' H1.length (.slice so.p so.len so.cap) ∧ Ow KT H' so (dn s N) sp ∧ ∀ d ∈ bl so.p, H5.length < d) ∧ Frs [H1.length, H2.length, H5.length] (H5 ++ [lb .ready none]) H') ?_ ?_ ?_ ?_ ?_
  · intro lb
    have fa : Frs [] H5 (H5 ++ [lb .ready none]) := Frs.app _ _ _
    exact ⟨by simp, cn5.frs fa (by simp), cf5.frs fa (by simp), ⟨⟨none, 0, 0⟩, [], co5.frs fa (by simp), Ow.nil KT _, by simp [bl]⟩, .refl _ _, by omega⟩
  · rintro lb m H' ⟨g1, g2, g3, g4, g5, g6⟩
    refine ⟨g1, fun f hf => ?_⟩
    refine (hf.frs (Frs.app (B := []) H5 [lb .ready none]) (by simp)).frs g5 fun d hd hm => ?_
    have := hC d hd
    simp at hm; omega
  · rintro lb m x H7 k hx ⟨g1, g2, g3, ⟨so, sp, g4, g4o, g4d⟩, g5, g6⟩ hn he
    have hm : m < s.length := by have := (List.getElem?_eq_some_iff.1 hx).1; simpa using this
    have hl7 : H5.length < H7.length := get_lt g1
    have hlen : so.len = m := by rw [g4o.1]; simp; omega
    dsimp only
    refine new_it fun H10 c10 f10 l10 => ⟨f10.get (by simp) g1, ?_⟩
    have fx : Frs [H5.length] H10 (H10.set H5.length (lb .busy none)) := Frs.set _ _ (by simp)
    have f7x : Frs [H5.length] H7 (H10.set H5.length (lb .busy none)) := (f10.mono (by simp)).trans fx
    have lx : (H10.set H5.length (lb .busy none)).length = H7.length + 1 := by simp [l10]
    have bx : (H10.set H5.length (lb .busy none))[H5.length]? = some (lb .busy none) := set_get (by omega)
    have cx : (H10.set H5.length (lb .busy none))[H7.length]? = some (.row (TI4.cells x) 4 false false true) := by rw [get_set_ne (by omega)]; exact c10
    have ox := g4o.frs f7x (bl_off fun d hd hm => by simp at hm; subst hm; have := g4d _ hd; omega)
    have nx := g2.frs f7x (by simp; omega)
    have tx := g3.frs f7x (by simp; omega)
    have sx := g4.frs f7x (by simp; omega)
    generalize H10.set H5.length (lb .busy none) = Hx at bx cx ox nx tx sx lx f7x ⊢
    refine JOIN_of (tx.ld (T := T_bool) true rfl rfl (ifB_t rfl (sx.ld (T := T_sl) so rfl rfl (tx.st rfl fun H12 t12 f12 l12 => ?_))))
    have e1 : ((m : Int) == (so.len : Int)) = true := by rw [hlen]; simp
    rw [e1] at t12
    have s12 := sx.frs f12 (by simp; omega)
    have n12 := nx.frs f12 (by simp; omega)
    have b12 := f12.get (by simp; omega) bx
    have c12 := f12.get (by simp; omega) cx
    have o12 := ox.frs f12 (bl_off fun d hd hm => by simp at hm; subst hm; have := g4d _ hd; omega)
    refine s12.ld (T := T_sl) so rfl rfl (LD_of (T := TI4) x [] [] c12 (by simp) rfl rfl ?_)
    refine app_c KItems.tyS rfl (fun _ => by simp) (m := 1) [x] rfl rfl (by simp only [List.length_take, List.length_reverse, List.length_cons, List.length_nil]; omega) o12 fun s' H14 sp' k1 k2 k3 => ?_
    have f14 := k3.bl o12
    have hnd : ∀ q, q ≤ H5.length → q ∉ bl so.p := fun q hq hm => by have := g4d q hm; omega
    have d14 : ∀ d ∈ bl s'.p, H5.length < d := fun d hd => by
      rcases k2 with k2 | ⟨k2, _⟩
      · rw [k2] at hd; exact g4d d hd
      · rw [k2] at hd; simp [bl] at hd; omega
    have s14 := s12.frs f14 (hnd _ (by omega))
    refine s14.st rfl fun H15 s15 f15 l15 => ?_
    have n15 := (n12.frs f14 (hnd _ (by omega))).frs f15 (by simp; omega)
    have t15 := (t12.frs f14 (hnd _ (by omega))).frs f15 (by simp; omega)
    have b15 := f15.get (by simp; omega) (f14.get (hnd _ (Nat.le_refl _)) b12)
    have o15 := k1.frs f15 (bl_off fun d hd hm => by simp at hm; subst hm; have := d14 _ hd; omega)
    have hLb : (H5 ++ [lb .ready none]).length = H5.length + 1 := by simp
    have fr15 : Frs [H1.length, H2.length, H5.length] (H5 ++ [lb .ready none]) H15 := by
      refine (((g5.trans (f7x.mono (by simp))).then f12 (by simp)).then f14 fun d hd => .inr ?_).then f15 (by simp)
      have := g4d d hd; omega
    have htk : s.reverse.take m ++ [x] = s.reverse.take (m + 1) := by
      rw [List.take_add_one, hx]; rfl
    rw [htk] at o15
    have hl' : s'.len = m + 1 := by rw [o15.1]; simp; omega
    refine s15.ld (T := T_sl) s' rfl rfl (n15.ld (T := T_int .i64) N rfl rfl ?_)
    have stay : ∀ z : ABlk, Frs [H5.length] H15 (H15.set H5.length z) := fun z => Frs.set _ _ (by simp)
    have o16 : ∀ z : ABlk, Ow KT (H15.set H5.length z) s' (s.reverse.take (m + 1)) sp' := fun z => o15.frs (stay z) (bl_off fun d hd hm => by simp at hm; subst hm; have := d14 _ hd; omega)
    refine ifB_of (fun hb => ?_) (fun hb => ?_)
    · have hb : ((m : Int) + 1) = N := by rw [hl'] at hb; simpa using hb
      have hdn : dn s N = s.reverse.take (m + 1) := by
        unfold dn
        split
        · congr 1; omega
        · rw [List.take_of_length_le (by simp; omega)]
      refine he (.exit 0) H15 (by simp) b15 ⟨rfl, set_get (get_lt b15), t15.frs (stay _) (by simp; omega), ⟨s', sp', s15.frs (stay _) (by simp; omega), by rw [hdn]; exact o16 _, d14⟩, fr15.trans ((stay _).mono (by simp))⟩
    · have hb : ((m : Int) + 1) ≠ N := by rw [hl'] at hb; intro e; rw [← e] at hb; simp at hb
      refine hn H15 b15 ⟨set_get (get_lt b15), n15.frs (stay _) (by simp; omega), t15.frs (stay _) (by simp; omega), ⟨s', sp', s15.frs (stay _) (by simp; omega), o16 _, d14⟩, fr15.trans ((stay _).mono (by simp)), by omega⟩
  · rintro lb H' ⟨g1, g2, g3, ⟨so, sp, g4, g4o, g4d⟩, g5, g6⟩
    refine .inl ⟨rfl, ?_⟩
    have hdn : dn s N = s.reverse.take s.length := by
      unfold dn
      rw [if_neg (by omega), List.take_of_length_le (by simp)]
    exact fin lb _ H' so sp g4 (by rw [hdn]; exact g4o) g4d g3 g5
  · rintro lb e H' ⟨rfl, g1, g3, ⟨so, sp, g4, g4o, g4d⟩, g5⟩
    exact ⟨g1, .inr (.inl ⟨rfl, fin lb _ H' so sp g4 g4o g4d g3 g5⟩)⟩
end Go.Proofs.Ytmjonmhpfngkaaa.Zq
