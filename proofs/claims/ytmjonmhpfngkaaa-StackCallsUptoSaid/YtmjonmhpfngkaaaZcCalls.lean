/- StackCalls: whatever is called, both stacks answer alike. -/
import Derived.Test.YtmjonmhpfngkaaaZcCall
import Derived.Test.YtmjonmhpfngkaaaZwClosed
namespace Go.Proofs.Ytmjonmhpfngkaaa.Zq
open Zv
theorem SlF.lt {T : Tag} {H : Heap} {s : Sl} {l : List T.α} (h : SlF T H s l) : ∀ d off, s.p = some ⟨d, off, none⟩ → d < H.length := fun d off e => by
  obtain ⟨_, ⟨q, _⟩ | ⟨_, _, q, _⟩ | ⟨b, A, B, w, o, ro, q, q2⟩⟩ := h
  · rw [q] at e; cases e
  · rw [q] at e; simp at e
  · rw [q] at e; simp at e; obtain ⟨rfl, _⟩ := e; exact get_lt q2

/-- Behind the calls: what is gone over again, and told again. -/
structure Ends (n0 : Nat) (H : Heap) (b rb : Nat) (s l : List It) (B : Option Addr) (f : Value) (C : List Nat) (w : Sl) : Prop where
  two : Two n0 H b rb s B
  itr : Itr H f l C
  was : SlF KT H w l.reverse
  few : l.length ≤ 24
  ltC : ∀ d ∈ C, d < H.length
theorem Ends.newer {n0 : Nat} {H H' : Heap} {b rb : Nat} {s l : List It} {B : Option Addr} {f : Value} {C : List Nat} {w : Sl} {D : List Nat} (h : Ends n0 H b rb s l B f C w) (fr : Frs D H H') (hd : ∀ d ∈ D, H.length ≤ d) : Ends n0 H' b rb s l B f C w :=
  ⟨h.two.newer fr hd, h.itr.frs fr (fun d hc hm => by have := hd d hm; have := h.ltC d hc; omega), h.was.frs fr (fun d hm off e => by have := hd d hm; have := h.was.lt _ _ e; omega), h.few, fun d hc => Nat.lt_of_lt_of_le (h.ltC d hc) fr.1⟩

/-- Going over it once more. -/
theorem again_c {n0 : Nat} {H : Heap} {b rb : Nat} {s l : List It} {B : Option Addr} {f : Value} {C : List Nat} {w : Sl} (h : Ends n0 H b rb s l B f C w) {K : Bool → Heap → Prop} (hk : ∀ H', Frs [] H H' → K true H') :
    NEW H [(.slice none 0 0)] 1 fun H20 => JOIN (fun (j35 : (Unit) × (Unit) → Heap → Prop) =>
      RFV P [(T_int .i64), T_G_api_Item] f H20 (fun lb37 (x38 : Int × G_api_Item × Unit) H22 k39 => NEW H22 [(.int .i64 0), (.int .i64 0), (.int .i64 0), (.int .i64 0)] 4 fun H24 => ST H24 H22.length 0 (T_G_api_Item.cells x38.2.1) fun H25 => REQ (H25[H20.length]? = some (lb37 .ready none)) (
        LD T_sl (H25.set H20.length (lb37 .busy none)) H.length 0 fun (x41 : Sl) => LD T_G_api_Item (H25.set H20.length (lb37 .busy none)) H22.length 0 fun (x42 : G_api_Item) =>
        APP T_sl (lenV x41.v + 1) (aAppE E [32, 32] x41.v 1 (T_G_api_Item.cells x42) (H25.set H20.length (lb37 .busy none))) fun (x43 : Sl) H26 => ST H26 H.length 0 [(.slice x43.p x43.len x43.cap)] fun H27 => k39 .normal H27)) fun (e40 : Ex) H23 =>
          (e40 = .normal ∧ (j35 ((()), (())) H23)) ∨ (False)) fun (_ : (Unit) × (Unit)) H21 => LD T_sl H21 H.length 0 fun (x44 : Sl) => CALL P [T_bool] n_kit_SameItems [x44.v, w.v] H21 fun (x45 : Bool × Unit) H28 => K x45.1 H28 := by
  refine NEW_of ?_
  have l1 : (mk H [.slice none 0 0] 1 false).length = H.length + 1 := mk_len _ _ _
  have c1 : Cel (mk H [.slice none 0 0] 1 false) H.length (.slice none 0 0) := Cel.new _ _ _
  have e1 := h.newer (mk_frs H [.slice none 0 0] 1) (by simp)
  have f1 : Frs [] H (mk H [.slice none 0 0] 1 false) := mk_frs _ _ _
  generalize mk H [.slice none 0 0] 1 false = H20 at l1 c1 e1 f1 ⊢
  refine JOIN_of ?_
  refine iter_rf (C := C) h.few e1.itr
    (fun lb m H' => H'[H20.length]? = some (lb .ready none) ∧ (∃ so sp, Cel H' H.length (.slice so.p so.len so.cap) ∧ Ow KT H' so (l.reverse.take m) sp ∧ ∀ d ∈ bl so.p, H20.length < d) ∧ Frs [H.length, H20.length] (H20 ++ [lb .ready none]) H')
    (fun _ _ _ => False) ?_ ?_ ?_ ?_ ?_
  · intro lb
    have fa : Frs [] H20 (H20 ++ [lb .ready none]) := Frs.app _ _ _
    exact ⟨by simp, ⟨⟨none, 0, 0⟩, [], c1.frs fa (by simp), Ow.nil KT _, by simp [bl]⟩, .refl _ _⟩
  · rintro lb m H' ⟨g1, _, g5⟩
    refine ⟨g1, fun f hf => (hf.frs (Frs.app (B := []) H20 [lb .ready none]) (by simp)).frs g5 fun d hd hm => ?_⟩
    have := h.ltC d hd
    simp at hm; omega
  · rintro lb m x H7 k hx ⟨g1, ⟨so, sp, g4, g4o, g4d⟩, g5⟩ hn _
    have hm : m < l.length := by have := (List.getElem?_eq_some_iff.1 hx).1; simpa using this
    have hl7 : H20.length < H7.length := get_lt g1
    have hfew := h.few
    dsimp only
    refine new_it fun H10 c10 f10 l10 => ⟨f10.get (by simp) g1, ?_⟩
    have fx : Frs [H20.length] H10 (H10.set H20.length (lb .busy none)) := Frs.set _ _ (by simp)
    have f7x : Frs [H20.length] H7 (H10.set H20.length (lb .busy none)) := (f10.mono (by simp)).trans fx
    have bx : (H10.set H20.length (lb .busy none))[H20.length]? = some (lb .busy none) := set_get (by omega)
    have cx : (H10.set H20.length (lb .busy none))[H7.length]? = some (.row (TI4.cells x) 4 false false true) := by rw [get_set_ne (by omega)]; exact c10
    have lx : (H10.set H20.length (lb .busy none)).length = H7.length + 1 := by simp [l10]
    have ox := g4o.frs f7x (bl_off fun d hd hm => by simp at hm; subst hm; have := g4d _ hd; omega)
    have sx := g4.frs f7x (by simp; omega)
    generalize H10.set H20.length (lb .busy none) = Hx at bx cx ox sx lx f7x ⊢
    refine sx.ld (T := T_sl) so rfl rfl (LD_of (T := TI4) x [] [] cx (by simp) rfl rfl ?_)
    refine app_c KItems.tyS rfl (fun _ => by simp) (m := 1) [x] rfl rfl (by simp only [List.length_take, List.length_reverse, List.length_cons, List.length_nil]; omega) ox fun s' H14 sp' k1 k2 k3 => ?_
    have f14 := k3.bl ox
    have hnd : ∀ q, q ≤ H20.length → q ∉ bl so.p := fun q hq hm => by have := g4d q hm; omega
    have d14 : ∀ d ∈ bl s'.p, H20.length < d := fun d hd => by
      rcases k2 with k2 | ⟨k2, _⟩
      · rw [k2] at hd; exact g4d d hd
      · rw [k2] at hd; simp [bl] at hd; omega
    refine (sx.frs f14 (hnd _ (by omega))).st rfl fun H15 s15 f15 l15 => ?_
    have b15 := f15.get (by simp; omega) (f14.get (hnd _ (Nat.le_refl _)) bx)
    have o15 := k1.frs f15 (bl_off fun d hd hm => by simp at hm; subst hm; have := d14 _ hd; omega)
    have hLb : (H20 ++ [lb .ready none]).length = H20.length + 1 := by simp
    have fr15 : Frs [H.length, H20.length] (H20 ++ [lb .ready none]) H15 := by
      refine ((g5.trans (f7x.mono (by simp))).then f14 fun d hd => .inr ?_).then f15 (by simp)
      have := g4d d hd; omega
    have htk : l.reverse.take m ++ [x] = l.reverse.take (m + 1) := by
      rw [List.take_add_one, hx]; rfl
    rw [htk] at o15
    have stay : Frs [H20.length] H15 (H15.set H20.length (lb .ready none)) := Frs.set _ _ (by simp)
    exact hn H15 b15 ⟨set_get (get_lt b15), ⟨s', sp', s15.frs stay (by simp; omega), o15.frs stay (bl_off fun d hd hm => by simp at hm; subst hm; have := d14 _ hd; omega), d14⟩, fr15.trans (stay.mono (by simp))⟩
  · rintro lb H' ⟨g1, ⟨so, sp, g4, g4o, g4d⟩, g5⟩
    refine .inl ⟨rfl, ?_⟩
    rw [List.take_of_length_le (by simp)] at g4o
    have fs : Frs [H20.length] H' (H'.set H20.length (lb .exhausted none)) := Frs.set _ _ (by simp)
    refine (g4.frs fs (by simp; omega)).ld (T := T_sl) so rfl rfl ?_
    have hfr : Frs [] H (H'.set H20.length (lb .exhausted none)) := by
      refine (f1.trans (Frs.app (B := []) H20 [lb .ready none])).then (g5.trans (fs.mono (by simp))) fun c hc => .inr ?_
      simp at hc; omega
    refine KItems.same_c (g4o.frs fs (bl_off fun d hd hm => by simp at hm; subst hm; have := g4d _ hd; omega)).slf (h.was.frs hfr (by simp)) (by have := h.few; simp; omega) fun r hr => ?_
    have hrt : r = true := hr.2 rfl
    subst hrt
    exact hk _ hfr
  · exact fun _ _ _ h => h.elim

theorem last_c {n0 : Nat} {H : Heap} {b rb : Nat} {s : List It} {B : Option Addr} (t : Two n0 H b rb s B) {K : Bool → Heap → Prop} (hk : ∀ H', K true H') :
    CALL P [T_sl] n_stack_Stack_Items [ad b] H fun (x46 : Sl × Unit) H29 => CALL P [T_sl] n_stack_Stack_Items [ad b] H29 fun (x47 : Sl × Unit) H30 =>
      JOIN (fun (j48 : (Bool × Unit) × (Unit) → Heap → Prop) => CALL P [T_sl] n_ref23_Stack_Items [ad rb] H30 fun (x50 : Sl × Unit) H32 => CALL P [T_bool] n_kit_SameItems [x46.1.v, x50.1.v] H32 fun (x51 : Bool × Unit) H33 =>
        ifB x51.1 (NEW H33 [(.slice x46.1.p x46.1.len x46.1.cap), (.slice x47.1.p x47.1.len x47.1.cap)] 1 fun H34 => CALL P [T_bool] n_kit_ApartItems [((Sl.mk (some ⟨H33.length, 0, none⟩) 2 2)).v] H34 fun (x52 : Bool × Unit) H35 =>
          ifB x52.1 (CALL P [T_sl] n_stack_Stack_Items [ad b] H35 fun (x53 : Sl × Unit) H36 => CALL P [T_sl] n_ref23_Stack_Items [ad rb] H36 fun (x54 : Sl × Unit) H37 => CALL P [T_bool] n_kit_SameItems [x53.1.v, x54.1.v] H37 fun (x55 : Bool × Unit) H38 => j48 ((x55.1, ()), (())) H38) (
            j48 ((false, ()), (())) H35)) (j48 ((false, ()), (())) H33)) fun (y49 : (Bool × Unit) × (Unit)) H31 => K y49.1.1 H31 := by
  have hs := t.p.le
  refine items_c t.p fun x1 H1 sp1 n1 => ?_
  have t1 := t.newer n1.2.2 (by simp)
  refine items_c t1.p fun x2 H2 sp2 n2 => JOIN_of ?_
  have t2 := t1.newer n2.2.2 (by simp)
  refine ritems_c t2.r hs fun x3 H3 sp3 n3 => ?_
  have t3 := t2.newer n3.2.2 (by simp)
  have o1 : Ow KT H3 x1 s sp1 := (n1.1.frs n2.2.2 (by simp [Sl.off])).frs n3.2.2 (by simp [Sl.off])
  have o2 : Ow KT H3 x2 s sp2 := n2.1.frs n3.2.2 (by simp [Sl.off])
  refine KItems.same_c o1.slf n3.1.slf (by omega) fun r hr => ?_
  have hrt : r = true := hr.2 rfl
  subst hrt
  refine ifB_t rfl (NEW_of ?_)
  have fn : Frs [] H3 (mk H3 [(.slice x1.p x1.len x1.cap), (.slice x2.p x2.len x2.cap)] 1 false) := mk_frs _ _ _
  have t4 := t3.newer fn (by simp)
  have row : (mk H3 [(.slice x1.p x1.len x1.cap), (.slice x2.p x2.len x2.cap)] 1 false)[H3.length]? = some (.row [(.slice x1.p x1.len x1.cap), (.slice x2.p x2.len x2.cap)] 1 false false true) := by simp [mk]
  have o1' := o1.frs fn (by simp [Sl.off])
  have o2' := o2.frs fn (by simp [Sl.off])
  generalize mk H3 [(.slice x1.p x1.len x1.cap), (.slice x2.p x2.len x2.cap)] 1 false = H4 at fn t4 row o1' o2' ⊢
  have dst : ∀ c, x1.p = some c → x2.p = some c → False := fun c h1 h2 => by
    obtain ⟨_, _, _, ⟨q, _⟩ | ⟨d, q, q2⟩⟩ := n1.1
    · rw [q] at h1; cases h1
    · rw [h1] at q; simp at q; subst q
      have := n2.2.1 _ h2
      have := get_lt q2
      omega
  have apt : Apt KT H4 ⟨some ⟨H3.length, 0, none⟩, 2, 2⟩ [x1, x2] := ⟨⟨rfl, .inr (.inr ⟨_, [], [], _, _, _, rfl, row⟩)⟩, by simp, fun u hu => by
      rcases List.mem_cons.1 hu with rfl | hu
      · exact ⟨_, _, o1'⟩
      · simp at hu; subst hu; exact ⟨_, _, o2'⟩, fun i j u v c hij hi hj hu hv => by
      match i, j, hij, hi, hj with
      | 0, 1, _, hi, hj => simp at hi hj; subst hi; subst hj; exact dst c hu hv
      | 1, 0, _, hi, hj => simp at hi hj; subst hi; subst hj; exact dst c hv hu
      | 0, 0, h, _, _ => exact h rfl
      | 1, 1, h, _, _ => exact h rfl
      | i + 2, _, _, hi, _ => simp at hi
      | 0, j + 2, _, _, hj => simp at hj
      | 1, j + 2, _, _, hj => simp at hj⟩
  refine KItems.apart_c apt fun H5 hl5 f5 => ifB_t rfl ?_
  have hn1 : ∀ d, x1.p = some ⟨d, 0, none⟩ → H.length ≤ d := n1.2.1
  have hn2 : ∀ d, x2.p = some ⟨d, 0, none⟩ → H.length ≤ d := fun d hd => Nat.le_trans n1.2.2.1 (n2.2.1 d hd)
  have frH : Frs [] H H4 := ((n1.2.2.trans n2.2.2).trans n3.2.2).trans fn
  have t5 : Two n0 H5 b rb s B := by
    refine t.frs (C := []) ⟨Nat.le_trans frH.1 hl5, fun d hd _ => ?_⟩ (by simp)
    rw [f5 d (Nat.lt_of_lt_of_le hd frH.1) (fun u hu e => by
      rcases List.mem_cons.1 hu with rfl | hu
      · have := hn1 d e; omega
      · simp at hu; subst hu; have := hn2 d e; omega), frH.2 d hd (by simp)]
  refine items_c t5.p fun x6 H6 sp6 n6 => ?_
  have t6 := t5.newer n6.2.2 (by simp)
  refine ritems_c t6.r hs fun x7 H7 sp7 n7 => ?_
  refine KItems.same_c (n6.1.frs n7.2.2 (by simp [Sl.off])).slf n7.1.slf (by omega) fun r hr => ?_
  have hrt : r = true := hr.2 rfl
  subst hrt
  exact hk _

/-- An op of a script: its list, and the whole. -/
theorem ops_ld {H : Heap} {a : Sl} {ops : List G_law23_Op} (h : SlF T_G_law23_Op H a ops) {n : Nat} {op : G_law23_Op} (hx : ops[n]? = some op) {K : Nat → Nat → Prop}
    (hk : ∀ b o, (∀ k : Sl → Prop, k op.L → LD T_sl H b (o + 5) k) → (∀ k : G_law23_Op → Prop, k op → LD T_G_law23_Op H b o k) → K b o) : IDX a.p a.len (n : Int) 7 K := by
  have hT : ∀ x : G_law23_Op, (T_G_law23_Op.cells x).length = 7 := fun _ => rfl
  have hl := (List.getElem?_eq_some_iff.1 hx).1
  obtain ⟨h1, ⟨_, h2, _⟩ | ⟨_, _, _, h2, _⟩ | ⟨b, A, B, w, o, ro, h3, h4⟩⟩ := h
  · subst h2; simp at hl
  · subst h2; simp at hl
  · unfold IDX NIL
    rw [h3]
    have e1 : fl T_G_law23_Op ops = fl T_G_law23_Op (ops.take n) ++ (T_G_law23_Op.cells op ++ fl T_G_law23_Op (ops.drop (n + 1))) := fl_cut (T := T_G_law23_Op) ops n op hx
    have e2 : (fl T_G_law23_Op (ops.take n)).length = n * 7 := by
      have := fl_len (T := T_G_law23_Op) hT (ops.take n)
      rw [this, List.length_take, Nat.min_eq_left (by omega)]
    refine ⟨⟨by omega, by omega⟩, hk _ _ (fun k hk => ?_) (fun k hk => ?_)⟩
    · refine LD_of (T := T_sl) op.L (A ++ (fl T_G_law23_Op (ops.take n) ++ [(.int .i64 op.Call), (.int .i64 op.I.Thing), (.int .i64 op.I.Part), (.int .i64 op.I.Holder), (.int .i64 op.I.Meant)])) ([.int .i64 op.N] ++ (fl T_G_law23_Op (ops.drop (n + 1)) ++ B)) h4 ?_ ?_ rfl hk
      · rw [e1]; simp [List.append_assoc]
      · simp [e2]; omega
    · refine LD_of (T := T_G_law23_Op) op (A ++ fl T_G_law23_Op (ops.take n)) (fl T_G_law23_Op (ops.drop (n + 1)) ++ B) h4 ?_ ?_ rfl hk
      · rw [e1]; simp [List.append_assoc]
      · simp [e2]

theorem stackCalls_c {H : Heap} {a0 a1 : Sl} {l : List It} {ops : List G_law23_Op} (ha : SlF KT H a0 l) (ho : SlF T_G_law23_Op H a1 ops) (hL : ∀ op ∈ ops, ∃ li : List It, SlF KT H op.L li) {Q : Bool × Unit → Heap → Prop} (hq : ∀ H', Q (true, ()) H') : CALL P [T_bool] n_law23_StackCalls [a0.v, a1.v] H Q := by
  have hl0 : a0.len = l.length := ha.1
  have hl1 : a1.len = ops.length := ho.1
  apply c_law23_StackCalls
  unfold S_law23_StackCalls
  refine CALL.closedF (Try.fnOk 100) (by kernel_rfl) (ifB_f rfl (JOIN_of ?_))
  refine ifB_of (fun _ => ifB_t rfl (hq _)) (fun h0 => ?_)
  have h0 : l.length ≤ 100 := by have := of_decide_eq_false h0; omega
  refine ifB_of (fun _ => hq _) (fun h1 => ?_)
  have h1 : ops.length ≤ 80 := by have := of_decide_eq_false h1; omega
  refine KItems.lent_c ha (by omega) fun x4 H3 sp3 n3 ⟨d4, e4⟩ => ?_
  have hd4 := n3.2.1 d4 e4
  refine slice_to KItems.tyS n3.1 (n := l.length) (by omega) (by simp) ?_
  have hcut := n3.1.cut (n := l.length) (by simp)
  rw [show (l ++ [KItems.w, KItems.w]).take l.length = l by simp] at hcut
  refine pfrom_c hcut.slf fun p H4 f4 hp => ?_
  have ha4 := (ha.frs n3.2.2 (by simp)).frs f4 (by simp)
  refine rfrom_c ha4 (by omega) fun q H5 f5 hr => JOIN_of ?_
  refine ifB_f (by simp) ?_
  have hiso : p.isNone = q.isNone := by
    cases hfs : (fromS l).1 with
    | none => rw [hfs] at hp hr; simp only at hp hr; rw [hp, hr]
    | some s =>
      rw [hfs] at hp hr
      obtain ⟨_, e1, _⟩ := hp
      obtain ⟨_, _, e2, _⟩ := hr
      rw [e1, e2]; rfl
  refine ifB_f (by rw [hiso]; simp) ?_
  have f45 : Frs [] H3 H5 := f4.trans f5
  have o5 := n3.1.frs f45 (by simp [Sl.off])
  refine KItems.kept_c o5.slf (ha4.frs f5 (by simp)) (by simp; omega) (by omega) fun r H6 hrr f6 => ?_
  have hrt : r = true := hrr.2 rfl
  subst hrt
  refine ifB_f rfl ?_
  refine KItems.over_c (o5.frs f6 (by simp [Sl.off])) (by simp; omega) fun H8 o8 f8 => ?_
  have f8' : Frs [d4] H6 H8 := f8.frs fun d hd => by rw [e4] at hd; simp at hd; exact .inl (by simp [hd])
  have f38 : Frs [d4] H3 H8 := ((f45.trans f6).mono (by simp)).trans f8'
  have hd43 : d4 < H3.length := n3.1.lt e4
  have f08 : Frs [] H H8 := n3.2.2.then f38 (by simp; omega)
  cases hfs : (fromS l).1 with
  | none =>
    rw [hfs] at hr
    simp only at hr
    subst hr
    exact ifB_t rfl (hq _)
  | some s =>
    rw [hfs] at hp hr
    obtain ⟨b, rfl, hb, hbl⟩ := hp
    obtain ⟨rb, B, rfl, hrb, hrl, hBl⟩ := hr
    have hls : s.length ≤ 24 := hb.le
    have hblt := hb.lt
    have hrlt := hrb.lt
    refine ifB_f rfl ?_
    have f3l := n3.2.2.1
    have f4l := f4.1
    have t5 : Two H.length H5 b rb s B := by
      refine ⟨?_, hrb, by omega, fun hm => ?_, by omega, by omega, fun d hd => ?_⟩
      · obtain ⟨j, sz, g1, g2⟩ := hb
        exact ⟨j, sz, f5.get (by simp) g1, g2⟩
      · have := hBl b hm; omega
      · have := hBl d hd; omega
    have t8 : Two H.length H8 b rb s B := (t5.newer f6 (by simp)).frs f8' fun d hd hm => by
      simp at hm; subst hm
      rcases List.mem_cons.1 hd with rfl | hd
      · omega
      rcases List.mem_cons.1 hd with rfl | hd
      · omega
      have := hBl _ hd; omega
    refine pdown_c t8.p fun f H9 C hit hC f9 => ?_
    have t9 := t8.newer f9 (by simp)
    refine rdown_c t9.r hls fun x13 H10 sp10 n10 => ?_
    have t10 := t9.newer n10.2.2 (by simp)
    have f010 : Frs [] H H10 := (f08.trans f9).trans n10.2.2
    have e10 : Ends H.length H10 b rb s s B f C x13 := ⟨t10, hit.frs n10.2.2 (by simp), n10.1.slf, hls, fun d hd => Nat.lt_of_lt_of_le (hC d hd).2 n10.2.2.1⟩
    have hCb : ∀ d ∈ C, d ∉ b :: rb :: bl B := fun d hd hm => by
      have h1 := (hC d hd).1
      have h2 := t8.p.lt
      have h3 := t8.r.lt
      have h4 := t8.r.bl_lt
      rcases List.mem_cons.1 hm with rfl | hm
      · omega
      rcases List.mem_cons.1 hm with rfl | hm
      · omega
      have := h4 d hm; omega
    have hwb : ∀ d ∈ b :: rb :: bl B, ∀ off, x13.p ≠ some ⟨d, off, none⟩ := fun d hd off e => by
      have h2 := t9.p.lt
      have h3 := t9.r.lt
      have h4 := t9.r.bl_lt
      have h5 : H9.length ≤ d := by
        obtain ⟨_, _, _, ⟨q, _⟩ | ⟨c, q, _⟩⟩ := n10.1
        · rw [q] at e; cases e
        · have := n10.2.1 c q
          rw [q] at e; simp at e; omega
      rcases List.mem_cons.1 hd with rfl | hd
      · omega
      rcases List.mem_cons.1 hd with rfl | hd
      · omega
      have := h4 d hd; omega
    have h10 := e10
    refine JOIN_of ?_
    refine loop_of (fun (st : (Bool × Int × Unit) × Unit) H' => ∃ (n : Nat) (s' : List It) (B' : Option Addr), st.1.2.1 = n ∧ n ≤ ops.length ∧ Two H.length H' b rb s' B' ∧ Frs (b :: rb :: bl B) H10 H' ∧ Mv H10.length B B') (fun st => ops.length - st.1.2.1.toNat) ?_ ⟨0, s, B, rfl, Nat.zero_le _, t10, .refl _ _, .refl _ _⟩
    rintro G ⟨⟨z, i, _⟩, _⟩ H' ⟨n, s', B', hi, hn, t, fr, mv⟩ hG
    simp only at hi; subst hi
    dsimp only at hG ⊢
    have fr0 : Frs (b :: rb :: bl B) H H' := (f010.mono (by simp)).trans fr
    have off0 : ∀ (d : Nat), d < H.length → d ∉ b :: rb :: bl B := fun d hd hm => by
      rcases List.mem_cons.1 hm with rfl | hm
      · have := t.lo; omega
      rcases List.mem_cons.1 hm with rfl | hm
      · have := t.lor; omega
      have := hBl d hm; omega
    refine ifB_of (fun hlt => ?_) (fun hge => ?_)
    · have hlt : n < ops.length := by have := of_decide_eq_true hlt; omega
      have ho' := ho.frs fr0 (fun d hd off e => off0 d (ho.lt d off e) hd)
      have hop : ops[n]? = some ops[n] := List.getElem?_eq_getElem hlt
      obtain ⟨li, hli⟩ := hL ops[n] (List.getElem_mem hlt)
      have hli' := hli.frs fr0 (fun d hd off e => off0 d (hli.lt d off e) hd)
      have hlil : ops[n].L.len = li.length := hli.1
      -- the field L
      refine ops_ld ho' hop (fun b18 o19 hf _ => hf _ ?_)
      refine ifB_of (fun _ => hq _) (fun h2 => ?_)
      have h2 : li.length ≤ 100 := by have := of_decide_eq_false h2; omega
      refine ops_ld ho' hop (fun b21 o22 _ hf => hf _ ?_)
      have hHl : H.length ≤ H'.length := fr0.1
      refine lcall_c t hHl ops[n] hli' (fun d off e => hli.lt d off e) h2 fun H13 s2 B2 t13 f13 mv13 => JOIN_of ?_
      have step : ∃ (m : Nat) (s' : List It) (B' : Option Addr), (((n : Int) + 1)) = m ∧ m ≤ ops.length ∧ Two H.length H13 b rb s' B' ∧ Frs (b :: rb :: bl B) H10 H13 ∧ Mv H10.length B B' := by
        refine ⟨n + 1, s2, B2, by simp, hlt, t13, fr.then f13 fun d hd => ?_, mv.trans mv13 fr.1⟩
        rcases List.mem_cons.1 hd with rfl | hd
        · exact .inl (by simp)
        rcases List.mem_cons.1 hd with rfl | hd
        · exact .inl (by simp)
        rcases mv d hd with q | q
        · exact .inl (by simp [q])
        · exact .inr q
      refine ifB_f rfl (len_c t13.p (rlen_c t13.r (ifB_f (by simp) ?_)))
      rw [i64w (by omega) (by omega)]
      exact hG _ _ step (by simp; omega)
    · -- behind the calls
      have en : Ends H.length H' b rb s' s B' f C x13 := ⟨t, h10.itr.frs fr (fun d hd hm => hCb d hd hm), h10.was.frs fr hwb, hls, fun d hd => Nat.lt_of_lt_of_le (h10.ltC d hd) fr.1⟩
      refine JOIN_of ?_
      refine loop_of (fun (st : (Bool × Int × Unit) × Unit) H2 => ∃ (n : Nat), st.1.2.1 = n ∧ n ≤ 2 ∧ Ends H.length H2 b rb s' s B' f C x13) (fun st => 2 - st.1.2.1.toNat) ?_ ⟨0, rfl, by omega, en⟩
      rintro G2 ⟨⟨z2, i2, _⟩, _⟩ H2 ⟨n2, hi2, hn2, en2⟩ hG2
      simp only at hi2; subst hi2
      dsimp only at hG2
      refine ifB_of (fun hlt2 => ?_) (fun _ => ?_)
      · have hlt2 : (n2 : Int) < 2 := of_decide_eq_true hlt2
        refine again_c en2 (K := fun g H28 => ifB (!g) (Q (false, ()) H28) (G2 ((z2, IntKind.wrap .i64 ((n2 : Int) + 1), ()), ()) H28)) fun H3 f3 => ifB_f rfl ?_
        rw [i64w (by omega) (by omega)]
        exact hG2 _ _ ⟨n2 + 1, by simp, by omega, en2.newer f3 (by simp)⟩ (by simp; omega)
      · exact last_c en2.two (K := fun g H => Q (g, ()) H) fun H' => hq H'
end Go.Proofs.Ytmjonmhpfngkaaa.Zq
