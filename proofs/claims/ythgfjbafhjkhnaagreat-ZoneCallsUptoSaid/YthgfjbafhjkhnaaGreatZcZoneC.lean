/- ZoneCalls: the law's contract. -/
import Derived.Test.YthgfjbafhjkhnaaGreatZcTwo
import Derived.Test.YthgfjbafhjkhnaaGreatZwClosed
namespace Go.Proofs.YthgfjbafhjkhnaaGreat.Zq
open Zv
section
variable {H : Heap} {a0 a1 a2 : Sl} {l0 l1 : List Int} {ops : List G_law17_Op}
abbrev OT : Tag := T_G_law17_Op
theorem hOT (x : OT.α) : (OT.cells x).length = OT.n := rfl

/-- What both begin with: nothing, or the same zones. -/
def Beg (n : Nat) (H : Heap) (o1 o2 : Option Addr) : Prop := (o1 = none ∧ o2 = none) ∨ ∃ bp br z st ss sr sq, o1 = some ⟨bp, 0, none⟩ ∧ o2 = some ⟨br, 0, none⟩ ∧ InvZ z ∧ Two n H bp br z st ss sr sq
theorem Beg.frs {n : Nat} {H H' : Heap} {o1 o2 : Option Addr} {B : List Nat} (h : Beg n H o1 o2) (f : Frs B H H') (hB : ∀ d ∈ B, d < n) : Beg n H' o1 o2 := by
  rcases h with h | ⟨bp, br, z, st, ss, sr, sq, h1, h2, h3, h4⟩
  · exact .inl h
  · exact .inr ⟨bp, br, z, st, ss, sr, sq, h1, h2, h3, h4.frs f hB⟩

/-- The calls, one behind the other; then both looked at. -/
theorem script_c {H0 : Heap} {n : Nat} {bp br : Nat} {z : Zo} {st sr : Sl} {ss sq : Nat → Sl} (h : Two n H bp br z st ss sr sq) (hi : InvZ z) (f0 : Frs [] H0 H)
    {k : Heap → Prop} {F : ((Int × Unit) × Unit → Heap → Prop) → (Int × Unit) × Unit → Heap → Prop}
    (hF : ∀ (G : (Int × Unit) × Unit → Heap → Prop) (i : Nat) (H' : Heap) (_ : i < ops.length) (z' : Zo) (st' sr' : Sl) (ss' sq' : Nat → Sl), Two n H' bp br z' st' ss' sr' sq' → InvZ z' → Frs [] H0 H' → (∀ H2 z2 st2 ss2 sr2 sq2, Two n H2 bp br z2 st2 ss2 sr2 sq2 → InvZ z2 → Frs [] H0 H2 → G (((i : Int) + 1, ()), ()) H2) → F G ((i, ()), ()) H')
    (hE : ∀ (G : (Int × Unit) × Unit → Heap → Prop) (H' : Heap), k H' → F G (((ops.length : Nat), ()), ()) H') (hk : ∀ H' z' st' ss' sr' sq', Two n H' bp br z' st' ss' sr' sq' → InvZ z' → k H') : LOOP F ((0, ()), ()) H := by
  refine loop_of (fun (s : (Int × Unit) × Unit) H' => ∃ (i : Nat) (z' : Zo) (st' sr' : Sl) (ss' sq' : Nat → Sl), s.1.1 = i ∧ i ≤ ops.length ∧ Two n H' bp br z' st' ss' sr' sq' ∧ InvZ z' ∧ Frs [] H0 H') (fun s => ops.length - s.1.1.toNat) ?_ ⟨0, z, st, sr, ss, sq, rfl, Nat.zero_le _, h, hi, f0⟩
  rintro G ⟨⟨j, _⟩, _⟩ H' ⟨i, z', st', sr', ss', sq', hj, hil, tw, inv, f⟩ hG
  simp only at hj; subst hj
  by_cases hlt : i < ops.length
  · exact hF G i H' hlt z' st' sr' ss' sq' tw inv f fun H2 z2 st2 ss2 sr2 sq2 tw2 inv2 f2 => hG _ _ ⟨i + 1, z2, st2, sr2, ss2, sq2, by simp, hlt, tw2, inv2, f2⟩ (by simp; omega)
  · have : i = ops.length := by omega
    subst this
    exact hE G H' (hk H' z' st' ss' sr' sq' tw inv)

theorem zoneCalls_c (h0 : SlF TN H a0 l0) (h1 : SlF TN H a1 l1) (ho : SlF OT H a2 ops) (b0 : l0.length ≤ 1048576) (b1 : l1.length ≤ 1048576) (hL : ∀ op ∈ ops, ∃ li : List Int, SlF TN H op.L li ∧ li.length ≤ 1048576) {Q : Bool × Unit → Heap → Prop} (hq : ∀ H', Q (true, ()) H') :
    CALL P [T_bool] n_law17_ZoneCalls [a0.v, a1.v, a2.v] H Q := by
  apply c_law17_ZoneCalls
  unfold S_law17_ZoneCalls
  have e0 : a0.len = l0.length := h0.1
  have e1 : a1.len = l1.length := h1.1
  have e2 : a2.len = ops.length := ho.1
  refine CALL.closedF (Tryz.fnOk 100) (by kernel_rfl) (ifB_f rfl ?_)
  rw [i64w (x := (a0.len : Int) + a1.len) (by omega) (by omega)]
  refine JOIN_inv (fun y H' => H' = H ∧ ((y : (Bool × Unit) × Unit).1.1 = false → ops.length ≤ 60)) (fun j hj => ?_) ?_
  · have last : decide ((a2.len : Int) > 60) = false → ops.length ≤ 60 := fun q => by have := of_decide_eq_false q; omega
    exact ifB_of (fun _ => ifB_of (fun _ => hj _ _ ⟨rfl, fun q => by cases q⟩) (fun _ => hj _ _ ⟨rfl, last⟩)) (fun _ => hj _ _ ⟨rfl, last⟩)
  rintro ⟨⟨r, _⟩, _⟩ H2 ⟨rfl, hr⟩
  simp only at hr
  refine ifB_of (fun _ => hq _) (fun hrf => ?_)
  have hops := hr hrf
  refine KInts.lent_c h0 (by omega) fun s4 H3 sp4 n4 ⟨d4, e4⟩ => ?_
  have hd4 := n4.2.1 d4 e4
  refine KInts.lent_c (h1.frs n4.2.2 (by simp)) (by omega) fun s5 H4 sp5 n5 ⟨d5, e5⟩ => ?_
  have hd5 := n5.2.1 d5 e5
  have f4 : Frs [] H2 H4 := n4.2.2.trans n5.2.2
  have o4 : Ow TN H4 s4 (l0 ++ [KInts.w, KInts.w]) sp4 := n4.1.frs n5.2.2 (by simp [Sl.off])
  have o5 := n5.1
  refine slice_toO KInts.tyS o4 (n := l0.length) (by rw [e0]) (by simp) (slice_toO KInts.tyS o5 (n := l1.length) (by rw [e1]) (by simp) ?_)
  have hp4 := o4.pre l0.length s4.cap (by simp) (fun e => by rw [e4] at e; cases e)
  have hp5 := o5.pre l1.length s5.cap (by simp) (fun e => by rw [e5] at e; cases e)
  rw [List.take_left' rfl] at hp4 hp5
  have hl4 : d4 < H4.length := o4.lt e4
  have hl5 : d5 < H4.length := o5.lt e5
  have h04 := h0.frs f4 (by simp)
  have h14 := h1.frs f4 (by simp)
  -- what is behind both beginnings
  have tail : ∀ (o1 o2 : Option Addr) (er : Int) (H6 : Heap), Frs [] H4 H6 → Beg H4.length H6 o1 o2 →
      JOIN (fun (j10 : (Bool × Unit) × (Unit) → Heap → Prop) => ifB (er != er) (j10 ((true, ()), (())) H6) (ifB (!(o1.isNone == o2.isNone)) (j10 ((true, ()), (())) H6) (CALL P [T_bool] n_kit_KeptInts [s4.v, a0.v] H6 fun (x12 : Bool × Unit) H8 => ifB (!x12.1) (j10 ((true, ()), (())) H8) (CALL P [T_bool] n_kit_KeptInts [s5.v, a1.v] H8 fun (x13 : Bool × Unit) H9 => j10 ((!x13.1, ()), (())) H9)))) fun (y11 : (Bool × Unit) × (Unit)) H7 =>
      ifB y11.1.1 (Q (false, ()) H7) (CALL P [] n_kit_OverInts [s4.v] H7 fun (_ : Unit) H10 => CALL P [] n_kit_OverInts [s5.v] H10 fun (_ : Unit) H11 => ifB o2.isNone (Q (true, ()) H11) (
        JOIN (fun (j16 : (Unit) × (Unit) → Heap → Prop) => LOOP (fun (r18 : (Int × Unit) × (Unit) → Heap → Prop) (s19 : (Int × Unit) × (Unit)) H13 => ifB (decide (s19.1.1 < (a2.len : Int))) (IDX a2.p a2.len s19.1.1 16 fun b20 o21 => LD T_G_law17_Op H13 b20 o21 fun (x22 : G_law17_Op) => CALL P [T_bool] n_law17_call [(.pointer o1), (.pointer o2), (T_G_law17_Op.enc x22)] H13 fun (x23 : Bool × Unit) H14 =>
          JOIN (fun (j24 : (Bool × Unit) × (Unit) → Heap → Prop) => ifB (!x23.1) (j24 ((true, ()), (())) H14) (CALL P [(T_int .i64)] n_zone_Zones_Len [(.pointer o1)] H14 fun (x26 : Int × Unit) H16 => CALL P [(T_int .i64)] n_ref17_Zones_Len [(.pointer o2)] H16 fun (x27 : Int × Unit) H17 => ifB (x26.1 != x27.1) (j24 ((true, ()), (())) H17) (CALL P [(T_int .i64)] n_zone_Zones_Stamp [(.pointer o1)] H17 fun (x28 : Int × Unit) H18 => CALL P [(T_int .i64)] n_ref17_Zones_Stamp [(.pointer o2)] H18 fun (x29 : Int × Unit) H19 => j24 ((x28.1 != x29.1, ()), (())) H19))) fun (y25 : (Bool × Unit) × (Unit)) H15 =>
          ifB y25.1.1 (Q (false, ()) H15) (r18 ((IntKind.wrap .i64 (s19.1.1 + 1), ()), (())) H15)) (j16 ((()), (())) H13)) ((0, ()), (())) H11) fun (_ : (Unit) × (Unit)) H12 => CALL P [T_bool] n_law17_alike [(.pointer o1), (.pointer o2)] H12 fun (x30 : Bool × Unit) H20 => Q (x30.1, ()) H20)) := by
    intro o1 o2 er H6 f6 beg
    have hiso : o1.isNone = o2.isNone := by
      rcases beg with ⟨rfl, rfl⟩ | ⟨bp, br, _, _, _, _, _, rfl, rfl, _⟩ <;> rfl
    refine JOIN_inv (fun y H' => (y : (Bool × Unit) × Unit).1.1 = false ∧ Frs [] H6 H') (fun j hj => ?_) ?_
    · refine ifB_f (nb_self _) (ifB_f (by rw [hiso]; simp) ?_)
      refine KInts.kept_c (o4.frs f6 (by simp [Sl.off])).slf (h04.frs f6 (by simp)) (by simp; omega) (by omega) fun r H8 hr f8 => ?_
      have hr : r = true := hr.2 rfl
      subst hr
      refine ifB_f rfl ?_
      refine KInts.kept_c (o5.frs (f6.trans f8) (by simp [Sl.off])).slf (h14.frs (f6.trans f8) (by simp)) (by simp; omega) (by omega) fun r H9 hr f9 => ?_
      have hr : r = true := hr.2 rfl
      subst hr
      exact hj _ _ ⟨rfl, f8.trans f9⟩
    · rintro ⟨⟨r, _⟩, _⟩ H7 ⟨hr, f7⟩
      simp only at hr; subst hr
      refine ifB_f rfl ?_
      have f67 := f6.trans f7
      refine KInts.over_c (o4.frs f67 (by simp [Sl.off])) (by simp; omega) fun H10 o10 a10 => ?_
      have f10 : Frs [d4] H7 H10 := a10.frs fun d hd => .inl (by rw [e4] at hd; simp at hd; simp [hd])
      have o57 : Ow TN H7 s5 (l1 ++ [KInts.w, KInts.w]) sp5 := o5.frs f67 (by simp [Sl.off])
      have hne : d4 ≠ d5 := by
        have := n4.1.lt e4
        omega
      have o510 : Ow TN H10 s5 (l1 ++ [KInts.w, KInts.w]) sp5 := o57.frs f10 fun d hd e => by rw [e5] at e; simp at e hd; omega
      refine KInts.over_c o510 (by simp; omega) fun H11 o11 a11 => ?_
      have f11 : Frs [d5] H10 H11 := a11.frs fun d hd => .inl (by rw [e5] at hd; simp at hd; simp [hd])
      have hh3 := n4.2.2.1
      have fr11 : Frs [] H2 H11 := ((f4.trans f67).then f10 fun c hc => by simp at hc; exact .inr (by omega)).then f11 fun c hc => by simp at hc; exact .inr (by omega)
      have beg11 : Beg H4.length H11 o1 o2 := ((beg.frs f7 (by simp)).frs f10 fun d hd => by simp at hd; omega).frs f11 fun d hd => by simp at hd; omega
      rcases beg11 with ⟨rfl, rfl⟩ | ⟨bp, br, z, st, ss, sr, sq, rfl, rfl, inv, tw⟩
      · exact ifB_t rfl (hq _)
      · refine ifB_f rfl (JOIN_inv (fun _ H' => ∃ z' st' ss' sr' sq', Two H4.length H' bp br z' st' ss' sr' sq' ∧ InvZ z') (fun j hj => ?_) ?_)
        · refine script_c (ops := ops) tw inv fr11 (k := fun H' => j ((), ()) H') (fun G i H' hlt z' st' sr' ss' sq' tw' inv' f' hG => ?_) (fun G H' hk => ?_) fun H' z' st' ss' sr' sq' tw' inv' => hj _ _ ⟨z', st', ss', sr', sq', tw', inv'⟩
          · refine ifB_t (decide_eq_true (by simp only; omega)) ?_
            have hx : ops[i]? = some ops[i] := List.getElem?_eq_getElem hlt
            refine idx_ldF (T := OT) hOT (ho.frs f' (by simp)) rfl hx rfl ?_
            obtain ⟨li, hli, hll⟩ := hL ops[i] (List.getElem_mem hlt)
            refine call_c tw' inv' f' f4.1 hli hll fun H14 z2 st2 ss2 sr2 sq2 tw2 inv2 f2 => ?_
            refine JOIN_inv (fun y H' => (y : (Bool × Unit) × Unit).1.1 = false ∧ H' = H14) (fun j2 hj2 => ?_) ?_
            · refine ifB_f rfl (plen_c tw2.p inv2.n1 (rlen_c tw2.r (ifB_f (nb_self _) (pstamp_c tw2.p inv2.n1 (rstamp_c tw2.r (hj2 _ _ ⟨nb_self _, rfl⟩))))))
            · rintro ⟨⟨r, _⟩, _⟩ H15 ⟨hr, rfl⟩
              simp only at hr; subst hr
              refine ifB_f rfl ?_
              rw [i64w (by simp only; omega) (by simp only; omega)]
              exact hG _ _ _ _ _ _ tw2 inv2 f2
          · exact ifB_f (decide_eq_false (by simp only; omega)) hk
        · rintro _ H12 ⟨z', st', ss', sr', sq', tw', inv'⟩
          exact alike_c tw' inv' fun H' => hq H'
  refine pnew_c hp4 hp5 (by omega) (by omega) (fun hlong => ?_) (fun H5 hle hbad f5 => ?_) (fun H5 bp st ss hle hok zp f5 lop => ?_)
  · refine rnew_c h04 h14 (by omega) (by omega) (fun _ => ?_) (fun H6 hle _ f6 => by omega) (fun H6 br sr sq hle _ _ _ _ => by omega)
    exact tail none none 3 H4 (.refl _ _) (.inl ⟨rfl, rfl⟩)
  · refine rnew_c (h04.frs f5 (by simp)) (h14.frs f5 (by simp)) (by omega) (by omega) (fun hlong => by omega) (fun H6 _ _ f6 => ?_) (fun H6 br sr sq _ hok _ _ _ => absurd hok hbad)
    exact tail none none 2 H6 (f5.trans f6) (.inl ⟨rfl, rfl⟩)
  · refine rnew_c (h04.frs f5 (by simp)) (h14.frs f5 (by simp)) (by omega) (by omega) (fun hlong => by omega) (fun H6 _ hbad f6 => absurd hok hbad) (fun H6 br sr sq _ _ zr f6 lor => ?_)
    refine tail _ _ 0 H6 (f5.trans f6) (.inr ⟨bp, br, newZ l0 l1, st, ss, sr, sq, rfl, rfl, new_inv hle, ⟨zp.new f6, zr, fun d hd hm => ?_, lop, fun d hd => ?_⟩⟩)
    · have := zp.lt d hd; have := lor d hm; omega
    · have := lor d hd; have := f5.1; omega
end
end Go.Proofs.YthgfjbafhjkhnaaGreat.Zq
