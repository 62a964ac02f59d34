/- Zones of the program's and of the document's, side by side: a call of both. -/
import Derived.Test.YthgfjbafhjkhnaaGreatZcNew
namespace Go.Proofs.YthgfjbafhjkhnaaGreat.Zq
section
/- Zones of the program's and of the document's, side by side: a call of both. -/
open Zv
/-- The program's zones and the document's, the same, apart, behind n. -/
structure Two (n : Nat) (H : Heap) (bp br : Nat) (z : Zo) (st : Sl) (ss : Nat → Sl) (sr : Sl) (sq : Nat → Sl) : Prop where
  p : ZR [] H bp z st ss
  r : ZR e1 H br z sr sq
  dj : ∀ d ∈ fp bp st ss, d ∉ fp br sr sq
  lp : ∀ d ∈ fp bp st ss, n ≤ d
  lr : ∀ d ∈ fp br sr sq, n ≤ d
section
variable {n : Nat} {H H' : Heap} {bp br : Nat} {z : Zo} {st sr : Sl} {ss sq : Nat → Sl}
theorem Two.frs {B : List Nat} (h : Two n H bp br z st ss sr sq) (f : Frs B H H') (hB : ∀ d ∈ B, d < n) : Two n H' bp br z st ss sr sq :=
  ⟨h.p.frs f fun d hd hm => by have := hB d hm; have := h.lp d hd; omega, h.r.frs f fun d hd hm => by have := hB d hm; have := h.lr d hd; omega, h.dj, h.lp, h.lr⟩
theorem Two.new (h : Two n H bp br z st ss sr sq) (f : Frs [] H H') : Two n H' bp br z st ss sr sq := h.frs f (by simp)
/-- .. where what is another lies nowhere here. -/
theorem Two.off {B : List Nat} (h : Two n H bp br z st ss sr sq) (f : Frs B H H') (hB : ∀ d ∈ B, d ∉ fp bp st ss ∧ d ∉ fp br sr sq) : Two n H' bp br z st ss sr sq :=
  ⟨h.p.frs f fun d hd hm => (hB d hm).1 hd, h.r.frs f fun d hd hm => (hB d hm).2 hd, h.dj, h.lp, h.lr⟩
theorem Two.rp (h : Two n H bp br z st ss sr sq) {F : List Nat} (b : Bh (fp bp st ss) H F H') : ZR e1 H' br z sr sq := h.r.frs b.f fun d hd hm => h.dj d hm hd
theorem Two.nl (h : Two n H bp br z st ss sr sq) : n ≤ H.length := by
  have h1 := h.lp bp (mem_fp.2 (.inl rfl))
  have := h.p.blt; omega
/-- Both have gone on. -/
theorem Two.step {H1 H2 : Heap} {z1 : Zo} {st1 sr2 : Sl} {ss1 sq2 : Nat → Sl} (h : Two n H bp br z st ss sr sq) (p1 : ZR [] H1 bp z1 st1 ss1) (b1 : Bh (fp bp st ss) H (fp bp st1 ss1) H1) (r2 : ZR e1 H2 br z1 sr2 sq2) (b2 : Bh (fp br sr sq) H1 (fp br sr2 sq2) H2) : Two n H2 bp br z1 st1 ss1 sr2 sq2 := by
  have hn := h.nl
  have dj1 : ∀ d ∈ fp bp st1 ss1, d ∉ fp br sr sq := fun d hd hm => by
    rcases b1.g d hd with q | q
    · exact h.dj d q hm
    · have := h.r.lt d hm; omega
  refine ⟨p1.frs b2.f dj1, r2, fun d hd hm => ?_, fun d hd => ?_, fun d hd => ?_⟩
  · rcases b2.g d hm with q | q
    · exact dj1 d hd q
    · have := p1.lt d hd; omega
  · rcases b1.g d hd with q | q
    · exact h.lp d q
    · omega
  · rcases b2.g d hd with q | q
    · exact h.lr d q
    · have := b1.f.1; omega
theorem fr_of {H0 H1 : Heap} {F F' : List Nat} (f : Frs [] H0 H) (b : Bh F H F' H1) (lo : ∀ d ∈ F, H0.length ≤ d) : Frs [] H0 H1 := f.then b.f fun c hc => .inr (lo c hc)

theorem call_c {H0 : Heap} (h : Two n H bp br z st ss sr sq) (hi : InvZ z) (f0 : Frs [] H0 H) (hn : H0.length ≤ n) {op : G_law17_Op} {li : List Int} (hL : SlF TN H0 op.L li) (hll : li.length ≤ 1048576) {Q : Bool × Unit → Heap → Prop}
    (hq : ∀ H' z' st' ss' sr' sq', Two n H' bp br z' st' ss' sr' sq' → InvZ z' → Frs [] H0 H' → Q (true, ()) H') : CALL P [T_bool] n_law17_call [ad bp, ad br, T_G_law17_Op.enc op] H Q := by
  apply c_law17_call
  unfold S_law17_call
  have lop : ∀ d ∈ fp bp st ss, H0.length ≤ d := fun d hd => Nat.le_trans hn (h.lp d hd)
  have lor : ∀ d ∈ fp br sr sq, H0.length ≤ d := fun d hd => Nat.le_trans hn (h.lr d hd)
  have beq : ∀ x : Int, (x == x) = true := fun x => by simp
  refine ifB_of (fun _ => ?_) (fun _ => ifB_of (fun _ => ?_) (fun _ => ifB_of (fun _ => ?_) (fun _ => ifB_of (fun _ => ?_) (fun _ => ifB_of (fun _ => ?_) (fun _ => ?_)))))
  · refine pmove_c h.p hi fun H1 ss1 p1 b1 => ⟨rfl, rfl, rmove_c (h.rp b1) hi fun H2 sq2 r2 b2 => ?_⟩
    rw [move_same hi] at r2 ⊢
    dsimp only
    rw [beq]
    exact hq H2 _ _ _ _ _ (h.step p1 b1 r2 b2) (move_inv hi _ _) (fr_of (fr_of f0 b1 lop) b2 lor)
  · refine pmake_c h.p hi fun H1 st1 ss1 p1 b1 => rmake_c (h.rp b1) hi fun H2 sr2 sq2 r2 b2 => ?_
    rw [make_same hi] at r2 ⊢
    dsimp only
    refine JOIN_of (ifB_t (beq _) ?_)
    dsimp only
    rw [beq]
    exact hq H2 _ _ _ _ _ (h.step p1 b1 r2 b2) (make_inv hi _ _) (fr_of (fr_of f0 b1 lop) b2 lor)
  · refine pwrite_c h.p hi fun H1 p1 b1 => ⟨rfl, rfl, rwrite_c (h.rp b1) hi fun H2 r2 b2 => ?_⟩
    dsimp only
    rw [beq]
    exact hq H2 _ _ _ _ _ (h.step p1 b1 r2 b2) (write_inv hi _ _) (fr_of (fr_of f0 b1 lop) b2 lor)
  · refine KInts.lent_c (hL.frs f0 (by simp)) (by omega) fun s9 H8 sp9 n9 ⟨d9, ed9⟩ => ?_
    have hd9 := n9.2.1 d9 ed9
    refine slice_toO KInts.tyS n9.1 (n := li.length) (by rw [hL.1]) (by simp) ?_
    have hpre := n9.1.pre li.length s9.cap (by simp) (fun e => by rw [ed9] at e; cases e)
    rw [List.take_left' rfl] at hpre
    have h8 := h.new n9.2.2
    refine parr_c h8.p hi hpre (by omega) fun H9 ss9 p9 b9 => ?_
    have hlt9 : ∀ d ∈ fp bp st ss, d < H.length := h.p.lt
    have how9 : Ow TN H9 s9 (li ++ [KInts.w, KInts.w]) sp9 := n9.1.frs b9.f fun d hd e => by rw [ed9] at e; simp at e; subst e; have := hlt9 _ hd; omega
    have f9 : Frs [] H0 H9 := fr_of (f0.trans n9.2.2) b9 lop
    refine KInts.kept_c how9.slf (hL.frs f9 (by simp)) (by simp; omega) (by omega) fun r H10 hr f10 => ?_
    have hr : r = true := hr.2 rfl
    subst hr
    have how10 : Ow TN H10 s9 (li ++ [KInts.w, KInts.w]) sp9 := how9.frs f10 (by simp [Sl.off])
    refine KInts.over_c how10 (by simp; omega) fun H11 how11 a11 => ?_
    have f11 : Frs [d9] H10 H11 := a11.frs fun d hd => .inl (by rw [ed9] at hd; simp at hd; simp [hd])
    have r9 := h8.rp b9
    have r11 : ZR e1 H11 br z sr sq := (r9.new f10).frs f11 fun d hd hm => by simp at hm; subst hm; have := h.r.lt _ hd; omega
    have fr11 : Frs [] H0 H11 := (f9.trans f10).then f11 fun c hc => by simp at hc; have := f0.1; exact .inr (by omega)
    refine JOIN_of (rarr_c r11 hi (hL.frs fr11 (by simp)) (by omega) fun H13 sq13 r13 b13 => ifB_t (beq _) ?_)
    have p11 : ZR [] H11 bp (arrZ z op.Owner li).2 st ss9 := (p9.new f10).frs f11 fun d hd hm => by
      simp at hm; subst hm
      rcases b9.g _ hd with q | q
      · have := hlt9 _ q; omega
      · have := n9.2.2.1
        have hl8 : d < H8.length := n9.1.lt ed9
        omega
    have b11 : Bh (fp bp st ss) H (fp bp st ss9) H11 := by
      refine ⟨((n9.2.2.mono (by simp)).trans b9.f |>.trans (f10.mono (by simp))).then f11 fun c hc => ?_, fun d hd => ?_⟩
      · simp at hc; exact .inr (by omega)
      · rcases b9.g d hd with q | q
        · exact .inl q
        · have := n9.2.2.1; exact .inr (by omega)
    exact hq H13 _ _ _ _ _ (h.step p11 b11 r13 b13) (arr_inv hi _ _) (fr_of fr11 b13 lor)
  · refine rthing_c h.r (tlen_le hi) ⟨rfl, rfl, rfl, rfl, rfl, rfl, ?_⟩
    refine pwrite_c h.p hi fun H1 p1 b1 => ⟨rfl, rfl, rwrite_c (h.rp b1) hi fun H2 r2 b2 => ?_⟩
    dsimp only
    rw [beq]
    exact hq H2 _ _ _ _ _ (h.step p1 b1 r2 b2) (write_inv hi _ _) (fr_of (fr_of f0 b1 lop) b2 lor)
  · exact hq H z _ _ _ _ h hi f0

/-- Lists that were told, gathered: those in memory; all. -/
structure Acc (Hb H : Heap) (a : Sl) (lm ls : List Sl) : Prop where
  n : ∃ sp, NewO T_sl Hb a H lm sp
  o : ∀ s ∈ ls, ∃ l sp, Ow TN H s l sp
  d : Dst ls
  b : ∀ s ∈ ls, ∀ d ∈ bl s.p, Hb.length ≤ d ∧ d < H.length ∧ d ∉ bl a.p
theorem Acc.nil (H : Heap) : Acc H H ⟨none, 0, 0⟩ [] [] := ⟨⟨[], Ow.nil T_sl H, by simp, .refl _ _⟩, by simp, fun i j u v c _ h => by simp at h, by simp⟩
theorem Acc.fr {Hb : Heap} {a : Sl} {lm ls : List Sl} (h : Acc Hb H a lm ls) : Frs [] Hb H := by obtain ⟨sp, h1⟩ := h.n; exact h1.2.2
theorem Acc.track {Hb : Heap} {a s : Sl} {lm ls : List Sl} {l sp : List Int} (h : Acc Hb H a lm ls) (k : NewO TN H s H' l sp) : Acc Hb H' a lm (ls ++ [s]) := by
  obtain ⟨asp, h1⟩ := h.n
  have hs : ∀ d ∈ bl s.p, H.length ≤ d ∧ d < H'.length := fun d hd => by
    rcases k.1.j.ptr with q | ⟨c, q, q2⟩
    · rw [q] at hd; simp [bl] at hd
    · have hd' := hd
      rw [q2] at hd; simp at hd; subst hd
      exact ⟨k.2.1 _ q, k.1.j.lt _ hd'⟩
  have hfl := k.2.2.1
  refine ⟨⟨asp, h1.1.frs k.2.2 (by simp [Sl.off]), h1.2.1, h1.2.2.trans k.2.2⟩, fun x hx => ?_, fun i j u v c hij hu hv hp hv2 => ?_, fun x hx d hd => ?_⟩
  · rcases List.mem_append.1 hx with q | q
    · obtain ⟨l, sp, how⟩ := h.o x q; exact ⟨l, sp, how.frs k.2.2 (by simp [Sl.off])⟩
    · simp at q; subst q; exact ⟨l, sp, k.1⟩
  · have key : ∀ (i : Nat) (u : Sl), (ls ++ [s])[i]? = some u → (i < ls.length ∧ ls[i]? = some u) ∨ (i = ls.length ∧ u = s) := fun i u hu => by
      rcases Nat.lt_trichotomy i ls.length with q | q | q
      · rw [List.getElem?_append_left q] at hu; exact .inl ⟨q, hu⟩
      · subst q; rw [List.getElem?_append_right (Nat.le_refl _)] at hu; simp at hu; exact .inr ⟨rfl, hu.symm⟩
      · rw [List.getElem?_eq_none (by simp; omega)] at hu; cases hu
    have bc : ∀ x : Sl, x.p = some c → c.block ∈ bl x.p := fun x hx => by rw [hx]; simp [bl]
    rcases key i u hu with ⟨_, q1⟩ | ⟨q1, rfl⟩
    · rcases key j v hv with ⟨_, q2⟩ | ⟨_, rfl⟩
      · exact h.d i j u v c hij q1 q2 hp hv2
      · have := (h.b u (List.mem_of_getElem? q1) _ (bc u hp)).2.1
        have := (hs _ (bc v hv2)).1; omega
    · rcases key j v hv with ⟨_, q2⟩ | ⟨q2, _⟩
      · have := (h.b v (List.mem_of_getElem? q2) _ (bc v hv2)).2.1
        have := (hs _ (bc u hp)).1; omega
      · omega
  · rcases List.mem_append.1 hx with q | q
    · obtain ⟨g1, g2, g3⟩ := h.b x q d hd; exact ⟨g1, by omega, g3⟩
    · simp at q; subst q
      obtain ⟨g1, g2⟩ := hs d hd
      refine ⟨Nat.le_trans h.fr.1 g1, g2, fun hm => ?_⟩
      have := h1.1.j.lt d hm; omega
theorem Acc.new {Hb : Heap} {a : Sl} {lm ls : List Sl} (h : Acc Hb H a lm ls) (f : Frs [] H H') : Acc Hb H' a lm ls := by
  obtain ⟨asp, h1⟩ := h.n
  have := f.1
  exact ⟨⟨asp, h1.1.frs f (by simp [Sl.off]), h1.2.1, h1.2.2.trans f⟩, fun x q => by obtain ⟨l, sp, how⟩ := h.o x q; exact ⟨l, sp, how.frs f (by simp [Sl.off])⟩, h.d, fun x hx d hd => by obtain ⟨g1, g2, g3⟩ := h.b x hx d hd; exact ⟨g1, by omega, g3⟩⟩
theorem Acc.push {Hb : Heap} {a : Sl} {lm ls : List Sl} (h : Acc Hb H a lm ls) (xs : List Sl) {m : Nat} (hm : m = xs.length) {cs : List Value} (hcs : cs = fl T_sl xs) (hl : lm.length + xs.length ≤ 1000) {k : Sl → Heap → Prop} (hk : ∀ a' H', Acc Hb H' a' (lm ++ xs) ls → Frs (bl a.p) H H' → k a' H') : APP T_sl (lenV a.v + m) (aAppE E [68, 68] a.v m cs H) k := by
  obtain ⟨asp, h1⟩ := h.n
  refine app_c KInts.tyL rfl (fun _ => by simp) xs hm hcs (by omega) h1.1 fun s' H2 sp' k1 k2 k3 => ?_
  have fa : Frs (bl a.p) H H2 := aft k3
  have hf := fa.1
  refine hk s' H2 ⟨⟨sp', h1.app k1 k2 k3⟩, fun x q => ?_, h.d, fun x hx d hd => ?_⟩ fa
  · obtain ⟨l, sp, how⟩ := h.o x q
    refine ⟨l, sp, how.frs fa fun d hd e => ?_⟩
    exact (h.b x q d (by rw [e]; simp [bl])).2.2 hd
  · obtain ⟨g1, g2, g3⟩ := h.b x hx d hd
    refine ⟨g1, by omega, fun hm => ?_⟩
    rcases mvp k2 d hm with q | q
    · exact g3 q
    · omega
end
end

section
/- Do both zones tell the same, in new memory? -/
open Zv
section
variable {n : Nat} {H : Heap} {bp br : Nat} {z : Zo} {st sr : Sl} {ss sq : Nat → Sl}
theorem nb_self (x : Int) : (x != x) = false := by simp
theorem isIn_len (hi : InvZ z) {p pl : Int} {l : List Int} (h : IsIn z p pl l) : l.length ≤ 1048600 := by
  have := hi.few
  rcases h with ⟨_, rfl⟩ | ⟨_, ⟨_, rfl⟩ | ⟨_, rfl⟩ | ⟨_, tab, ht, rfl⟩ | ⟨_, _, _, rfl⟩⟩
  · simp
  · have := hi.len p.toNat; omega
  · have := hi.len (2 + p.toNat); omega
  · have h1 := List.length_filter_le (fun m => (atZ z m).Owner == p) tab; have := tab_le hi ht; omega
  · have := numsZ_le (t := z.t) (f := fun t => t.Owner == p && t.Place == pl) z.t.length; omega
/-- Told by both: the same. -/
theorem same2 {H' : Heap} {s r : Sl} {l m spl spm : List Int} (hs : Ow TN H' s l spl) (hr : Ow TN H' r m spm) (e : l = m) (hl : l.length ≤ 1048600) {Q : Bool × Unit → Heap → Prop} (hq : Q (true, ()) H') : CALL P [T_bool] n_kit_SameInts [s.v, r.v] H' Q :=
  KInts.same_c hs.slf hr.slf (by omega) fun x hx => by have : x = true := hx.2 e; subst this; exact hq
theorem eqT (x : Th) : (!((x.Card == x.Card) && ((x.Owner == x.Owner) && ((x.Place == x.Place) && ((x.Stamp == x.Stamp) && ((x.Hurt == x.Hurt) && (((x.Marks.1 == x.Marks.1) && ((x.Marks.2.1 == x.Marks.2.1) && ((x.Marks.2.2.1 == x.Marks.2.2.1) && ((x.Marks.2.2.2 == x.Marks.2.2.2) && true)))) && ((x.Done == x.Done) && ((x.Fresh == x.Fresh) && true))))))))) = false := by simp

theorem alike_c (h : Two n H bp br z st ss sr sq) (hi : InvZ z) {Q : Bool × Unit → Heap → Prop} (hq : ∀ H', Q (true, ()) H') : CALL P [T_bool] n_law17_alike [ad bp, ad br] H Q := by
  apply c_law17_alike
  unfold S_law17_alike
  have few := hi.few
  refine JB (H := H) False (fun j hj => plen_c h.p hi.n1 (rlen_c h.r (ifB_f (nb_self _) (pstamp_c h.p hi.n1 (rstamp_c h.r (hj _ ?_)))))) fun r hr => ifB_f (by cases r; rfl; exact (hr.1 rfl).elim) ?_
  · dsimp only; rw [nb_self]; simp
  -- the table, twice
  refine ptable_c h.p hi fun s7 H6 t7 sp7 i7 n7 => ?_
  have a7 := (Acc.nil H).track n7
  have h6 := h.new n7.2.2
  refine ptable_c h6.p hi fun s8 H7 t8 sp8 i8 n8 => ?_
  have a8 := a7.track n8
  have h7 := h6.new n8.2.2
  refine a8.push [s7, s8] rfl rfl (by simp) fun s9 H8 a9 f9 => ?_
  have h8 := h7.new (f9.mono (by simp [bl]))
  have e9 : Acc H H8 s9 [s7, s8] [s7, s8] := a9
  obtain ⟨sp9, n9⟩ := e9.n
  refine idx_atF (T := T_sl) hTs n9.1.slf (n := 0) rfl (x := s7) rfl rfl fun b10 o11 hld => ?_
  refine hld _ (rtable_c h8.r (tlen_le hi) fun s13 H9 t13 sp13 i13 n13 => ?_)
  have e9' := e9.new n13.2.2
  obtain ⟨sp9', n9'⟩ := e9'.n
  have hrow : ∀ k : Sl → Prop, k s7 → LD T_sl H9 b10 o11 k := by
    intro k hk
    -- the place is as it was
    obtain ⟨x, hx1, hx2⟩ := hld (fun x => x = s7) rfl
    subst hx2
    refine ⟨x, ?_, hk⟩
    unfold rd at hx1 ⊢
    cases hb : H8[b10]? with
    | none => rw [hb] at hx1; cases hx1
    | some r => rw [n13.2.2.get (by simp) hb]; rw [hb] at hx1; exact hx1
  refine hrow _ ⟨rfl, ?_⟩
  obtain ⟨l7, lsp7, how7⟩ := e9'.o s7 (by simp)
  have how7' : Ow TN H9 s7 t7 sp7 := by
    have f := (n8.2.2.then f9 fun c hc => by simp [bl] at hc).trans n13.2.2
    exact n7.1.frs f (by simp [Sl.off])
  refine same2 how7' n13.1 (tab_unique hi i7 i13) (by have := tab_le hi i7; omega) (ifB_f rfl ?_)
  have h9 := h8.new n13.2.2
  -- both players' places
  refine JOIN_inv (fun y H' => ∃ (ls : List Sl), Acc H H' (y : (Sl × Unit) × Unit).1.1 ls ls ∧ Two n H' bp br z st ss sr sq ∧ ls.length ≤ 100) (fun j16 hj16 => ?_) ?_
  · refine loop_of (fun (s : (Sl × Int × Unit) × Unit) H' => ∃ (k : Nat) (ls : List Sl), s.1.2.1 = (k : Int) - 1 ∧ k ≤ 4 ∧ Acc H H' s.1.1 ls ls ∧ Two n H' bp br z st ss sr sq ∧ ls.length ≤ 2 + 9 * k) (fun s => (3 - s.1.2.1).toNat) ?_ ⟨0, [s7, s8], rfl, by omega, e9', h9, by simp⟩
    rintro G ⟨⟨a, i, _⟩, _⟩ H' ⟨k, ls, hk, hk4, acc, tw, hll⟩ hG
    simp only at hk acc; subst hk
    dsimp only at hG ⊢
    refine ifB_of (fun hlt => ?_) (fun hge => ?_)
    · have hlt : k < 4 := by have := of_decide_eq_true hlt; omega
      refine JOIN_inv (fun y H2 => ∃ (ls2 : List Sl), Acc H H2 (y : (Sl × Unit) × Unit).1.1 ls2 ls2 ∧ Two n H2 bp br z st ss sr sq ∧ ls2.length ≤ ls.length + 9) (fun j20 hj20 => ?_) ?_
      · refine pdeck_c tw.p hi fun s22 H14 l22 sp22 i22 n22 => ?_
        have ac22 := acc.track n22
        have tw14 := tw.new n22.2.2
        refine phand_c tw14.p hi fun s23 H15 l23 sp23 i23 n23 => ?_
        have ac23 := ac22.track n23
        have tw15 := tw14.new n23.2.2
        refine JOIN_inv (fun y H' => (y : (Bool × Unit) × Unit).1.1 = false ∧ Frs [] H15 H') (fun j hj => ?_) ?_
        · refine rdeck_c tw15.r hi fun s26 H17 l26 sp26 i26 n26 => ?_
          have o22 : Ow TN H17 s22 l22 sp22 := n22.1.frs (n23.2.2.trans n26.2.2) (by simp [Sl.off])
          refine same2 o22 n26.1 (in_unique hi i22 i26) (isIn_len hi i22) (ifB_f rfl ?_)
          refine rhand_c (tw15.new n26.2.2).r hi fun s28 H19 l28 sp28 i28 n28 => ?_
          have o23 : Ow TN H19 s23 l23 sp23 := n23.1.frs (n26.2.2.trans n28.2.2) (by simp [Sl.off])
          exact same2 o23 n28.1 (in_unique hi i23 i28) (isIn_len hi i23) (hj _ _ ⟨rfl, n26.2.2.trans n28.2.2⟩)
        · rintro ⟨⟨r, _⟩, _⟩ H16 ⟨hr, f16⟩
          simp only at hr; subst hr
          refine ifB_f rfl ?_
          have ac16 := ac23.new f16
          have tw16 := tw15.new f16
          obtain ⟨_, na⟩ := acc.n
          refine ac16.push [s22, s23] rfl rfl (by simp only [List.length_cons, List.length_nil]; omega) fun a30 H21 ac30 f21 => ?_
          have alt : ∀ d ∈ bl a.p, d ∉ fp bp st ss ∧ d ∉ fp br sr sq := fun d hd => by
            have h1 : H.length ≤ d := by
              rcases na.1.j.ptr with q | ⟨c, q, q2⟩
              · rw [q] at hd; simp [bl] at hd
              · rw [q2] at hd; simp at hd; subst hd; exact na.2.1 _ q
            refine ⟨fun hm => ?_, fun hm => ?_⟩
            · have := h.p.lt d hm; omega
            · have := h.r.lt d hm; omega
          have tw21 := tw16.off f21 alt
          refine JOIN_of ?_
          refine loop_of (fun (s : (Sl × Int × Unit) × Unit) H2 => ∃ (m : Nat) (ls2 : List Sl), s.1.2.1 = m ∧ m ≤ 7 ∧ Acc H H2 s.1.1 ls2 ls2 ∧ Two n H2 bp br z st ss sr sq ∧ ls2.length ≤ ls.length + 2 + m) (fun s => 7 - s.1.2.1.toNat) ?_ ⟨0, ls ++ [s22, s23], rfl, by omega, by simpa using ac30, tw21, by simp⟩
          rintro G2 ⟨⟨a2, i2, _⟩, _⟩ H2 ⟨m, ls2, hm, hm7, acc2, tw2, hl2⟩ hG2
          simp only at hm acc2; subst hm
          dsimp only at hG2 ⊢
          refine ifB_of (fun hlt2 => ?_) (fun hge2 => ?_)
          · have hlt2 : m < 7 := by have := of_decide_eq_true hlt2; omega
            refine pin_c tw2.p hi fun s35 H24 l35 sp35 i35 n35 => ?_
            have ac35 := acc2.track n35
            have tw24 := tw2.new n35.2.2
            refine rin_c tw24.r hi fun s36 H25 l36 sp36 i36 n36 => ?_
            have o35 : Ow TN H25 s35 l35 sp35 := n35.1.frs n36.2.2 (by simp [Sl.off])
            refine same2 o35 n36.1 (in_unique hi i35 i36) (isIn_len hi i35) (ifB_f rfl ?_)
            have ac25 := ac35.new n36.2.2
            have tw25 := tw24.new n36.2.2
            obtain ⟨_, na2⟩ := acc2.n
            refine ac25.push [s35] rfl rfl (by simp only [List.length_cons, List.length_nil]; omega) fun a38 H27 ac38 f27 => ?_
            have alt2 : ∀ d ∈ bl a2.p, d ∉ fp bp st ss ∧ d ∉ fp br sr sq := fun d hd => by
              have h1 : H.length ≤ d := by
                rcases na2.1.j.ptr with q | ⟨c, q, q2⟩
                · rw [q] at hd; simp [bl] at hd
                · rw [q2] at hd; simp at hd; subst hd; exact na2.2.1 _ q
              refine ⟨fun hm => ?_, fun hm => ?_⟩
              · have := h.p.lt d hm; omega
              · have := h.r.lt d hm; omega
            rw [i64w (by omega) (by omega)]
            exact hG2 _ _ ⟨m + 1, ls2 ++ [s35], by simp, hlt2, ac38, tw25.off f27 alt2, by simp; omega⟩ (by simp; omega)
          · have hge2 : m = 7 := by have := of_decide_eq_false hge2; omega
            exact hj20 _ _ ⟨ls2, acc2, tw2, by omega⟩
      · rintro ⟨⟨a2, _⟩, _⟩ H2 ⟨ls2, acc2, tw2, hl2⟩
        dsimp only
        rw [i64w (by omega) (by omega)]
        exact hG _ _ ⟨k + 1, ls2, by simp, hlt, acc2, tw2, by omega⟩ (by simp only; omega)
    · have hge : k = 4 := by have := of_decide_eq_false hge; omega
      exact hj16 _ _ ⟨ls, acc, tw, by omega⟩
  · rintro ⟨⟨a, _⟩, _⟩ H11 ⟨ls, acc, tw, hll⟩
    simp only at acc
    dsimp only
    -- the things
    refine pthings_c tw.p hi fun s39 H28 sp39 n39 => ?_
    have tw28 := tw.new n39.2.2
    refine pthings_c tw28.p hi fun s40 H29 sp40 n40 => ?_
    have tw29 := tw28.new n40.2.2
    refine rthings_c tw29.r hi fun s41 H30 sp41 n41 => ?_
    have tw30 := tw29.new n41.2.2
    have o39 : Ow TT H30 s39 z.t sp39 := n39.1.frs (n40.2.2.trans n41.2.2) (by simp [Sl.off])
    have o40 : Ow TT H30 s40 z.t sp40 := n40.1.frs n41.2.2 (by simp [Sl.off])
    refine KThings.same_c o39.slf n41.1.slf (by omega) fun r hr => ?_
    have hr : r = true := hr.2 rfl
    subst hr
    refine ifB_f rfl (JOIN_inv (fun _ H' => H' = H30) (fun j43 hj43 => ?_) ?_)
    · refine loop_of (fun (s : (Int × Unit) × Unit) H' => H' = H30 ∧ ∃ k : Nat, s.1.1 = (k : Int) - 1 ∧ k ≤ 201) (fun s => (200 - s.1.1).toNat) ?_ ⟨rfl, 0, rfl, by omega⟩
      rintro G ⟨⟨i, _⟩, _⟩ H' ⟨rfl, k, hk, hk2⟩ hG
      simp only at hk; subst hk
      dsimp only at hG ⊢
      refine JOIN_inv (fun y H2 => H2 = H' ∧ ((y : (Bool × Unit) × Unit).1.1 = true → (k : Int) - 1 < 200)) (fun j hj => plen_c tw30.p hi.n1 (ifB_of (fun _ => hj _ _ ⟨rfl, fun e => of_decide_eq_true e⟩) (fun _ => hj _ _ ⟨rfl, fun e => by cases e⟩))) ?_
      rintro ⟨⟨r, _⟩, _⟩ H2 ⟨rfl, hr⟩
      simp only at hr
      refine ifB_of (fun h1 => ?_) (fun h1 => hj43 _ _ rfl)
      have hk3 := hr h1
      refine thing_c tw30.p hi.n1 (tlen_le hi) (rthing_c tw30.r (tlen_le hi) ?_)
      dsimp only
      refine JOIN_of (ifB_f (eqT _) (ifB_f (nb_self _) ?_))
      rw [i64w (by omega) (by omega)]
      exact hG _ _ ⟨rfl, k + 1, by simp only; omega, by omega⟩ (by simp only; omega)
    · rintro _ H32 rfl
      obtain ⟨asp, na⟩ := acc.n
      have acc30 := acc.new ((n39.2.2.trans n40.2.2).trans n41.2.2)
      obtain ⟨asp30, na30⟩ := acc30.n
      refine JOIN_inv (fun y _ => (y : (Bool × Unit) × Unit).1.1 = true) (fun j54 hj54 => ?_) ?_
      · refine KInts.apart_c (H := H32) (ls := ls) ⟨na30.1.slf, by omega, acc30.o, acc30.d⟩ fun H40 hl40 hf40 => ifB_t rfl ?_
        -- what is another: the lists that were told
        have fr40 : Frs (ls.flatMap fun s => bl s.p) H32 H40 := ⟨hl40, fun c hc hb => hf40 c hc fun s hs e => hb (List.mem_flatMap.2 ⟨s, hs, by rw [e]; simp [bl]⟩)⟩
        have inb : ∀ d ∈ (ls.flatMap fun s => bl s.p), H.length ≤ d ∧ d < H11.length := fun d hd => by
          obtain ⟨s, hs, hd⟩ := List.mem_flatMap.1 hd
          have := acc.b s hs d hd; omega
        have tw40 := tw30.off fr40 fun d hd => by
          have := inb d hd
          refine ⟨fun hm => ?_, fun hm => ?_⟩
          · have := h.p.lt d hm; omega
          · have := h.r.lt d hm; omega
        have o39' : Ow TT H40 s39 z.t sp39 := o39.frs fr40 fun d hd e => by have := inb d hd; have := n39.2.1 d e; omega
        have hl28 := n39.2.2.1
        have o40' : Ow TT H40 s40 z.t sp40 := o40.frs fr40 fun d hd e => by have := inb d hd; have := n40.2.1 d e; omega
        show NEW H40 _ 1 _
        unfold NEW
        have f41 : Frs [] H40 (mk H40 [(.slice s39.p s39.len s39.cap), (.slice s40.p s40.len s40.cap)] 1 false) := Frs.app _ _ _
        have hrow41 : (mk H40 [(.slice s39.p s39.len s39.cap), (.slice s40.p s40.len s40.cap)] 1 false)[H40.length]? = some (.row (fl T_sl [s39, s40]) 1 false false true) := by simp [mk, fl]
        generalize mk H40 [(.slice s39.p s39.len s39.cap), (.slice s40.p s40.len s40.cap)] 1 false = H41 at f41 hrow41
        have dst2 : Dst [s39, s40] := fun i j u v c hij hu hv hp hv2 => by
          have h39 : ∀ c : Addr, s39.p = some c → s40.p ≠ some c := fun c e1 e2 => by
            rcases n39.1.j.ptr with q | ⟨d, q, q2⟩
            · rw [q] at e1; cases e1
            · have hd : d < H28.length := n39.1.j.lt d (by rw [q2]; simp)
              rcases n40.1.j.ptr with q' | ⟨d', q', _⟩
              · rw [q'] at e2; cases e2
              · have := n40.2.1 d' q'
                have e3 : (⟨d', 0, none⟩ : Addr) = ⟨d, 0, none⟩ := by
                  rw [q] at e1; rw [q'] at e2
                  exact (Option.some.inj e2).trans (Option.some.inj e1).symm
                have := congrArg Addr.block e3
                simp only at this
                omega
          match i, j, hu, hv with
          | 0, 0, _, _ => omega
          | 1, 1, _, _ => omega
          | 0, 1, hu, hv => simp at hu hv; subst hu; subst hv; exact h39 c hp hv2
          | 1, 0, hu, hv => simp at hu hv; subst hu; subst hv; exact h39 c hv2 hp
          | i + 2, _, hu, _ => simp at hu
          | _, j + 2, _, hv => simp at hv
        refine KThings.apart_c (H := H41) (a := ⟨some ⟨H40.length, 0, none⟩, 2, 2⟩) (ls := [s39, s40]) ⟨⟨rfl, .inr (.inr ⟨H40.length, [], [], 1, false, false, rfl, by simpa using hrow41⟩)⟩, by simp, fun s hs => ?_, dst2⟩ fun H42 hl42 hf42 => ifB_t rfl ?_
        · simp at hs
          rcases hs with rfl | rfl
          · exact ⟨_, _, o39'.frs f41 (by simp [Sl.off])⟩
          · exact ⟨_, _, o40'.frs f41 (by simp [Sl.off])⟩
        have fr42 : Frs (bl s39.p ++ bl s40.p) H41 H42 := ⟨hl42, fun c hc hb => hf42 c hc fun s hs e => hb (by simp at hs; rcases hs with rfl | rfl <;> simp [e, bl])⟩
        have tw42 := (tw40.new f41).off fr42 fun d hd => by
          have hH : H.length ≤ d := by
            have hacc := acc.fr.1
            rcases List.mem_append.1 hd with hd | hd
            · rcases n39.1.j.ptr with q | ⟨d', q, q2⟩
              · rw [q] at hd; simp [bl] at hd
              · rw [q2] at hd; simp at hd; subst hd; have := n39.2.1 _ q; omega
            · rcases n40.1.j.ptr with q | ⟨d', q, q2⟩
              · rw [q] at hd; simp [bl] at hd
              · rw [q2] at hd; simp at hd; subst hd; have := n40.2.1 _ q; omega
          refine ⟨fun hm => ?_, fun hm => ?_⟩
          · have := h.p.lt d hm; omega
          · have := h.r.lt d hm; omega
        refine pthings_c tw42.p hi fun s58 H43 sp58 n58 => ?_
        have tw43 := tw42.new n58.2.2
        refine rthings_c tw43.r hi fun s59 H44 sp59 n59 => ?_
        have tw44 := tw43.new n59.2.2
        refine KThings.same_c (n58.1.frs n59.2.2 (by simp [Sl.off])).slf n59.1.slf (by omega) fun r hr => ?_
        have hr : r = true := hr.2 rfl
        subst hr
        refine ifB_t rfl (ptable_c tw44.p hi fun s61 H46 t61 sp61 i61 n61 => rtable_c (tw44.new n61.2.2).r (tlen_le hi) fun s62 H47 t62 sp62 i62 n62 => ?_)
        exact same2 (n61.1.frs n62.2.2 (by simp [Sl.off])) n62.1 (tab_unique hi i61 i62) (by have := tab_le hi i61; omega) (hj54 _ _ rfl)
      · rintro ⟨⟨r, _⟩, _⟩ H39 hr
        simp only at hr; subst hr
        exact hq H39
end
end
end Go.Proofs.YthgfjbafhjkhnaaGreat.Zq
