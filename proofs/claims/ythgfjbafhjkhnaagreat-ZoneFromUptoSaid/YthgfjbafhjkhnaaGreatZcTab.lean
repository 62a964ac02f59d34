/- What the program tells of its zones: the table, a look into a place. -/
import Derived.Test.YthgfjbafhjkhnaaGreatZcZr
import Derived.Test.YthgfjbafhjkhnaaGreatZcZoneP
import Derived.Test.YthgfjbafhjkhnaaGreatZcSort
namespace Go.Proofs.YthgfjbafhjkhnaaGreat.Zq
section
/- What the program tells of its zones: the table, a look into a place. -/
open Zv
/-- A thing's stamp, wherever it may be read. -/
theorem idx_stamp {H : Heap} {s : Sl} {l : List Th} (h : SlF TT H s l) {i : Int} {n : Nat} {x : Th} (hi : i = n) (hx : l[n]? = some x) {K : Int → Prop} (hK : K x.Stamp) : IDX s.p s.len i 11 fun b o => LD TN H b (o + 3) K := by
  have hl := (List.getElem?_eq_some_iff.1 hx).1
  obtain ⟨h1, ⟨_, h2, _⟩ | ⟨_, _, _, h2, _⟩ | ⟨b, A, B, z, o, ro, h3, h4⟩⟩ := h
  · subst h2; simp at hl
  · subst h2; simp at hl
  · unfold IDX NIL
    rw [h3]
    refine ⟨⟨by omega, by omega⟩, ?_⟩
    have h5 : H[b]? = some (.row ((A ++ fl TT (l.take n)) ++ (TT.cells x ++ (fl TT (l.drop (n + 1)) ++ B))) z o ro true) := by rw [h4, fl_cut (T := TT) l n x hx]; simp [List.append_assoc]
    exact ld_stamp h5 (by rw [List.length_append, fl_len hTT, hi, List.length_take, Nat.min_eq_left (by omega)]; simp) hK
theorem idx_owner {H : Heap} {s : Sl} {l : List Th} (h : SlF TT H s l) {i : Int} {n : Nat} {x : Th} (hi : i = n) (hx : l[n]? = some x) {K : Int → Prop} (hK : K x.Owner) : IDX s.p s.len i 11 fun b o => LD TN H b (o + 1) K := by
  have hl := (List.getElem?_eq_some_iff.1 hx).1
  obtain ⟨h1, ⟨_, h2, _⟩ | ⟨_, _, _, h2, _⟩ | ⟨b, A, B, z, o, ro, h3, h4⟩⟩ := h
  · subst h2; simp at hl
  · subst h2; simp at hl
  · unfold IDX NIL
    rw [h3]
    refine ⟨⟨by omega, by omega⟩, ?_⟩
    have h5 : H[b]? = some (.row ((A ++ fl TT (l.take n)) ++ (TT.cells x ++ (fl TT (l.drop (n + 1)) ++ B))) z o ro true) := by rw [h4, fl_cut (T := TT) l n x hx]; simp [List.append_assoc]
    exact ld_own h5 (by rw [List.length_append, fl_len hTT, hi, List.length_take, Nat.min_eq_left (by omega)]; simp) hK

theorem tab1_c {H : Heap} {cb b : Nat} {st : Sl} {t : List Th} (hc : ∃ sz o ro, H[cb]? = some (.row [ad b] sz o ro true)) (hb : ∃ rest sz o ro, H[b]? = some (.row (st.v :: rest) sz o ro true)) (hs : SlF TT H st t) {i j : Nat} {x y : Th} (hi : t[i]? = some x) (hj : t[j]? = some y) (ht : t.length ≤ 4096)
    (hx : 0 ≤ x.Stamp ∧ x.Stamp ≤ 1099511627776) (hy : 0 ≤ y.Stamp ∧ y.Stamp ≤ 1099511627776) {Q : Int × Unit → Heap → Prop} (hq : Q (x.Stamp - y.Stamp, ()) H) : CALL P [TN] n_zone_Zones_Table_1 [.int .i64 ((i : Int) + 1), .int .i64 ((j : Int) + 1), .pointer (some ⟨cb, 0, none⟩)] H Q := by
  apply c_zone_Zones_Table_1 (c0 := (cb, 0))
  unfold S_zone_Zones_Table_1
  obtain ⟨sz, o, ro, hc⟩ := hc
  obtain ⟨rest, sz2, o2, ro2, hb⟩ := hb
  have hil := (List.getElem?_eq_some_iff.1 hi).1
  have hjl := (List.getElem?_eq_some_iff.1 hj).1
  have ld1 : ∀ k : Option Addr → Prop, k (some ⟨b, 0, none⟩) → LD T_ptr H cb 0 k := fun k hk => LD_of (T := T_ptr) _ [] [] hc rfl rfl rfl hk
  have ld2 : ∀ k : Sl → Prop, k st → LD T_sl H b 0 k := fun k hk => LD_of (T := T_sl) st [] rest hb rfl rfl rfl hk
  refine ld1 _ (ld2 _ ?_)
  rw [i64w (by omega) (by omega), i64w (by omega) (by omega)]
  refine idx_stamp hs (n := i) (by omega) hi (ld1 _ (ld2 _ (idx_stamp hs (n := j) (by omega) hj ?_)))
  rw [i64w (by omega) (by omega)]
  exact hq

section
variable {H : Heap} {b : Nat} {z : Zo} {st : Sl} {ss : Nat → Sl}
/-- Slices that hang on the zones' blocks. -/
theorem inS_sl {T : Tag} {H : Heap} {s : Sl} {l : List T.α} (h : OwJ T H s l) {S : List Nat} (hS : ∀ d ∈ bl s.p, d ∈ S) : inS S s.v := by
  obtain ⟨p, n, c⟩ := s
  obtain ⟨h1, _, _, ⟨h3, h4, h5⟩ | ⟨d, r, h3, _⟩⟩ := h
  · simp only at h1 h3 h5; subst h3; subst h4; subst h1; subst h5; exact trivial
  · simp only at h3; subst h3
    exact ⟨hS d (by simp [bl]), rfl⟩
theorem inS_int {S : List Nat} (r : List Int) : ∀ v ∈ fl TN r, inS S v := fun v hv => by
  simp only [fl, List.mem_flatMap] at hv
  obtain ⟨x, _, hv⟩ := hv
  simp at hv; subst hv; exact trivial
theorem inS_th {S : List Nat} (r : List Th) : ∀ v ∈ fl TT r, inS S v := fun v hv => by
  simp only [fl, List.mem_flatMap] at hv
  obtain ⟨x, _, hv⟩ := hv
  simp only [List.mem_cons, List.not_mem_nil, or_false] at hv
  rcases hv with rfl | rfl | rfl | rfl | rfl | rfl | rfl | rfl | rfl | rfl | rfl <;> exact trivial
theorem ZR.clo (h : ZR [] H b z st ss) {S : List Nat} (hS : ∀ d ∈ fp b st ss, d ∈ S) : ∀ d ∈ fp b st ss, ∃ c sz o r l, H[d]? = some (.row c sz o r l) ∧ ∀ v ∈ c, inS S v := fun d hd => by
  have own : ∀ {T : Tag} {s : Sl} {l : List T.α}, OwJ T H s l → (∀ r : List T.α, ∀ v ∈ fl T r, inS S v) → d ∈ bl s.p → ∃ c sz o r l, H[d]? = some (.row c sz o r l) ∧ ∀ v ∈ c, inS S v := fun ho hr hm => by
    obtain ⟨_, _, _, ⟨h3, _⟩ | ⟨c, r, h3, h4, _⟩⟩ := ho
    · rw [h3] at hm; simp [bl] at hm
    · rw [h3] at hm; simp [bl] at hm; subst hm
      exact ⟨_, _, _, _, _, h4, hr r⟩
  rcases mem_fp.1 hd with rfl | hm | ⟨q, hq, hm⟩
  · obtain ⟨sz, h1⟩ := h.row
    refine ⟨_, _, _, _, _, h1, fun v hv => ?_⟩
    have hq : ∀ q, q < 4 → inS S (ss q).v := fun q hq => inS_sl (h.l q hq) fun e he => hS e (mem_fp.2 (.inr (.inr ⟨q, hq, he⟩)))
    simp only [List.mem_cons, List.not_mem_nil, or_false] at hv
    rcases hv with rfl | rfl | rfl | rfl | rfl | rfl
    · exact inS_sl h.t fun e he => hS e (mem_fp.2 (.inr (.inl he)))
    · exact hq 0 (by omega)
    · exact hq 1 (by omega)
    · exact hq 2 (by omega)
    · exact hq 3 (by omega)
    · exact trivial
  · exact own h.t inS_th hm
  · exact own (h.l q hq) inS_int hm

theorem stamp_b (hi : InvZ z) {k : Nat} {x : Th} (hx : z.t[k]? = some x) : 0 ≤ x.Stamp ∧ x.Stamp ≤ 1099511627776 := by
  obtain ⟨_, _, _, h4, h5⟩ := hi.th x (List.mem_of_getElem? hx)
  have := hi.n2
  by_cases e : x.Place = 4
  · have := h5 e; omega
  · have := h4 e; omega

/-- The things of which f holds, gathered. -/
theorem gather_c {H0 : Heap} (hz : ∀ H', Frs [] H0 H' → ZR [] H' b z st ss) {f : Th → Bool} {k : Sl → Heap → Prop} {F : ((Sl × Int × Unit) × Unit → Heap → Prop) → (Sl × Int × Unit) × Unit → Heap → Prop}
    (hF : ∀ (G : (Sl × Int × Unit) × Unit → Heap → Prop) (s : Sl) (n : Nat) (H' : Heap) (l sp : List Int), ZR [] H' b z st ss → NewO TN H0 s H' l sp → l.length ≤ n → (∀ (h : n < z.t.length), (f z.t[n] = true → ∀ s' H2 sp', NewO TN H0 s' H2 (l ++ [(n : Int) + 1]) sp' → G ((s', (n : Int) + 1, ()), ()) H2) → (f z.t[n] = false → G ((s, (n : Int) + 1, ()), ()) H') → F G ((s, n, ()), ()) H') ∧ (n = z.t.length → k s H' → F G ((s, n, ()), ()) H'))
    (hk : ∀ s' H' sp, NewO TN H0 s' H' (numsZ z.t f z.t.length) sp → k s' H') : LOOP F ((Sl.mk none 0 0, 0, ()), ()) H0 := by
  refine loop_of (fun (s : (Sl × Int × Unit) × Unit) H' => ∃ (n : Nat) (sp : List Int), s.1.2.1 = n ∧ n ≤ z.t.length ∧ NewO TN H0 s.1.1 H' (numsZ z.t f n) sp) (fun s => z.t.length - s.1.2.1.toNat) ?_ ⟨0, [], rfl, Nat.zero_le _, ⟨Ow.nil TN H0, by simp, .refl _ _⟩⟩
  rintro G ⟨⟨s, i, _⟩, _⟩ H' ⟨n, sp, hi', hn, n1⟩ hG
  simp only at hi' n1; subst hi'
  obtain ⟨g1, g2⟩ := hF G s n H' _ sp (hz H' n1.2.2) n1 (numsZ_le n)
  by_cases hlt : n < z.t.length
  · refine g1 hlt (fun hf s' H2 sp' n2 => hG _ _ ⟨n + 1, sp', by simp, hlt, ?_⟩ (by simp; omega)) (fun hf => hG _ _ ⟨n + 1, sp, by simp, hlt, ?_⟩ (by simp; omega))
    · rw [numsZ_succ hlt, if_pos hf]; exact n2
    · rw [numsZ_succ hlt, if_neg (by rw [hf]; simp)]; simpa using n1
  · have : n = z.t.length := by omega
    subst this
    exact g2 rfl (hk _ _ _ n1)

theorem app1 {H0 H' : Heap} {s : Sl} {l sp : List Int} (n1 : NewO TN H0 s H' l sp) (hl : l.length ≤ 1048600) (x : Int) {k : Sl → Heap → Prop} (hk : ∀ s' H2 sp', NewO TN H0 s' H2 (l ++ [x]) sp' → k s' H2) : APP T_sl (lenV s.v + 1) (aAppE E [22, 22] s.v 1 [.int .i64 x] H') k :=
  app_c KInts.tyS rfl (fun _ => by simp) (m := 1) [x] rfl rfl (by show 2 * (l.length + 1) * 4096 ≤ _; omega) n1.1 fun s' H2 sp' k1 k2 k3 => hk s' H2 sp' (n1.app k1 k2 k3)

theorem ptable_c (h : ZR [] H b z st ss) (hi : InvZ z) {Q : Sl × Unit → Heap → Prop} (hq : ∀ s' H' l sp, IsTab z l → NewO TN H s' H' l sp → Q (s', ()) H') : CALL P [T_sl] n_zone_Zones_Table [ad b] H Q := by
  apply c_zone_Zones_Table
  unfold S_zone_Zones_Table NEW
  have few := hi.few
  have htl := h.tl
  have f0 : Frs [] H (mk H [ad b] 1 false) := Frs.app _ _ _
  have hcell : (mk H [ad b] 1 false)[H.length]? = some (.row [ad b] 1 false false true) := by simp [mk]
  generalize hH1 : mk H [ad b] 1 false = H1 at f0 hcell
  have h1 := h.new f0
  have hblt := h.lt
  refine LD_of (T := T_ptr) _ [] [] hcell rfl rfl rfl (is_c h1 hi.n1 (ifB_f rfl (LD_of (T := T_ptr) _ [] [] hcell rfl rfl rfl (h1.ld_t rfl ?_))))
  refine JOIN_inv (fun y H3 => ∃ sp, NewO TN H1 (y : (Sl × Unit) × Unit).1.1 H3 (numsZ z.t (fun t => t.Place == 4) z.t.length) sp) (fun j hj => ?_) ?_
  · refine gather_c (fun H' f => h1.new f) (f := fun t => t.Place == 4) (k := fun s H' => j ((s, ()), ()) H') (fun G s n H' l sp hz' n1 hln => ⟨fun hlt g1 g2 => ?_, fun hge hk => ?_⟩) fun s H3 sp n1 => hj _ _ ⟨sp, n1⟩
    · dsimp only
      have hx : z.t[n]? = some z.t[n] := List.getElem?_eq_getElem hlt
      refine ifB_t (decide_eq_true (by omega)) (hz'.ld_th rfl hx (JOIN_of (ifB_of (fun h1 => ?_) (fun h1 => ?_))))
      · rw [i64w (by omega) (by omega)]
        exact app1 n1 (by omega) _ fun s' H2 sp' n2 => g1 h1 s' H2 sp' n2
      · rw [i64w (by omega) (by omega)]
        exact g2 h1
    · dsimp only
      exact ifB_f (decide_eq_false (by omega)) hk
  · rintro ⟨⟨s, _⟩, _⟩ H3 ⟨sp, n1⟩
    simp only at n1
    dsimp only
    have hz3 := h1.new n1.2.2
    have hcell3 : H3[H.length]? = some (.row [ad b] 1 false false true) := n1.2.2.get (by simp) hcell
    have hfn : ∃ fn, P.funcs[n_slices_SortFunc_int_int]? = some fn ∧ fn.body.isSome = true ∧ (fn.name == "runtime.NumGoroutine") = false := by
      obtain ⟨nm, hnm, hf⟩ := laysF.f6
      exact ⟨_, hf, by kernel_rfl, hnm⟩
    obtain ⟨o1, o2, o0, ⟨o3, o4, o5⟩ | ⟨c, o3, o4⟩⟩ := id n1.1
    · -- nothing lies on the table
      obtain ⟨p, n, cp⟩ := s
      simp only at o1 o3; subst o3
      rw [o4] at o1; simp at o1; subst o1
      refine none_ev hfn (us := [_]) (fun p cap vs w hv => ?_) ?_
      · obtain ⟨v, rfl⟩ := List.length_eq_one_iff.1 hv
        exact slices_SortFunc_none (α := Int) p cap v w
      · exact hq _ H3 _ sp ⟨List.Perm.refl _, by rw [show onT z = [] from o4]; exact List.Pairwise.nil⟩ ⟨n1.1, fun d hd => (by cases hd), f0.trans n1.2.2⟩
    · have hcl := get_lt o4
      have hc1 : H1.length ≤ c := n1.2.1 c o3
      have hH1l : H1.length = H.length + 1 := by rw [← hH1]; simp [mk]
      by_cases hne : z.t.length = 0
      · -- no things at all
        obtain ⟨p, n, cp⟩ := s
        have e0 : numsZ z.t (fun t => t.Place == 4) z.t.length = [] := by rw [hne]; rfl
        simp only at o1 o3; rw [e0] at o1; simp at o1; subst o1
        refine none_ev hfn (us := [_]) (fun p cap vs w hv => ?_) ?_
        · obtain ⟨v, rfl⟩ := List.length_eq_one_iff.1 hv
          exact slices_SortFunc_none (α := Int) p cap v w
        · exact hq _ H3 _ sp ⟨List.Perm.refl _, by rw [show onT z = [] from e0]; exact List.Pairwise.nil⟩ ⟨n1.1, fun d hd => by have := n1.2.1 d hd; omega, f0.trans n1.2.2⟩
      have hpos : 0 < z.t.length := by omega
      let A := Fin z.t.length
      let enc : A → Int := fun k => ((k.1 : Nat) : Int) + 1
      let cf : A → A → Int := fun x y => (z.t[x.1]'x.2).Stamp - (z.t[y.1]'y.2).Stamp
      have inst : Inhabited A := ⟨⟨0, hpos⟩⟩
      obtain ⟨d, hd⟩ := exists_map (enc := enc) (numsZ z.t (fun t => t.Place == 4) z.t.length) fun m hm => by
        obtain ⟨k, x, k1, rfl, _⟩ := mem_numsZ.1 hm
        exact ⟨⟨k, k1⟩, rfl⟩
      have hdl : d.length = (numsZ z.t (fun t => t.Place == 4) z.t.length).length := by rw [← hd]; simp
      have hdn := numsZ_le (t := z.t) (f := fun t => t.Place == 4) z.t.length
      obtain ⟨p, n, cp⟩ := s
      simp only at o1 o2 o3; subst o3
      rw [← hdl] at o1; subst o1
      rw [← hd] at o4
      have hO : Go.Sort.SWO (ltOf cf) := by
        have e : ∀ x y, ltOf cf x y = decide ((z.t[x.1]'x.2).Stamp < (z.t[y.1]'y.2).Stamp) := fun x y => by
          simp only [ltOf, cf]; congr 1; rw [eq_iff_iff]; omega
        refine ⟨fun x => by rw [e]; simp, fun x y w => ?_, fun x y w => ?_⟩
        · simp only [e, decide_eq_true_eq]; omega
        · simp only [e, decide_eq_false_iff_not]; omega
      have hcS : c ∉ H.length :: fp b st ss := fun hm => by
        rcases List.mem_cons.1 hm with e | hm
        · omega
        · have := h.lt c hm; omega
      have hS : ∀ r : ABlk, Clo (H.length :: fp b st ss) (H3.set c r) := fun r d hd => by
        have hdc : d ≠ c := fun e => hcS (e ▸ hd)
        rw [List.getElem?_set_ne (Ne.symm hdc)]
        rcases List.mem_cons.1 hd with rfl | hm
        · refine ⟨_, _, _, _, _, hcell3, fun v hv => ?_⟩
          simp at hv; subst hv
          exact ⟨List.mem_cons_of_mem _ (mem_fp.2 (.inl rfl)), rfl⟩
        · exact hz3.clo (fun d hd => List.mem_cons_of_mem _ hd) d hm
      have hcmp : ∀ dk : List A, dk.length = d.length → ∀ x y, EV P n_zone_Zones_Table_1 ([.int .i64 (enc x), .int .i64 (enc y)] ++ [.pointer (some ⟨H.length, 0, none⟩)]) (frz (H3.set c (rowI (dk.map enc ++ sp)))) fun v _ => v = .int .i64 (cf x y) := fun dk _ x y => by
        have hget : ∀ e : Nat, e ≠ c → (H3.set c (rowI (dk.map enc ++ sp)))[e]? = H3[e]? := fun e he => List.getElem?_set_ne (Ne.symm he)
        obtain ⟨sz, hr⟩ := hz3.row
        have hbc : b ≠ c := fun e => hcS (e ▸ List.mem_cons_of_mem _ (mem_fp.2 (.inl rfl)))
        refine EV.mono (tab1_c (cb := H.length) (b := b) (st := st) (t := z.t) (i := x.1) (j := y.1) ⟨_, _, _, frz_get (by rw [hget _ (by omega)]; exact hcell3)⟩ ⟨_, _, _, _, frz_get (by rw [hget _ hbc]; exact hr)⟩ ?_ (List.getElem?_eq_getElem x.2) (List.getElem?_eq_getElem y.2) (by omega) (stamp_b hi (List.getElem?_eq_getElem x.2)) (stamp_b hi (List.getElem?_eq_getElem y.2)) (Q := fun r _ => r.1 = cf x y) rfl) ?_
        · have hfr : Frs [c] H3 (H3.set c (rowI (dk.map enc ++ sp))) := Frs.set _ _ (by simp)
          exact (hz3.t.slf.frs hfr (fun e he off hp => by
            simp at he; subst he
            exact hcS (List.mem_cons_of_mem _ (mem_fp.2 (.inr (.inl (by rw [hp]; simp [bl]))))))).frz
        · rintro v H' ⟨r, rfl, hr⟩
          obtain ⟨r, _⟩ := r
          simp only at hr; subst hr; rfl
      have eg : ∀ args w, (callFunc n_zone_Zones_Table_1 args).run P w = .ok (.enter n_zone_Zones_Table_1 args) w := by
        obtain ⟨fn, hf, hb, hn⟩ := (hcmp d rfl ⟨0, hpos⟩ ⟨0, hpos⟩).1
        obtain ⟨c, hc⟩ := Option.isSome_iff_exists.1 hb
        exact enters_of hf hn hc
      have hsf := sortFunc_ev (P := P) (ρ := laysF_ren) laysF hfn (α := A) enc cf hO (H := H3) (b := c) (cap := cp) (d := d) (sp := sp) o4 (by omega) (g := n_zone_Zones_Table_1) (cv := [.pointer (some ⟨H.length, 0, none⟩)]) eg (S := H.length :: fp b st ss) (fun dk _ => hS _)
        (fun v hv => by simp at hv; subst hv; exact ⟨List.mem_cons_self, rfl⟩)
        hcmp
        (Q := fun H' => Q (⟨some ⟨c, 0, none⟩, d.length, cp⟩, ()) H')
        (fun d' hp hso => by
          refine hq _ _ (d'.map enc) sp ⟨by rw [show onT z = d.map enc from hd.symm]; exact hp.map enc, ?_⟩ ⟨⟨by simp [hp.length_eq], by simp only; rw [List.length_map, hp.length_eq]; rw [o2, ← hdl], o0, .inr ⟨c, rfl, by rw [set_get hcl]; rfl⟩⟩, fun e he => by simp at he; subst he; omega, f0.trans (n1.2.2.then (Frs.set (B := [c]) _ _ (by simp)) fun e he => by simp at he; subst he; exact .inr hc1)⟩
          rw [List.pairwise_map, List.pairwise_iff_getElem]
          intro i j hil hjl hij
          have := hso i j hij d'[i] d'[j] (List.getElem?_eq_getElem hil) (List.getElem?_eq_getElem hjl)
          simp only [ltOf, cf, decide_eq_false_iff_not] at this
          show (atZ z (((d'[i]).1 : Int) + 1)).Stamp ≤ (atZ z (((d'[j]).1 : Int) + 1)).Stamp
          rw [atZ_at (List.getElem?_eq_getElem d'[i].2), atZ_at (List.getElem?_eq_getElem d'[j].2)]
          omega)
      exact hsf
end
end

section
/- A look into a place; the document's table. -/
section
/- A look into a place; the document's table. -/
open Zv
section
variable {H : Heap} {b : Nat} {z : Zo} {st : Sl} {ss : Nat → Sl}
/-- A list's numbers, sifted. -/
theorem sift_c {e : List Value} {H0 : Heap} (hz : ∀ H', Frs [] H0 H' → ZR e H' b z st ss) {a : Sl} {l : List Int} (ha : SlF TN H0 a l) {f : Int → Bool} {k : Sl → Heap → Prop} {F : ((Sl × Int × Unit) × Unit → Heap → Prop) → (Sl × Int × Unit) × Unit → Heap → Prop}
    (hF : ∀ (G : (Sl × Int × Unit) × Unit → Heap → Prop) (s : Sl) (n : Nat) (H' : Heap) (l2 sp : List Int), ZR e H' b z st ss → SlF TN H' a l → NewO TN H0 s H' l2 sp → l2.length ≤ n → (∀ (h : n < l.length), (f l[n] = true → ∀ s' H2 sp', NewO TN H0 s' H2 (l2 ++ [l[n]]) sp' → G ((s', (n : Int) + 1, ()), ()) H2) → (f l[n] = false → G ((s, (n : Int) + 1, ()), ()) H') → F G ((s, n, ()), ()) H') ∧ (n = l.length → k s H' → F G ((s, n, ()), ()) H'))
    (hk : ∀ s' H' sp, NewO TN H0 s' H' (l.filter f) sp → k s' H') : LOOP F ((Sl.mk none 0 0, 0, ()), ()) H0 := by
  refine loop_of (fun (s : (Sl × Int × Unit) × Unit) H' => ∃ (n : Nat) (sp : List Int), s.1.2.1 = n ∧ n ≤ l.length ∧ NewO TN H0 s.1.1 H' ((l.take n).filter f) sp) (fun s => l.length - s.1.2.1.toNat) ?_ ⟨0, [], rfl, Nat.zero_le _, ⟨Ow.nil TN H0, by simp, .refl _ _⟩⟩
  rintro G ⟨⟨s, i, _⟩, _⟩ H' ⟨n, sp, hi', hn, n1⟩ hG
  simp only at hi' n1; subst hi'
  have hle : ((l.take n).filter f).length ≤ n := by have := List.length_filter_le f (l.take n); simp at this; omega
  obtain ⟨g1, g2⟩ := hF G s n H' _ sp (hz H' n1.2.2) (ha.frs n1.2.2 (by simp)) n1 hle
  by_cases hlt : n < l.length
  · have nxt : (l.take (n + 1)).filter f = (l.take n).filter f ++ if f l[n] = true then [l[n]] else [] := by
      rw [List.take_succ_eq_append_getElem hlt, List.filter_append]
      simp only [List.filter_cons, List.filter_nil]
    refine g1 hlt (fun hf s' H2 sp' n2 => hG _ _ ⟨n + 1, sp', by simp, hlt, ?_⟩ (by simp; omega)) (fun hf => hG _ _ ⟨n + 1, sp, by simp, hlt, ?_⟩ (by simp; omega))
    · rw [nxt, if_pos hf]; exact n2
    · rw [nxt, if_neg (by rw [hf]; simp)]; simpa using n1
  · have : n = l.length := by omega
    subst this
    rw [List.take_length] at n1
    exact g2 rfl (hk _ _ _ n1)

theorem NewO.mono {T : Tag} {H H1 H' : Heap} {s : Sl} {l sp : List T.α} (h : NewO T H1 s H' l sp) (f : Frs [] H H1) : NewO T H s H' l sp :=
  ⟨h.1, fun d hd => Nat.le_trans f.1 (h.2.1 d hd), f.trans h.2.2⟩
theorem nil_new (H : Heap) : NewO TN H ⟨none, 0, 0⟩ H [] [] := ⟨Ow.nil TN H, by simp, .refl _ _⟩
theorem tab_le (hi : InvZ z) {tab : List Int} (h : IsTab z tab) : tab.length ≤ 2048 := by
  rw [h.1.length_eq]; exact Nat.le_trans (numsZ_le _) hi.few
theorem tab_at {tab : List Int} (h : IsTab z tab) {n : Nat} (hn : n < tab.length) : ∃ (k : Nat) (x : Th), tab[n] = (k : Int) + 1 ∧ z.t[k]? = some x ∧ x.Place = 4 := mem_onT.1 (h.1.mem_iff.1 (List.getElem_mem hn))

theorem pin_c (h : ZR [] H b z st ss) (hi : InvZ z) {p pl : Int} {Q : Sl × Unit → Heap → Prop} (hq : ∀ s' H' l sp, IsIn z p pl l → NewO TN H s' H' l sp → Q (s', ()) H') : CALL P [T_sl] n_zone_Zones_In [ad b, .int .i64 p, .int .u8 pl] H Q := by
  apply c_zone_Zones_In
  unfold S_zone_Zones_In
  have few := hi.few
  refine JB (H := H) (¬ (p = 0 ∨ p = 1)) (fun j hj => is_c h hi.n1 (ifB_f rfl (player_c fun r hr => hj _ ?_))) fun r hr => ifB_of (fun h1 => ?_) (fun h1 => ?_)
  · rw [← hr]; cases r <;> simp
  · exact hq _ H [] [] (.inl ⟨hr.1 h1, rfl⟩) (nil_new H)
  have hp : p = 0 ∨ p = 1 := Classical.byContradiction fun q => by rw [hr.2 q] at h1; cases h1
  refine list_c hp fun r hr => ?_
  rcases hr with ⟨e1, rfl⟩ | ⟨i, e1, rfl⟩
  · have hpl : pl ≠ 1 ∧ pl ≠ 2 := by
      unfold li at e1
      split at e1
      · cases e1
      · split at e1
        · cases e1
        · exact ⟨by assumption, by assumption⟩
    refine ifB_f rfl (ifB_of (fun h4 => ?_) (fun h4 => ?_))
    · have h4 : pl = 4 := by simpa using h4
      refine ptable_c h hi fun s6 H6 tab sp6 ht n6 => ?_
      have hz6 := h.new n6.2.2
      have tl := tab_le hi ht
      have hsl : s6.len = tab.length := n6.1.slf.1
      refine JOIN_of ?_
      refine sift_c (fun H' f => hz6.new f) n6.1.slf (f := fun m => (atZ z m).Owner == p) (k := fun s H' => Q (s, ()) H') (fun G s n H' l2 sp hz' ha' n1 hln => ⟨fun hlt g1 g2 => ?_, fun hge hk => ?_⟩) fun s7 H7 sp7 n7 => hq s7 H7 _ sp7 (.inr ⟨hp, .inr (.inr (.inl ⟨h4, tab, ht, rfl⟩))⟩) (n7.mono n6.2.2)
      · dsimp only
        obtain ⟨k, x, ek, hk, hx4⟩ := tab_at ht hlt
        have hkl := (List.getElem?_eq_some_iff.1 hk).1
        refine ifB_t (decide_eq_true (by omega)) (idx_ldF (T := TN) hTN ha' rfl (List.getElem?_eq_getElem hlt) rfl (hz'.ld_t rfl ?_))
        rw [i64w (x := tab[n] - 1) (by omega) (by omega)]
        have hat : atZ z tab[n] = x := by rw [ek]; exact atZ_at hk
        refine idx_owner hz'.t.slf (n := k) (by omega) hk (JOIN_of (ifB_of (fun h1 => ?_) (fun h1 => ?_)))
        · rw [i64w (by omega) (by omega)]
          exact app1 n1 (by omega) _ fun s' H2 sp' n2 => g1 (by simp only [hat]; exact h1) s' H2 sp' n2
        · rw [i64w (by omega) (by omega)]
          exact g2 (by simp only [hat]; exact h1)
      · dsimp only
        exact ifB_f (decide_eq_false (by omega)) hk
    · have h4 : pl ≠ 4 := by simpa using h4
      have htl := h.tl
      refine h.ld_t rfl (JOIN_of ?_)
      refine gather_c (fun H' f => h.new f) (f := fun t => t.Owner == p && t.Place == pl) (k := fun s H' => Q (s, ()) H') (fun G s n H' l2 sp hz' n1 hln => ⟨fun hlt g1 g2 => ?_, fun hge hk => ?_⟩) fun s7 H7 sp7 n7 => hq s7 H7 _ sp7 (.inr ⟨hp, .inr (.inr (.inr ⟨hpl.1, hpl.2, h4, rfl⟩))⟩) n7
      · dsimp only
        have hx : z.t[n]? = some z.t[n] := List.getElem?_eq_getElem hlt
        refine ifB_t (decide_eq_true (by omega)) (hz'.ld_th rfl hx (JB (H := H') ((z.t[n].Owner == p && z.t[n].Place == pl) = true) (fun j hj => ifB_of (fun h1 => hj _ ?_) (fun h1 => hj _ ?_)) fun r hr => JOIN_of (ifB_of (fun h1 => ?_) (fun h1 => ?_))))
        · rw [h1]; simp
        · rw [h1]; simp
        · rw [i64w (by omega) (by omega)]
          exact app1 n1 (by omega) _ fun s' H2 sp' n2 => g1 (hr.1 h1) s' H2 sp' n2
        · rw [i64w (by omega) (by omega)]
          exact g2 (by cases hf : (z.t[n].Owner == p && z.t[n].Place == pl) with | false => rfl | true => rw [hr.2 hf] at h1; cases h1)
      · dsimp only
        exact ifB_f (decide_eq_false (by omega)) hk
  · have hi4 := li_lt hp e1
    have := hi.len i
    refine ifB_t rfl (h.ld_q hi4 rfl (toldi_c (h.l i hi4).slf (by omega) fun s' H' sp n1 => hq s' H' _ sp (.inr ⟨hp, ?_⟩) n1))
    unfold li at e1
    split at e1
    · simp at e1; subst e1; exact .inl ⟨by assumption, rfl⟩
    · split at e1
      · simp at e1; subst e1; exact .inr (.inl ⟨by assumption, rfl⟩)
      · cases e1
theorem pdeck_c (h : ZR [] H b z st ss) (hi : InvZ z) {p : Int} {Q : Sl × Unit → Heap → Prop} (hq : ∀ s' H' l sp, IsIn z p 1 l → NewO TN H s' H' l sp → Q (s', ()) H') : CALL P [T_sl] n_zone_Zones_Deck [ad b, .int .i64 p] H Q := by
  apply c_zone_Zones_Deck
  unfold S_zone_Zones_Deck
  exact pin_c h hi hq
theorem phand_c (h : ZR [] H b z st ss) (hi : InvZ z) {p : Int} {Q : Sl × Unit → Heap → Prop} (hq : ∀ s' H' l sp, IsIn z p 2 l → NewO TN H s' H' l sp → Q (s', ()) H') : CALL P [T_sl] n_zone_Zones_Hand [ad b, .int .i64 p] H Q := by
  apply c_zone_Zones_Hand
  unfold S_zone_Zones_Hand
  exact pin_c h hi hq

end
end

section
/- The program's arranging: a deck in another order. -/
open Zv
/-- A cell of its own. -/
def Cl1 (H : Heap) (b : Nat) (v : Value) : Prop := ∃ sz, H[b]? = some (.row [v] sz false false true)
theorem Cl1.ld {H : Heap} {b : Nat} {s : Sl} {k : Sl → Prop} (h : Cl1 H b s.v) (hk : k s) : LD T_sl H b 0 k := by
  obtain ⟨sz, h⟩ := h
  exact LD_of (T := T_sl) s [] [] h rfl rfl rfl hk

theorem vals1_c {H : Heap} {cl : Nat} {sl : Sl} {l : List Int} {Y : Value} (hl : l.length ≤ 1048600) (I : Nat → Heap → Prop) (hcl : Cl1 H cl sl.v) (hsl : sl.len = l.length) (hc : ∀ n H', I n H' → SlF TN H' sl l)
    (hy : ∀ n x H', l[n]? = some x → I n H' → CALLV P [T_bool] Y [.int .i64 x] H' fun r H2 => r.1 = true ∧ I (n + 1) H2) (h0 : I 0 H) {Q : Unit → Heap → Prop} (hq : ∀ H', I l.length H' → Q () H') : CALL P [] n_slices_Values_int_int_1 [Y, ad cl] H Q := by
  apply c_slices_Values_int_int_1 (c0 := (cl, 0))
  unfold S_slices_Values_int_int_1
  refine hcl.ld (JOIN_of ?_)
  refine loop_of (fun (s5 : (Int × Unit) × Unit) H2 => ∃ n : Nat, s5.1.1 = n ∧ n ≤ l.length ∧ I n H2) (fun s5 => l.length - s5.1.1.toNat) ?_ ⟨0, rfl, Nat.zero_le _, h0⟩
  rintro G ⟨⟨i, _⟩, _⟩ H2 ⟨n, hi, hn, hI⟩ hG
  simp only at hi; subst hi
  dsimp only at hG ⊢
  refine ifB_of (fun hlt => ?_) (fun hge => ?_)
  · have hlt : n < l.length := by have := of_decide_eq_true hlt; omega
    have hx : l[n]? = some l[n] := List.getElem?_eq_getElem hlt
    refine idx_ldF (T := TN) hTN (hc n H2 hI) rfl hx rfl ?_
    rcases hy n _ H2 hx hI with ⟨g, xs, ys, e1, e2⟩ | ⟨y, e1, e2⟩
    · refine .inl ⟨g, xs, ys, e1, e2.mono fun r H3 ⟨hr, hi⟩ => ifB_f (by rw [hr]; rfl) ?_⟩
      rw [i64w (by omega) (by omega)]
      exact hG _ _ ⟨n + 1, by simp, hlt, hi⟩ (by simp; omega)
    · refine .inr ⟨y, e1, fun m M w args' en k1 k2 k3 => ?_⟩
      obtain ⟨L, q1, q2, q3⟩ := e2 m M w args' en k1 k2 k3
      refine ⟨L, q1, q2, RoundIn.mono q3 ?_⟩
      rintro e w' ⟨v, v', M', H', rfl, t1, t2, r, rfl, hr, hi⟩
      refine ⟨_, v', M', H', rfl, t1, t2, r, rfl, ifB_f (by rw [hr]; rfl) ?_⟩
      rw [i64w (by omega) (by omega)]
      exact hG _ _ ⟨n + 1, by simp, hlt, hi⟩ (by simp; omega)
  · have hge : n = l.length := by have := of_decide_eq_false hge; omega
    subst hge
    exact hq H2 hI

theorem appendSeq_c {H : Heap} {cl : Nat} {sl : Sl} {l : List Int} (hcl : Cl1 H cl sl.v) (hs : SlF TN H sl l) (hl : l.length ≤ 1048600) {Q : Sl × Unit → Heap → Prop} (hq : ∀ s' H' sp, NewO TN H s' H' l sp → Q (s', ()) H') :
    CALL P [T_sl] n_slices_AppendSeq_int_int [(Sl.mk none 0 0).v, .func (.func n_slices_Values_int_int_1) #[] #[ad cl]] H Q := by
  apply c_slices_AppendSeq_int_int
  unfold S_slices_AppendSeq_int_int NEW
  have f0 : Frs [] H (mk H [.slice none 0 0] 1 false) := Frs.app _ _ _
  have l0 : (mk H [.slice none 0 0] 1 false).length = H.length + 1 := by simp [mk]
  have c0 : Cl1 (mk H [.slice none 0 0] 1 false) H.length (Sl.mk none 0 0).v := ⟨1, by simp [mk, Sl.v]⟩
  generalize mk H [.slice none 0 0] 1 false = H1 at f0 l0 c0
  refine JOIN_of ⟨_, _, _, rfl, fun lb hr => ?_⟩
  have hcl' : Cl1 (H1 ++ [lb .ready none]) cl sl.v := by
    obtain ⟨sz, h1⟩ := hcl
    have h2 := f0.get (by simp) h1
    exact ⟨sz, by rw [List.getElem?_append_left (get_lt h2)]; exact h2⟩
  have := vals1_c (H := H1 ++ [lb .ready none]) (Y := .func (.yield H1.length) #[] #[]) hl (fun n H' => H'[H1.length]? = some (lb .ready none) ∧ ∃ (s : Sl) (sp : List Int), Cl1 H' H.length s.v ∧ Ow TN H' s (l.take n) sp ∧ (∀ d, s.p = some ⟨d, 0, none⟩ → H1.length < d) ∧ Frs [] H H') hcl' hs.1 (fun n H' hi => ?_) (fun n x H' hx hi => ?_) ?_ (Q := fun _ H2 => ∃ st pend, H2[H1.length]? = some (lb st pend) ∧ st ≠ .busy ∧ pend.getD .normal = .normal ∧ LD T_sl (H2.set H1.length (lb .exhausted pend)) H.length 0 fun x9 => Q (x9, ()) (H2.set H1.length (lb .exhausted pend))) fun H' hi => ?_
  · exact EV.mono this fun v H' ⟨x, _, st, pend, g1, g2, g3⟩ => ⟨st, pend, g1, g2, .inl g3⟩
  · obtain ⟨_, s, sp, _, _, _, f⟩ := hi
    exact hs.frs f (by simp)
  · obtain ⟨hrd, s, sp, ⟨sz, hc1⟩, how, hnew, f⟩ := hi
    have hlt := get_lt hrd
    have fb : Frs [H1.length] H' (H'.set H1.length (lb .busy none)) := Frs.set _ _ (by simp)
    have hcb : (H'.set H1.length (lb .busy none))[H.length]? = some (.row [s.v] sz false false true) := fb.get (by simp; omega) hc1
    have howb : Ow TN (H'.set H1.length (lb .busy none)) s (l.take n) sp := how.frs fb (fun d hd e => by simp at hd; subst hd; have := hnew _ e; omega)
    refine .inr ⟨H1.length, rfl, hr (x, ()) H' _ ⟨hrd, hrd, LD_of (T := T_sl) s [] [] hcb rfl rfl rfl ?_⟩⟩
    have htl : (l.take n).length ≤ 1048600 := by simp; omega
    refine app_c KInts.tyS rfl (fun _ => by simp) (m := 1) [x] rfl rfl (by show 2 * ((l.take n).length + 1) * 4096 ≤ _; omega) howb fun s' H5 sp' k1 k2 k3 => ?_
    have hHl : H.length < (H'.set H1.length (lb .busy none)).length := get_lt hcb
    have hp5 : s'.p = s.p ∨ s'.p = some ⟨H'.length, 0, none⟩ := by
      rcases k2 with q | ⟨q, _⟩
      · exact .inl q
      · exact .inr (by simpa using q)
    have hsne : ∀ d, s.p = some ⟨d, 0, none⟩ → H1.length < d := hnew
    have hc5 : H5[H.length]? = some (.row [s.v] sz false false true) := by
      rw [k3.2 _ hHl (fun e => by have := hsne _ e; omega)]; exact hcb
    have hb5 : H5[H1.length]? = some (lb .busy none) := by
      rw [k3.2 _ (by simpa using hlt) (fun e => by have := hsne _ e; omega), set_get hlt]
    refine ST_of [] [s.v] [] hc5 rfl rfl rfl rfl ?_
    have hnew' : ∀ d, s'.p = some ⟨d, 0, none⟩ → H1.length < d := fun d hd => by
      rcases hp5 with q | q
      · exact hnew d (by rw [← q]; exact hd)
      · rw [q] at hd; simp at hd; omega
    have fs : Frs [H.length] H5 (H5.set H.length (.row ([] ++ ([.slice s'.p s'.len s'.cap] ++ [])) sz false false true)) := Frs.set _ _ (by simp)
    have hb6 := fs.get (c := H1.length) (by simp; omega) hb5
    refine ⟨hb6, (true, ()), rfl, rfl, ?_⟩
    generalize hH6 : H5.set H.length (.row ([] ++ ([.slice s'.p s'.len s'.cap] ++ [])) sz false false true) = H6 at fs hb6
    have fr : Frs [H1.length] H6 (H6.set H1.length (lb .ready none)) := Frs.set _ _ (by simp)
    have hc6 : H6[H.length]? = some (.row [s'.v] sz false false true) := by rw [← hH6, set_get (get_lt hc5)]; rfl
    refine ⟨set_get (get_lt hb6), s', sp', ⟨sz, fr.get (by simp; omega) hc6⟩, ?_, hnew', ?_⟩
    · have e : l.take (n + 1) = l.take n ++ [x] := by
        obtain ⟨h1, h2⟩ := List.getElem?_eq_some_iff.1 hx
        rw [List.take_succ_eq_append_getElem h1, h2]
      rw [e]
      exact (k1.frs fs fun d hd e => by simp at hd; subst hd; have := hnew' _ e; omega).frs fr fun d hd e => by simp at hd; subst hd; have := hnew' _ e; omega
    · have fa : Frs (bl s.p) (H'.set H1.length (lb .busy none)) H5 := k3.frs fun d hd => .inl (by rw [hd]; simp [bl])
      refine (((f.then fb fun c hc => ?_).then fa fun c hc => ?_).then fs fun c hc => ?_).then fr fun c hc => ?_
      · simp at hc; exact .inr (by omega)
      · rcases how.j.ptr with q | ⟨d, q, q2⟩
        · rw [q] at hc; simp [bl] at hc
        · rw [q2] at hc; simp at hc; subst hc; have := hnew _ q; exact .inr (by omega)
      · simp at hc; exact .inr (by omega)
      · simp at hc; exact .inr (by omega)
  · obtain ⟨sz, h1⟩ := c0
    refine ⟨by simp, ⟨none, 0, 0⟩, [], ⟨sz, by rw [List.getElem?_append_left (get_lt h1)]; exact h1⟩, by simpa using Ow.nil TN _, fun d hd => by simp at hd, f0.trans (Frs.app _ _ _)⟩
  · obtain ⟨hrd, s, sp, ⟨sz, hc1⟩, how, hnew, f⟩ := hi
    rw [List.take_length] at how
    refine ⟨.ready, none, hrd, by simp, rfl, ?_⟩
    have fr : Frs [H1.length] H' (H'.set H1.length (lb .exhausted none)) := Frs.set _ _ (by simp)
    refine LD_of (T := T_sl) s [] [] (fr.get (by simp; omega) hc1) rfl rfl rfl (hq s _ sp ⟨how.frs fr fun d hd e => by simp at hd; subst hd; have := hnew _ e; omega, fun d hd => by have := hnew d hd; omega, f.then fr fun c hc => ?_⟩)
    simp at hc; exact .inr (by omega)

/-- The sort of a list's copy. -/
def srt (l : List Int) : List Int := l.mergeSort fun x y => decide (x ≤ y)
theorem srt_perm (l m : List Int) : srt l = srt m ↔ l.Perm m := by
  constructor
  · intro h
    exact ((List.mergeSort_perm l _).symm.trans (List.Perm.of_eq h)).trans (List.mergeSort_perm m _)
  · intro h
    refine List.Perm.eq_of_pairwise (le := fun a b => decide (a ≤ b) = true) (fun a b _ _ h1 h2 => ?_) ?_ ?_ (((List.mergeSort_perm l _).trans h).trans (List.mergeSort_perm m _).symm)
    · have := of_decide_eq_true h1; have := of_decide_eq_true h2; omega
    · exact List.pairwise_mergeSort (fun a b c h1 h2 => by simp at *; omega) (fun a b => by simp; omega) l
    · exact List.pairwise_mergeSort (fun a b c h1 h2 => by simp at *; omega) (fun a b => by simp; omega) m
theorem values_c {H : Heap} {sl : Sl} {Q : Value × Unit → Heap → Prop} (hq : ∀ H', Cl1 H' H.length sl.v → Frs [] H H' → H'.length = H.length + 1 → Q (.func (.func n_slices_Values_int_int_1) #[] #[ad H.length], ()) H') : CALL P [T_any] n_slices_Values_int_int [sl.v] H Q := by
  apply c_slices_Values_int_int
  unfold S_slices_Values_int_int NEW
  exact hq _ ⟨1, by simp [mk, Sl.v]⟩ (Frs.app _ _ _) (by simp [mk])
theorem sorted_c {H : Heap} {cl : Nat} {sl : Sl} {l : List Int} (hcl : Cl1 H cl sl.v) (hs : SlF TN H sl l) (hl : l.length ≤ 1048600) {Q : Sl × Unit → Heap → Prop} (hq : ∀ s' H' sp, NewO TN H s' H' (srt l) sp → Q (s', ()) H') :
    CALL P [T_sl] n_slices_Sorted_int [.func (.func n_slices_Values_int_int_1) #[] #[ad cl]] H Q := by
  apply c_slices_Sorted_int
  unfold S_slices_Sorted_int
  apply c_slices_Collect_int
  unfold S_slices_Collect_int
  refine appendSeq_c hcl hs hl fun s1 H1 sp1 n1 => ?_
  refine sort_c n1.1 (by omega) fun H2 k1 k2 => hq _ _ sp1 ⟨k1, n1.2.1, own_frs n1.1 n1.2.1 n1.2.2 k2⟩
theorem equal_c {H : Heap} {a b : Sl} {l m : List Int} (ha : SlF TN H a l) (hb : SlF TN H b m) (hl : l.length ≤ 4611686018427387904) {Q : Bool × Unit → Heap → Prop} (hq : ∀ r : Bool, (r = true ↔ l = m) → Q (r, ()) H) : CALL P [T_bool] n_slices_Equal_int_int [a.v, b.v] H Q := by
  apply c_slices_Equal_int_int
  unfold S_slices_Equal_int_int
  exact same_g (T := TN) hTN (ne := fun x y : Int => x != y) (fun x y => by simp) rfl ha hb hl hq
theorem clone_c {H : Heap} {a : Sl} {l : List Int} (ha : SlF TN H a l) (hl : l.length ≤ 1048600) {Q : Sl × Unit → Heap → Prop} (hq : ∀ s' H' sp, NewO TN H s' H' l sp → Q (s', ()) H') : CALL P [T_sl] n_slices_Clone_int_int [a.v] H Q := by
  apply c_slices_Clone_int_int
  unfold S_slices_Clone_int_int
  refine ifB_of (fun h => ?_) (fun _ => told_g KInts.tyS rfl (fun _ => by simp) ha hl rfl hq)
  have hp : a.p = none := by simpa using h
  have : l = [] := by
    obtain ⟨_, ⟨_, h2, _⟩ | ⟨_, _, h3, h2, _⟩ | ⟨_, _, _, _, _, _, h3, _⟩⟩ := ha
    · exact h2
    · exact h2
    · rw [hp] at h3; cases h3
  subst this
  exact hq _ H [] (nil_new H)

section
variable {H : Heap} {b : Nat} {z : Zo} {st : Sl} {ss : Nat → Sl}
theorem parr_c (h : ZR [] H b z st ss) (hi : InvZ z) {p : Int} {a : Sl} {l : List Int} (ha : SlF TN H a l) (hl : l.length ≤ 1048600) {Q : Int × Unit → Heap → Prop}
    (hq : ∀ H' ss', ZR [] H' b (arrZ z p l).2 st ss' → Bh (fp b st ss) H (fp b st ss') H' → Q ((arrZ z p l).1, ()) H') : CALL P [TN] n_zone_Zones_Arrange [ad b, .int .i64 p, a.v] H Q := by
  apply c_zone_Zones_Arrange
  unfold S_zone_Zones_Arrange
  unfold arrZ at hq
  refine is_c h hi.n1 (ifB_f rfl (player_c fun r hr => ifB_of (fun h1 => ?_) (fun h1 => ?_)))
  · have hp : ¬ (p = 0 ∨ p = 1) := fun q => by rw [hr.2 q] at h1; cases h1
    rw [if_pos hp] at hq
    exact hq H ss h (.refl _ _)
  have hp : p = 0 ∨ p = 1 := hr.1 (by simpa using h1)
  rw [if_neg (not_not_intro hp)] at hq
  have hA : 0 ≤ p ∧ p < 2 := by omega
  have q1 : p.toNat < 4 := by omega
  have hll := hi.len p.toNat
  refine ⟨hA, h.ld_q q1 (by omega) (values_c fun H3 c3 f3 _ => ?_)⟩
  have h3 := h.new f3
  refine h3.ld_q q1 (by omega) ⟨rfl, sorted_c c3 (ha.frs f3 (by simp)) hl fun s4 H4 sp4 n4 => ?_⟩
  have h4 := h3.new n4.2.2
  refine h4.ld_q q1 (by omega) ⟨rfl, values_c fun H5 c5 f5 _ => ?_⟩
  have h5 := h4.new f5
  refine sorted_c c5 (h5.l _ q1).slf (by omega) fun s6 H6 sp6 n6 => ?_
  have fr : Frs [] H H6 := ((f3.trans n4.2.2).trans f5).trans n6.2.2
  have h6 := h5.new n6.2.2
  have sl4 : SlF TN H6 s4 (srt l) := n4.1.slf.frs (f5.trans n6.2.2) (by simp)
  refine equal_c sl4 n6.1.slf (by unfold srt; rw [List.length_mergeSort]; omega) fun r hr => ifB_of (fun h1 => ?_) (fun h1 => ?_)
  · rw [srt_perm] at hr
    rw [if_neg (fun q => by rw [hr.2 q] at h1; cases h1)] at hq
    exact hq H6 ss h6 (.new fr)
  · rw [srt_perm] at hr
    rw [if_pos (hr.1 (by simpa using h1))] at hq
    refine clone_c (ha.frs fr (by simp)) hl fun s8 H8 sp8 n8 => ⟨hA, ?_⟩
    refine h6.pq q1 n8.1.j (newmv n8 _) (n8.2.2.mono (by simp)) (by omega) fun H9 p1 p2 => ?_
    exact hq H9 _ p1 ((Bh.new fr).trans p2)
end
end

section
/- New zones: what both make. -/
open Zv
def z0 : Zo := ⟨[], fun _ => [], 1⟩
def stepNew (p : Nat) (z : Zo) (c : Int) : Zo := { z with t := z.t ++ [newT c p 1], l := upd z.l p (z.l p ++ [((z.t.length + 1 : Nat) : Int)]) }
def fillZ (z : Zo) (p : Nat) (l : List Int) : Zo := l.foldl (stepNew p) z
def newZ (one two : List Int) : Zo := fillZ (fillZ z0 0 one) 1 two
theorem fillZ_succ {z : Zo} {p : Nat} {l : List Int} {m : Nat} (h : m < l.length) : fillZ z p (l.take (m + 1)) = stepNew p (fillZ z p (l.take m)) l[m] := by
  unfold fillZ
  rw [List.take_succ_eq_append_getElem h, List.foldl_append]; rfl
theorem fillZ_len (p : Nat) : ∀ (l : List Int) (z : Zo), (fillZ z p l).t.length = z.t.length + l.length
  | [], _ => rfl
  | c :: r, z => by
    have := fillZ_len p r (stepNew p z c)
    simp only [fillZ, List.foldl_cons] at this ⊢
    rw [this]; simp [stepNew]; omega
theorem fillZ_n (p : Nat) : ∀ (l : List Int) (z : Zo), (fillZ z p l).n = z.n
  | [], _ => rfl
  | c :: r, z => by
    have := fillZ_n p r (stepNew p z c)
    simp only [fillZ, List.foldl_cons] at this ⊢
    rw [this]; rfl
theorem fillZ_ql (p q : Nat) : ∀ (l : List Int) (z : Zo), ((fillZ z p l).l q).length ≤ (z.l q).length + l.length
  | [], _ => by simp [fillZ]
  | c :: r, z => by
    have := fillZ_ql p q r (stepNew p z c)
    simp only [fillZ, List.foldl_cons] at this ⊢
    have h2 : ((stepNew p z c).l q).length ≤ (z.l q).length + 1 := by
      simp only [stepNew, upd]
      split
      · rename_i e; subst e; simp
      · omega
    simp; omega
theorem z0_inv : InvZ z0 := ⟨by simp [z0], by simp [z0], by simp [z0], by simp [z0], fun i j a b _ h => by simp [z0] at h, by simp [z0], fun q m => by simp [z0]⟩
theorem step_come {z : Zo} {p : Nat} (c : Int) : stepNew p z c = come (plus z (newT c p 5)) z.t.length (newT c p 5) 1 := by
  unfold come
  rw [outL_none rfl]
  unfold putT
  rw [if_neg (by decide), intoL_some (show li (newT c p 5).Owner 1 = some p by simp [li, newT])]
  simp [stepNew, plus, newT, homeT]
theorem step_inv {z : Zo} (h : InvZ z) {p : Nat} (hp : p < 2) (c : Int) (hl : z.t.length < 2048) : InvZ (stepNew p z c) := by
  rw [step_come]
  exact come_inv (plus_inv h (by omega) hl) (by simp [plus]) (by omega) (by omega) fun e => by omega
theorem fill_inv {p : Nat} (hp : p < 2) : ∀ (l : List Int) {z : Zo}, InvZ z → z.t.length + l.length ≤ 2048 → InvZ (fillZ z p l)
  | [], _, h, _ => h
  | c :: r, z, h, hl => by
    simp only [List.length_cons] at hl
    exact fill_inv hp r (step_inv h hp c (by omega)) (by simp [stepNew]; omega)
theorem new_inv {one two : List Int} (h : one.length + two.length ≤ 2048) : InvZ (newZ one two) :=
  fill_inv (by omega) two (fill_inv (by omega) one z0_inv (by simp [z0]; omega)) (by rw [fillZ_len]; simp [z0]; omega)

section
variable {H : Heap} {b : Nat} {z : Zo} {st : Sl} {ss : Nat → Sl}
/-- One more card. -/
theorem more_g {e : List Value} (h : ZR e H b z st ss) (hz : z.t.length ≤ 4096) (hql : ∀ q, q < 4 → (z.l q).length ≤ 4096) {p : Nat} (hp : p < 2) (c : Int) {K : Heap → Prop}
    (hk : ∀ H' st' ss', ZR e H' b (stepNew p z c) st' ss' → Bh (fp b st ss) H (fp b st' ss') H' → K H') :
    LD T_sl H b 0 fun x17 => APP T_sl (lenV x17.v + 1) (aAppE E [45, 45] x17.v 1 [(.int .i64 c), (.int .i64 (p : Int)), (.int .u8 1), (.int .i64 0), (.int .i64 0), (.int .i64 0), (.int .i64 0), (.int .i64 0), (.int .i64 0), (.int .i64 0), (.bool false)] H) fun x18 H8 => ST H8 b 0 [(.slice x18.p x18.len x18.cap)] fun H9 =>
      IDXA 2 (p : Int) (LD T_sl H9 b (1 + (p : Int).toNat * 1) fun x19 => LD T_sl H9 b 0 fun x20 => LD T_sl H9 b (1 + (p : Int).toNat * 1) fun x21 => REQ (T_sl.enc x21 = x19.v) (APP T_sl (lenV x19.v + 1) (aAppE E [22, 22] x19.v 1 [(.int .i64 (x20.len : Int))] H9) fun x22 H10 => IDXA 2 (p : Int) (ST H10 b (1 + (p : Int).toNat * 1) [(.slice x22.p x22.len x22.cap)] K))) := by
  refine h.ld_t rfl (appJ_c KThings.tyS rfl (fun _ => by simp) (m := 1) [newT c p 1] rfl rfl (by show 2 * (z.t.length + 1) * 4096 ≤ _; omega) h.t fun s5 H5 m1 m2 m3 => ?_)
  refine h.pt m1 (mvp m2) (aft m3) rfl fun H7 h7 b7 => ?_
  have hA : (0 : Int) ≤ (p : Int) ∧ (p : Int) < 2 := by omega
  have hp4 : p < 4 := by omega
  have hq := hql p hp4
  have hl5 : s5.len = z.t.length + 1 := by have := m1.1; simpa using this
  refine ⟨hA, h7.ld_q hp4 (by simp) (h7.ld_t rfl (h7.ld_q hp4 (by simp) ⟨rfl, ?_⟩))⟩
  refine appJ_c KInts.tyS rfl (fun _ => by simp) (m := 1) [((s5.len : Nat) : Int)] rfl rfl (by show 2 * ((z.l p).length + 1) * 4096 ≤ _; omega) (h7.l p hp4) fun s6 H8 k1 k2 k3 => ⟨hA, ?_⟩
  refine h7.pq hp4 k1 (mvp k2) (aft k3) (by simp) fun H9 h9 b9 => hk H9 _ _ ?_ (b7.trans b9)
  rw [hl5] at h9
  exact h9
end

/-- A look at the cards: none is below 1. -/
def okC (l : List Int) : Prop := ∀ c ∈ l, 1 ≤ c
section
variable {H : Heap} {a0 a1 : Sl} {l0 l1 : List Int}
def Ls (l0 l1 : List Int) (n : Nat) : List Int := if n = 0 then l0 else l1
def Ss (a0 a1 : Sl) (n : Nat) : Sl := if n = 0 then a0 else a1
def zs (l0 l1 : List Int) : Nat → Zo
  | 0 => z0
  | n + 1 => fillZ (zs l0 l1 n) n (Ls l0 l1 n)
theorem zs_b (hl : l0.length + l1.length ≤ 2048) (n : Nat) (hn : n ≤ 2) : (zs l0 l1 n).t.length ≤ 2048 ∧ (∀ q, ((zs l0 l1 n).l q).length ≤ 2048) := by
  have e1 : zs l0 l1 1 = fillZ z0 0 l0 := rfl
  have e2 : zs l0 l1 2 = fillZ (fillZ z0 0 l0) 1 l1 := rfl
  rcases (by omega : n = 0 ∨ n = 1 ∨ n = 2) with rfl | rfl | rfl
  · exact ⟨by simp [zs, z0], by simp [zs, z0]⟩
  · rw [e1]
    refine ⟨by rw [fillZ_len]; simp [z0]; omega, fun q => ?_⟩
    have := fillZ_ql 0 q l0 z0
    have e : (z0.l q).length = 0 := rfl
    omega
  · rw [e2]
    refine ⟨by rw [fillZ_len, fillZ_len]; simp [z0]; omega, fun q => ?_⟩
    have := fillZ_ql 0 q l0 z0
    have := fillZ_ql 1 q l1 (fillZ z0 0 l0)
    have e : (z0.l q).length = 0 := rfl
    omega
theorem part_b (hl : l0.length + l1.length ≤ 2048) {n : Nat} (hn : n < 2) (m : Nat) : (fillZ (zs l0 l1 n) n ((Ls l0 l1 n).take m)).t.length ≤ 4096 ∧ (∀ q, ((fillZ (zs l0 l1 n) n ((Ls l0 l1 n).take m)).l q).length ≤ 4096) := by
  obtain ⟨h1, h2⟩ := zs_b hl n (by omega)
  have h3 : ((Ls l0 l1 n).take m).length ≤ 2048 := by
    have : (Ls l0 l1 n).length ≤ 2048 := by unfold Ls; split <;> omega
    simp; omega
  refine ⟨by rw [fillZ_len]; omega, fun q => ?_⟩
  have := fillZ_ql n q ((Ls l0 l1 n).take m) (zs l0 l1 n)
  have := h2 q
  omega
end
end

section
/- New zones: the program's, the document's. -/
open Zv
section
variable {H : Heap} {a0 a1 : Sl} {l0 l1 : List Int}
theorem ifB_and {g : Bool} {c : Prop} {a b : Prop} (h : g = true ↔ c) (h1 : c → a) (h2 : ¬ c → b) : ifB g a b := ifB_of (fun e => h1 (h.1 e)) (fun e => h2 fun q => by rw [h.2 q] at e; cases e)
theorem nrow {e : List Value} {sz : Nat} (H : Heap) : ZR e (mk H ((Sl.mk none 0 0).v :: (Sl.mk none 0 0).v :: (Sl.mk none 0 0).v :: (Sl.mk none 0 0).v :: (Sl.mk none 0 0).v :: .int .i64 1 :: e) sz false) H.length z0 ⟨none, 0, 0⟩ (fun _ => ⟨none, 0, 0⟩) :=
  ⟨⟨sz, by simp [mk, z0]⟩, OwJ.nil _ _, fun _ _ => OwJ.nil _ _, by simp [bl], by simp [bl], by simp [bl], by simp [bl]⟩
theorem nrow_fp (H : Heap) : fp H.length ⟨none, 0, 0⟩ (fun _ => ⟨none, 0, 0⟩) = [H.length] := rfl

theorem pnew_c (h0 : SlF TN H a0 l0) (h1 : SlF TN H a1 l1) (hl0 : l0.length ≤ 1048600) (hl1 : l1.length ≤ 1048600) {Q : (Option Addr) × Int × Unit → Heap → Prop}
    (q1 : 2048 < l0.length + l1.length → Q (none, 3, ()) H) (q2 : ∀ H', l0.length + l1.length ≤ 2048 → ¬ (okC l0 ∧ okC l1) → Frs [] H H' → Q (none, 2, ()) H')
    (q3 : ∀ H' b st ss, l0.length + l1.length ≤ 2048 → okC l0 ∧ okC l1 → ZR [] H' b (newZ l0 l1) st ss → Frs [] H H' → (∀ d ∈ fp b st ss, H.length ≤ d) → Q (some ⟨b, 0, none⟩, 0, ()) H') : CALL P [T_ptr, TN] n_zone_New [a0.v, a1.v] H Q := by
  apply c_zone_New
  unfold S_zone_New
  have e0 : a0.len = l0.length := h0.1
  have e1 : a1.len = l1.length := h1.1
  refine JB (H := H) (2048 < l0.length + l1.length) (fun j hj => ifB_of (fun t1 => hj _ ?_) (fun t1 => ifB_of (fun t2 => hj _ ?_) (fun t2 => hj _ ?_))) fun r hr => ifB_and hr q1 fun hle => ?_
  · have := of_decide_eq_true t1; simp; omega
  · have := of_decide_eq_true t2; simp; omega
  · rw [i64w (by omega) (by omega)]; simp; omega
  have hle : l0.length + l1.length ≤ 2048 := by omega
  unfold NEW
  have zr0 : ZR [] (mk H [(.slice none 0 0), (.slice none 0 0), (.slice none 0 0), (.slice none 0 0), (.slice none 0 0), (.int .i64 1)] 6 false) H.length z0 ⟨none, 0, 0⟩ (fun _ => ⟨none, 0, 0⟩) := nrow H
  have f0 : Frs [] H (mk H [(.slice none 0 0), (.slice none 0 0), (.slice none 0 0), (.slice none 0 0), (.slice none 0 0), (.int .i64 1)] 6 false) := Frs.app _ _ _
  generalize mk H [(.slice none 0 0), (.slice none 0 0), (.slice none 0 0), (.slice none 0 0), (.slice none 0 0), (.int .i64 1)] 6 false = H2 at zr0 f0
  refine JOIN_of ?_
  refine loop_of (fun (s : (Int × Unit) × Unit) H' => ∃ (n : Nat) (st : Sl) (ss : Nat → Sl), s.1.1 = n ∧ n ≤ 2 ∧ ZR [] H' H.length (zs l0 l1 n) st ss ∧ Bh [] H (fp H.length st ss) H' ∧ ∀ k, k < n → okC (Ls l0 l1 k)) (fun s => 2 - s.1.1.toNat) ?_ ⟨0, _, _, rfl, by omega, zr0, ⟨f0, fun d hd => by rw [nrow_fp] at hd; simp at hd; exact .inr (by omega)⟩, fun k hk => by omega⟩
  rintro G ⟨⟨i, _⟩, _⟩ H' ⟨n, st, ss, hi, hn, zr, bh, ok⟩ hG
  simp only at hi; subst hi
  dsimp only at hG ⊢
  refine ifB_of (fun hlt => ?_) (fun hge => ?_)
  · have hlt : n < 2 := by have := of_decide_eq_true hlt; omega
    refine JOIN_of ⟨Ss a0 a1 n, ?_, JOIN_of ?_⟩
    · rcases (by omega : n = 0 ∨ n = 1) with rfl | rfl <;> rfl
    have hs : SlF TN H (Ss a0 a1 n) (Ls l0 l1 n) := by
      rcases (by omega : n = 0 ∨ n = 1) with rfl | rfl
      · exact h0
      · exact h1
    have hLl : (Ls l0 l1 n).length ≤ 2048 := by unfold Ls; split <;> omega
    have hSl := hs.1
    refine loop_of (fun (s : (Int × Unit) × Unit) H' => ∃ (m : Nat) (st : Sl) (ss : Nat → Sl), s.1.1 = m ∧ m ≤ (Ls l0 l1 n).length ∧ ZR [] H' H.length (fillZ (zs l0 l1 n) n ((Ls l0 l1 n).take m)) st ss ∧ Bh [] H (fp H.length st ss) H' ∧ okC ((Ls l0 l1 n).take m)) (fun s => (Ls l0 l1 n).length - s.1.1.toNat) ?_ ⟨0, st, ss, rfl, Nat.zero_le _, by simpa [fillZ] using zr, bh, by simp [okC]⟩
    rintro G2 ⟨⟨i, _⟩, _⟩ H2 ⟨m, st2, ss2, hi2, hm, zr2, bh2, ok2⟩ hG2
    simp only at hi2; subst hi2
    dsimp only at hG2 ⊢
    refine ifB_of (fun hlt2 => ?_) (fun hge2 => ?_)
    · have hlt2 : m < (Ls l0 l1 n).length := by have := of_decide_eq_true hlt2; omega
      refine idx_ldF (T := TN) hTN (hs.frs bh2.f (by simp)) rfl (List.getElem?_eq_getElem hlt2) rfl (ifB_of (fun t1 => ?_) (fun t1 => ?_))
      · have t1 := of_decide_eq_true t1
        refine q2 H2 hle (fun q => ?_) bh2.f
        have hmem : (Ls l0 l1 n)[m] ∈ Ls l0 l1 n := List.getElem_mem hlt2
        have : okC (Ls l0 l1 n) := by unfold Ls; split; exact q.1; exact q.2
        have := this _ hmem
        omega
      · have t1 := of_decide_eq_false t1
        obtain ⟨pb1, pb2⟩ := part_b hle hlt m
        refine more_g zr2 pb1 (fun q _ => pb2 q) hlt ((Ls l0 l1 n)[m]) fun H3 st3 ss3 zr3 bh3 => ?_
        rw [i64w (by omega) (by omega)]
        refine hG2 _ _ ⟨m + 1, st3, ss3, by simp, hlt2, by rw [fillZ_succ hlt2]; exact zr3, bh2.trans bh3, fun c hc => ?_⟩ (by simp; omega)
        rw [List.take_succ_eq_append_getElem hlt2, List.mem_append, List.mem_singleton] at hc
        rcases hc with q | rfl
        · exact ok2 c q
        · omega
    · have hge2 : m = (Ls l0 l1 n).length := by have := of_decide_eq_false hge2; omega
      subst hge2
      rw [List.take_length] at zr2 ok2
      rw [i64w (by omega) (by omega)]
      refine hG _ _ ⟨n + 1, st2, ss2, by simp, by omega, zr2, bh2, fun k hk => ?_⟩ (by simp; omega)
      by_cases e : k = n
      · subst e; exact ok2
      · exact ok k (by omega)
  · have hge : n = 2 := by have := of_decide_eq_false hge; omega
    subst hge
    exact q3 H' H.length st ss hle ⟨ok 0 (by omega), ok 1 (by omega)⟩ zr bh.f fun d hd => by
      rcases bh.g d hd with q | q
      · cases q
      · exact q

end
end
end
end Go.Proofs.YthgfjbafhjkhnaaGreat.Zq
