/- What the program tells of its zones: the table, a look into a place. -/
import Derived.Test.YthgfjbafhjkhnaaGreatZcZr
import Derived.Test.YthgfjbafhjkhnaaGreatZcZoneP
import Derived.Test.YthgfjbafhjkhnaaGreatZcSort
namespace Go.Proofs.YthgfjbafhjkhnaaGreat.Zq
open Zv
/-- A thing's stamp, wherever it may be read. -/
theorem idx_stamp {H : Heap} {s : Sl} {l : List Th} (h : SlF TT H s l) {i : Int} {n : Nat} {x : Th} (hi : i = n) (hx : l[n]? = some x) {K : Int → Prop} (hK : K x.Stamp) : IDX s.p s.len i 11 fun b o => LD TN H b (o + 3) K := by
  have hl := (List.getElem?_eq_some_iff.1 hx).1
  obtain ⟨h1, ⟨_, h2, _⟩ | ⟨_, _, _, h2, _⟩ | ⟨b, A, B, z, o, ro, h3, h4⟩⟩ := h
  · subst h2; simp at hl
  · subst h2; simp at hl
  · unfold IDX NIL
    rw [h3]
    refine ⟨⟨by omega, by omega⟩, ?_⟩
    have h5 : H[b]? = some (.row ((A ++ fl TT (l.take n)) ++ (TT.cells x ++ (fl TT (l.drop (n + 1)) ++ B))) z o ro true) := by rw [h4, fl_cut (T := TT) l n x hx]; simp [List.append_assoc]
    exact ld_stamp h5 (by rw [List.length_append, fl_len hTT, hi, List.length_take, Nat.min_eq_left (by omega)]; simp) hK
theorem idx_owner {H : Heap} {s : Sl} {l : List Th} (h : SlF TT H s l) {i : Int} {n : Nat} {x : Th} (hi : i = n) (hx : l[n]? = some x) {K : Int → Prop} (hK : K x.Owner) : IDX s.p s.len i 11 fun b o => LD TN H b (o + 1) K := by
  have hl := (List.getElem?_eq_some_iff.1 hx).1
  obtain ⟨h1, ⟨_, h2, _⟩ | ⟨_, _, _, h2, _⟩ | ⟨b, A, B, z, o, ro, h3, h4⟩⟩ := h
  · subst h2; simp at hl
  · subst h2; simp at hl
  · unfold IDX NIL
    rw [h3]
    refine ⟨⟨by omega, by omega⟩, ?_⟩
    have h5 : H[b]? = some (.row ((A ++ fl TT (l.take n)) ++ (TT.cells x ++ (fl TT (l.drop (n + 1)) ++ B))) z o ro true) := by rw [h4, fl_cut (T := TT) l n x hx]; simp [List.append_assoc]
    exact ld_own h5 (by rw [List.length_append, fl_len hTT, hi, List.length_take, Nat.min_eq_left (by omega)]; simp) hK

theorem tab1_c {H : Heap} {cb b : Nat} {st : Sl} {t : List Th} (hc : ∃ sz o ro, H[cb]? = some (.row [ad b] sz o ro true)) (hb : ∃ rest sz o ro, H[b]? = some (.row (st.v :: rest) sz o ro true)) (hs : SlF TT H st t) {i j : Nat} {x y : Th} (hi : t[i]? = some x) (hj : t[j]? = some y) (ht : t.length ≤ 4096)
    (hx : 0 ≤ x.Stamp ∧ x.Stamp ≤ 1099511627776) (hy : 0 ≤ y.Stamp ∧ y.Stamp ≤ 1099511627776) {Q : Int × Unit → Heap → Prop} (hq : Q (x.Stamp - y.Stamp, ()) H) : CALL P [TN] n_zone_Zones_Table_1 [.int .i64 ((i : Int) + 1), .int .i64 ((j : Int) + 1), .pointer (some ⟨cb, 0, none⟩)] H Q := by
  apply c_zone_Zones_Table_1 (c0 := (cb, 0))
  unfold S_zone_Zones_Table_1
  obtain ⟨sz, o, ro, hc⟩ := hc
  obtain ⟨rest, sz2, o2, ro2, hb⟩ := hb
  have hil := (List.getElem?_eq_some_iff.1 hi).1
  have hjl := (List.getElem?_eq_some_iff.1 hj).1
  have ld1 : ∀ k : Option Addr → Prop, k (some ⟨b, 0, none⟩) → LD T_ptr H cb 0 k := fun k hk => LD_of (T := T_ptr) _ [] [] hc rfl rfl rfl hk
  have ld2 : ∀ k : Sl → Prop, k st → LD T_sl H b 0 k := fun k hk => LD_of (T := T_sl) st [] rest hb rfl rfl rfl hk
  refine ld1 _ (ld2 _ ?_)
  rw [i64w (by omega) (by omega), i64w (by omega) (by omega)]
  refine idx_stamp hs (n := i) (by omega) hi (ld1 _ (ld2 _ (idx_stamp hs (n := j) (by omega) hj ?_)))
  rw [i64w (by omega) (by omega)]
  exact hq

section
variable {H : Heap} {b : Nat} {z : Zo} {st : Sl} {ss : Nat → Sl}
/-- Slices that hang on the zones' blocks. -/
theorem inS_sl {T : Tag} {H : Heap} {s : Sl} {l : List T.α} (h : OwJ T H s l) {S : List Nat} (hS : ∀ d ∈ bl s.p, d ∈ S) : inS S s.v := by
  obtain ⟨p, n, c⟩ := s
  obtain ⟨h1, _, _, ⟨h3, h4, h5⟩ | ⟨d, r, h3, _⟩⟩ := h
  · simp only at h1 h3 h5; subst h3; subst h4; subst h1; subst h5; exact trivial
  · simp only at h3; subst h3
    exact ⟨hS d (by simp [bl]), rfl⟩
theorem inS_int {S : List Nat} (r : List Int) : ∀ v ∈ fl TN r, inS S v := fun v hv => by
  simp only [fl, List.mem_flatMap] at hv
  obtain ⟨x, _, hv⟩ := hv
  simp at hv; subst hv; exact trivial
theorem inS_th {S : List Nat} (r : List Th) : ∀ v ∈ fl TT r, inS S v := fun v hv => by
  simp only [fl, List.mem_flatMap] at hv
  obtain ⟨x, _, hv⟩ := hv
  simp only [List.mem_cons, List.not_mem_nil, or_false] at hv
  rcases hv with rfl | rfl | rfl | rfl | rfl | rfl | rfl | rfl | rfl | rfl | rfl <;> exact trivial
theorem ZR.clo (h : ZR [] H b z st ss) {S : List Nat} (hS : ∀ d ∈ fp b st ss, d ∈ S) : ∀ d ∈ fp b st ss, ∃ c sz o r l, H[d]? = some (.row c sz o r l) ∧ ∀ v ∈ c, inS S v := fun d hd => by
  have own : ∀ {T : Tag} {s : Sl} {l : List T.α}, OwJ T H s l → (∀ r : List T.α, ∀ v ∈ fl T r, inS S v) → d ∈ bl s.p → ∃ c sz o r l, H[d]? = some (.row c sz o r l) ∧ ∀ v ∈ c, inS S v := fun ho hr hm => by
    obtain ⟨_, _, _, ⟨h3, _⟩ | ⟨c, r, h3, h4, _⟩⟩ := ho
    · rw [h3] at hm; simp [bl] at hm
    · rw [h3] at hm; simp [bl] at hm; subst hm
      exact ⟨_, _, _, _, _, h4, hr r⟩
  rcases mem_fp.1 hd with rfl | hm | ⟨q, hq, hm⟩
  · obtain ⟨sz, h1⟩ := h.row
    refine ⟨_, _, _, _, _, h1, fun v hv => ?_⟩
    have hq : ∀ q, q < 4 → inS S (ss q).v := fun q hq => inS_sl (h.l q hq) fun e he => hS e (mem_fp.2 (.inr (.inr ⟨q, hq, he⟩)))
    simp only [List.mem_cons, List.not_mem_nil, or_false] at hv
    rcases hv with rfl | rfl | rfl | rfl | rfl | rfl
    · exact inS_sl h.t fun e he => hS e (mem_fp.2 (.inr (.inl he)))
    · exact hq 0 (by omega)
    · exact hq 1 (by omega)
    · exact hq 2 (by omega)
    · exact hq 3 (by omega)
    · exact trivial
  · exact own h.t inS_th hm
  · exact own (h.l q hq) inS_int hm

theorem stamp_b (hi : InvZ z) {k : Nat} {x : Th} (hx : z.t[k]? = some x) : 0 ≤ x.Stamp ∧ x.Stamp ≤ 1099511627776 := by
  obtain ⟨_, _, _, h4, h5⟩ := hi.th x (List.mem_of_getElem? hx)
  have := hi.n2
  by_cases e : x.Place = 4
  · have := h5 e; omega
  · have := h4 e; omega

/-- The things of which f holds, gathered. -/
theorem gather_c {H0 : Heap} (hz : ∀ H', Frs [] H0 H' → ZR [] H' b z st ss) {f : Th → Bool} {k : Sl → Heap → Prop} {F : ((Sl × Int × Unit) × Unit → Heap → Prop) → (Sl × Int × Unit) × Unit → Heap → Prop}
    (hF : ∀ (G : (Sl × Int × Unit) × Unit → Heap → Prop) (s : Sl) (n : Nat) (H' : Heap) (l sp : List Int), ZR [] H' b z st ss → NewO TN H0 s H' l sp → l.length ≤ n → (∀ (h : n < z.t.length), (f z.t[n] = true → ∀ s' H2 sp', NewO TN H0 s' H2 (l ++ [(n : Int) + 1]) sp' → G ((s', (n : Int) + 1, ()), ()) H2) → (f z.t[n] = false → G ((s, (n : Int) + 1, ()), ()) H') → F G ((s, n, ()), ()) H') ∧ (n = z.t.length → k s H' → F G ((s, n, ()), ()) H'))
    (hk : ∀ s' H' sp, NewO TN H0 s' H' (numsZ z.t f z.t.length) sp → k s' H') : LOOP F ((Sl.mk none 0 0, 0, ()), ()) H0 := by
  refine loop_of (fun (s : (Sl × Int × Unit) × Unit) H' => ∃ (n : Nat) (sp : List Int), s.1.2.1 = n ∧ n ≤ z.t.length ∧ NewO TN H0 s.1.1 H' (numsZ z.t f n) sp) (fun s => z.t.length - s.1.2.1.toNat) ?_ ⟨0, [], rfl, Nat.zero_le _, ⟨Ow.nil TN H0, by simp, .refl _ _⟩⟩
  rintro G ⟨⟨s, i, _⟩, _⟩ H' ⟨n, sp, hi', hn, n1⟩ hG
  simp only at hi' n1; subst hi'
  obtain ⟨g1, g2⟩ := hF G s n H' _ sp (hz H' n1.2.2) n1 (numsZ_le n)
  by_cases hlt : n < z.t.length
  · refine g1 hlt (fun hf s' H2 sp' n2 => hG _ _ ⟨n + 1, sp', by simp, hlt, ?_⟩ (by simp; omega)) (fun hf => hG _ _ ⟨n + 1, sp, by simp, hlt, ?_⟩ (by simp; omega))
    · rw [numsZ_succ hlt, if_pos hf]; exact n2
    · rw [numsZ_succ hlt, if_neg (by rw [hf]; simp)]; simpa using n1
  · have : n = z.t.length := by omega
    subst this
    exact g2 rfl (hk _ _ _ n1)

theorem app1 {H0 H' : Heap} {s : Sl} {l sp : List Int} (n1 : NewO TN H0 s H' l sp) (hl : l.length ≤ 1048600) (x : Int) {k : Sl → Heap → Prop} (hk : ∀ s' H2 sp', NewO TN H0 s' H2 (l ++ [x]) sp' → k s' H2) : APP T_sl (lenV s.v + 1) (aAppE E [22, 22] s.v 1 [.int .i64 x] H') k :=
  app_c KInts.tyS rfl (fun _ => by simp) (m := 1) [x] rfl rfl (by show 2 * (l.length + 1) * 4096 ≤ _; omega) n1.1 fun s' H2 sp' k1 k2 k3 => hk s' H2 sp' (n1.app k1 k2 k3)

theorem ptable_c (h : ZR [] H b z st ss) (hi : InvZ z) {Q : Sl × Unit → Heap → Prop} (hq : ∀ s' H' l sp, IsTab z l → NewO TN H s' H' l sp → Q (s', ()) H') : CALL P [T_sl] n_zone_Zones_Table [ad b] H Q := by
  apply c_zone_Zones_Table
  unfold S_zone_Zones_Table NEW
  have few := hi.few
  have htl := h.tl
  have f0 : Frs [] H (mk H [ad b] 1 false) := Frs.app _ _ _
  have hcell : (mk H [ad b] 1 false)[H.length]? = some (.row [ad b] 1 false false true) := by simp [mk]
  generalize hH1 : mk H [ad b] 1 false = H1 at f0 hcell
  have h1 := h.new f0
  have hblt := h.lt
  refine LD_of (T := T_ptr) _ [] [] hcell rfl rfl rfl (is_c h1 hi.n1 (ifB_f rfl (LD_of (T := T_ptr) _ [] [] hcell rfl rfl rfl (h1.ld_t rfl ?_))))
  refine JOIN_inv (fun y H3 => ∃ sp, NewO TN H1 (y : (Sl × Unit) × Unit).1.1 H3 (numsZ z.t (fun t => t.Place == 4) z.t.length) sp) (fun j hj => ?_) ?_
  · refine gather_c (fun H' f => h1.new f) (f := fun t => t.Place == 4) (k := fun s H' => j ((s, ()), ()) H') (fun G s n H' l sp hz' n1 hln => ⟨fun hlt g1 g2 => ?_, fun hge hk => ?_⟩) fun s H3 sp n1 => hj _ _ ⟨sp, n1⟩
    · dsimp only
      have hx : z.t[n]? = some z.t[n] := List.getElem?_eq_getElem hlt
      refine ifB_t (decide_eq_true (by omega)) (hz'.ld_th rfl hx (JOIN_of (ifB_of (fun h1 => ?_) (fun h1 => ?_))))
      · rw [i64w (by omega) (by omega)]
        exact app1 n1 (by omega) _ fun s' H2 sp' n2 => g1 h1 s' H2 sp' n2
      · rw [i64w (by omega) (by omega)]
        exact g2 h1
    · dsimp only
      exact ifB_f (decide_eq_false (by omega)) hk
  · rintro ⟨⟨s, _⟩, _⟩ H3 ⟨sp, n1⟩
    simp only at n1
    dsimp only
    have hz3 := h1.new n1.2.2
    have hcell3 : H3[H.length]? = some (.row [ad b] 1 false false true) := n1.2.2.get (by simp) hcell
    have hfn : ∃ fn, P.funcs[n_slices_SortFunc_int_int]? = some fn ∧ fn.body.isSome = true ∧ (fn.name == "runtime.NumGoroutine") = false := by
      obtain ⟨nm, hnm, hf⟩ := laysF.f6
      exact ⟨_, hf, by kernel_rfl, hnm⟩
    obtain ⟨o1, o2, o0, ⟨o3, o4, o5⟩ | ⟨c, o3, o4⟩⟩ := id n1.1
    · -- nothing lies on the table
      obtain ⟨p, n, cp⟩ := s
      simp only at o1 o3; subst o3
      rw [o4] at o1; simp at o1; subst o1
      refine none_ev hfn (us := [_]) (fun p cap vs w hv => ?_) ?_
      · obtain ⟨v, rfl⟩ := List.length_eq_one_iff.1 hv
        exact slices_SortFunc_none (α := Int) p cap v w
      · exact hq _ H3 _ sp ⟨List.Perm.refl _, by rw [show onT z = [] from o4]; exact List.Pairwise.nil⟩ ⟨n1.1, fun d hd => (by cases hd), f0.trans n1.2.2⟩
    · have hcl := get_lt o4
      have hc1 : H1.length ≤ c := n1.2.1 c o3
      have hH1l : H1.length = H.length + 1 := by rw [← hH1]; simp [mk]
      by_cases hne : z.t.length = 0
      · -- no things at all
        obtain ⟨p, n, cp⟩ := s
        have e0 : numsZ z.t (fun t => t.Place == 4) z.t.length = [] := by rw [hne]; rfl
        simp only at o1 o3; rw [e0] at o1; simp at o1; subst o1
        refine none_ev hfn (us := [_]) (fun p cap vs w hv => ?_) ?_
        · obtain ⟨v, rfl⟩ := List.length_eq_one_iff.1 hv
          exact slices_SortFunc_none (α := Int) p cap v w
        · exact hq _ H3 _ sp ⟨List.Perm.refl _, by rw [show onT z = [] from e0]; exact List.Pairwise.nil⟩ ⟨n1.1, fun d hd => by have := n1.2.1 d hd; omega, f0.trans n1.2.2⟩
      have hpos : 0 < z.t.length := by omega
      let A := Fin z.t.length
      let enc : A → Int := fun k => ((k.1 : Nat) : Int) + 1
      let cf : A → A → Int := fun x y => (z.t[x.1]'x.2).Stamp - (z.t[y.1]'y.2).Stamp
      have inst : Inhabited A := ⟨⟨0, hpos⟩⟩
      obtain ⟨d, hd⟩ := exists_map (enc := enc) (numsZ z.t (fun t => t.Place == 4) z.t.length) fun m hm => by
        obtain ⟨k, x, k1, rfl, _⟩ := mem_numsZ.1 hm
        exact ⟨⟨k, k1⟩, rfl⟩
      have hdl : d.length = (numsZ z.t (fun t => t.Place == 4) z.t.length).length := by rw [← hd]; simp
      have hdn := numsZ_le (t := z.t) (f := fun t => t.Place == 4) z.t.length
      obtain ⟨p, n, cp⟩ := s
      simp only at o1 o2 o3; subst o3
      rw [← hdl] at o1; subst o1
      rw [← hd] at o4
      have hO : Go.Sort.SWO (ltOf cf) := by
        have e : ∀ x y, ltOf cf x y = decide ((z.t[x.1]'x.2).Stamp < (z.t[y.1]'y.2).Stamp) := fun x y => by
          simp only [ltOf, cf]; congr 1; rw [eq_iff_iff]; omega
        refine ⟨fun x => by rw [e]; simp, fun x y w => ?_, fun x y w => ?_⟩
        · simp only [e, decide_eq_true_eq]; omega
        · simp only [e, decide_eq_false_iff_not]; omega
      have hcS : c ∉ H.length :: fp b st ss := fun hm => by
        rcases List.mem_cons.1 hm with e | hm
        · omega
        · have := h.lt c hm; omega
      have hS : ∀ r : ABlk, Clo (H.length :: fp b st ss) (H3.set c r) := fun r d hd => by
        have hdc : d ≠ c := fun e => hcS (e ▸ hd)
        rw [List.getElem?_set_ne (Ne.symm hdc)]
        rcases List.mem_cons.1 hd with rfl | hm
        · refine ⟨_, _, _, _, _, hcell3, fun v hv => ?_⟩
          simp at hv; subst hv
          exact ⟨List.mem_cons_of_mem _ (mem_fp.2 (.inl rfl)), rfl⟩
        · exact hz3.clo (fun d hd => List.mem_cons_of_mem _ hd) d hm
      have hcmp : ∀ dk : List A, dk.length = d.length → ∀ x y, EV P n_zone_Zones_Table_1 ([.int .i64 (enc x), .int .i64 (enc y)] ++ [.pointer (some ⟨H.length, 0, none⟩)]) (frz (H3.set c (rowI (dk.map enc ++ sp)))) fun v _ => v = .int .i64 (cf x y) := fun dk _ x y => by
        have hget : ∀ e : Nat, e ≠ c → (H3.set c (rowI (dk.map enc ++ sp)))[e]? = H3[e]? := fun e he => List.getElem?_set_ne (Ne.symm he)
        obtain ⟨sz, hr⟩ := hz3.row
        have hbc : b ≠ c := fun e => hcS (e ▸ List.mem_cons_of_mem _ (mem_fp.2 (.inl rfl)))
        refine EV.mono (tab1_c (cb := H.length) (b := b) (st := st) (t := z.t) (i := x.1) (j := y.1) ⟨_, _, _, frz_get (by rw [hget _ (by omega)]; exact hcell3)⟩ ⟨_, _, _, _, frz_get (by rw [hget _ hbc]; exact hr)⟩ ?_ (List.getElem?_eq_getElem x.2) (List.getElem?_eq_getElem y.2) (by omega) (stamp_b hi (List.getElem?_eq_getElem x.2)) (stamp_b hi (List.getElem?_eq_getElem y.2)) (Q := fun r _ => r.1 = cf x y) rfl) ?_
        · have hfr : Frs [c] H3 (H3.set c (rowI (dk.map enc ++ sp))) := Frs.set _ _ (by simp)
          exact (hz3.t.slf.frs hfr (fun e he off hp => by
            simp at he; subst he
            exact hcS (List.mem_cons_of_mem _ (mem_fp.2 (.inr (.inl (by rw [hp]; simp [bl]))))))).frz
        · rintro v H' ⟨r, rfl, hr⟩
          obtain ⟨r, _⟩ := r
          simp only at hr; subst hr; rfl
      have eg : ∀ args w, (callFunc n_zone_Zones_Table_1 args).run P w = .ok (.enter n_zone_Zones_Table_1 args) w := by
        obtain ⟨fn, hf, hb, hn⟩ := (hcmp d rfl ⟨0, hpos⟩ ⟨0, hpos⟩).1
        obtain ⟨c, hc⟩ := Option.isSome_iff_exists.1 hb
        exact enters_of hf hn hc
      have hsf := sortFunc_ev (P := P) (ρ := laysF_ren) laysF hfn (α := A) enc cf hO (H := H3) (b := c) (cap := cp) (d := d) (sp := sp) o4 (by omega) (g := n_zone_Zones_Table_1) (cv := [.pointer (some ⟨H.length, 0, none⟩)]) eg (S := H.length :: fp b st ss) (fun dk _ => hS _)
        (fun v hv => by simp at hv; subst hv; exact ⟨List.mem_cons_self, rfl⟩)
        hcmp
        (Q := fun H' => Q (⟨some ⟨c, 0, none⟩, d.length, cp⟩, ()) H')
        (fun d' hp hso => by
          refine hq _ _ (d'.map enc) sp ⟨by rw [show onT z = d.map enc from hd.symm]; exact hp.map enc, ?_⟩ ⟨⟨by simp [hp.length_eq], by simp only; rw [List.length_map, hp.length_eq]; rw [o2, ← hdl], o0, .inr ⟨c, rfl, by rw [set_get hcl]; rfl⟩⟩, fun e he => by simp at he; subst he; omega, f0.trans (n1.2.2.then (Frs.set (B := [c]) _ _ (by simp)) fun e he => by simp at he; subst he; exact .inr hc1)⟩
          rw [List.pairwise_map, List.pairwise_iff_getElem]
          intro i j hil hjl hij
          have := hso i j hij d'[i] d'[j] (List.getElem?_eq_getElem hil) (List.getElem?_eq_getElem hjl)
          simp only [ltOf, cf, decide_eq_false_iff_not] at this
          show (atZ z (((d'[i]).1 : Int) + 1)).Stamp ≤ (atZ z (((d'[j]).1 : Int) + 1)).Stamp
          rw [atZ_at (List.getElem?_eq_getElem d'[i].2), atZ_at (List.getElem?_eq_getElem d'[j].2)]
          omega)
      exact hsf
end
end Go.Proofs.YthgfjbafhjkhnaaGreat.Zq
