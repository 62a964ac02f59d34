/- A region whose order is drawn, second part. -/
import Derived.Test.YthgfjbafhjkhnaaGreatZqDraw
import Derived.Test.YthgfjbafhjkhnaaGreatZqFloat
namespace Go.Proofs.YthgfjbafhjkhnaaGreat.Zq
variable {P : Program} {E : Env} {call : CallT} {ops : Array Oper} {ro : Option Nat} {n : Nat}
  {A : Nat → Nat → Prop} {pr : Nat → Option Value} {H0 : Heap} {F : Nat → AFr} {Hs : Nat → Heap} {M0 M M' : Mp} {w0 w w' : World} {a0 a : Act} {L : Nat → Bool} {c c' : Nat}

theorem look_mkL' : ∀ (live : List Nat) (j : Nat) (s : List (Option Value)) (t : Nat), look (mkL live j s) t = match live.idxOf? t with | some i => (s[j + i]?).join | none => none
  | [], j, s, t => by simp [mkL, look]
  | x :: r, j, s, t => by
    simp only [mkL, look, List.idxOf?_cons]
    by_cases h : x = t
    · simp [h]
    · have hb : (x == t) = false := by simpa using h
      rw [if_neg h, look_mkL' r (j + 1) s t, hb]
      cases r.idxOf? t with
      | none => simp
      | some i => simp [Nat.add_comm, Nat.add_left_comm]

theorem get_lim {N : Nat} {l : List Nat} {fr : AFr} {t : Nat} (h : t ∈ l) : (mkFr N l (l.map fr.get)).get t = fr.get t := by
  unfold AFr.get mkFr
  simp only
  rw [look_mkL']
  cases hi : l.idxOf? t with
  | none => exact absurd h (by simpa using hi)
  | some i =>
    obtain ⟨hl, ht, _⟩ := List.idxOf?_eq_some_iff.1 hi
    have : l[i] = t := by simpa using ht
    simp only [Nat.zero_add, List.getElem?_map, List.getElem?_eq_getElem hl, Option.map_some, Option.join_some, this]

theorem get_lim_some {N : Nat} {l : List Nat} {fr : AFr} {t : Nat} {v : Value} (h : (mkFr N l (l.map fr.get)).get t = some v) : t ∈ l ∧ fr.get t = some v := by
  have hm : t ∈ l := by
    unfold AFr.get mkFr at h
    simp only at h
    rw [look_mkL'] at h
    cases hi : l.idxOf? t with
    | none => rw [hi] at h; simp at h
    | some i =>
      obtain ⟨hl, ht, _⟩ := List.idxOf?_eq_some_iff.1 hi
      have : l[i] = t := by simpa using ht
      rw [← this]; exact List.getElem_mem hl
  exact ⟨hm, by rw [get_lim hm] at h; exact h⟩

theorem DInv.lim (d : DInv P E ops A pr H0 F Hs M0 w0 a0 L M c a w) (pl : Plan ops A) (tr : Trace E call ops pr F Hs) {i : Nat} {o : Oper} (hi : ops[i]? = some o) (hL : L i = false) (hA : ∀ j, A i j → L j = true) :
    FR M (mkFr (F 0).n (namesOf ops o) ((namesOf ops o).map (F i).get)) a.tmps :=
  ⟨d.size, fun t v hv => by
    obtain ⟨h1, h2⟩ := get_lim_some hv
    exact d.names pl tr hi hL hA h1 h2⟩

theorem wanted_congr {o : Oper} {fr fr' : AFr} (h : ∀ t, t ∈ namesOf ops o → fr.get t = fr'.get t) : aWanted ops fr o = aWanted ops fr' o := by
  unfold aWanted
  cases hg : o.guard with
  | none => rfl
  | some g =>
    obtain ⟨j, want⟩ := g
    simp only
    cases hd : (ops[j]?).bind (·.dst) with
    | none => rfl
    | some d =>
      simp only
      rw [h d (by unfold namesOf; rw [hg]; simp [hd])]

theorem op_lim {o : Oper} {fr fr' : AFr} {H : Heap} (h : ∀ t, t ∈ namesOf ops o → fr.get t = fr'.get t) : aOp E call fr o.op H = aOp E call fr' o.op H :=
  op_congr fun t ht => h t (by unfold namesOf tmpsOf; simp only [List.mem_append, List.mem_filterMap]; exact .inl (.inr ⟨_, ht, rfl⟩))

theorem put_getD {d : Option Nat} {v : Value} {t : Nat} (h : d ≠ some t) : (a.put d v).tmps.getD t undef = a.tmps.getD t undef := by
  cases d with
  | none => rfl
  | some d =>
    have : d ≠ t := fun e => h (by rw [e])
    simp only [Act.put, Array.getD_eq_getD_getElem?, Array.getElem?_setIfInBounds, if_neg this]
theorem put_getD' {v : Value} {t : Nat} (h : t < a.tmps.size) : (a.put (some t) v).tmps.getD t undef = v := by
  simp [Act.put, h]

/-- One operation more. -/
theorem DInv.next (d : DInv P E ops A pr H0 F Hs M0 w0 a0 L M c a w) (pl : Plan ops A) {i : Nat} {o : Oper} (hi : ops[i]? = some o) (hL : L i = false) (hA : ∀ j, A i j → L j = true) {v v' : Value} (hF : F (i + 1) = (F i).put? o.dst v) (hp : putOk (F i) o.dst = true) (hn : (F i).n = (F 0).n)
    (hst : Stp M0 H0 w0 M' (Hs c') w') (hext : Ext M M') (hres : ∀ j oj t, ops[j]? = some oj → oj.op = .alloc t → (L j || j == i) = false → ∃ b ti, pr j = some (.pointer (some ⟨b, 0, none⟩)) ∧ E.ty t = some ti ∧ M0.length ≤ b ∧ M'[b]? = some none ∧ (Hs c')[b]? = some (.row ti.zero ti.size false false true))
    (hv : VR M' v v') (hc : (isXD o.op = true ∧ c' = i + 1 ∧ c ≤ i) ∨ (isXD o.op = false ∧ c' = c)) :
    DInv P E ops A pr H0 F Hs M0 w0 a0 (fun q => L q || q == i) M' c' (a.put o.dst v') w' := by
  have hin : i < ops.size := (Array.getElem?_eq_some_iff.1 hi).1
  have L' : ∀ q, (L q || q == i) = true ↔ L q = true ∨ q = i := fun q => by simp
  have hdi : dstOf ops i = o.dst := by unfold dstOf; rw [hi]; rfl
  have later : ∀ q t, L q = true → dstOf ops q = some t → o.dst = some t → q < i := by
    intro q t hq hd ho
    by_cases e : q = i
    · subst e; rw [hL] at hq; simp at hq
    · rcases Nat.lt_or_gt_of_ne e with h | h
      · exact h
      · have ht : t ∈ namesOf ops o := by unfold namesOf; rw [ho]; simp
        have := d.closed q i hq ((pl.names i o t q hi ht hd e).2 h)
        rw [hL] at this; simp at this
  refine ⟨?_, hst, hres, ?_, ?_, ?_, ?_, ?_, ?_, ?_⟩
  · intro q j hq hqj
    rcases (L' q).1 hq with hq | rfl
    · exact (L' j).2 (.inl (d.closed q j hq hqj))
    · exact (L' j).2 (.inl (hA j hqj))
  · rcases hc with ⟨_, rfl, _⟩ | ⟨_, rfl⟩
    · omega
    · exact d.c_le
  · rcases hc with ⟨hx, rfl, _⟩ | ⟨_, rfl⟩
    · exact .inr ⟨i, rfl, ⟨o, hi, hx⟩, (L' i).2 (.inr rfl)⟩
    · rcases d.c_x with h | ⟨x, h1, h2, h3⟩
      · exact .inl h
      · exact .inr ⟨x, h1, h2, (L' x).2 (.inl h3)⟩
  · intro y hy hLy
    rcases (L' y).1 hLy with hLy | rfl
    · have := d.c_max y hy hLy
      rcases hc with ⟨_, rfl, h⟩ | ⟨_, rfl⟩ <;> omega
    · rcases hc with ⟨_, rfl, _⟩ | ⟨hx, _⟩
      · omega
      · obtain ⟨o', h1, h2⟩ := hy
        rw [hi] at h1; simp at h1; subst h1
        rw [hx] at h2; simp at h2
  · rw [← d.size]; cases o.dst <;> simp [Act.put]
  · rw [put_defers]; exact d.defers
  · intro q t u hLq hqn hd hmax hu
    rcases (L' q).1 hLq with hLq | rfl
    · have hne : o.dst ≠ some t := by
        intro ho
        have h1 := later q t hLq hd ho
        have := hmax i ((L' i).2 (.inr rfl)) (by rw [hdi]; exact ho)
        omega
      rw [put_getD hne]
      exact (d.new q t u hLq hqn hd (fun r hr hdr => hmax r ((L' r).2 (.inl hr)) hdr) hu).mono hext
    · rw [hdi] at hd
      rw [hd] at hp hF ⊢
      rw [hF, put?_get'] at hu
      simp at hu; subst hu
      have : t < a.tmps.size := by rw [d.size, ← hn]; simpa [putOk] using hp
      rw [put_getD' this]; exact hv
  · intro t u hno hu
    have hne : o.dst ≠ some t := by
      have := hno i ((L' i).2 (.inr rfl))
      rw [hdi] at this; exact this
    rw [put_getD hne]
    exact (d.old t u (fun q hq => hno q ((L' q).2 (.inl hq))) hu).mono hext

/-- What a reading operation reads in the heap as it stands. -/
def Agains (E : Env) (ops : Array Oper) (A : Nat → Nat → Prop) (F : Nat → AFr) (Hs : Nat → Heap) : Prop :=
  ∀ i o c, ops[i]? = some o → isXD o.op = false → isAl o.op = false → isPure o.op = false → aWanted ops (F i) o = some true → (c = 0 ∨ ∃ x, c = x + 1 ∧ isXAt ops x ∧ ¬ A x i) → (∀ x, isXAt ops x → A i x → x < c) →
    (∃ x, isXAt ops x ∧ ((c ≤ x ∧ x < i) ∨ (i ≤ x ∧ x < c))) → ∃ v H1, aOp E (fun _ _ _ => none) (F i) o.op (Hs c) = some (v, H1) ∧ ∃ d, o.dst = some d ∧ (F (i + 1)).get d = some v

/-- What is reserved is reserved still. -/
theorem DInv.res_keep (d : DInv P E ops A pr H0 F Hs M0 w0 a0 L M c a w) {i : Nat} (hs : Stp M (Hs c) w M' (Hs c') w') :
    ∀ j oj t, ops[j]? = some oj → oj.op = .alloc t → (L j || j == i) = false → ∃ b ti, pr j = some (.pointer (some ⟨b, 0, none⟩)) ∧ E.ty t = some ti ∧ M0.length ≤ b ∧ M'[b]? = some none ∧ (Hs c')[b]? = some (.row ti.zero ti.size false false true) := by
  intro j oj t hj ho hL
  simp only [Bool.or_eq_false_iff] at hL
  obtain ⟨b, ti, h1, h2, h3, h4, h5⟩ := d.res j oj t hj ho hL.1
  obtain ⟨k1, k2⟩ := hs.keep b h4
  exact ⟨b, ti, h1, h2, h3, k1, k2.trans h5⟩

theorem isAl_alloc {o : Op} (h : isAl o = true) : ∃ t, o = .alloc t := by
  cases o <;> simp [isAl] at h
  exact ⟨_, rfl⟩

theorem DInv.step (hE : E.Ok P) (hC : CallOk P call) {Q : Exit → Act → World → Prop} {K : Act → World → Prop} (d : DInv P E ops A pr H0 F Hs M0 w0 a0 L M c a w) (pl : Plan ops A) (tr : Trace E call ops pr F Hs) (ag : Agains E ops A F Hs) {i : Nat} {o : Oper} (hi : ops[i]? = some o) (hL : L i = false) (hA : ∀ j, A i j → L j = true)
    (hK : ∀ M' c' a' w', DInv P E ops A pr H0 F Hs M0 w0 a0 (fun q => L q || q == i) M' c' a' w' → K a' w') : wpOpIn (Fw ro) n P ops Q i K a w := by
  have hin : i < ops.size := (Array.getElem?_eq_some_iff.1 hi).1
  obtain ⟨hp, v, hF, hcase⟩ := oper_split (tr.step i o hi)
  have hfr := d.lim pl tr hi hL hA
  have hcg : ∀ t, t ∈ namesOf ops o → (mkFr (F 0).n (namesOf ops o) ((namesOf ops o).map (F i).get)).get t = (F i).get t := fun t ht => get_lim ht
  have hn := tr.n i (by omega)
  have hal := tr.al i o hi
  unfold wpOpIn
  rw [hi]
  simp only
  rcases hcase with ⟨hw, hop⟩ | ⟨hw, rfl, hH⟩
  · have hw' : aWanted ops (mkFr (F 0).n (namesOf ops o) ((namesOf ops o).map (F i).get)) o = some true := by rw [wanted_congr hcg]; exact hw
    rw [wanted_ok hfr hw']
    simp only [if_true]
    cases ha : isAl o.op with
    | true =>
      obtain ⟨t, ho⟩ := isAl_alloc ha
      obtain ⟨b, ti, h1, h2, h3, h4, h5⟩ := d.res i o t hi ho hL
      obtain ⟨_, _, z, T⟩ := hE.ty t ti h2
      have hv : v = .pointer (some ⟨b, 0, none⟩) := by
        unfold aOpD at hop; rw [h1] at hop; simp at hop; exact hop.1.symm
      subst hv
      have hx : isXD o.op = false := by simp [isXD, ha]
      have hz : ti.zero.length = z.cells.size := by rw [← T.cells]; simp
      have hrun : (Instr.alloc t true (.tuple #[])).run P w = .ok (.pointer (some ⟨w.heap.size, 0, none⟩)) (w.alloc (.cells z.cells t (0, 0))) := by
        simp [Instr.alloc, T.run_zero, newVar_run]
      have hst := d.st.fill (c := z.cells) t h4 h3 h5 (Nat.le_of_eq hz) (by rw [hz, List.take_of_length_le (by simp)]; exact T.vl M)
      have hbl : b < M.length := (List.getElem?_eq_some_iff.1 h4).1
      obtain ⟨odst, oop, oty, opos, oafter, oguard⟩ := o
      simp only at ho; subst ho
      refine ⟨fun _ _ => trivial, ?_⟩
      rw [Oper.semAt_eq _ _ _ (fun c => by simp)]
      simp only [execOp, Sem.run_bind, hrun, Result.andThen_ok, Sem.run_pure]
      refine hK _ c _ _ (d.next pl hi hL hA hF hp hn hst (Ext.fill h4) ?_ ?_ (.inr ⟨hx, rfl⟩))
      · intro j oj t' hj ho' hLj
        simp only [Bool.or_eq_false_iff, beq_eq_false_iff_ne] at hLj
        obtain ⟨b', ti', g1, g2, g3, g4, g5⟩ := d.res j oj t' hj ho' hLj.1
        have hbb : b ≠ b' := fun e => hLj.2 (tr.inj j i _ g1 (by rw [← e]; exact h1))
        exact ⟨b', ti', g1, g2, g3, by rw [List.getElem?_set_ne hbb]; exact g4, g5⟩
      · have := VR.ptr (M := M.set b (some ⟨w.heap.size, 0, false, ti.zero.length, ti.size, z.cells.size⟩)) (off := 0) (List.getElem?_set_self hbl)
        simpa using this
    | false =>
      rw [ha] at hal
      have hpn : pr i = none := by cases hq : pr i <;> simp_all
      have hop : aOp E call (F i) o.op (Hs i) = some (v, Hs (i + 1)) := by unfold aOpD at hop; rw [hpn] at hop; exact hop
      have hxd : isXD o.op = isX o.op := by simp [isXD, ha]
      cases hx : isX o.op with
      | true =>
        obtain ⟨hh, hci⟩ := d.heapX pl tr hi (by rw [hxd]; exact hx) hL hA
        refine op_ok hE hC d.st.hr hfr (v := v) (H' := Hs (i + 1)) ?_ fun v' M' w' hs hv => hK M' (i + 1) _ w' (d.next pl hi hL hA hF hp hn (d.st.trans hs) hs.ext (d.res_keep hs) hv (.inl ⟨by rw [hxd]; exact hx, rfl, hci⟩))
        rw [op_lim hcg, ← hh]; exact hop
      | false =>
        have hxd' : isXD o.op = false := by rw [hxd]; exact hx
        have hsame : aOp E call (F i) o.op (Hs c) = some (v, Hs c) := by
          cases hpu : isPure o.op with
          | true => exact pure_heap hpu hop (Hs c)
          | false =>
            by_cases hb : ∃ x, isXAt ops x ∧ ((c ≤ x ∧ x < i) ∨ (i ≤ x ∧ x < c))
            · have h1 : c = 0 ∨ ∃ x, c = x + 1 ∧ isXAt ops x ∧ ¬ A x i := by
                rcases d.c_x with h | ⟨x, h1, h2, h3⟩
                · exact .inl h
                · refine .inr ⟨x, h1, h2, fun hxi => ?_⟩
                  have := d.closed x i h3 hxi
                  rw [hL] at this; simp at this
              obtain ⟨v2, H1, g1, dd, g2, g3⟩ := ag i o c hi hxd' ha hpu hw h1 (fun x hxx hAx => d.c_max x hxx (hA x hAx)) hb
              have : v2 = v := by
                rw [hF, g2, put?_get'] at g3
                simpa using g3.symm
              subst this
              rw [nonX_call (call' := fun _ _ _ => none) hx]
              have := nonX_heap hx g1
              subst this
              exact g1
            · have hh : Hs i = Hs c := by
                rcases Nat.le_total c i with hle | hle
                · exact tr.heaps hle (by omega) fun x h1 h2 hxx => hb ⟨x, hxx, .inl ⟨h1, h2⟩⟩
                · exact (tr.heaps hle d.c_le fun x h1 h2 hxx => hb ⟨x, hxx, .inr ⟨h1, h2⟩⟩).symm
              have := nonX_heap hx hop
              rw [← hh]
              rw [this] at hop; exact hop
        refine op_ok hE hC d.st.hr hfr (v := v) (H' := Hs c) ?_ fun v' M' w' hs hv => hK M' c _ w' (d.next pl hi hL hA hF hp hn (d.st.trans hs) hs.ext (d.res_keep hs) hv (.inr ⟨hxd', rfl⟩))
        rw [op_lim hcg]; exact hsame
  · have hw' : aWanted ops (mkFr (F 0).n (namesOf ops o) ((namesOf ops o).map (F i).get)) o = some false := by rw [wanted_congr hcg]; exact hw
    rw [wanted_ok hfr hw']
    simp only [Bool.false_eq_true, if_false]
    refine ⟨fun _ _ => trivial, ?_⟩
    cases hx : isXD o.op with
    | true =>
      obtain ⟨hh, hci⟩ := d.heapX pl tr hi hx hL hA
      have hcc : Hs (i + 1) = Hs c := by rw [hH, hh]
      refine hK M (i + 1) _ w (d.next pl hi hL hA hF hp hn (by rw [hcc]; exact d.st) (.refl M) (by rw [hcc]; exact d.res_keep (.refl d.st.hr)) (.undef M) (.inl ⟨hx, rfl, hci⟩))
    | false => exact hK M c _ w (d.next pl hi hL hA hF hp hn d.st (.refl M) (d.res_keep (.refl d.st.hr)) (.undef M) (.inr ⟨hx, rfl⟩))

end Go.Proofs.YthgfjbafhjkhnaaGreat.Zq
