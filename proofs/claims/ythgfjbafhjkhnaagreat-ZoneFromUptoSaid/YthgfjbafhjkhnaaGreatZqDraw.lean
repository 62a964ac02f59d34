/- A region whose order is drawn: every order comes to what the text's order comes to. -/
import Derived.Test.YthgfjbafhjkhnaaGreatZqPure
namespace Go.Proofs.YthgfjbafhjkhnaaGreat.Zq
variable {P : Program} {E : Env} {call : CallT} {ops : Array Oper}

def dstOf (ops : Array Oper) (q : Nat) : Option Nat := (ops[q]?).bind (·.dst)
def isXAt (ops : Array Oper) (q : Nat) : Prop := ∃ o, ops[q]? = some o ∧ isXD o.op = true

/-- The run in the text's order. -/
structure Trace (E : Env) (call : CallT) (ops : Array Oper) (pr : Nat → Option Value) (F : Nat → AFr) (Hs : Nat → Heap) : Prop where
  step : ∀ i o, ops[i]? = some o → aOperD E call ops (pr i) o (F i) (Hs i) = some (F (i + 1), Hs (i + 1))
  al : ∀ i o, ops[i]? = some o → (pr i).isSome = isAl o.op
  inj : ∀ i j p, pr i = some p → pr j = some p → i = j

theorem Trace.n {pr : Nat → Option Value} {F : Nat → AFr} {Hs : Nat → Heap} (t : Trace E call ops pr F Hs) : ∀ i, i ≤ ops.size → (F i).n = (F 0).n
  | 0, _ => rfl
  | i + 1, h => by
    have hi : ops[i]? = some ops[i] := Array.getElem?_eq_getElem (by omega)
    have hs := t.step i _ hi
    have : (F (i + 1)).n = (F i).n := by
      unfold aOperD at hs
      split at hs
      · obtain ⟨b, hb, h2⟩ := some_bind hs
        cases b with
        | true =>
          simp only [if_true] at h2
          obtain ⟨r, hr, h3⟩ := some_bind h2
          simp at h3; rw [← h3.1]; cases (ops[i]).dst <;> rfl
        | false => simp at h2; rw [← h2.1]; cases (ops[i]).dst <;> rfl
      · simp at hs
    rw [this]; exact t.n i (by omega)

theorem put?_get {fr : AFr} {d : Option Nat} {v : Value} {t : Nat} (h : d ≠ some t) : (fr.put? d v).get t = fr.get t := by
  cases d with
  | none => rfl
  | some d =>
    simp only [AFr.put?, AFr.put, AFr.get, look]
    rw [if_neg (fun e => h (by rw [e]))]
theorem put?_get' {fr : AFr} {v : Value} {t : Nat} : (fr.put? (some t) v).get t = some v := by
  simp [AFr.put?, AFr.put, AFr.get, look]

/-- What an operation came to: its value, and where it is none, nothing. -/
theorem oper_split {pv : Option Value} {o : Oper} {fr fr' : AFr} {H H' : Heap} (h : aOperD E call ops pv o fr H = some (fr', H')) :
    putOk fr o.dst = true ∧ ∃ v, fr' = fr.put? o.dst v ∧ ((aWanted ops fr o = some true ∧ aOpD E call pv fr o.op H = some (v, H')) ∨ (aWanted ops fr o = some false ∧ v = undef ∧ H' = H)) := by
  unfold aOperD at h
  split at h
  · rename_i hp
    refine ⟨hp, ?_⟩
    obtain ⟨b, hb, h2⟩ := some_bind h
    cases b with
    | true =>
      simp only [if_true] at h2
      obtain ⟨r, hr, h3⟩ := some_bind h2
      obtain ⟨v, H1⟩ := r
      simp at h3; obtain ⟨rfl, rfl⟩ := h3
      exact ⟨v, rfl, .inl ⟨hb, hr⟩⟩
    | false => simp at h2; obtain ⟨rfl, rfl⟩ := h2; exact ⟨undef, rfl, .inr ⟨hb, rfl, rfl⟩⟩
  · simp at h

section
variable {pr : Nat → Option Value} {F : Nat → AFr} {Hs : Nat → Heap}
theorem Trace.heap (t : Trace E call ops pr F Hs) {i : Nat} {o : Oper} (hi : ops[i]? = some o) (hx : isXD o.op = false) : Hs (i + 1) = Hs i := by
  obtain ⟨_, v, _, h⟩ := oper_split (t.step i o hi)
  rcases h with ⟨_, h⟩ | ⟨_, _, h⟩
  · have ha := t.al i o hi
    unfold aOpD at h
    cases hp : pr i with
    | some p => rw [hp] at h; simp at h; exact h.2.symm
    | none =>
      rw [hp] at h ha
      simp only at h
      have hal : isAl o.op = false := by simpa using ha.symm
      have hxx : isX o.op = false := by simpa [isXD, hal] using hx
      exact nonX_heap hxx h
  · exact h

theorem Trace.heaps (t : Trace E call ops pr F Hs) {p : Nat} : ∀ {q : Nat}, p ≤ q → q ≤ ops.size → (∀ x, p ≤ x → x < q → ¬ isXAt ops x) → Hs q = Hs p := by
  intro q hpq
  induction q with
  | zero => intro _ _; have : p = 0 := by omega
            subst this; rfl
  | succ q ih =>
    intro hq hn
    by_cases e : p = q + 1
    · subst e; rfl
    · have hi : ops[q]? = some ops[q] := Array.getElem?_eq_getElem (by omega)
      have hx : isXD (ops[q]).op = false := by
        cases hc : isXD (ops[q]).op with
        | false => rfl
        | true => exact absurd ⟨_, hi, hc⟩ (hn q (by omega) (by omega))
      rw [t.heap hi hx]
      exact ih (by omega) (by omega) (fun x h1 h2 => hn x h1 (by omega))

theorem Trace.get (tr : Trace E call ops pr F Hs) {t p : Nat} : ∀ {q : Nat}, p ≤ q → q ≤ ops.size → (∀ x, p ≤ x → x < q → dstOf ops x ≠ some t) → (F q).get t = (F p).get t := by
  intro q hpq
  induction q with
  | zero => intro _ _; have : p = 0 := by omega
            subst this; rfl
  | succ q ih =>
    intro hq hn
    by_cases e : p = q + 1
    · subst e; rfl
    · have hi : ops[q]? = some ops[q] := Array.getElem?_eq_getElem (by omega)
      obtain ⟨_, v, hv, _⟩ := oper_split (tr.step q _ hi)
      rw [hv, put?_get (by have := hn q (by omega) (by omega); unfold dstOf at this; rw [hi] at this; exact this)]
      exact ih (by omega) (by omega) (fun x h1 h2 => hn x h1 (by omega))
end

/-! ### What the plan says -/

structure Plan (ops : Array Oper) (A : Nat → Nat → Prop) : Prop where
  edge : ∀ i j, A i j → ∃ o e, ops[i]? = some o ∧ e ∈ o.after.toList ∧ Region.binds .any e = true ∧ (j = e.on ∨ A e.on j)
  back : ∀ i o e, ops[i]? = some o → e ∈ o.after.toList → Region.binds .any e = true → e.on < i
  xs : ∀ i j, isXAt ops i → isXAt ops j → i < j → A j i
  names : ∀ i o t q, ops[i]? = some o → t ∈ namesOf ops o → dstOf ops q = some t → q ≠ i → (q < i → A i q) ∧ (i < q → A q i)

/-- How far an order has come. -/
structure DInv (P : Program) (E : Env) (ops : Array Oper) (A : Nat → Nat → Prop) (pr : Nat → Option Value) (H0 : Heap) (F : Nat → AFr) (Hs : Nat → Heap) (M0 : Mp) (w0 : World) (a0 : Act) (L : Nat → Bool) (M : Mp) (c : Nat) (a : Act) (w : World) : Prop where
  closed : ∀ i j, L i = true → A i j → L j = true
  st : Stp M0 H0 w0 M (Hs c) w
  res : ∀ i o t, ops[i]? = some o → o.op = .alloc t → L i = false → ∃ b ti, pr i = some (.pointer (some ⟨b, 0, none⟩)) ∧ E.ty t = some ti ∧ M0.length ≤ b ∧ M[b]? = some none ∧ (Hs c)[b]? = some (.row ti.zero ti.size false false true)
  c_le : c ≤ ops.size
  c_x : c = 0 ∨ ∃ x, c = x + 1 ∧ isXAt ops x ∧ L x = true
  c_max : ∀ y, isXAt ops y → L y = true → y < c
  size : a.tmps.size = (F 0).n
  defers : a.defers = a0.defers
  new : ∀ i t v, L i = true → i < ops.size → dstOf ops i = some t → (∀ q, L q = true → dstOf ops q = some t → q ≤ i) → (F (i + 1)).get t = some v → VR M v (a.tmps.getD t undef)
  old : ∀ t v, (∀ q, L q = true → dstOf ops q ≠ some t) → (F 0).get t = some v → VR M v (a.tmps.getD t undef)

theorem last_below (W : Nat → Prop) (i : Nat) : (∃ q, q < i ∧ W q ∧ ∀ r, r < i → W r → r ≤ q) ∨ (∀ q, q < i → ¬ W q) := by
  induction i with
  | zero => exact .inr fun q h => by omega
  | succ i ih =>
    by_cases h : W i
    · exact .inl ⟨i, by omega, h, fun r hr _ => by omega⟩
    · rcases ih with ⟨q, h1, h2, h3⟩ | h1
      · refine .inl ⟨q, by omega, h2, fun r hr hw => ?_⟩
        by_cases e : r = i
        · subst e; exact absurd hw h
        · exact h3 r (by omega) hw
      · refine .inr fun q hq hw => ?_
        by_cases e : q = i
        · subst e; exact h hw
        · exact h1 q (by omega) hw

section
variable {A : Nat → Nat → Prop} {pr : Nat → Option Value} {H0 : Heap} {F : Nat → AFr} {Hs : Nat → Heap} {M0 M : Mp} {w0 w : World} {a0 a : Act} {L : Nat → Bool} {c : Nat}

/-- The slots that an operation names hold what they hold in the text's order. -/
theorem DInv.names (d : DInv P E ops A pr H0 F Hs M0 w0 a0 L M c a w) (pl : Plan ops A) (tr : Trace E call ops pr F Hs) {i : Nat} {o : Oper} (hi : ops[i]? = some o) (hL : L i = false) (hA : ∀ j, A i j → L j = true) {t : Nat} (ht : t ∈ namesOf ops o) {v : Value}
    (hv : (F i).get t = some v) : VR M v (a.tmps.getD t undef) := by
  have hin : i < ops.size := (Array.getElem?_eq_some_iff.1 hi).1
  have lt_of : ∀ q, L q = true → dstOf ops q = some t → q < i := by
    intro q hq hd
    by_cases e : q = i
    · subst e; rw [hL] at hq; simp at hq
    · rcases Nat.lt_or_gt_of_ne e with h | h
      · exact h
      · have := d.closed q i hq ((pl.names i o t q hi ht hd e).2 h)
        rw [hL] at this; simp at this
  have list_of : ∀ q, q < i → dstOf ops q = some t → L q = true := fun q hq hd => hA q ((pl.names i o t q hi ht hd (by omega)).1 hq)
  rcases last_below (fun q => dstOf ops q = some t) i with ⟨q, h1, h2, h3⟩ | h1
  · refine d.new q t v (list_of q h1 h2) (by omega) h2 (fun r hr hd => h3 r (lt_of r hr hd) hd) ?_
    rw [← tr.get (t := t) (p := q + 1) (q := i) (by omega) (by omega) (fun x hx1 hx2 hd => by have := h3 x hx2 hd; omega)]
    exact hv
  · refine d.old t v (fun q hq hd => h1 q (lt_of q hq hd) hd) ?_
    rw [← tr.get (t := t) (p := 0) (q := i) (by omega) (by omega) (fun x _ hx2 hd => h1 x hx2 hd)]
    exact hv

/-- For one that changes the heap: the heap is the text's. -/
theorem DInv.heapX (d : DInv P E ops A pr H0 F Hs M0 w0 a0 L M c a w) (pl : Plan ops A) (tr : Trace E call ops pr F Hs) {i : Nat} {o : Oper} (hi : ops[i]? = some o) (hx : isXD o.op = true) (hL : L i = false) (hA : ∀ j, A i j → L j = true) : Hs i = Hs c ∧ c ≤ i := by
  have hin : i < ops.size := (Array.getElem?_eq_some_iff.1 hi).1
  have hxi : isXAt ops i := ⟨o, hi, hx⟩
  have hci : c ≤ i := by
    rcases d.c_x with h | ⟨x, rfl, hxx, hLx⟩
    · omega
    · by_cases e : x = i
      · subst e; rw [hL] at hLx; simp at hLx
      · rcases Nat.lt_or_gt_of_ne e with h | h
        · omega
        · have := d.closed x i hLx (pl.xs i x hxi hxx h)
          rw [hL] at this; simp at this
  refine ⟨tr.heaps hci (by omega) fun x h1 h2 hxx => ?_, hci⟩
  have := d.c_max x hxx (hA x (pl.xs x i hxx hxi h2))
  omega

end

/-! ### The plan out of its test -/

def maskOf (acc : Array Nat) (o : Oper) : Nat :=
  o.after.foldl (fun s e => if Region.binds .any e then s ||| 2 ^ e.on ||| acc.getD e.on 0 else s) 0

theorem mask_bit (acc : Array Nat) (j : Nat) : ∀ (l : List Edge) (s : Nat), (l.foldl (fun s e => if Region.binds .any e then s ||| 2 ^ e.on ||| acc.getD e.on 0 else s) s).testBit j = true →
    s.testBit j = true ∨ ∃ e ∈ l, Region.binds .any e = true ∧ (j = e.on ∨ (acc.getD e.on 0).testBit j = true)
  | [], s, h => .inl h
  | e :: l, s, h => by
    simp only [List.foldl_cons] at h
    rcases mask_bit acc j l _ h with h1 | ⟨e', h1, h2, h3⟩
    · split at h1
      · rename_i hb
        simp only [Nat.testBit_or, Bool.or_eq_true, Nat.testBit_two_pow, decide_eq_true_eq] at h1
        rcases h1 with (h1 | h1) | h1
        · exact .inl h1
        · exact .inr ⟨e, by simp, hb, .inl h1.symm⟩
        · exact .inr ⟨e, by simp, hb, .inr h1⟩
      · exact .inl h1
    · exact .inr ⟨e', by simp [h1], h2, h3⟩

theorem before_list : ∀ (os : List Oper) (acc : Array Nat), (∀ i, i < acc.size → (os.foldl (fun acc o => acc.push (maskOf acc o)) acc).getD i 0 = acc.getD i 0) ∧
    (os.foldl (fun acc o => acc.push (maskOf acc o)) acc).size = acc.size + os.length ∧
    ∀ k o, os[k]? = some o → ∃ acc' : Array Nat, acc'.size = acc.size + k ∧ (∀ q, q < acc'.size → acc'.getD q 0 = (os.foldl (fun acc o => acc.push (maskOf acc o)) acc).getD q 0) ∧
      (os.foldl (fun acc o => acc.push (maskOf acc o)) acc).getD (acc.size + k) 0 = maskOf acc' o
  | [], acc => ⟨fun _ _ => rfl, by simp, fun k o h => by simp at h⟩
  | o :: os, acc => by
    obtain ⟨h1, h2, h3⟩ := before_list os (acc.push (maskOf acc o))
    simp only [List.foldl_cons]
    have hp : ∀ i, i < acc.size → (acc.push (maskOf acc o)).getD i 0 = acc.getD i 0 := by
      intro i hi
      simp only [Array.getD_eq_getD_getElem?, Array.getElem?_push]
      rw [if_neg (by omega)]
    refine ⟨fun i hi => by rw [h1 i (by simp; omega), hp i hi], by rw [h2]; simp; omega, fun k o' hk => ?_⟩
    cases k with
    | zero =>
      simp at hk; subst hk
      refine ⟨acc, rfl, fun q hq => by rw [h1 q (by simp; omega), hp q hq], ?_⟩
      rw [Nat.add_zero, h1 acc.size (by simp)]
      simp [Array.getD_eq_getD_getElem?]
    | succ k =>
      obtain ⟨acc', g1, g2, g3⟩ := h3 k o' (by simpa using hk)
      refine ⟨acc', by rw [g1]; simp; omega, g2, ?_⟩
      have : acc.size + (k + 1) = (acc.push (maskOf acc o)).size + k := by simp; omega
      rw [this]; exact g3

theorem before_edge {i j : Nat} (h : ahead (Region.before ops) i j = true) : ∃ o e, ops[i]? = some o ∧ e ∈ o.after.toList ∧ Region.binds .any e = true ∧ (j = e.on ∨ ahead (Region.before ops) e.on j = true) := by
  have hb : Region.before ops = ops.toList.foldl (fun acc o => acc.push (maskOf acc o)) #[] := by
    unfold Region.before
    rw [← Array.foldl_toList]; rfl
  obtain ⟨_, h2, h3⟩ := before_list ops.toList #[]
  unfold ahead at h
  have hi : i < ops.size := by
    rcases Nat.lt_or_ge i ops.size with hl | hl
    · exact hl
    · rw [hb, Array.getD_eq_getD_getElem?, Array.getElem?_eq_none (by rw [h2]; simpa using hl)] at h
      simp at h
  obtain ⟨acc', g1, g2, g3⟩ := h3 i ops[i] (by simp [hi])
  have e0 : (#[] : Array Nat).size + i = i := by simp
  rw [e0] at g1 g3
  rw [hb, g3] at h
  unfold maskOf at h
  rw [← Array.foldl_toList] at h
  rcases mask_bit acc' j _ _ h with hz | ⟨e, k1, k2, k3⟩
  · simp at hz
  · refine ⟨ops[i], e, Array.getElem?_eq_getElem hi, k1, k2, ?_⟩
    rcases k3 with k3 | k3
    · exact .inl k3
    · refine .inr ?_
      unfold ahead
      rcases Nat.lt_or_ge e.on i with hl | hl
      · rw [hb, ← g2 e.on (by omega)]; exact k3
      · rw [Array.getD_eq_getD_getElem?, Array.getElem?_eq_none (by omega)] at k3
        simp at k3

theorem mem_xsOf : ∀ (os : List Oper) (i x : Nat), x ∈ xsOf os i ↔ ∃ k o, x = i + k ∧ os[k]? = some o ∧ isXD o.op = true
  | [], i, x => by simp [xsOf]
  | o :: os, i, x => by
    unfold xsOf
    have ih := mem_xsOf os (i + 1) x
    constructor
    · intro h
      split at h
      · rename_i hx
        rcases List.mem_cons.1 h with rfl | h
        · exact ⟨0, o, rfl, rfl, hx⟩
        · obtain ⟨k, o', h1, h2, h3⟩ := ih.1 h
          exact ⟨k + 1, o', by omega, by simpa using h2, h3⟩
      · obtain ⟨k, o', h1, h2, h3⟩ := ih.1 h
        exact ⟨k + 1, o', by omega, by simpa using h2, h3⟩
    · rintro ⟨k, o', h1, h2, h3⟩
      cases k with
      | zero =>
        simp at h2; subst h2
        rw [if_pos h3]; simp [h1]
      | succ k =>
        have := ih.2 ⟨k, o', by omega, by simpa using h2, h3⟩
        split
        · exact List.mem_cons_of_mem _ this
        · exact this

theorem mem_xs {x : Nat} : x ∈ xsOf ops.toList 0 ↔ isXAt ops x := by
  rw [mem_xsOf]
  unfold isXAt
  constructor
  · rintro ⟨k, o, rfl, h1, h2⟩
    exact ⟨o, by simpa using h1, h2⟩
  · rintro ⟨o, h1, h2⟩
    exact ⟨x, o, by simp, by simpa using h1, h2⟩

theorem backB_ok : ∀ (os : List Oper) (i : Nat), backB os i = true → ∀ k o e, os[k]? = some o → e ∈ o.after.toList → Region.binds .any e = true → e.on < i + k
  | [], i, _, k, o, e, hk, _, _ => by simp at hk
  | p :: os, i, h, k, o, e, hk, he, hb => by
    unfold backB at h
    simp only [Bool.and_eq_true] at h
    cases k with
    | zero =>
      simp at hk; subst hk
      have := List.all_eq_true.1 h.1 e he
      simp [hb] at this
      omega
    | succ k =>
      have := backB_ok os (i + 1) h.2 k o e (by simpa using hk) he hb
      omega

theorem mem_zipIdx {i : Nat} {o : Oper} (h : ops[i]? = some o) : (o, i) ∈ ops.toList.zipIdx := by
  rw [List.mem_zipIdx_iff_getElem?]
  simpa using h

theorem plan_of (h : drawOk ops = true) : Plan ops (fun i j => ahead (Region.before ops) i j = true) := by
  unfold drawOk at h
  simp only [Bool.and_eq_true] at h
  obtain ⟨⟨h1, h2⟩, h3⟩ := h
  refine ⟨fun i j hij => before_edge hij, fun i o e hi he hb => ?_, fun i j hi hj hlt => ?_, fun i o t q hi ht hd hne => ?_⟩
  · have := backB_ok ops.toList 0 h1 i o e (by simpa using hi) he hb
    simpa using this
  · have := List.all_eq_true.1 (List.all_eq_true.1 h2 i (mem_xs.2 hi)) j (mem_xs.2 hj)
    simpa [hlt] using this
  · have h4 := List.all_eq_true.1 (List.all_eq_true.1 h3 (o, i) (mem_zipIdx hi)) t ht
    unfold dstOf at hd
    cases hq : ops[q]? with
    | none => rw [hq] at hd; simp at hd
    | some oq =>
      rw [hq] at hd; simp at hd
      have h5 := List.all_eq_true.1 h4 (oq, q) (mem_zipIdx hq)
      simp only [hd, bne_self_eq_false, Bool.false_or, Bool.or_eq_true, beq_iff_eq] at h5
      rcases h5 with h5 | h5
      · exact absurd h5 hne
      · constructor
        · intro hlt; rw [if_pos hlt] at h5; exact h5
        · intro hlt; rw [if_neg (by omega)] at h5; exact h5

end Go.Proofs.YthgfjbafhjkhnaaGreat.Zq
