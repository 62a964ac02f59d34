/- A region whose order is drawn, third part. -/
import Derived.Test.YthgfjbafhjkhnaaGreatZqDraw2
namespace Go.Proofs.YthgfjbafhjkhnaaGreat.Zq
variable {P : Program} {E : Env} {call : CallT} {ops : Array Oper} {ro : Option Nat} {n : Nat}
  {A : Nat → Nat → Prop} {pr : Nat → Option Value} {H0 : Heap} {F : Nat → AFr} {Hs : Nat → Heap} {M0 M M' : Mp} {w0 w w' : World} {a0 a : Act} {L : Nat → Bool} {c c' : Nat}

theorem countP_lt {l : List Nat} {p q : Nat → Bool} (h : ∀ x, q x = true → p x = true) {i : Nat} (hi : i ∈ l) (h1 : p i = true) (h2 : q i = false) : l.countP q < l.countP p := by
  induction l with
  | nil => simp at hi
  | cons x l ih =>
    simp only [List.countP_cons]
    have hle : l.countP q ≤ l.countP p := List.countP_mono_left fun x _ hx => h x hx
    rcases List.mem_cons.1 hi with rfl | hi
    · rw [h1, h2]; simp; omega
    · have := ih hi
      have hx : (if q x = true then 1 else 0) ≤ (if p x = true then 1 else 0) := by
        by_cases hq : q x = true
        · rw [if_pos hq, if_pos (h x hq)]; exact Nat.le_refl _
        · rw [if_neg hq]; omega
      omega

def Lof (listed : Array Bool) (q : Nat) : Bool := listed.getD q false

theorem any_ok (hE : E.Ok P) (hC : CallOk P call) {Q : Exit → Act → World → Prop} (pl : Plan ops A) (hAe : ∀ i o, ops[i]? = some o → ∀ L : Nat → Bool, (∀ i j, L i = true → A i j → L j = true) → (∀ e ∈ o.after.toList, Region.binds .any e = true → L e.on = true) → ∀ j, A i j → L j = true)
    (tr : Trace E call ops pr F Hs) (ag : Agains E ops A F Hs)
    (hQ : ∀ M c a w L, (∀ q, q < ops.size → L q = true) → DInv P E ops A pr H0 F Hs M0 w0 a0 L M c a w → Q .normal a w) :
    ∀ (fuel : Nat) (listed : Array Bool) (M : Mp) (c : Nat) (a : Act) (w : World), listed.size = ops.size → (List.range ops.size).countP (fun i => !Lof listed i) ≤ fuel → DInv P E ops A pr H0 F Hs M0 w0 a0 (Lof listed) M c a w →
      wpAnyIn (Fw ro) n P .any ops Q fuel listed a w := by
  have allListed : ∀ (listed : Array Bool), listed.size = ops.size → Region.ready .any ops listed = [] → ∀ q, q < ops.size → Lof listed q = true := by
    intro listed hls hr q
    induction q using Nat.strongRecOn with
    | _ q ih =>
      intro hq
      cases hL : Lof listed q with
      | true => rfl
      | false =>
        exfalso
        have : q ∈ Region.ready .any ops listed := by
          rw [mem_ready]
          refine ⟨?_, ops[q], Array.getElem?_eq_getElem hq, fun e he hb => ?_⟩
          · unfold Lof at hL
            have hql : q < listed.size := by omega
            simp only [Array.getD_eq_getD_getElem?, Array.getElem?_eq_getElem hql, Option.getD_some] at hL ⊢
            exact hL
          · have hlt := pl.back q _ e (Array.getElem?_eq_getElem hq) (by simpa using he) hb
            exact ih e.on hlt (by omega)
        rw [hr] at this; simp at this
  intro fuel
  induction fuel with
  | zero =>
    intro listed M c a w hls hcnt d
    have hall : ∀ q, q < ops.size → Lof listed q = true := by
      intro q hq
      have h0 : (List.range ops.size).countP (fun i => !Lof listed i) = 0 := by omega
      have := List.countP_eq_zero.1 h0 q (by simpa using hq)
      simpa using this
    refine ⟨?_, hQ M c a w _ hall d⟩
    apply List.eq_nil_iff_forall_not_mem.2
    intro i hi
    rw [mem_ready] at hi
    obtain ⟨h1, o, h2, _⟩ := hi
    have hin : i < ops.size := (Array.getElem?_eq_some_iff.1 h2).1
    have := hall i hin
    unfold Lof at this
    have hql : i < listed.size := by omega
    simp only [Array.getD_eq_getD_getElem?, Array.getElem?_eq_getElem hql, Option.getD_some] at h1 this
    rw [h1] at this; simp at this
  | succ fuel ih =>
    intro listed M c a w hls hcnt d
    refine ⟨fun hr => hQ M c a w _ (allListed listed hls hr) d, fun i hi => ?_⟩
    rw [mem_ready] at hi
    obtain ⟨h1, o, h2, h3⟩ := hi
    have hin : i < ops.size := (Array.getElem?_eq_some_iff.1 h2).1
    have hql : i < listed.size := by omega
    have hL : Lof listed i = false := by
      unfold Lof
      simp only [Array.getD_eq_getD_getElem?, Array.getElem?_eq_getElem hql, Option.getD_some] at h1 ⊢
      exact h1
    have hA : ∀ j, A i j → Lof listed j = true := hAe i o h2 (Lof listed) d.closed (fun e he hb => h3 e (by simpa using he) hb)
    refine d.step hE hC pl tr ag h2 hL hA fun M' c' a' w' d' => ?_
    have hLe : (fun q => Lof listed q || q == i) = Lof (listed.setIfInBounds i true) := by
      funext q
      unfold Lof
      by_cases e : i = q
      · subst e
        simp [hql]
      · rw [getD_set_ne false e]
        have : (q == i) = false := by simpa using Ne.symm e
        rw [this, Bool.or_false]
    rw [hLe] at d'
    refine ih _ M' c' a' w' (by simpa using hls) ?_ d'
    have := countP_lt (l := List.range ops.size) (p := fun i => !Lof listed i) (q := fun q => !Lof (listed.setIfInBounds i true) q) (i := i) ?_ (by simpa using hin) (by simp [hL]) (by rw [← hLe]; simp)
    · omega
    · intro x hx
      rw [← hLe] at hx
      simp at hx ⊢
      exact hx.1

theorem trace_list : ∀ (os : List Oper) (ps : List (Option Value)) (fr : AFr) (H : Heap) (tr : List (AFr × Heap)), aOpsT E call ops os ps fr H = some tr → tr.length = os.length + 1 ∧ tr[0]? = some (fr, H) ∧
    (∀ i o, os[i]? = some o → ∃ f g f' g', tr[i]? = some (f, g) ∧ tr[i + 1]? = some (f', g') ∧ aOperD E call ops (ps[i]?).join o f g = some (f', g'))
  | [], ps, fr, H, tr, h => by
    simp [aOpsT] at h; subst h
    exact ⟨rfl, rfl, fun i o h => by simp at h⟩
  | o :: os, ps, fr, H, tr, h => by
    simp only [aOpsT] at h
    obtain ⟨x, h1, h2⟩ := some_bind h
    obtain ⟨y, h3, h4⟩ := some_bind h2
    simp at h4; subst h4
    obtain ⟨fr1, H1⟩ := x
    obtain ⟨g1, g2, g3⟩ := trace_list os ps.tail fr1 H1 y h3
    refine ⟨by simp [g1], rfl, fun i o' hi => ?_⟩
    cases i with
    | zero =>
      simp at hi; subst hi
      refine ⟨fr, H, fr1, H1, rfl, by simpa using g2, ?_⟩
      have : (ps[0]?).join = ps.headD none := by cases ps <;> rfl
      rw [this]; exact h1
    | succ i =>
      obtain ⟨f, g, f', g', k1, k2, k3⟩ := g3 i o' (by simpa using hi)
      refine ⟨f, g, f', g', by simpa using k1, by simpa using k2, ?_⟩
      have : ps[i + 1]? = ps.tail[i]? := by cases ps <;> simp
      rw [this]; exact k3

/-- What is reserved: rows behind the heap, each alloc's its own. -/
theorem resv_list (E : Env) : ∀ (os : List Oper) (H : Heap) (ps : List (Option Value)) (H' : Heap), aResv E os H = some (ps, H') → ps.length = os.length ∧ (∃ X, H' = H ++ X) ∧
    ∀ (i : Nat) (o : Oper), os[i]? = some o → ((ps[i]?).join.isSome = isAl o.op) ∧
      (∀ t : TypeId, o.op = .alloc t → ∃ (b : Nat) (ti : TI), (ps[i]?).join = some (.pointer (some ⟨b, 0, none⟩)) ∧ E.ty t = some ti ∧ H.length ≤ b ∧ H'[b]? = some (.row ti.zero ti.size false false true) ∧
        ∀ (j : Nat) (p : Value), j ≠ i → (ps[j]?).join = some p → p ≠ .pointer (some ⟨b, 0, none⟩))
  | [], H, ps, H', h => by
    simp [aResv] at h; obtain ⟨rfl, rfl⟩ := h
    exact ⟨rfl, ⟨[], by simp⟩, fun i o h => by simp at h⟩
  | o :: os, H, ps, H', h => by
    have lo : ∀ (os : List Oper) (H : Heap) (ps : List (Option Value)) (H' : Heap), aResv E os H = some (ps, H') → ∀ (j : Nat) (p : Value), (ps[j]?).join = some p → ∃ b, H.length ≤ b ∧ p = .pointer (some ⟨b, 0, none⟩) := by
      intro os
      induction os with
      | nil => intro H ps H' h j p hj; simp [aResv] at h; obtain ⟨rfl, rfl⟩ := h; simp at hj
      | cons o os ih =>
        intro H ps H' h j p hj
        unfold aResv at h
        split at h
        · obtain ⟨x, h1, h2⟩ := some_bind h
          obtain ⟨y, h3, h4⟩ := some_bind h2
          unfold aAlloc at h1
          obtain ⟨ti, _, h1⟩ := some_bind h1
          simp at h1 h4; subst h1
          obtain ⟨rfl, rfl⟩ := h4
          cases j with
          | zero => simp at hj; exact ⟨H.length, Nat.le_refl _, hj.symm⟩
          | succ j =>
            obtain ⟨b, q1, q2⟩ := ih _ y.1 y.2 h3 j p (by simpa using hj)
            exact ⟨b, by simp [mk] at q1; omega, q2⟩
        · obtain ⟨y, h3, h4⟩ := some_bind h
          simp at h4; obtain ⟨rfl, rfl⟩ := h4
          cases j with
          | zero => simp at hj
          | succ j => exact ih _ y.1 y.2 h3 j p (by simpa using hj)
    unfold aResv at h
    split at h
    · rename_i t ho
      obtain ⟨x, h1, h2⟩ := some_bind h
      obtain ⟨y, h3, h4⟩ := some_bind h2
      unfold aAlloc at h1
      obtain ⟨ti, ht, h1⟩ := some_bind h1
      simp at h1 h4; subst h1
      obtain ⟨rfl, rfl⟩ := h4
      obtain ⟨g1, ⟨X, g2⟩, g3⟩ := resv_list E os _ y.1 y.2 h3
      have hlo := lo os _ y.1 y.2 h3
      refine ⟨by simp [g1], ⟨.row ti.zero ti.size false false true :: X, by rw [g2]; simp [mk]⟩, fun i o' hi => ?_⟩
      cases i with
      | zero =>
        simp at hi; subst hi
        refine ⟨by simp [ho, isAl], fun t' ho' => ?_⟩
        rw [ho] at ho'; simp at ho'; subst ho'
        refine ⟨H.length, ti, rfl, ht, Nat.le_refl _, by rw [g2]; simp [mk], fun j p hj hp => ?_⟩
        cases j with
        | zero => exact absurd rfl hj
        | succ j =>
          obtain ⟨b, q1, rfl⟩ := hlo j p (by simpa using hp)
          simp [mk] at q1
          simp; omega
      | succ i =>
        obtain ⟨k1, k2⟩ := g3 i o' (by simpa using hi)
        refine ⟨by simpa using k1, fun t' ho' => ?_⟩
        obtain ⟨b, ti', q1, q2, q3, q4, q5⟩ := k2 t' ho'
        refine ⟨b, ti', by simpa using q1, q2, by simp [mk] at q3; omega, q4, fun j p hj hp => ?_⟩
        cases j with
        | zero => simp at hp; subst hp; simp [mk] at q3; simp; omega
        | succ j => exact q5 j p (by omega) (by simpa using hp)
    · rename_i hno
      obtain ⟨y, h3, h4⟩ := some_bind h
      simp at h4; obtain ⟨rfl, rfl⟩ := h4
      obtain ⟨g1, g2, g3⟩ := resv_list E os _ y.1 y.2 h3
      refine ⟨by simp [g1], g2, fun i o' hi => ?_⟩
      cases i with
      | zero =>
        simp at hi; subst hi
        refine ⟨?_, fun t' ho' => absurd ho' (hno t')⟩
        cases ho : o.op <;> simp [isAl]
        exact hno _ ho
      | succ i =>
        obtain ⟨k1, k2⟩ := g3 i o' (by simpa using hi)
        refine ⟨by simpa using k1, fun t' ho' => ?_⟩
        obtain ⟨b, ti', q1, q2, q3, q4, q5⟩ := k2 t' ho'
        refine ⟨b, ti', by simpa using q1, q2, q3, q4, fun j p hj hp => ?_⟩
        cases j with
        | zero => simp at hp
        | succ j => exact q5 j p (by omega) (by simpa using hp)

/-- What aDraw asks: the places, the plan, and the reads asked again. -/
theorem draw_parts {fr fr' : AFr} {H H' : Heap} (h : aDraw E call ops fr H = some (fr', H')) :
    drawOk ops = true ∧ ∃ ps G tr, aResv E ops.toList H = some (ps, G) ∧ aOpsT E call ops ops.toList ps fr G = some tr ∧ tr.getLast? = some (fr', H') ∧ (drawPlan ops).all (fun p => p.2.all fun c => aAgain E ops tr p.1 c) = true := by
  unfold aDraw at h
  split at h
  · rename_i hd
    refine ⟨hd, ?_⟩
    obtain ⟨rs, h1, h2⟩ := some_bind h
    obtain ⟨tr, h3, h4⟩ := some_bind h2
    split at h4
    · rename_i hall
      exact ⟨rs.1, rs.2, tr, h1, h3, h4, hall⟩
    · simp at h4
  · simp at h

theorem draw_all {fr fr' : AFr} {H H' : Heap} (h : aDraw E call ops fr H = some (fr', H')) :
    ∃ (pr : Nat → Option Value) (X : Heap) (F : Nat → AFr) (Hs : Nat → Heap), F 0 = fr ∧ Hs 0 = H ++ X ∧ F ops.size = fr' ∧ Hs ops.size = H' ∧ Trace E call ops pr F Hs ∧
      Plan ops (fun i j => ahead (Region.before ops) i j = true) ∧ Agains E ops (fun i j => ahead (Region.before ops) i j = true) F Hs ∧
      ∀ i o t, ops[i]? = some o → o.op = .alloc t → ∃ b ti, pr i = some (.pointer (some ⟨b, 0, none⟩)) ∧ E.ty t = some ti ∧ H.length ≤ b ∧ (H ++ X)[b]? = some (.row ti.zero ti.size false false true) := by
  obtain ⟨hd, ps, G, tr, hrs, ht, hl, hall⟩ := draw_parts h
  obtain ⟨v1, ⟨X, rfl⟩, v3⟩ := resv_list E ops.toList H ps G hrs
  obtain ⟨g1, g2, g3⟩ := trace_list (E := E) (call := call) (ops := ops) ops.toList ps fr (H ++ X) tr ht
  have hlen : tr.length = ops.size + 1 := by simpa using g1
  let F : Nat → AFr := fun i => (tr.getD i default).1
  let Hs : Nat → Heap := fun i => (tr.getD i default).2
  have hget : ∀ i, i ≤ ops.size → tr[i]? = some (F i, Hs i) := by
    intro i hi
    have : i < tr.length := by omega
    simp [F, Hs, List.getD_eq_getElem?_getD, this]
  have hlast : tr[ops.size]? = some (fr', H') := by
    rw [List.getLast?_eq_getElem?] at hl
    rw [hlen] at hl; exact hl
  have e0 := hget 0 (by omega)
  rw [g2] at e0
  have en := hget ops.size (Nat.le_refl _)
  rw [hlast] at en
  simp at e0 en
  have htr : Trace E call ops (fun i => (ps[i]?).join) F Hs := by
    refine ⟨fun i o hi => ?_, fun i o hi => (v3 i o (by simpa using hi)).1, fun i j p hpi hpj => ?_⟩
    rotate_left
    · have hil : i < ps.length := by
        rcases Nat.lt_or_ge i ps.length with h | h
        · exact h
        · rw [List.getElem?_eq_none h] at hpi; simp at hpi
      have hio : i < ops.toList.length := by omega
      obtain ⟨q1, q2⟩ := v3 i ops.toList[i] (List.getElem?_eq_getElem hio)
      rw [hpi] at q1
      obtain ⟨t, ho⟩ := isAl_alloc q1.symm
      obtain ⟨b, ti, w1, _, _, _, w5⟩ := q2 t ho
      rw [hpi] at w1; simp at w1; subst w1
      exact Classical.byContradiction fun hne => w5 j _ (fun e => hne e.symm) hpj rfl
    have hin : i < ops.size := (Array.getElem?_eq_some_iff.1 hi).1
    obtain ⟨f, g, f', g', k1, k2, k3⟩ := g3 i o (by simpa using hi)
    rw [hget i (by omega)] at k1
    rw [hget (i + 1) (by omega)] at k2
    simp at k1 k2
    rw [k1.1, k1.2, k2.1, k2.2]; exact k3
  refine ⟨_, X, F, Hs, e0.1.symm, e0.2.symm, en.1.symm, en.2.symm, htr, plan_of hd, ?_, fun i o t hi ho => ?_⟩
  rotate_left
  · obtain ⟨b, ti, w1, w2, w3, w4, _⟩ := (v3 i o (by simpa using hi)).2 t ho
    exact ⟨b, ti, w1, w2, w3, w4⟩
  intro i o c hi hx hal hpu hw hc hlt hbet
  have hin : i < ops.size := (Array.getElem?_eq_some_iff.1 hi).1
  have hcn : c ≤ ops.size := by
    rcases hc with h | ⟨x, h1, ⟨o', h2, _⟩, _⟩
    · omega
    · have := (Array.getElem?_eq_some_iff.1 h2).1; omega
  have hmem : c ∈ placesOf (Region.before ops) (xsOf ops.toList 0) i := by
    unfold placesOf
    rw [List.mem_filter]
    constructor
    · rcases hc with h | ⟨x, h1, h2, h3⟩
      · rw [h]; simp
      · refine List.mem_cons_of_mem _ (List.mem_map.2 ⟨x, List.mem_filter.2 ⟨mem_xs.2 h2, by simpa using h3⟩, h1.symm⟩)
    · simp only [Bool.and_eq_true, List.all_eq_true, List.any_eq_true, Bool.or_eq_true, decide_eq_true_eq, Bool.not_eq_true']
      refine ⟨fun x hxm => ?_, ?_⟩
      · cases hax : ahead (Region.before ops) i x with
        | false => exact .inl rfl
        | true => exact .inr (hlt x (mem_xs.1 hxm) hax)
      · obtain ⟨x, h1, h2⟩ := hbet
        exact ⟨x, mem_xs.2 h1, h2⟩
  have hplan : (i, placesOf (Region.before ops) (xsOf ops.toList 0) i) ∈ drawPlan ops := by
    unfold drawPlan
    rw [List.mem_filterMap]
    refine ⟨(o, i), mem_zipIdx hi, ?_⟩
    simp only [hx, hal, hpu, Bool.or_self, Bool.false_eq_true, if_false]
    cases hq : placesOf (Region.before ops) (xsOf ops.toList 0) i with
    | nil => rw [hq] at hmem; simp at hmem
    | cons a b => rfl
  have hag := List.all_eq_true.1 (List.all_eq_true.1 hall _ hplan) c hmem
  unfold aAgain at hag
  simp only [hi, hget i (by omega), hget (i + 1) (by omega), hget c hcn, hw] at hag
  cases hop : aOp E (fun _ _ _ => none) (F i) o.op (Hs c) with
  | none => rw [hop] at hag; simp at hag
  | some r =>
    obtain ⟨v, H1⟩ := r
    rw [hop] at hag
    cases hdst : o.dst with
    | none => rw [hdst] at hag; simp at hag
    | some dd =>
      rw [hdst] at hag
      simp only at hag
      cases hg : (F (i + 1)).get dd with
      | none => rw [hg] at hag; simp at hag
      | some u =>
        rw [hg] at hag
        simp only at hag
        have := sameV_eq hag
        subst this
        exact ⟨v, H1, rfl, dd, rfl, hg⟩

theorem draw_ok (hE : E.Ok P) (hC : CallOk P call) {H H' : Heap} {fr fr' : AFr} {id : Nat} {Q : Exit → Act → World → Prop} (ho : aDraw E call ops fr H = some (fr', H')) (h : HR M H w) (hf : FR M fr a.tmps)
    (hQ : ∀ M' a' w', Stp M H w M' H' w' → FR M' fr' a'.tmps → a'.defers = a.defers → Q .normal a' w') : (Code.region id ops true).wpIn (Fw ro) n P Q a w := by
  obtain ⟨pr, X, F, Hs, hF0, hH0, hFn, hHn, htr, hpl, hag, hrs⟩ := draw_all ho
  have s0 := Stp.reserve h X
  refine wpIn_region_any hE.ord ?_
  have hL0 : ∀ q, Lof (Array.replicate ops.size false) q = false := by
    intro q
    unfold Lof
    rcases Nat.lt_or_ge q ops.size with hq | hq
    · simp [hq]
    · simp [hq]
  refine any_ok (M0 := M) (H0 := H) (w0 := w) (a0 := a) hE hC hpl ?_ htr hag ?_ ops.size _ (M ++ X.map fun _ => none) 0 a _ (by simp) ?_ ?_
  · intro i o hi L hcl he j hj
    obtain ⟨o', e, h1, h2, h3, h4⟩ := hpl.edge i j hj
    rw [hi] at h1; simp at h1; subst h1
    have := he e h2 h3
    rcases h4 with rfl | h4
    · exact this
    · exact hcl _ _ this h4
  · intro M' c a' w' L hall d
    have hcn : Hs ops.size = Hs c := htr.heaps d.c_le (Nat.le_refl _) fun x h1 h2 hx => by
      have := d.c_max x hx (hall x h2); omega
    have hst := d.st
    rw [← hcn, hHn] at hst
    refine hQ M' a' w' hst ⟨?_, fun t v hv => ?_⟩ d.defers
    · rw [d.size, ← hFn, htr.n ops.size (Nat.le_refl _)]
    · rw [← hFn] at hv
      rcases last_below (fun q => dstOf ops q = some t) ops.size with ⟨q, h1, h2, h3⟩ | h1
      · refine d.new q t v (hall q h1) h1 h2 (fun r hr hd => h3 r ?_ hd) ?_
        · unfold dstOf at hd
          cases hq : ops[r]? with
          | none => rw [hq] at hd; simp at hd
          | some x => exact (Array.getElem?_eq_some_iff.1 hq).1
        · rw [← htr.get (t := t) (p := q + 1) (q := ops.size) (by omega) (Nat.le_refl _) (fun x hx1 hx2 hd => by have := h3 x hx2 hd; omega)]
          exact hv
      · refine d.old t v (fun q hq hd => ?_) ?_
        · unfold dstOf at hd
          cases hq2 : ops[q]? with
          | none => rw [hq2] at hd; simp at hd
          | some x => exact h1 q (Array.getElem?_eq_some_iff.1 hq2).1 (by unfold dstOf; rw [hq2]; rw [hq2] at hd; exact hd)
        · rw [← htr.get (t := t) (p := 0) (q := ops.size) (by omega) (Nat.le_refl _) (fun x _ hx2 hd => h1 x hx2 hd)]
          exact hv
  · have := List.countP_le_length (p := fun i => !Lof (Array.replicate ops.size false) i) (l := List.range ops.size)
    simpa using this
  · refine ⟨fun i j hi _ => ?_, ?_, fun i o t hi ho _ => ?_, Nat.zero_le _, .inl rfl, fun y _ hy => ?_, ?_, rfl, fun i t v hi => ?_, fun t v _ hv => ?_⟩
    · rw [hL0] at hi; simp at hi
    · rw [hH0]; exact s0.trans (.drew s0.hr)
    · obtain ⟨b, ti, w1, w2, w3, w4⟩ := hrs i o t hi ho
      refine ⟨b, ti, w1, w2, by rw [h.len]; exact w3, ?_, by rw [hH0]; exact w4⟩
      have hbl := (List.getElem?_eq_some_iff.1 w4).1
      rw [List.getElem?_append_right (by rw [h.len]; exact w3), List.getElem?_map]
      rw [List.getElem?_append_right w3] at w4
      rw [h.len, w4]; rfl
    · rw [hL0] at hy; simp at hy
    · rw [hF0]; exact hf.size
    · rw [hL0] at hi; simp at hi
    · rw [hF0] at hv; exact (hf.get t v hv).mono s0.ext

theorem draw_n {H H' : Heap} {fr fr' : AFr} (h : aDraw E call ops fr H = some (fr', H')) : fr'.n = fr.n := by
  obtain ⟨_, _, F, Hs, hF0, hH0, hFn, hHn, htr, _, _, _⟩ := draw_all h
  rw [← hFn, ← hF0]
  exact htr.n ops.size (Nat.le_refl _)

end Go.Proofs.YthgfjbafhjkhnaaGreat.Zq
