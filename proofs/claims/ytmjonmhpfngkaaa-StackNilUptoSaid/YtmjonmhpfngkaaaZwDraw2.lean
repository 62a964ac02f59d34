/- Regions whose order is drawn: the order in which they are looked at; locals that come late. -/
import Derived.Test.YtmjonmhpfngkaaaZwDraw
namespace Go.Proofs.Ytmjonmhpfngkaaa.Zq
variable {C : CEnv} {M M' : Mp} {H H' : Heap} {w w' : World} {L L' : Loc} {ML ML' : Ml} {fr fr' : CFr} {a a' : Act} {ro : Option Nat} {n : Nat} {Q : Exit → Act → World → Prop} {Kw : Act → World → Prop} {loc : List Nat}
  {dst : Option Nat} {ty : TypeId} {op : Op} {k : Sv → Loc → Heap → Prop} {ops : Array Oper}

/-- What hangs on no memory. -/
theorem vals_pure {s : Sv} (hr : reads op = false) (h : Vals C loc dst ty op fr L H s) (ht : turns op = false) : Vals C loc dst ty op fr L' H' s := by
  unfold Vals SameS at *
  cases op with
  | call c =>
    obtain ⟨callee, args, ts⟩ := c
    cases callee with
    | builtin b => cases b <;> first | (simp [turns] at ht; done) | (simp [reads] at hr; done) | (simp only [cOp, cCall, and_self, and_true] at h ⊢; exact h)
    | _ => simp [turns] at ht
  | makeFunc g first caps =>
    cases g with
    | func g => simp only [cOp, and_self, and_true] at h ⊢; exact h
    | _ => simp [cOp] at h
  | load _ _ | slice _ _ _ _ _ | lookup _ _ _ _ => simp [reads] at hr
  | move _ | assign _ | pick _ _ _ | build _ _ | nilCheck _ | binOp _ _ _ _ _ | unOp _ _ _ | convert _ _ _ | fieldAddr _ _ _ | field _ _ _ | indexAddr _ _ _ | index _ _ _ | extract _ _ =>
    simp only [cOp, and_self, and_true] at h ⊢; exact h
  | _ => simp [turns] at ht

/-- A local more, at the end: what is read is what was read. -/
theorem vals_app {s : Sv} {x : Nat × List Value} (ht : turns op = false) (h : Vals C loc dst ty op fr L H s) : Vals C loc dst ty op fr (L ++ [x]) H s := by
  cases hr : reads op with
  | false => exact vals_pure hr h ht
  | true =>
    unfold Vals SameS at *
    cases op with
    | load t y =>
      simp only [cOp, and_self, and_true] at h ⊢
      split at h
      · rename_i i off hx
        split at h
        · rename_i m cs ti hL hti
          have := (List.getElem?_eq_some_iff.1 hL).1
          simp only [List.getElem?_append_left this, hL, hti]
          exact h
        · exact h.elim
      · exact h
      · exact h.elim
    | slice t y lo hi mx => simp only [cOp, and_self, and_true] at h ⊢; exact h
    | lookup t y i ok => simp only [cOp, and_self, and_true] at h ⊢; exact h
    | call c =>
      obtain ⟨callee, args, ts⟩ := c
      cases callee with
      | builtin b => cases b <;> first | (simp [turns] at ht; done) | (simp [reads] at hr; done) | (simp only [cOp, cCall, and_self, and_true] at h ⊢; exact h)
      | _ => simp [turns] at ht
    | _ => simp [reads] at hr

/-- A place that was kept is filled. -/
theorem LR.fill (h : HR M H w) (l : LR M H L ML w) {i m : Nat} {cs : List Value} {c : Array Value} (t : TypeId) (sz : Nat) (hi : ML[i]? = some none) (hL : L[i]? = some (m, cs)) (hn : cs.length ≤ c.size) (hv : VL M cs (c.toList.take cs.length)) :
    LSt M H ML w M H (ML.set i (some ⟨w.heap.size, 0, false, cs.length, sz, c.size⟩)) (w.alloc (.cells c t (0, 0))) ∧
    LR M H L (ML.set i (some ⟨w.heap.size, 0, false, cs.length, sz, c.size⟩)) (w.alloc (.cells c t (0, 0))) := by
  have hs := Stp.hidden h (.cells c t (0, 0))
  have l' := l.step hs
  have hlt : i < ML.length := (List.getElem?_eq_some_iff.1 hi).1
  have hnew : ∀ (j : Nat) (e : Ent), (ML.set i (some (⟨w.heap.size, 0, false, cs.length, sz, c.size⟩ : Ent)))[j]? = some (some e) → (ML[j]? = some (some e) ∧ j ≠ i) ∨ (j = i ∧ e = ⟨w.heap.size, 0, false, cs.length, sz, c.size⟩) := by
    intro j e hj
    by_cases hji : j = i
    · subst hji
      rw [List.getElem?_set_self hlt] at hj
      simp at hj; exact .inr ⟨rfl, hj.symm⟩
    · rw [List.getElem?_set_ne (Ne.symm hji)] at hj; exact .inl ⟨hj, hji⟩
  have hw : (w.alloc (.cells c t (0, 0))).heap[w.heap.size]? = some (.cells c t (0, 0)) := by
    show (w.heap.push _)[w.heap.size]? = _
    rw [Array.getElem?_push, if_pos rfl]
  refine ⟨⟨hs.toL ML, fun j e hj => ?_⟩, by simp [l.len], fun j e m' cs' hj hLj => ?_, fun j j' e e' hne hj hj' => ?_, fun j e hj b e' hb hl => ?_⟩
  · rcases hnew j e hj with ⟨h1, _⟩ | ⟨_, rfl⟩
    · exact .inl ⟨j, h1⟩
    · exact .inr (Nat.le_refl _)
  · rcases hnew j e hj with ⟨h1, _⟩ | ⟨rfl, rfl⟩
    · exact l'.loc j e m' cs' h1 hLj
    · rw [hL] at hLj
      simp at hLj; obtain ⟨_, rfl⟩ := hLj
      exact ⟨rfl, rfl, rfl, rfl, fun _ => ⟨c, t, (0, 0), hw, rfl, by simpa using hn, by simpa using hv, fun _ => rfl⟩⟩
  · rcases hnew j e hj with ⟨h1, _⟩ | ⟨q1, q2⟩ <;> rcases hnew j' e' hj' with ⟨h3, _⟩ | ⟨q3, q4⟩
    · exact l.sep1 j j' e e' hne h1 h3
    · have := l.lt h1; rw [q4]; simp; omega
    · have := l.lt h3; rw [q2]; simp; omega
    · exact absurd (q1.trans q3.symm) hne
  · rcases hnew j e hj with ⟨h1, _⟩ | ⟨_, rfl⟩
    · exact l.sep2 j e h1 b e' hb hl
    · have := h.blk_lt hb hl
      show e'.blk ≠ w.heap.size; omega
theorem SvR.fill {i : Nat} {x : Option Ent} {s : Sv} {u : Value} (hi : ML[i]? = some none) (h : SvR M ML s u) : SvR M (ML.set i x) s u := by
  cases s with
  | v v => exact h
  | lp j off =>
    obtain ⟨e, h1, h2⟩ := h
    have : i ≠ j := fun e => by subst e; rw [hi] at h1; simp at h1
    exact ⟨e, by rw [List.getElem?_set_ne this]; exact h1, h2⟩
  | ls j n =>
    obtain ⟨e, h1, h2⟩ := h
    have : i ≠ j := fun e => by subst e; rw [hi] at h1; simp at h1
    exact ⟨e, by rw [List.getElem?_set_ne this]; exact h1, h2⟩

/-- A place that is kept for a local. -/
theorem LR.keep (l : LR M H L ML w) (x : Nat × List Value) : LR M H (L ++ [x]) (ML ++ [none]) w := by
  have hold : ∀ (i : Nat) (e : Ent), (ML ++ [none])[i]? = some (some e) → ML[i]? = some (some e) := by
    intro i e hi
    by_cases hl : i < ML.length
    · rw [List.getElem?_append_left hl] at hi; exact hi
    · rw [List.getElem?_append_right (by omega)] at hi
      cases hq : i - ML.length with
      | zero => rw [hq] at hi; simp at hi
      | succ q => rw [hq] at hi; simp at hi
  refine ⟨by simp [l.len], fun i e m cs hi hL => ?_, fun i j e e' hne hi hj => l.sep1 i j e e' hne (hold i e hi) (hold j e' hj), fun i e hi => l.sep2 i e (hold i e hi)⟩
  have h1 := hold i e hi
  have hlt : i < L.length := by rw [← l.len]; exact (List.getElem?_eq_some_iff.1 h1).1
  rw [List.getElem?_append_left hlt] at hL
  exact l.loc i e m cs h1 hL

/-! ### The order -/
theorem takeWhile_mem {t j : Nat} : ∀ {l : List Nat}, j ∈ l → l.findIdx (· == j) < l.findIdx (· == t) → j ∈ l.takeWhile (· != t)
  | [], h, _ => by simp at h
  | x :: r, h, hlt => by
    rw [List.findIdx_cons, List.findIdx_cons] at hlt
    by_cases hx : x = t
    · subst hx; simp at hlt
    · have ht : (x == t) = false := by simpa using hx
      have htn : (x != t) = true := by simpa using hx
      rw [List.takeWhile_cons, if_pos htn]
      by_cases hj : x = j
      · subst hj; simp
      · have hjf : (x == j) = false := by simpa using hj
        rw [ht, hjf] at hlt
        simp only [cond_false] at hlt
        have : j ∈ r := by
          rcases List.mem_cons.1 h with e | e
          · exact absurd e.symm hj
          · exact e
        exact List.mem_cons_of_mem _ (takeWhile_mem this (by omega))

theorem mapM_mem {α β : Type} {f : α → Option β} : ∀ {l : List α} {r : List β}, l.mapM f = some r → ∀ x ∈ l, ∃ y ∈ r, f x = some y
  | [], r, h, x, hx => by simp at hx
  | z :: l, r, h, x, hx => by
    rw [List.mapM_cons] at h
    cases h1 : f z with
    | none => rw [h1] at h; simp at h
    | some y =>
      rw [h1] at h
      cases h2 : l.mapM f with
      | none => rw [h2] at h; simp at h
      | some r' =>
        rw [h2] at h
        simp at h; subst h
        rcases List.mem_cons.1 hx with rfl | hx
        · exact ⟨y, by simp, h1⟩
        · obtain ⟨y', q1, q2⟩ := mapM_mem h2 x hx
          exact ⟨y', by simp [q1], q2⟩

theorem mkSteps_ok {b : Array Nat} {tau : List Nat} : ∀ {l : List Nat} {S : List Step}, mkSteps loc ops b tau l = some S → S.length = l.length ∧ ∀ q i : Nat, l[q]? = some i → ∃ (o : Oper) (as : List Oper), ops[i]? = some o ∧ S[q]? = some (Step.mk i o as) ∧
    (if isT loc ops b i then (asksL loc ops b tau i).mapM (fun j => ops[j]?) else some []) = some as
  | [], S, h => by simp [mkSteps] at h; subst h; exact ⟨rfl, fun q i hq => by simp at hq⟩
  | x :: r, S, h => by
    simp only [mkSteps] at h
    split at h
    · rename_i o as s h1 h2 h3
      simp at h; subst h
      obtain ⟨g1, g2⟩ := mkSteps_ok h3
      refine ⟨by simp [g1], fun q i hq => ?_⟩
      cases q with
      | zero => simp at hq; subst hq; exact ⟨o, as, h1, rfl, h2⟩
      | succ q => exact g2 q i (by simpa using hq)
    · simp at h

structure Good (loc : List Nat) (ops : Array Oper) (A : Nat → Nat → Prop) (T : Nat → Prop) (pos : Nat → Nat) (S : List Step) : Prop where
  back : ∀ (i : Nat) (o : Oper) (e : Edge), ops[i]? = some o → e ∈ o.after.toList → Region.binds .any e = true → e.on < i
  edge : ∀ i j, A i j → ∃ (o : Oper) (e : Edge), ops[i]? = some o ∧ e ∈ o.after.toList ∧ Region.binds .any e = true ∧ (j = e.on ∨ A e.on j)
  slen : S.length = ops.size
  sat : ∀ (i : Nat) (o : Oper), ops[i]? = some o → ∃ as, S[pos i]? = some (Step.mk i o as) ∧ (¬ T i → as = []) ∧ (T i → ∀ (j : Nat) (oj : Oper), ops[j]? = some oj → pos j < pos i → reads oj.op = true → ¬ A i j → ¬ T j → oj ∈ as)
  lt : ∀ (i : Nat) (o : Oper), ops[i]? = some o → pos i < ops.size
  inv : ∀ q : Nat, q < ops.size → ∃ (i : Nat) (o : Oper), ops[i]? = some o ∧ pos i = q
  ord : ∀ i j, i < ops.size → j < ops.size → A i j → pos j < pos i
  tt : ∀ i j, i < ops.size → j < ops.size → T j → pos j < pos i → A i j
  dsts : ∀ (i j : Nat) (oi oj : Oper) (d : Nat), ops[i]? = some oi → ops[j]? = some oj → oi.dst = some d → oj.dst = some d → i = j
  use : ∀ (p : Nat) (o : Oper) (t q : Nat) (oq : Oper), ops[p]? = some o → t ∈ useOf ops o → ops[q]? = some oq → oq.dst = some t → A p q ∨ (T q ∧ (q = p ∨ A q p))
  nt : ∀ (i : Nat) (o : Oper), ops[i]? = some o → ¬ T i → isFl loc o = true ∨ turns o.op = false
  inj : ∀ i j, i < ops.size → j < ops.size → pos i = pos j → i = j

theorem nodupN_ok : ∀ {l : List Nat}, nodupN l = true → l.Nodup
  | [], _ => List.nodup_nil
  | x :: r, h => by
    simp only [nodupN, Bool.and_eq_true, Bool.not_eq_true'] at h
    exact List.nodup_cons.2 ⟨by simpa using h.1, nodupN_ok h.2⟩

theorem filterMap_inj {β : Type} {f : β → Option Nat} : ∀ {l : List β}, (l.filterMap f).Nodup → ∀ (i j : Nat) (x y : β) (d : Nat), l[i]? = some x → l[j]? = some y → f x = some d → f y = some d → i = j
  | [], _, i, j, x, y, d, hi, _, _, _ => by simp at hi
  | z :: r, hn, i, j, x, y, d, hi, hj, hx, hy => by
    have key : ∀ (q : Nat) (u : β), r[q]? = some u → f u = some d → d ∈ r.filterMap f := fun q u hq hu => List.mem_filterMap.2 ⟨u, List.mem_of_getElem? hq, hu⟩
    cases i with
    | zero =>
      cases j with
      | zero => rfl
      | succ j =>
        simp at hi hj; subst hi
        rw [List.filterMap_cons, hx] at hn
        exact absurd (key j y hj hy) (List.nodup_cons.1 hn).1
    | succ i =>
      cases j with
      | zero =>
        simp at hi hj; subst hj
        rw [List.filterMap_cons, hy] at hn
        exact absurd (key i x hi hx) (List.nodup_cons.1 hn).1
      | succ j =>
        have hn' : (r.filterMap f).Nodup := by
          rw [List.filterMap_cons] at hn
          split at hn
          · exact hn
          · exact (List.nodup_cons.1 hn).2
        rw [filterMap_inj hn' i j x y d (by simpa using hi) (by simpa using hj) hx hy]

theorem good_of {S : List Step} (h : drawOrd loc ops = some S) : ∃ (A : Nat → Nat → Prop) (T : Nat → Prop) (pos : Nat → Nat), Good loc ops A T pos S := by
  unfold drawOrd at h
  simp only at h
  generalize htau : tauL ops (Region.before ops) ((List.range ops.size).filter (isT loc ops (Region.before ops))) ((List.range ops.size).filter (isT loc ops (Region.before ops))) 0 = tau at h
  generalize hb : Region.before ops = b at h
  split at h
  · rename_i hg
    unfold drawGood at hg
    simp only [Bool.and_eq_true] at hg
    obtain ⟨⟨⟨⟨⟨⟨⟨h1, hnd⟩, h2⟩, h3⟩, h4⟩, h5⟩, h6⟩, h7⟩ := hg
    have h2 : tau.length = ops.size := by simpa using h2
    have hmem : ∀ i, i < ops.size → i ∈ tau := fun i hi => by simpa using List.all_eq_true.1 h3 i (by simpa using hi)
    obtain ⟨g1, g2⟩ := mkSteps_ok h
    have hlt : ∀ i, i < ops.size → tau.findIdx (· == i) < ops.size := fun i hi => by
      rw [← h2]; exact List.findIdx_lt_length_of_exists ⟨i, hmem i hi, by simp⟩
    have hget : ∀ i, i < ops.size → tau[tau.findIdx (· == i)]? = some i := fun i hi => by
      have hl := hlt i hi
      rw [List.getElem?_eq_getElem (by rw [h2]; exact hl)]
      have := List.findIdx_getElem (w := by rw [h2]; exact hl) (xs := tau) (p := (· == i))
      simpa using this
    have hinj : ∀ i j, i < ops.size → j < ops.size → tau.findIdx (· == i) = tau.findIdx (· == j) → i = j := fun i j hi hj e => by
      have a1 := hget i hi
      have a2 := hget j hj
      rw [e, a2] at a1; simpa using a1.symm
    have ilt : ∀ i o, ops[i]? = some o → i < ops.size := fun i o hi => (Array.getElem?_eq_some_iff.1 hi).1
    refine ⟨fun i j => ahead b i j = true, fun i => isT loc ops b i = true, fun i => tau.findIdx (· == i), fun i o e hi he hbd => ?_, fun i j hij => ?_, by rw [g1, h2], fun i o hi => ?_, fun i o hi => hlt i (ilt i o hi), fun q hq => ?_,
      fun i j hi hj hA => ?_, fun i j hi hj hT hp => ?_, fun i j oi oj d hi hj hdi hdj => ?_, fun p o t q oq hp ht hq hd => ?_, fun i o hi hT => ?_, hinj⟩
    · have := backB_ok ops.toList 0 h1 i o e (by simpa using hi) he hbd
      simpa using this
    · subst hb; exact before_edge hij
    · obtain ⟨o', as, q1, q2, q3⟩ := g2 _ i (hget i (ilt i o hi))
      rw [hi] at q1; simp at q1; subst q1
      refine ⟨as, q2, fun hT => ?_, fun hT j oj hj hp hr hA hTj => ?_⟩
      · rw [if_neg hT] at q3; simpa using q3.symm
      · rw [if_pos hT] at q3
        have hjm : j ∈ asksL loc ops b tau i := by
          unfold asksL
          rw [List.mem_filter]
          refine ⟨takeWhile_mem (hmem j (ilt j oj hj)) hp, ?_⟩
          simp only [hj, hr, Bool.true_and, Bool.and_eq_true, Bool.not_eq_true']
          exact ⟨by simpa using hA, by simpa using hTj⟩
        obtain ⟨y, y1, y2⟩ := mapM_mem q3 j hjm
        rw [hj] at y2; simp at y2; subst y2; exact y1
    · have hq' : q < tau.length := by rw [h2]; exact hq
      obtain ⟨o, as, q1, q2, _⟩ := g2 q tau[q] (List.getElem?_eq_getElem hq')
      refine ⟨tau[q], o, q1, ?_⟩
      have hil := ilt _ o q1
      have hq2 := hget _ hil
      exact filterMap_inj (f := some) (l := tau) (by rw [List.filterMap_some]; exact nodupN_ok hnd) _ q tau[q] tau[q] tau[q] hq2 (List.getElem?_eq_getElem hq') rfl rfl
    · have := List.all_eq_true.1 (List.all_eq_true.1 h4 i (by simpa using hi)) j (by simpa using hj)
      simp only [hA, Bool.not_true, Bool.false_or, decide_eq_true_eq] at this
      exact this
    · have := List.all_eq_true.1 (List.all_eq_true.1 h5 i (by simpa using hi)) j (by simpa using hj)
      simpa [hT, hp] using this
    · exact filterMap_inj (f := (·.dst)) (nodupN_ok h6) i j oi oj d (by simpa using hi) (by simpa using hj) hdi hdj
    · have := List.all_eq_true.1 (List.all_eq_true.1 (List.all_eq_true.1 h7 (o, p) (mem_zipIdx hp)) t ht) (oq, q) (mem_zipIdx hq)
      simp only [hd, bne_self_eq_false, Bool.false_or, Bool.or_eq_true, Bool.and_eq_true, beq_iff_eq] at this
      rcases this with h | ⟨h, h'⟩
      · exact .inl h
      · exact .inr ⟨h, h'⟩
    · unfold isT at hT
      rw [hi] at hT
      simp only [Bool.and_eq_true, Bool.or_eq_true, Bool.not_eq_true', not_and, not_or] at hT
      cases hf : isFl loc o with
      | true => exact .inl rfl
      | false => exact .inr (by simpa using (hT hf).1)
  · simp at h

end Go.Proofs.Ytmjonmhpfngkaaa.Zq
