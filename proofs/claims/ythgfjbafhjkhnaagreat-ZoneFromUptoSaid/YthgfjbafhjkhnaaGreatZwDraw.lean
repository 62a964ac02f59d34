/- Regions whose order is drawn: facts on single operations. -/
import Derived.Test.YthgfjbafhjkhnaaGreatZwReg
namespace Go.Proofs.YthgfjbafhjkhnaaGreat.Zq
section
/- Regions whose order is drawn: facts on single operations. -/
variable {C : CEnv} {M M' : Mp} {H H' : Heap} {w w' : World} {L L' : Loc} {ML ML' : Ml} {fr fr' : CFr} {a a' : Act} {ro : Option Nat} {n : Nat} {Q : Exit → Act → World → Prop} {Kw : Act → World → Prop} {loc : List Nat}
  {dst : Option Nat} {ty : TypeId} {op : Op} {k : Sv → Loc → Heap → Prop}

theorem opS_congr {x : Operand} (h : ∀ t, x = .tmp t → cget fr.l t = cget fr'.l t) : opS fr x = opS fr' x := by
  cases x with
  | tmp t => exact h t rfl
  | _ => rfl
theorem opV_congr {x : Operand} (h : ∀ t, x = .tmp t → cget fr.l t = cget fr'.l t) : opV fr x = opV fr' x := by unfold opV; rw [opS_congr h]
theorem opVs_congr : ∀ {l : List Operand}, (∀ t, Operand.tmp t ∈ l → cget fr.l t = cget fr'.l t) → opVs fr l = opVs fr' l
  | [], _ => rfl
  | x :: r, h => by simp only [opVs]; rw [opV_congr (x := x) (fun t e => h t (by simp [e])), opVs_congr (l := r) (fun t e => h t (by simp [e]))]
theorem opPs_congr : ∀ {l : List (Nat × Operand)}, (∀ t, Operand.tmp t ∈ l.map (·.2) → cget fr.l t = cget fr'.l t) → opPs fr l = opPs fr' l
  | [], _ => rfl
  | (i, x) :: r, h => by simp only [opPs]; rw [opV_congr (x := x) (fun t e => h t (by simp [e])), opPs_congr (l := r) (fun t e => h t (by simp at e ⊢; exact .inr e))]
theorem opVo_congr {x : Option Operand} (h : ∀ t, x = some (.tmp t) → cget fr.l t = cget fr'.l t) : opVo fr x = opVo fr' x := by
  cases x with
  | none => rfl
  | some x => simp only [opVo]; rw [opV_congr (x := x) (fun t e => h t (by rw [e]))]

theorem cCall_congr {c : Call} (h : ∀ t, Operand.tmp t ∈ c.operands.toList → cget fr.l t = cget fr'.l t) : cCall C fr c ty L H k = cCall C fr' c ty L H k := by
  obtain ⟨callee, args, ts⟩ := c
  have ha : ∀ t, Operand.tmp t ∈ args.toList → cget fr.l t = cget fr'.l t := fun t e => h t (by simp [Call.operands]; right; simpa using e)
  have hvs : opVs fr args.toList = opVs fr' args.toList := opVs_congr ha
  have h1 : ∀ x, x ∈ args.toList → opV fr x = opV fr' x := fun x hx => opV_congr fun t e => ha t (by rw [← e]; exact hx)
  have h2 : ∀ x, x ∈ args.toList → opS fr x = opS fr' x := fun x hx => opS_congr fun t e => ha t (by rw [← e]; exact hx)
  cases callee with
  | value f =>
    have hf : opV fr f = opV fr' f := opV_congr fun t e => h t (by simp [Call.operands, e])
    cases f <;> simp only [cCall, hvs, hf]
  | builtin b =>
    cases b with
    | len =>
      simp only [cCall]
      split
      · rename_i x t hx _; rw [h1 x (by rw [hx]; simp)]
      · rfl
    | cap =>
      simp only [cCall]
      split
      · rename_i x t hx _; rw [h1 x (by rw [hx]; simp)]
      · rfl
    | append =>
      simp only [cCall]
      split
      · rename_i s x hx; rw [h1 s (by rw [hx]; simp), h2 x (by rw [hx]; simp)]
      · rfl
    | copy => simp only [cCall, hvs]
    | min => simp only [cCall, hvs]
    | max => simp only [cCall, hvs]
    | _ => rfl
  | invoke r m => rfl

theorem cOp_congr (h : ∀ t, Operand.tmp t ∈ op.operands.toList → cget fr.l t = cget fr'.l t) : cOp C loc dst ty op fr L H k = cOp C loc dst ty op fr' L H k := by
  cases op with
  | makeFunc f first caps =>
    cases f <;> simp only [cOp]
    rw [opVs_congr (l := first.toList) (fun t e => h t (by simp [Op.operands]; left; simpa using e)), opVs_congr (l := caps.toList) (fun t e => h t (by simp [Op.operands]; right; simpa using e))]
  | call c =>
    simp only [cOp]
    exact cCall_congr fun t e => h t (by simpa [Op.operands] using e)
  | build t ps =>
    simp only [cOp]
    rw [opPs_congr (fun t e => h t (by simpa [Op.operands] using e))]
  | buildSlice t n ps =>
    simp only [cOp]
    rw [opPs_congr (fun t e => h t (by simpa [Op.operands] using e))]
  | slice t x lo hi mx =>
    simp only [cOp]
    rw [opV_congr (x := x) (fun t e => h t (by simp [Op.operands, e])), opVo_congr (x := lo) (fun t e => h t (by simp [Op.operands, e])), opVo_congr (x := hi) (fun t e => h t (by simp [Op.operands, e])), opVo_congr (x := mx) (fun t e => h t (by simp [Op.operands, e]))]
  | move x | assign x | load _ x | nilCheck x =>
    simp only [cOp]
    rw [opS_congr (x := x) (fun t e => h t (by simp [Op.operands, e]))]
  | fieldAddr _ x _ =>
    simp only [cOp]
    rw [opS_congr (x := x) (fun t e => h t (by simp [Op.operands, e]))]
  | box _ x | unOp _ _ x | convert _ _ x | field _ x _ | extract x _ =>
    simp only [cOp]
    rw [opV_congr (x := x) (fun t e => h t (by simp [Op.operands, e]))]
  | pick c x y =>
    simp only [cOp]
    rw [opV_congr (x := c) (fun t e => h t (by simp [Op.operands, e])), opS_congr (x := x) (fun t e => h t (by simp [Op.operands, e])), opS_congr (x := y) (fun t e => h t (by simp [Op.operands, e]))]
  | makeMap t r => cases r <;> rfl
  | mapUpdate t m k x =>
    simp only [cOp]
    rw [opV_congr (x := m) (fun t e => h t (by simp [Op.operands, e])), opV_congr (x := k) (fun t e => h t (by simp [Op.operands, e])), opV_congr (x := x) (fun t e => h t (by simp [Op.operands, e]))]
  | store _ x y =>
    simp only [cOp]
    rw [opS_congr (x := x) (fun t e => h t (by simp [Op.operands, e])), opV_congr (x := y) (fun t e => h t (by simp [Op.operands, e]))]
  | indexAddr _ x y =>
    simp only [cOp]
    rw [opS_congr (x := x) (fun t e => h t (by simp [Op.operands, e])), opV_congr (x := y) (fun t e => h t (by simp [Op.operands, e]))]
  | binOp _ _ x y _ | makeSlice _ x y | index _ x y | lookup _ x y _ =>
    simp only [cOp]
    rw [opV_congr (x := x) (fun t e => h t (by simp [Op.operands, e])), opV_congr (x := y) (fun t e => h t (by simp [Op.operands, e]))]
  | _ => rfl

def SameS (s : Sv) (L : Loc) (H : Heap) : Sv → Loc → Heap → Prop := fun s' L' H' => s' = s ∧ L' = L ∧ H' = H
/-- The value that an operation gives, all else as it was. -/
def Vals (C : CEnv) (loc : List Nat) (dst : Option Nat) (ty : TypeId) (op : Op) (fr : CFr) (L : Loc) (H : Heap) (s : Sv) : Prop :=
  cOp C loc dst ty op fr L H (SameS s L H)

theorem len_vals {c : Call} (hc : c.callee = .builtin .len ∨ c.callee = .builtin .min ∨ c.callee = .builtin .max) (ho : cCall C fr c ty L H k) : ∃ s, cCall C fr c ty L H (SameS s L H) ∧ k s L H := by
  obtain ⟨callee, args, ts⟩ := c
  simp only at hc
  rcases hc with rfl | rfl | rfl
  · simp only [cCall] at ho ⊢
    split at ho
    · split at ho
      · exact ⟨_, ⟨rfl, rfl, rfl⟩, ho⟩
      · obtain ⟨y, g1, g2⟩ := ho
        exact ⟨_, ⟨y, g1, rfl, rfl, rfl⟩, g2⟩
      · exact ho.elim
    · exact ho.elim
  all_goals
    simp only [cCall] at ho ⊢
    split at ho
    · rename_i x r hx
      split at ho
      · exact ⟨_, ⟨rfl, rfl, rfl⟩, ho⟩
      · exact ho.elim
    · exact ho.elim

theorem cBin_mono {E : Env} {o : BinOp} {t : TypeId} {x y : Value} {k k' : Value → Prop} (hk : ∀ v, k v → k' v) (h : cBin E o t x y k) : cBin E o t x y k' := by
  unfold cBin at h ⊢
  repeat' split at h
  all_goals first
    | exact ⟨h.1, hk _ h.2⟩
    | exact hk _ h
    | exact h.elim
    | (rename_i hc; rw [if_pos hc]; exact ⟨h.1, hk _ h.2⟩)

theorem cBin_vals {E : Env} {o : BinOp} {t : TypeId} {x y : Value} {k : Value → Prop} (h : cBin E o t x y k) : ∃ v, cBin E o t x y (fun v' => v' = v) ∧ k v := by
  unfold cBin at h ⊢
  repeat' split at h
  all_goals first
    | exact ⟨_, ⟨h.1, rfl⟩, h.2⟩
    | exact ⟨_, rfl, h⟩
    | exact h.elim
    | (rename_i hc; simp only [if_pos hc]; exact ⟨_, ⟨h.1, rfl⟩, h.2⟩)

theorem cOp_vals (ht : turns op = false) (ho : cOp C loc dst ty op fr L H k) : ∃ s, Vals C loc dst ty op fr L H s ∧ k s L H := by
  unfold Vals
  cases op with
  | move x | assign x =>
    simp only [cOp] at ho ⊢
    split at ho
    · exact ⟨_, ⟨rfl, rfl, rfl⟩, ho⟩
    · exact ho.elim
  | pick c x y =>
    simp only [cOp] at ho ⊢
    split at ho
    · rename_i g hg
      cases g with
      | true =>
        simp only [ifB] at ho ⊢
        split at ho
        · exact ⟨_, ⟨rfl, rfl, rfl⟩, ho⟩
        · exact ho.elim
      | false =>
        simp only [ifB] at ho ⊢
        split at ho
        · exact ⟨_, ⟨rfl, rfl, rfl⟩, ho⟩
        · exact ho.elim
    · exact ho.elim
  | build t ps =>
    simp only [cOp] at ho ⊢
    split at ho
    · split at ho
      · exact ⟨_, ⟨rfl, rfl, rfl⟩, ho⟩
      · exact ho.elim
    · exact ho.elim
  | load t x =>
    simp only [cOp] at ho ⊢
    split at ho
    · split at ho
      · rename_i hL ht2
        split at ho
        · rename_i hlen
          split at ho
          · simp only [if_pos hlen]; exact ⟨_, ⟨rfl, rfl, rfl⟩, ho⟩
          · exact ho.elim
        · exact ho.elim
      · exact ho.elim
    · split at ho
      · rename_i ti hti
        split at ho
        · rename_i hc
          obtain ⟨y, g1, g2⟩ := ho
          simp only [if_pos hc]
          exact ⟨_, ⟨y, g1, rfl, rfl, rfl⟩, g2⟩
        · exact ho.elim
      · exact ho.elim
    · exact ho.elim
  | nilCheck x =>
    simp only [cOp] at ho ⊢
    split at ho
    · exact ⟨_, ⟨rfl, rfl, rfl⟩, ho⟩
    · unfold NIL at ho ⊢
      split at ho
      · exact ⟨_, ⟨rfl, rfl, rfl⟩, ho⟩
      · exact ho.elim
    · exact ⟨_, ⟨rfl, rfl, rfl⟩, ho⟩
    · exact ⟨_, ⟨rfl, rfl, rfl⟩, ho⟩
    · exact ho.elim
  | binOp o t x y t2 =>
    simp only [cOp] at ho ⊢
    split at ho
    · obtain ⟨v, h1, h2⟩ := cBin_vals ho
      exact ⟨.v v, cBin_mono (fun u hu => (⟨by rw [hu], rfl, rfl⟩ : SameS _ _ _ _ _ _)) h1, h2⟩
    · exact ho.elim
  | unOp o t x =>
    simp only [cOp] at ho ⊢
    split at ho
    · split at ho
      · exact ⟨_, ⟨rfl, rfl, rfl⟩, ho⟩
      · exact ho.elim
    · exact ho.elim
  | convert s d x =>
    simp only [cOp] at ho ⊢
    split at ho
    · split at ho
      · exact ⟨_, ⟨rfl, rfl, rfl⟩, ho⟩
      · exact ho.elim
    · exact ho.elim
  | makeFunc g first caps =>
    cases g with
    | func g =>
      simp only [cOp] at ho ⊢
      split at ho
      · exact ⟨_, ⟨rfl, rfl, rfl⟩, ho⟩
      · exact ho.elim
    | _ => simp [cOp] at ho
  | slice t x lo hi mx =>
    simp only [cOp] at ho ⊢
    split at ho
    · obtain ⟨y, g1, g2⟩ := ho
      exact ⟨_, ⟨y, g1, rfl, rfl, rfl⟩, g2⟩
    · exact ho.elim
  | fieldAddr t x i =>
    simp only [cOp] at ho ⊢
    split at ho
    · split at ho
      · rename_i hty
        split at ho
        · rename_i hi
          split at ho
          · rename_i te hte
            split at ho
            · exact ho.elim
            · rename_i h0
              simp only [if_neg h0]
              exact ⟨_, ⟨rfl, rfl, rfl⟩, ho⟩
          · exact ho.elim
        · exact ho.elim
      · exact ho.elim
    · split at ho
      · exact ⟨_, ⟨rfl, rfl, rfl⟩, ho⟩
      · exact ho.elim
    · exact ho.elim
  | field t x i =>
    simp only [cOp] at ho ⊢
    split at ho
    · split at ho
      · exact ⟨_, ⟨rfl, rfl, rfl⟩, ho⟩
      · exact ho.elim
    · exact ho.elim
  | indexAddr t x i =>
    simp only [cOp] at ho ⊢
    split at ho
    · split at ho
      · split at ho
        · rename_i te hte
          split at ho
          · rename_i hb
            simp only [if_pos hb]
            exact ⟨_, ⟨rfl, rfl, rfl⟩, ho⟩
          · exact ho.elim
        · exact ho.elim
      · exact ho.elim
    · split at ho
      · split at ho
        · rename_i te hte
          unfold IDX NIL at ho ⊢
          split at ho
          · exact ⟨_, ⟨ho.1, rfl, rfl, rfl⟩, ho.2⟩
          · exact ho.elim
        · exact ho.elim
      · exact ho.elim
    · split at ho
      · split at ho
        · rename_i te hte
          exact ⟨_, ⟨ho.1, rfl, rfl, rfl⟩, ho.2⟩
        · exact ho.elim
      · exact ho.elim
    · exact ho.elim
  | index t x i =>
    simp only [cOp] at ho ⊢
    split at ho
    · obtain ⟨y, g1, g2⟩ := ho
      exact ⟨_, ⟨y, g1, rfl, rfl, rfl⟩, g2⟩
    · exact ho.elim
  | extract x i =>
    simp only [cOp] at ho ⊢
    split at ho
    · split at ho
      · exact ⟨_, ⟨rfl, rfl, rfl⟩, ho⟩
      · exact ho.elim
    · exact ho.elim
  | lookup t x i ok =>
    simp only [cOp] at ho ⊢
    split at ho
    · cases ok with
      | true =>
        simp only [if_true] at ho ⊢
        split at ho
        · obtain ⟨y, b, g1, g2⟩ := ho
          exact ⟨_, ⟨y, b, g1, rfl, rfl, rfl⟩, g2⟩
        · exact ho.elim
      | false =>
        simp only [Bool.false_eq_true, if_false] at ho ⊢
        obtain ⟨y, g1, g2⟩ := ho
        exact ⟨_, ⟨y, g1, rfl, rfl, rfl⟩, g2⟩
    · exact ho.elim
  | call c =>
    simp only [cOp] at ho ⊢
    refine len_vals ?_ ho
    obtain ⟨callee, args, ts⟩ := c
    cases callee with
    | builtin b => cases b <;> first | (simp [turns] at ht; done) | simp
    | _ => simp [turns] at ht
  | _ => simp [turns] at ht
end

section
/- Regions whose order is drawn: the order in which they are looked at; locals that come late. -/
variable {C : CEnv} {M M' : Mp} {H H' : Heap} {w w' : World} {L L' : Loc} {ML ML' : Ml} {fr fr' : CFr} {a a' : Act} {ro : Option Nat} {n : Nat} {Q : Exit → Act → World → Prop} {Kw : Act → World → Prop} {loc : List Nat}
  {dst : Option Nat} {ty : TypeId} {op : Op} {k : Sv → Loc → Heap → Prop} {ops : Array Oper}

/-- What hangs on no memory. -/
theorem vals_pure {s : Sv} (hr : reads op = false) (h : Vals C loc dst ty op fr L H s) (ht : turns op = false) : Vals C loc dst ty op fr L' H' s := by
  unfold Vals SameS at *
  cases op with
  | call c =>
    obtain ⟨callee, args, ts⟩ := c
    cases callee with
    | builtin b => cases b <;> first | (simp [turns] at ht; done) | (simp [reads] at hr; done) | (simp only [cOp, cCall, and_self, and_true] at h ⊢; exact h)
    | _ => simp [turns] at ht
  | makeFunc g first caps =>
    cases g with
    | func g => simp only [cOp, and_self, and_true] at h ⊢; exact h
    | _ => simp [cOp] at h
  | load _ _ | slice _ _ _ _ _ | lookup _ _ _ _ => simp [reads] at hr
  | move _ | assign _ | pick _ _ _ | build _ _ | nilCheck _ | binOp _ _ _ _ _ | unOp _ _ _ | convert _ _ _ | fieldAddr _ _ _ | field _ _ _ | indexAddr _ _ _ | index _ _ _ | extract _ _ =>
    simp only [cOp, and_self, and_true] at h ⊢; exact h
  | _ => simp [turns] at ht

/-- A local more, at the end: what is read is what was read. -/
theorem vals_app {s : Sv} {x : Nat × List Value} (ht : turns op = false) (h : Vals C loc dst ty op fr L H s) : Vals C loc dst ty op fr (L ++ [x]) H s := by
  cases hr : reads op with
  | false => exact vals_pure hr h ht
  | true =>
    unfold Vals SameS at *
    cases op with
    | load t y =>
      simp only [cOp, and_self, and_true] at h ⊢
      split at h
      · rename_i i off hx
        split at h
        · rename_i m cs ti hL hti
          have := (List.getElem?_eq_some_iff.1 hL).1
          simp only [List.getElem?_append_left this, hL, hti]
          exact h
        · exact h.elim
      · exact h
      · exact h.elim
    | slice t y lo hi mx => simp only [cOp, and_self, and_true] at h ⊢; exact h
    | lookup t y i ok => simp only [cOp, and_self, and_true] at h ⊢; exact h
    | call c =>
      obtain ⟨callee, args, ts⟩ := c
      cases callee with
      | builtin b => cases b <;> first | (simp [turns] at ht; done) | (simp [reads] at hr; done) | (simp only [cOp, cCall, and_self, and_true] at h ⊢; exact h)
      | _ => simp [turns] at ht
    | _ => simp [reads] at hr

/-- A place that was kept is filled. -/
theorem LR.fill (h : HR M H w) (l : LR M H L ML w) {i m : Nat} {cs : List Value} {c : Array Value} (t : TypeId) (sz : Nat) (hi : ML[i]? = some none) (hL : L[i]? = some (m, cs)) (hn : cs.length ≤ c.size) (hv : VL M cs (c.toList.take cs.length)) :
    LSt M H ML w M H (ML.set i (some ⟨w.heap.size, 0, false, cs.length, sz, c.size⟩)) (w.alloc (.cells c t (0, 0))) ∧
    LR M H L (ML.set i (some ⟨w.heap.size, 0, false, cs.length, sz, c.size⟩)) (w.alloc (.cells c t (0, 0))) := by
  have hs := Stp.hidden h (.cells c t (0, 0))
  have l' := l.step hs
  have hlt : i < ML.length := (List.getElem?_eq_some_iff.1 hi).1
  have hnew : ∀ (j : Nat) (e : Ent), (ML.set i (some (⟨w.heap.size, 0, false, cs.length, sz, c.size⟩ : Ent)))[j]? = some (some e) → (ML[j]? = some (some e) ∧ j ≠ i) ∨ (j = i ∧ e = ⟨w.heap.size, 0, false, cs.length, sz, c.size⟩) := by
    intro j e hj
    by_cases hji : j = i
    · subst hji
      rw [List.getElem?_set_self hlt] at hj
      simp at hj; exact .inr ⟨rfl, hj.symm⟩
    · rw [List.getElem?_set_ne (Ne.symm hji)] at hj; exact .inl ⟨hj, hji⟩
  have hw : (w.alloc (.cells c t (0, 0))).heap[w.heap.size]? = some (.cells c t (0, 0)) := by
    show (w.heap.push _)[w.heap.size]? = _
    rw [Array.getElem?_push, if_pos rfl]
  refine ⟨⟨hs.toL ML, fun j e hj => ?_⟩, by simp [l.len], fun j e m' cs' hj hLj => ?_, fun j j' e e' hne hj hj' => ?_, fun j e hj b e' hb hl => ?_⟩
  · rcases hnew j e hj with ⟨h1, _⟩ | ⟨_, rfl⟩
    · exact .inl ⟨j, h1⟩
    · exact .inr (Nat.le_refl _)
  · rcases hnew j e hj with ⟨h1, _⟩ | ⟨rfl, rfl⟩
    · exact l'.loc j e m' cs' h1 hLj
    · rw [hL] at hLj
      simp at hLj; obtain ⟨_, rfl⟩ := hLj
      exact ⟨rfl, rfl, rfl, rfl, fun _ => ⟨c, t, (0, 0), hw, rfl, by simpa using hn, by simpa using hv, fun _ => rfl⟩⟩
  · rcases hnew j e hj with ⟨h1, _⟩ | ⟨q1, q2⟩ <;> rcases hnew j' e' hj' with ⟨h3, _⟩ | ⟨q3, q4⟩
    · exact l.sep1 j j' e e' hne h1 h3
    · have := l.lt h1; rw [q4]; simp; omega
    · have := l.lt h3; rw [q2]; simp; omega
    · exact absurd (q1.trans q3.symm) hne
  · rcases hnew j e hj with ⟨h1, _⟩ | ⟨_, rfl⟩
    · exact l.sep2 j e h1 b e' hb hl
    · have := h.blk_lt hb hl
      show e'.blk ≠ w.heap.size; omega
theorem SvR.fill {i : Nat} {x : Option Ent} {s : Sv} {u : Value} (hi : ML[i]? = some none) (h : SvR M ML s u) : SvR M (ML.set i x) s u := by
  cases s with
  | v v => exact h
  | lp j off =>
    obtain ⟨e, h1, h2⟩ := h
    have : i ≠ j := fun e => by subst e; rw [hi] at h1; simp at h1
    exact ⟨e, by rw [List.getElem?_set_ne this]; exact h1, h2⟩
  | ls j n =>
    obtain ⟨e, h1, h2⟩ := h
    have : i ≠ j := fun e => by subst e; rw [hi] at h1; simp at h1
    exact ⟨e, by rw [List.getElem?_set_ne this]; exact h1, h2⟩

/-- A place that is kept for a local. -/
theorem LR.keep (l : LR M H L ML w) (x : Nat × List Value) : LR M H (L ++ [x]) (ML ++ [none]) w := by
  have hold : ∀ (i : Nat) (e : Ent), (ML ++ [none])[i]? = some (some e) → ML[i]? = some (some e) := by
    intro i e hi
    by_cases hl : i < ML.length
    · rw [List.getElem?_append_left hl] at hi; exact hi
    · rw [List.getElem?_append_right (by omega)] at hi
      cases hq : i - ML.length with
      | zero => rw [hq] at hi; simp at hi
      | succ q => rw [hq] at hi; simp at hi
  refine ⟨by simp [l.len], fun i e m cs hi hL => ?_, fun i j e e' hne hi hj => l.sep1 i j e e' hne (hold i e hi) (hold j e' hj), fun i e hi => l.sep2 i e (hold i e hi)⟩
  have h1 := hold i e hi
  have hlt : i < L.length := by rw [← l.len]; exact (List.getElem?_eq_some_iff.1 h1).1
  rw [List.getElem?_append_left hlt] at hL
  exact l.loc i e m cs h1 hL

/-! ### The order -/
theorem takeWhile_mem {t j : Nat} : ∀ {l : List Nat}, j ∈ l → l.findIdx (· == j) < l.findIdx (· == t) → j ∈ l.takeWhile (· != t)
  | [], h, _ => by simp at h
  | x :: r, h, hlt => by
    rw [List.findIdx_cons, List.findIdx_cons] at hlt
    by_cases hx : x = t
    · subst hx; simp at hlt
    · have ht : (x == t) = false := by simpa using hx
      have htn : (x != t) = true := by simpa using hx
      rw [List.takeWhile_cons, if_pos htn]
      by_cases hj : x = j
      · subst hj; simp
      · have hjf : (x == j) = false := by simpa using hj
        rw [ht, hjf] at hlt
        simp only [cond_false] at hlt
        have : j ∈ r := by
          rcases List.mem_cons.1 h with e | e
          · exact absurd e.symm hj
          · exact e
        exact List.mem_cons_of_mem _ (takeWhile_mem this (by omega))

theorem mapM_mem {α β : Type} {f : α → Option β} : ∀ {l : List α} {r : List β}, l.mapM f = some r → ∀ x ∈ l, ∃ y ∈ r, f x = some y
  | [], r, h, x, hx => by simp at hx
  | z :: l, r, h, x, hx => by
    rw [List.mapM_cons] at h
    cases h1 : f z with
    | none => rw [h1] at h; simp at h
    | some y =>
      rw [h1] at h
      cases h2 : l.mapM f with
      | none => rw [h2] at h; simp at h
      | some r' =>
        rw [h2] at h
        simp at h; subst h
        rcases List.mem_cons.1 hx with rfl | hx
        · exact ⟨y, by simp, h1⟩
        · obtain ⟨y', q1, q2⟩ := mapM_mem h2 x hx
          exact ⟨y', by simp [q1], q2⟩

theorem mkSteps_ok {b : Array Nat} {tau : List Nat} : ∀ {l : List Nat} {S : List Step}, mkSteps loc ops b tau l = some S → S.length = l.length ∧ ∀ q i : Nat, l[q]? = some i → ∃ (o : Oper) (as : List Oper), ops[i]? = some o ∧ S[q]? = some (Step.mk i o as) ∧
    (if isT loc ops b i then (asksL loc ops b tau i).mapM (fun j => ops[j]?) else some []) = some as
  | [], S, h => by simp [mkSteps] at h; subst h; exact ⟨rfl, fun q i hq => by simp at hq⟩
  | x :: r, S, h => by
    simp only [mkSteps] at h
    split at h
    · rename_i o as s h1 h2 h3
      simp at h; subst h
      obtain ⟨g1, g2⟩ := mkSteps_ok h3
      refine ⟨by simp [g1], fun q i hq => ?_⟩
      cases q with
      | zero => simp at hq; subst hq; exact ⟨o, as, h1, rfl, h2⟩
      | succ q => exact g2 q i (by simpa using hq)
    · simp at h

structure Good (loc : List Nat) (ops : Array Oper) (A : Nat → Nat → Prop) (T : Nat → Prop) (pos : Nat → Nat) (S : List Step) : Prop where
  back : ∀ (i : Nat) (o : Oper) (e : Edge), ops[i]? = some o → e ∈ o.after.toList → Region.binds .any e = true → e.on < i
  edge : ∀ i j, A i j → ∃ (o : Oper) (e : Edge), ops[i]? = some o ∧ e ∈ o.after.toList ∧ Region.binds .any e = true ∧ (j = e.on ∨ A e.on j)
  slen : S.length = ops.size
  sat : ∀ (i : Nat) (o : Oper), ops[i]? = some o → ∃ as, S[pos i]? = some (Step.mk i o as) ∧ (¬ T i → as = []) ∧ (T i → ∀ (j : Nat) (oj : Oper), ops[j]? = some oj → pos j < pos i → reads oj.op = true → ¬ A i j → ¬ T j → oj ∈ as)
  lt : ∀ (i : Nat) (o : Oper), ops[i]? = some o → pos i < ops.size
  inv : ∀ q : Nat, q < ops.size → ∃ (i : Nat) (o : Oper), ops[i]? = some o ∧ pos i = q
  ord : ∀ i j, i < ops.size → j < ops.size → A i j → pos j < pos i
  tt : ∀ i j, i < ops.size → j < ops.size → T j → pos j < pos i → A i j
  dsts : ∀ (i j : Nat) (oi oj : Oper) (d : Nat), ops[i]? = some oi → ops[j]? = some oj → oi.dst = some d → oj.dst = some d → i = j
  use : ∀ (p : Nat) (o : Oper) (t q : Nat) (oq : Oper), ops[p]? = some o → t ∈ useOf ops o → ops[q]? = some oq → oq.dst = some t → A p q ∨ (T q ∧ (q = p ∨ A q p))
  nt : ∀ (i : Nat) (o : Oper), ops[i]? = some o → ¬ T i → isFl loc o = true ∨ turns o.op = false
  inj : ∀ i j, i < ops.size → j < ops.size → pos i = pos j → i = j

theorem nodupN_ok : ∀ {l : List Nat}, nodupN l = true → l.Nodup
  | [], _ => List.nodup_nil
  | x :: r, h => by
    simp only [nodupN, Bool.and_eq_true, Bool.not_eq_true'] at h
    exact List.nodup_cons.2 ⟨by simpa using h.1, nodupN_ok h.2⟩

theorem filterMap_inj {β : Type} {f : β → Option Nat} : ∀ {l : List β}, (l.filterMap f).Nodup → ∀ (i j : Nat) (x y : β) (d : Nat), l[i]? = some x → l[j]? = some y → f x = some d → f y = some d → i = j
  | [], _, i, j, x, y, d, hi, _, _, _ => by simp at hi
  | z :: r, hn, i, j, x, y, d, hi, hj, hx, hy => by
    have key : ∀ (q : Nat) (u : β), r[q]? = some u → f u = some d → d ∈ r.filterMap f := fun q u hq hu => List.mem_filterMap.2 ⟨u, List.mem_of_getElem? hq, hu⟩
    cases i with
    | zero =>
      cases j with
      | zero => rfl
      | succ j =>
        simp at hi hj; subst hi
        rw [List.filterMap_cons, hx] at hn
        exact absurd (key j y hj hy) (List.nodup_cons.1 hn).1
    | succ i =>
      cases j with
      | zero =>
        simp at hi hj; subst hj
        rw [List.filterMap_cons, hy] at hn
        exact absurd (key i x hi hx) (List.nodup_cons.1 hn).1
      | succ j =>
        have hn' : (r.filterMap f).Nodup := by
          rw [List.filterMap_cons] at hn
          split at hn
          · exact hn
          · exact (List.nodup_cons.1 hn).2
        rw [filterMap_inj hn' i j x y d (by simpa using hi) (by simpa using hj) hx hy]

theorem good_of {S : List Step} (h : drawOrd loc ops = some S) : ∃ (A : Nat → Nat → Prop) (T : Nat → Prop) (pos : Nat → Nat), Good loc ops A T pos S := by
  unfold drawOrd at h
  simp only at h
  generalize htau : tauL ops (Region.before ops) ((List.range ops.size).filter (isT loc ops (Region.before ops))) ((List.range ops.size).filter (isT loc ops (Region.before ops))) 0 = tau at h
  generalize hb : Region.before ops = b at h
  split at h
  · rename_i hg
    unfold drawGood at hg
    simp only [Bool.and_eq_true] at hg
    obtain ⟨⟨⟨⟨⟨⟨⟨h1, hnd⟩, h2⟩, h3⟩, h4⟩, h5⟩, h6⟩, h7⟩ := hg
    have h2 : tau.length = ops.size := by simpa using h2
    have hmem : ∀ i, i < ops.size → i ∈ tau := fun i hi => by simpa using List.all_eq_true.1 h3 i (by simpa using hi)
    obtain ⟨g1, g2⟩ := mkSteps_ok h
    have hlt : ∀ i, i < ops.size → tau.findIdx (· == i) < ops.size := fun i hi => by
      rw [← h2]; exact List.findIdx_lt_length_of_exists ⟨i, hmem i hi, by simp⟩
    have hget : ∀ i, i < ops.size → tau[tau.findIdx (· == i)]? = some i := fun i hi => by
      have hl := hlt i hi
      rw [List.getElem?_eq_getElem (by rw [h2]; exact hl)]
      have := List.findIdx_getElem (w := by rw [h2]; exact hl) (xs := tau) (p := (· == i))
      simpa using this
    have hinj : ∀ i j, i < ops.size → j < ops.size → tau.findIdx (· == i) = tau.findIdx (· == j) → i = j := fun i j hi hj e => by
      have a1 := hget i hi
      have a2 := hget j hj
      rw [e, a2] at a1; simpa using a1.symm
    have ilt : ∀ i o, ops[i]? = some o → i < ops.size := fun i o hi => (Array.getElem?_eq_some_iff.1 hi).1
    refine ⟨fun i j => ahead b i j = true, fun i => isT loc ops b i = true, fun i => tau.findIdx (· == i), fun i o e hi he hbd => ?_, fun i j hij => ?_, by rw [g1, h2], fun i o hi => ?_, fun i o hi => hlt i (ilt i o hi), fun q hq => ?_,
      fun i j hi hj hA => ?_, fun i j hi hj hT hp => ?_, fun i j oi oj d hi hj hdi hdj => ?_, fun p o t q oq hp ht hq hd => ?_, fun i o hi hT => ?_, hinj⟩
    · have := backB_ok ops.toList 0 h1 i o e (by simpa using hi) he hbd
      simpa using this
    · subst hb; exact before_edge hij
    · obtain ⟨o', as, q1, q2, q3⟩ := g2 _ i (hget i (ilt i o hi))
      rw [hi] at q1; simp at q1; subst q1
      refine ⟨as, q2, fun hT => ?_, fun hT j oj hj hp hr hA hTj => ?_⟩
      · rw [if_neg hT] at q3; simpa using q3.symm
      · rw [if_pos hT] at q3
        have hjm : j ∈ asksL loc ops b tau i := by
          unfold asksL
          rw [List.mem_filter]
          refine ⟨takeWhile_mem (hmem j (ilt j oj hj)) hp, ?_⟩
          simp only [hj, hr, Bool.true_and, Bool.and_eq_true, Bool.not_eq_true']
          exact ⟨by simpa using hA, by simpa using hTj⟩
        obtain ⟨y, y1, y2⟩ := mapM_mem q3 j hjm
        rw [hj] at y2; simp at y2; subst y2; exact y1
    · have hq' : q < tau.length := by rw [h2]; exact hq
      obtain ⟨o, as, q1, q2, _⟩ := g2 q tau[q] (List.getElem?_eq_getElem hq')
      refine ⟨tau[q], o, q1, ?_⟩
      have hil := ilt _ o q1
      have hq2 := hget _ hil
      exact filterMap_inj (f := some) (l := tau) (by rw [List.filterMap_some]; exact nodupN_ok hnd) _ q tau[q] tau[q] tau[q] hq2 (List.getElem?_eq_getElem hq') rfl rfl
    · have := List.all_eq_true.1 (List.all_eq_true.1 h4 i (by simpa using hi)) j (by simpa using hj)
      simp only [hA, Bool.not_true, Bool.false_or, decide_eq_true_eq] at this
      exact this
    · have := List.all_eq_true.1 (List.all_eq_true.1 h5 i (by simpa using hi)) j (by simpa using hj)
      simpa [hT, hp] using this
    · exact filterMap_inj (f := (·.dst)) (nodupN_ok h6) i j oi oj d (by simpa using hi) (by simpa using hj) hdi hdj
    · have := List.all_eq_true.1 (List.all_eq_true.1 (List.all_eq_true.1 h7 (o, p) (mem_zipIdx hp)) t ht) (oq, q) (mem_zipIdx hq)
      simp only [hd, bne_self_eq_false, Bool.false_or, Bool.or_eq_true, Bool.and_eq_true, beq_iff_eq] at this
      rcases this with h | ⟨h, h'⟩
      · exact .inl h
      · exact .inr ⟨h, h'⟩
    · unfold isT at hT
      rw [hi] at hT
      simp only [Bool.and_eq_true, Bool.or_eq_true, Bool.not_eq_true', not_and, not_or] at hT
      cases hf : isFl loc o with
      | true => exact .inl rfl
      | false => exact .inr (by simpa using (hT hf).1)
  · simp at h
end

section
/- Regions whose order is drawn: every order comes to what was looked at. -/
variable {C : CEnv} {M M' M0 : Mp} {H H' H0 : Heap} {w w' w0 : World} {L L' L0 : Loc} {ML ML' ML0 : Ml} {fr fr' fr0 : CFr} {a a' a0 : Act} {ro : Option Nat} {n : Nat} {Q : Exit → Act → World → Prop} {Kw : Act → World → Prop} {loc : List Nat}
  {ops : Array Oper} {A : Nat → Nat → Prop} {T : Nat → Prop} {pos : Nat → Nat} {S : List Step} {K0 : CFr → Loc → Heap → Prop} {lst : Nat → Bool} {p : Nat} {idf : Nat → Nat}

def Wan (ops : Array Oper) (o : Oper) (fr : CFr) : Prop := o.guard = none ∨ ∃ j want d, o.guard = some (j, want) ∧ (ops[j]?).bind (·.dst) = some d ∧ cget fr.l d = some (.v (.bool want))
def Unw (ops : Array Oper) (o : Oper) (fr : CFr) : Prop := ∃ j want, o.guard = some (j, want) ∧ ((ops[j]?).bind (·.dst) = none ∨ ∃ d v, (ops[j]?).bind (·.dst) = some d ∧ cget fr.l d = some (.v v) ∧ wantB v want = false)

theorem cget_put {d : Nat} {s : Sv} {t : Nat} : cget (fr.put d s).l t = if d = t then some s else cget fr.l t := rfl
theorem put_again {d : Nat} {s : Sv} (h : cget fr.l d = some s) (t : Nat) : cget (fr.put d s).l t = cget fr.l t := by
  rw [cget_put]; split
  · rename_i e; subst e; exact h.symm
  · rfl

theorem cOper_split {o : Oper} {K : CFr → Loc → Heap → Prop} (h : cOper C loc ops o fr L H K) : cPutOk fr o.dst = true ∧ ∃ fr1, Suf fr fr1 ∧ (∀ t, cget fr1.l t = cget fr.l t) ∧
    ((Unw ops o fr ∧ K (fr1.put? o.dst (.v undef)) L H) ∨ (Wan ops o fr ∧ cOp C loc o.dst o.type o.op fr1 L H fun s L H => K (fr1.put? o.dst s) L H)) := by
  unfold cOper at h
  split at h
  · rename_i hp
    refine ⟨hp, ?_⟩
    split at h
    · rename_i hg
      exact ⟨fr, .refl fr, fun _ => rfl, .inr ⟨.inl hg, h⟩⟩
    · rename_i j want hg
      split at h
      · rename_i hd
        exact ⟨fr, .refl fr, fun _ => rfl, .inl ⟨⟨j, want, hg, .inl hd⟩, h⟩⟩
      · rename_i d hd
        split at h
        · rename_i g hgd
          cases g with
          | true =>
            simp only [ifB] at h
            refine ⟨_, .put fr d (.v (.bool true)), put_again hgd, ?_⟩
            cases want with
            | true => simp only [if_true] at h; exact .inr ⟨.inr ⟨j, true, d, hg, hd, hgd⟩, h⟩
            | false => simp at h; exact .inl ⟨⟨j, false, hg, .inr ⟨d, _, hd, hgd, rfl⟩⟩, h⟩
          | false =>
            simp only [ifB] at h
            refine ⟨_, .put fr d (.v (.bool false)), put_again hgd, ?_⟩
            cases want with
            | true => simp at h; exact .inl ⟨⟨j, true, hg, .inr ⟨d, _, hd, hgd, rfl⟩⟩, h⟩
            | false => simp only [if_true] at h; exact .inr ⟨.inr ⟨j, false, d, hg, hd, hgd⟩, h⟩
        · rename_i xs hgd
          exact ⟨fr, .refl fr, fun _ => rfl, .inl ⟨⟨j, want, hg, .inr ⟨d, _, hd, hgd, rfl⟩⟩, h⟩⟩
        · exact h.elim
  · exact h.elim

/-- One that was looked at and has not run yet. -/
def Pend (C : CEnv) (loc : List Nat) (ops : Array Oper) (fr : CFr) (L : Loc) (H : Heap) (ML0 ML : Ml) (id : Nat) (o : Oper) : Prop :=
  cPutOk fr o.dst = true ∧ ((Unw ops o fr ∧ ∀ d, o.dst = some d → cget fr.l d = some (.v undef)) ∨
    (Wan ops o fr ∧ ((∃ t ti m, o.op = .alloc t ∧ C.E.ty t = some ti ∧ (∀ d, o.dst = some d → cget fr.l d = some (.lp id 0)) ∧ ML0.length ≤ id ∧ ML[id]? = some none ∧ L[id]? = some (m, ti.zero)) ∨
      (∃ s, (∀ d, o.dst = some d → cget fr.l d = some s) ∧ turns o.op = false ∧ Vals C loc o.dst o.type o.op fr L H s))))

structure J (C : CEnv) (loc : List Nat) (ops : Array Oper) (A : Nat → Nat → Prop) (T : Nat → Prop) (pos : Nat → Nat) (S : List Step) (K0 : CFr → Loc → Heap → Prop) (M0 : Mp) (H0 : Heap) (L0 : Loc) (ML0 : Ml) (w0 : World) (fr0 : CFr) (a0 : Act)
    (lst : Nat → Bool) (p : Nat) (fr : CFr) (L : Loc) (H : Heap) (M : Mp) (ML : Ml) (idf : Nat → Nat) (a : Act) (w : World) : Prop where
  le : p ≤ ops.size
  t1 : ∀ (i : Nat) (o : Oper), ops[i]? = some o → T i → (lst i = true ↔ pos i < p)
  t2 : ∀ (i : Nat) (o : Oper), ops[i]? = some o → lst i = true → pos i < p
  cl : ∀ i j, lst i = true → A i j → lst j = true
  run : cSteps C loc ops (S.drop p) fr L H K0
  st : LSt M0 H0 ML0 w0 M H ML w
  rel : LRel L0 L
  suf : Suf fr0 fr
  mlx : ∃ N, ML = ML0 ++ N
  defers : a.defers = a0.defers
  size : a.tmps.size = fr.n
  slots : ∀ t s, cget fr.l t = some s → (∀ (i : Nat) (o : Oper), ops[i]? = some o → o.dst = some t → pos i < p → lst i = true) → SvR M ML s (a.tmps.getD t undef)
  lr : LR M H L ML w
  pend : ∀ (i : Nat) (o : Oper), ops[i]? = some o → pos i < p → lst i = false → Pend C loc ops fr L H ML0 ML (idf i) o
  ids : ∀ (i i' : Nat) (o o' : Oper) (t t' : TypeId), ops[i]? = some o → ops[i']? = some o' → pos i < p → pos i' < p → lst i = false → lst i' = false → o.op = .alloc t → o'.op = .alloc t' → Wan ops o fr → Wan ops o' fr → idf i = idf i' → i = i'

theorem vals_congr {o : Oper} {s : Sv} (h : ∀ t, t ∈ useOf ops o → cget fr'.l t = cget fr.l t) (hv : Vals C loc o.dst o.type o.op fr L H s) : Vals C loc o.dst o.type o.op fr' L H s := by
  unfold Vals at *
  rw [cOp_congr (fr' := fr) fun t ht => h t ?_]
  · exact hv
  · unfold useOf tmpsOf; simp only [List.mem_append, List.mem_filterMap]; exact .inl ⟨_, ht, rfl⟩
theorem guard_use {o : Oper} {j : Nat} {want : Bool} {d : Nat} (hg : o.guard = some (j, want)) (hd : (ops[j]?).bind (·.dst) = some d) : d ∈ useOf ops o := by
  unfold useOf; rw [hg]; simp [hd]
theorem Wan.congr {o : Oper} (h : ∀ t, t ∈ useOf ops o → cget fr'.l t = cget fr.l t) (hw : Wan ops o fr) : Wan ops o fr' := by
  rcases hw with hg | ⟨j, want, d, hg, hd, hc⟩
  · exact .inl hg
  · exact .inr ⟨j, want, d, hg, hd, by rw [h d (guard_use hg hd)]; exact hc⟩
theorem Unw.congr {o : Oper} (h : ∀ t, t ∈ useOf ops o → cget fr'.l t = cget fr.l t) (hw : Unw ops o fr) : Unw ops o fr' := by
  obtain ⟨j, want, hg, hh⟩ := hw
  refine ⟨j, want, hg, ?_⟩
  rcases hh with hd | ⟨d, v, hd, hc, he⟩
  · exact .inl hd
  · exact .inr ⟨d, v, hd, by rw [h d (guard_use hg hd)]; exact hc, he⟩
theorem Wan.not {o : Oper} (h : Wan ops o fr) (k : Unw ops o fr) : False := by
  obtain ⟨j, want, hg, hh⟩ := k
  rcases h with h | ⟨j', want', d', hg', hd', hc'⟩
  · rw [h] at hg; simp at hg
  · rw [hg'] at hg; simp at hg; obtain ⟨rfl, rfl⟩ := hg
    rcases hh with hd | ⟨d, v, hd, hc, he⟩
    · rw [hd'] at hd; simp at hd
    · rw [hd'] at hd; simp at hd; subst hd
      rw [hc'] at hc; simp at hc; subst hc
      simp [wantB] at he

theorem op_lt {i : Nat} {o : Oper} (hi : ops[i]? = some o) : i < ops.size := (Array.getElem?_eq_some_iff.1 hi).1

/-- One that turns nothing is looked at. -/
theorem J.adv1 (g : Good loc ops A T pos S) (j : J C loc ops A T pos S K0 M0 H0 L0 ML0 w0 fr0 a0 lst p fr L H M ML idf a w) {i : Nat} {o : Oper} (hi : ops[i]? = some o) (hp : pos i = p) (hT : ¬ T i) (hl : lst i = false) :
    ∃ fr' L' ML' idf', J C loc ops A T pos S K0 M0 H0 L0 ML0 w0 fr0 a0 lst (p + 1) fr' L' H M ML' idf' a w := by
  obtain ⟨as, hS, has, _⟩ := g.sat i o hi
  have := has hT; subst this
  rw [hp] at hS
  have hlt : p < ops.size := by rw [← hp]; exact g.lt i o hi
  have hdrop : S.drop p = ⟨i, o, []⟩ :: S.drop (p + 1) := by
    obtain ⟨h1, h2⟩ := List.getElem?_eq_some_iff.1 hS
    rw [List.drop_eq_getElem_cons h1, h2]
  have hrun := j.run
  rw [hdrop] at hrun
  simp only [cSteps, cAsks] at hrun
  obtain ⟨hput, fr1, hs1, hc1, hcase⟩ := cOper_split hrun
  -- who has its place at p is i alone
  have hone : ∀ (q : Nat) (oq : Oper), ops[q]? = some oq → pos q < p + 1 → pos q < p ∨ q = i := fun q oq hq hlt => by
    by_cases e : pos q = p
    · exact .inr (g.inj q i (op_lt hq) (op_lt hi) (e.trans hp.symm))
    · exact .inl (by omega)
  -- no pending one looks at what i writes
  have hnouse : ∀ (q : Nat) (oq : Oper) (d : Nat), ops[q]? = some oq → pos q < p + 1 → o.dst = some d → d ∉ useOf ops oq := fun q oq d hq hlt hd hmem => by
    rcases g.use q oq d i o hq hmem hi hd with hA | ⟨hTi, _⟩
    · have := g.ord q i (op_lt hq) (op_lt hi) hA
      omega
    · exact hT hTi
  have huse : ∀ (s : Sv) (q : Nat) (oq : Oper), ops[q]? = some oq → pos q < p + 1 → ∀ t, t ∈ useOf ops oq → cget (fr1.put? o.dst s).l t = cget fr.l t := fun s q oq hq hlt t ht => by
    cases hd : o.dst with
    | none => exact hc1 t
    | some d =>
      show cget (fr1.put d s).l t = _
      rw [cget_put, if_neg (fun e => hnouse q oq d hq hlt hd (by rw [e]; exact ht))]
      exact hc1 t
  have hdstne : ∀ (s : Sv) (q : Nat) (oq : Oper) (d : Nat), ops[q]? = some oq → q ≠ i → oq.dst = some d → cget (fr1.put? o.dst s).l d = cget fr.l d := fun s q oq d hq hne hdq => by
    cases hd : o.dst with
    | none => exact hc1 d
    | some d' =>
      show cget (fr1.put d' s).l d = _
      rw [cget_put, if_neg (fun e => hne (g.dsts q i oq o d hq hi hdq (by rw [hd, e])))]
      exact hc1 d
  have hself : ∀ (s : Sv) (d : Nat), o.dst = some d → cget (fr1.put? o.dst s).l d = some s := fun s d hd => by
    rw [hd]; show cget (fr1.put d s).l d = _
    rw [cget_put, if_pos rfl]
  have hn : ∀ s : Sv, (fr1.put? o.dst s).n = fr.n := fun s => ((hs1.trans (.put? _ _ _)).1)
  have hputn : ∀ (s : Sv) (oq : Oper), cPutOk fr oq.dst = true → cPutOk (fr1.put? o.dst s) oq.dst = true := fun s oq h => by unfold cPutOk at h ⊢; rw [hn s]; exact h
  -- slots that are known stay so: what i writes is not asked for, for it has not run
  have hslots : ∀ (s : Sv) (ML2 : Ml), (∃ N, ML2 = ML ++ N) → ∀ t s', cget (fr1.put? o.dst s).l t = some s' → (∀ (q : Nat) (oq : Oper), ops[q]? = some oq → oq.dst = some t → pos q < p + 1 → lst q = true) → SvR M ML2 s' (a.tmps.getD t undef) := by
    intro s ML2 hML t s' hs' hall
    have hne : o.dst ≠ some t := fun hd => by
      have := hall i o hi hd (by omega)
      rw [hl] at this; simp at this
    have hold : cget fr.l t = some s' := by
      cases hd : o.dst with
      | none => rw [hd] at hs'; rw [← hc1 t]; exact hs'
      | some d =>
        rw [hd] at hs'
        have hs2 : cget (fr1.put d s).l t = some s' := hs'
        rw [cget_put, if_neg (fun e => hne (by rw [hd, e]))] at hs2
        rw [← hc1 t]; exact hs2
    obtain ⟨N, rfl⟩ := hML
    exact (j.slots t s' hold fun q oq hq hdq hlt => hall q oq hq hdq (by omega)).app
  have ht1 : ∀ (q : Nat) (oq : Oper), ops[q]? = some oq → T q → (lst q = true ↔ pos q < p + 1) := fun q oq hq hTq => by
    rw [j.t1 q oq hq hTq]
    constructor
    · intro h; omega
    · intro h
      rcases hone q oq hq h with h | h
      · exact h
      · exact absurd (h ▸ hTq) hT
  have hpend : ∀ (s : Sv) (L2 : Loc) (ML2 : Ml) (idf2 : Nat → Nat), (∀ q, q ≠ i → idf2 q = idf q) → (∀ k : Nat, ML[k]? = some none → ML2[k]? = some none ∧ L2[k]? = L[k]?) → (∀ (oq : Oper) (s : Sv), turns oq.op = false → Vals C loc oq.dst oq.type oq.op fr L H s → Vals C loc oq.dst oq.type oq.op fr L2 H s) →
      ∀ (q : Nat) (oq : Oper), ops[q]? = some oq → pos q < p + 1 → lst q = false → q ≠ i → Pend C loc ops (fr1.put? o.dst s) L2 H ML0 ML2 (idf2 q) oq := by
    intro s L2 ML2 idf2 hidf hk hv q oq hq hlt hlq hne
    have hq' : pos q < p := (hone q oq hq hlt).resolve_right hne
    obtain ⟨h1, h2⟩ := j.pend q oq hq hq' hlq
    rw [hidf q hne]
    refine ⟨hputn s oq h1, ?_⟩
    rcases h2 with ⟨h2, h3⟩ | ⟨h2, h3⟩
    · exact .inl ⟨h2.congr (huse s q oq hq hlt), fun d hd => by rw [hdstne s q oq d hq hne hd]; exact h3 d hd⟩
    · refine .inr ⟨h2.congr (huse s q oq hq hlt), ?_⟩
      rcases h3 with ⟨t, ti, m, e1, e2, e3, e4, e5, e6⟩ | ⟨s', e1, e2, e3⟩
      · obtain ⟨k1, k2⟩ := hk _ e5
        exact .inl ⟨t, ti, m, e1, e2, fun d hd => by rw [hdstne s q oq d hq hne hd]; exact e3 d hd, e4, k1, by rw [k2]; exact e6⟩
      · exact .inr ⟨s', fun d hd => by rw [hdstne s q oq d hq hne hd]; exact e1 d hd, e2, vals_congr (huse s q oq hq hlt) (hv oq s' e2 e3)⟩
  have hids : ∀ (s : Sv) (idf2 : Nat → Nat), (∀ q, q ≠ i → idf2 q = idf q) → (∀ (q : Nat) (oq : Oper) (t : TypeId), ops[q]? = some oq → q ≠ i → pos q < p → lst q = false → oq.op = .alloc t → Wan ops oq fr → (∃ t', o.op = .alloc t') → Wan ops o (fr1.put? o.dst s) → idf2 i ≠ idf q) →
      ∀ (q q' : Nat) (oq oq' : Oper) (t t' : TypeId), ops[q]? = some oq → ops[q']? = some oq' → pos q < p + 1 → pos q' < p + 1 → lst q = false → lst q' = false → oq.op = .alloc t → oq'.op = .alloc t' → Wan ops oq (fr1.put? o.dst s) → Wan ops oq' (fr1.put? o.dst s) → idf2 q = idf2 q' → q = q' := by
    intro s idf2 hidf hnew q q' oq oq' t t' hq hq' h1 h2 h3 h4 h5 h6 h7 h8 he
    by_cases e1 : q = i
    · by_cases e2 : q' = i
      · rw [e1, e2]
      · exfalso
        subst e1
        rw [hi] at hq; simp at hq; subst hq
        rw [hidf q' e2] at he
        exact hnew q' oq' t' hq' e2 ((hone q' oq' hq' h2).resolve_right e2) h4 h6 (h8.congr fun t ht => (huse s q' oq' hq' h2 t ht).symm) ⟨t, h5⟩ h7 he
    · by_cases e2 : q' = i
      · exfalso
        subst e2
        rw [hi] at hq'; simp at hq'; subst hq'
        rw [hidf q e1] at he
        exact hnew q oq t hq e1 ((hone q oq hq h1).resolve_right e1) h3 h5 (h7.congr fun t ht => (huse s q oq hq h1 t ht).symm) ⟨t', h6⟩ h8 he.symm
      · rw [hidf q e1, hidf q' e2] at he
        exact j.ids q q' oq oq' t t' hq hq' ((hone q oq hq h1).resolve_right e1) ((hone q' oq' hq' h2).resolve_right e2) h3 h4 h5 h6 (h7.congr fun t ht => (huse s q oq hq h1 t ht).symm)
          (h8.congr fun t ht => (huse s q' oq' hq' h2 t ht).symm) he
  have hvals0 : ∀ (oq : Oper) (s : Sv), turns oq.op = false → Vals C loc oq.dst oq.type oq.op fr L H s → Vals C loc oq.dst oq.type oq.op fr L H s := fun _ _ _ h => h
  rcases hcase with ⟨hu, hk⟩ | ⟨hw, hop⟩
  · -- not wanted
    refine ⟨fr1.put? o.dst (.v undef), L, ML, idf, by omega, ht1, fun q oq hq hlq => by have := j.t2 q oq hq hlq; omega, j.cl, hk, j.st, j.rel, j.suf.trans (hs1.trans (.put? _ _ _)), j.mlx, j.defers, by rw [j.size, hn], hslots _ ML ⟨[], by simp⟩, j.lr, fun q oq hq hlt hlq => ?_,
      hids _ idf (fun _ _ => rfl) fun q oq t hq hne hlt hlq ho hwq _ hwi => (hwi.not (hu.congr (huse _ i o hi (by omega)))).elim⟩
    by_cases e : q = i
    · subst e
      rw [hi] at hq; simp at hq; subst hq
      exact ⟨hputn _ o hput, .inl ⟨hu.congr (huse _ q o hi (by omega)), fun d hd => hself _ d hd⟩⟩
    · exact hpend _ L ML idf (fun _ _ => rfl) (fun k hk => ⟨hk, rfl⟩) hvals0 q oq hq hlt hlq e
  · by_cases hfl : isFl loc o = true
    · -- a local's making
      unfold isFl at hfl
      cases hoop : o.op with
      | alloc t =>
        rw [hoop] at hfl hop
        simp only at hfl
        simp only [cOp] at hop
        split at hop
        · rename_i ti hti
          rw [if_pos hfl] at hop
          have hlen := j.lr.len
          have hkeep : ∀ k : Nat, ML[k]? = some none → (ML ++ [none])[k]? = some none ∧ (L ++ [(0, ti.zero)])[k]? = L[k]? := fun k hk => by
            have h1 := (List.getElem?_eq_some_iff.1 hk).1
            exact ⟨by rw [List.getElem?_append_left h1]; exact hk, by rw [List.getElem?_append_left (by omega)]⟩
          refine ⟨_, L ++ [(0, ti.zero)], ML ++ [none], fun q => if q = i then L.length else idf q, by omega, ht1, fun q oq hq hlq => by have := j.t2 q oq hq hlq; omega, j.cl, hop, ⟨j.st.st, fun q e hq => ?_⟩, j.rel.trans (.app _ _),
            j.suf.trans (hs1.trans (.put? _ _ _)), ?_, j.defers, by rw [j.size, hn], hslots _ _ ⟨_, rfl⟩, j.lr.keep _, fun q oq hq hlt hlq => ?_, hids _ _ (fun q hq => by simp [hq]) fun q oq t' hq hne hlt hlq ho hwq _ _ => ?_⟩
          · refine j.st.mx q e ?_
            by_cases h : q < ML.length
            · rw [List.getElem?_append_left h] at hq; exact hq
            · rw [List.getElem?_append_right (by omega)] at hq
              cases hx : q - ML.length with
              | zero => rw [hx] at hq; simp at hq
              | succ x => rw [hx] at hq; simp at hq
          · obtain ⟨N, hN⟩ := j.mlx
            exact ⟨N ++ [none], by rw [hN, List.append_assoc]⟩
          · by_cases e : q = i
            · subst e
              rw [hi] at hq; simp at hq; subst hq
              refine ⟨hputn _ o hput, .inr ⟨hw.congr (huse _ q o hi (by omega)), .inl ⟨t, ti, 0, hoop, hti, fun d hd => by simpa using hself _ d hd, ?_, ?_, ?_⟩⟩⟩
              · obtain ⟨N, hN⟩ := j.mlx
                simp only [if_true]
                rw [← hlen, hN]; simp
              · simp only [if_true]; rw [← hlen]; simp
              · simp
            · exact hpend _ _ _ (fun q => if q = i then L.length else idf q) (fun q hq => if_neg hq) hkeep (fun oq s h1 h2 => vals_app h1 h2) q oq hq hlt hlq e
          · have hp1 := j.pend q oq hq hlt hlq
            simp only [if_true]
            rcases hp1.2 with ⟨hu, _⟩ | ⟨_, ⟨t2, ti2, m, e1, e2, e3, e4, e5, e6⟩ | ⟨s', e1, e2, e3⟩⟩
            · exact (hwq.not hu).elim
            · have := (List.getElem?_eq_some_iff.1 e6).1
              omega
            · rw [ho] at e2; simp [turns] at e2
        · exact hop.elim
      | _ => rw [hoop] at hfl; simp at hfl
    · have htu : turns o.op = false := (g.nt i o hi hT).resolve_left hfl
      obtain ⟨s, hv, hk⟩ := cOp_vals htu hop
      refine ⟨fr1.put? o.dst s, L, ML, idf, by omega, ht1, fun q oq hq hlq => by have := j.t2 q oq hq hlq; omega, j.cl, hk, j.st, j.rel, j.suf.trans (hs1.trans (.put? _ _ _)), j.mlx, j.defers, by rw [j.size, hn], hslots _ ML ⟨[], by simp⟩, j.lr, fun q oq hq hlt hlq => ?_,
        hids _ idf (fun _ _ => rfl) fun q oq t hq hne hlt hlq ho hwq he _ => by obtain ⟨t', he⟩ := he; rw [he] at htu; simp [turns] at htu⟩
      by_cases e : q = i
      · subst e
        rw [hi] at hq; simp at hq; subst hq
        refine ⟨hputn _ o hput, .inr ⟨hw.congr (huse _ q o hi (by omega)), .inr ⟨s, fun d hd => hself _ d hd, htu, ?_⟩⟩⟩
        exact vals_congr (huse _ q o hi (by omega)) (vals_congr (ops := ops) (fr := fr1) (fun t _ => (hc1 t).symm) hv)
      · exact hpend _ L ML idf (fun _ _ => rfl) (fun k hk => ⟨hk, rfl⟩) hvals0 q oq hq hlt hlq e
end

section
/- Regions whose order is drawn: every order comes to what was looked at; second part. -/
variable {C : CEnv} {M M' M0 : Mp} {H H' H0 : Heap} {w w' w0 : World} {L L' L0 : Loc} {ML ML' ML0 : Ml} {fr fr' fr0 : CFr} {a a' a0 : Act} {ro : Option Nat} {n : Nat} {Q : Exit → Act → World → Prop} {Kw : Act → World → Prop} {loc : List Nat}
  {ops : Array Oper} {A : Nat → Nat → Prop} {T : Nat → Prop} {pos : Nat → Nat} {S : List Step} {K0 : CFr → Loc → Heap → Prop} {lst : Nat → Bool} {p : Nat} {idf : Nat → Nat}

/-- The slots that an operation looks at, alone. -/
def useFr (ops : Array Oper) (o : Oper) (fr : CFr) : CFr := ⟨fr.n, (useOf ops o).map fun t => (t, cget fr.l t)⟩
theorem cget_map : ∀ {l : List Nat} {t : Nat} {f : Nat → Option Sv}, cget (l.map fun t => (t, f t)) t = if t ∈ l then f t else none
  | [], t, f => by simp [cget]
  | x :: r, t, f => by
    simp only [List.map_cons, cget, cget_map (l := r)]
    by_cases h : x = t
    · subst h; simp
    · rw [if_neg h]
      have : t ∈ x :: r ↔ t ∈ r := by simp [Ne.symm h]
      simp only [this]
theorem useFr_get {o : Oper} {t : Nat} (h : t ∈ useOf ops o) : cget (useFr ops o fr).l t = cget fr.l t := by unfold useFr; rw [cget_map, if_pos h]
theorem useFr_fs {o : Oper} (hs : a.tmps.size = fr.n) (h : ∀ t s, t ∈ useOf ops o → cget fr.l t = some s → SvR M ML s (a.tmps.getD t undef)) : FS M ML (useFr ops o fr) a.tmps :=
  ⟨hs, fun t s hg => by
    unfold useFr at hg; rw [cget_map] at hg
    split at hg
    · rename_i hm; exact h t s hm hg
    · simp at hg⟩
theorem wan_ok {o : Oper} (h : Wan ops o fr) (hs : ∀ t s, t ∈ useOf ops o → cget fr.l t = some s → SvR M ML s (a.tmps.getD t undef)) : Region.wanted o (yielded ops a.tmps) = true := by
  rcases h with hg | ⟨j, want, d, hg, hd, hc⟩
  · exact cWanted0 hg
  · rw [cWanted hg hd (hs d _ (guard_use hg hd) hc)]; simp [wantB]
theorem unw_ok {o : Oper} (h : Unw ops o fr) (hs : ∀ t s, t ∈ useOf ops o → cget fr.l t = some s → SvR M ML s (a.tmps.getD t undef)) : Region.wanted o (yielded ops a.tmps) = false := by
  obtain ⟨j, want, hg, hh⟩ := h
  rcases hh with hd | ⟨d, v, hd, hc, he⟩
  · exact cWantedN hg hd
  · rw [cWanted hg hd (hs d _ (guard_use hg hd) hc)]; exact he

theorem putD_ne {d : Option Nat} {u : Value} {t : Nat} (h : d ≠ some t) : (a.put d u).tmps.getD t undef = a.tmps.getD t undef := put_getD h
theorem putD_eq {u : Value} {t : Nat} (h : t < a.tmps.size) : (a.put (some t) u).tmps.getD t undef = u := put_getD' h
theorem put_size (a : Act) (d : Option Nat) (u : Value) : (a.put d u).tmps.size = a.tmps.size := by cases d <;> simp [Act.put]

theorem SvR.mono2 {s : Sv} {u : Value} (h : SvR M ML s u) (x : Ext M M') (e : ∃ N, ML' = ML ++ N) : SvR M' ML' s u := by
  obtain ⟨N, rfl⟩ := e
  exact (h.mono x).app

/-- The slots that the next one looks at are known. -/
theorem J.sees (g : Good loc ops A T pos S) (j : J C loc ops A T pos S K0 M0 H0 L0 ML0 w0 fr0 a0 lst p fr L H M ML idf a w) {i : Nat} {o : Oper} (hi : ops[i]? = some o) (hA : ∀ q, A i q → lst q = true) :
    ∀ t s, t ∈ useOf ops o → cget fr.l t = some s → SvR M ML s (a.tmps.getD t undef) := fun t s ht hc =>
  j.slots t s hc fun q oq hq hd hlt => by
    rcases g.use i o t q oq hi ht hq hd with h | ⟨hT, _⟩
    · exact hA q h
    · exact (j.t1 q oq hq hT).2 hlt

theorem useFr_cOp {o : Oper} {k : Sv → Loc → Heap → Prop} {fr1 : CFr} (h1 : ∀ t, cget fr1.l t = cget fr.l t) (h : cOp C loc o.dst o.type o.op fr1 L H k) : cOp C loc o.dst o.type o.op (useFr ops o fr) L H k := by
  rw [cOp_congr (fr' := fr1) fun t ht => ?_]
  · exact h
  · rw [useFr_get (by unfold useOf tmpsOf; simp only [List.mem_append, List.mem_filterMap]; exact .inl ⟨_, ht, rfl⟩), h1 t]

/-- One that was looked at runs. -/
theorem J.exP (g : Good loc ops A T pos S) (hE : C.E.Ok C.P) (j : J C loc ops A T pos S K0 M0 H0 L0 ML0 w0 fr0 a0 lst p fr L H M ML idf a w) {i : Nat} {o : Oper} (hi : ops[i]? = some o) (hp : pos i < p) (hT : ¬ T i) (hl : lst i = false) (hA : ∀ q, A i q → lst q = true)
    (hK : ∀ M' ML' a' w', J C loc ops A T pos S K0 M0 H0 L0 ML0 w0 fr0 a0 (fun q => lst q || q == i) p fr L H M' ML' idf a' w' → Kw a' w') : wpOpIn (Fw ro) n C.P ops Q i Kw a w := by
  obtain ⟨hput, hcase⟩ := j.pend i o hi hp hl
  have hsee := j.sees g hi hA
  -- what stands behind it, whatever it was
  have fin : ∀ (M' : Mp) (ML' : Ml) (w' : World) (u : Value), LSt M H ML w M' H ML' w' → LR M' H L ML' w' → (∃ N, ML' = ML0 ++ N) → (∀ s u, SvR M ML s u → SvR M' ML' s u) → (∀ d, o.dst = some d → ∃ s, cget fr.l d = some s ∧ SvR M' ML' s u) →
      (∀ (q : Nat) (oq : Oper), ops[q]? = some oq → pos q < p → lst q = false → q ≠ i → ∀ t, oq.op = .alloc t → Wan ops oq fr → ML'[idf q]? = some none) →
      J C loc ops A T pos S K0 M0 H0 L0 ML0 w0 fr0 a0 (fun q => lst q || q == i) p fr L H M' ML' idf (a.put o.dst u) w' := by
    intro M' ML' w' u hst hlr hmlx hsv hdst hkeep
    refine ⟨j.le, fun q oq hq hTq => ?_, fun q oq hq hlq => ?_, fun x y hx hxy => ?_, j.run, j.st.trans hst, j.rel, j.suf, hmlx, by rw [put_defers]; exact j.defers, by rw [put_size]; exact j.size, fun t s hs hall => ?_, hlr, fun q oq hq hlt hlq => ?_,
      fun q q' oq oq' t t' hq hq' h1 h2 h3 h4 => ?_⟩
    · have hne : q ≠ i := fun e => hT (e ▸ hTq)
      have : (q == i) = false := by simpa using hne
      simp only [this, Bool.or_false]
      exact j.t1 q oq hq hTq
    · simp only [Bool.or_eq_true, beq_iff_eq] at hlq
      rcases hlq with h | h
      · exact j.t2 q oq hq h
      · subst h; exact hp
    · simp only [Bool.or_eq_true, beq_iff_eq] at hx ⊢
      rcases hx with h | h
      · exact .inl (j.cl x y h hxy)
      · subst h; exact .inl (hA y hxy)
    · by_cases e : o.dst = some t
      · obtain ⟨s', c1, c2⟩ := hdst t e
        rw [hs] at c1; simp at c1; subst c1
        have hlt : t < a.tmps.size := by
          have hput' := hput
          unfold cPutOk at hput'
          rw [e] at hput'
          rw [j.size]; simpa using hput'
        rw [e, putD_eq hlt]; exact c2
      · rw [putD_ne e]
        exact hsv s _ (j.slots t s hs fun q oq hq hd hlt => by
          have := hall q oq hq hd hlt
          simp only [Bool.or_eq_true, beq_iff_eq] at this
          rcases this with h | h
          · exact h
          · subst h; rw [hi] at hq; simp at hq; subst hq; exact absurd hd e)
    · simp only [Bool.or_eq_false_iff, beq_eq_false_iff_ne] at hlq
      obtain ⟨h1, h2⟩ := j.pend q oq hq hlt hlq.1
      refine ⟨h1, ?_⟩
      rcases h2 with h2 | ⟨h2, h3⟩
      · exact .inl h2
      · refine .inr ⟨h2, ?_⟩
        rcases h3 with ⟨t, ti, m, e1, e2, e3, e4, e5, e6⟩ | h3
        · exact .inl ⟨t, ti, m, e1, e2, e3, e4, hkeep q oq hq hlt hlq.1 hlq.2 t e1 h2, e6⟩
        · exact .inr h3
    · simp only [Bool.or_eq_false_iff] at h3 h4
      exact j.ids q q' oq oq' t t' hq hq' h1 h2 h3.1 h4.1
  have hkeep0 : ∀ (q : Nat) (oq : Oper), ops[q]? = some oq → pos q < p → lst q = false → ∀ t, oq.op = .alloc t → Wan ops oq fr → ML[idf q]? = some none := fun q oq hq hlt hlq t ho hw => by
    obtain ⟨_, h2⟩ := j.pend q oq hq hlt hlq
    rcases h2 with ⟨hu, _⟩ | ⟨_, ⟨t2, ti, m, e1, e2, e3, e4, e5, e6⟩ | ⟨s, e1, e2, e3⟩⟩
    · exact (hw.not hu).elim
    · exact e5
    · rw [ho] at e2; simp [turns] at e2
  unfold wpOpIn
  rw [hi]
  simp only
  rcases hcase with ⟨hu, hd⟩ | ⟨hw, hval⟩
  · rw [unw_ok hu hsee]
    refine ⟨fun _ _ => trivial, hK M ML _ w (fin M ML w undef (.refl j.st.st.hr ML) j.lr j.mlx (fun _ _ h => h) (fun d he => ⟨_, hd d he, VR.undef M⟩) fun q oq hq hlt hlq _ t ho hwq => hkeep0 q oq hq hlt hlq t ho hwq)⟩
  · rw [wan_ok hw hsee]
    rcases hval with ⟨t, ti, m, e1, e2, e3, e4, e5, e6⟩ | ⟨s, e1, e2, e3⟩
    · obtain ⟨c, q1, q2, q3⟩ := alloc_run (M := M) (w := w) hE e2
      obtain ⟨f1, f2⟩ := j.lr.fill j.st.st.hr t ti.size e5 e6 q2 q3
      have hid := (List.getElem?_eq_some_iff.1 e5).1
      obtain ⟨dst, op, ty, ps, after, guard⟩ := o
      simp only at e1; subst e1
      refine wp_of_run (s := Instr.alloc t true (.tuple #[])) (fun c => by simp) rfl q1 (hK M _ _ _ (fin M _ _ _ f1 f2 ?_ (fun _ _ h => h.fill e5) (fun d he => ⟨_, e3 d he, _, List.getElem?_set_self hid, rfl⟩) fun q oq hq hlt hlq hne t' ho hwq => ?_))
      · obtain ⟨N, hN⟩ := j.mlx
        refine ⟨N.set (idf i - ML0.length) (some ⟨w.heap.size, 0, false, ti.zero.length, ti.size, c.size⟩), ?_⟩
        rw [hN, List.set_append, if_neg (by omega)]
      · have hidne : idf i ≠ idf q := fun e => hne (j.ids i q _ oq t t' hi hq hp hlt hl hlq rfl ho hw hwq e).symm
        rw [List.getElem?_set_ne hidne]
        exact hkeep0 q oq hq hlt hlq t' ho hwq
    · have hop := useFr_cOp (ops := ops) (fr := fr) (fun _ => rfl) e3
      exact cOp_ok (ro := ro) (n := n) (Q := Q) (pos := o.pos) (after := o.after) (guard := o.guard) hE j.st.st.hr j.lr (useFr_fs j.size hsee) hop fun s' L' H' M' ML' w' u hk ha hu => by
        obtain ⟨rfl, rfl, rfl⟩ := hk
        obtain ⟨h1, h2, _, _, ⟨N, hN⟩, _⟩ := ha
        have hN0 : N = [] := by
          have l1 := h2.len
          have l2 := j.lr.len
          rw [hN] at l1; simp at l1
          exact List.length_eq_zero_iff.1 (by omega)
        subst hN0
        simp at hN; subst hN
        exact hK M' _ _ w' (fin M' _ w' u h1 h2 j.mlx (fun _ _ h => h.mono h1.st.ext) (fun d he => ⟨_, e1 d he, hu⟩) fun q oq hq hlt hlq _ t ho hwq => hkeep0 q oq hq hlt hlq t ho hwq)

/-! ### Those that turn something -/
def Asked (C : CEnv) (ops : Array Oper) (fr : CFr) (L : Loc) (H : Heap) (o : Oper) : Prop :=
  Wan ops o fr → match o.op, o.dst with
    | .load t x, some d => match opS fr x, cget fr.l d, C.E.ty t with
      | some (.v (.pointer (some ⟨b, off, none⟩))), some (.v v), some _ => LD (C.tag t) H b off fun x => (C.tag t).enc x = v
      | some (.lp i off), some (.v v), some ti => match L[i]? with
        | some (_, cs) => off + ti.size ≤ cs.length ∧ ofCells ti.k ((cs.drop off).take ti.size) = some v
        | none => False
      | _, _, _ => False
    | .slice t x lo hi mx, some d => match opV fr x, opVo fr lo, opVo fr hi, opVo fr mx, cget fr.l d with
      | some v, some lo, some hi, some mx, some (.v u) => aSlice C.E t v lo hi mx H = some u
      | _, _, _, _, _ => False
    | .lookup t x i ok, some d => match opV fr x, opV fr i, cget fr.l d with
      | some x, some i, some (.v u) => aLookup C.E t x i ok H = some u
      | _, _, _ => False
    | .call ⟨.builtin .len, args, ts⟩, some _ => match args.toList, ts.toList with
      | [x], [t] => match opV fr x, C.E.ty t with
        | some (.slice _ _ _), some ⟨.slice _, _, _, _⟩ => True
        | _, _ => False
      | _, _ => False
    | _, _ => False

theorem cAsk_split {o : Oper} {k : Prop} (h : cAsk C ops fr L H o k) : k ∧ Asked C ops fr L H o := by
  unfold cAsk at h
  have key : ∀ {q : Prop}, (match o.op, o.dst with
    | .load t x, some d => match opS fr x, cget fr.l d, C.E.ty t with
      | some (.v (.pointer (some ⟨b, off, none⟩))), some (.v v), some _ => LD (C.tag t) H b off fun x => REQ ((C.tag t).enc x = v) q
      | some (.lp i off), some (.v v), some ti => match L[i]? with
        | some (_, cs) => if off + ti.size ≤ cs.length then REQ (ofCells ti.k ((cs.drop off).take ti.size) = some v) q else False
        | none => False
      | _, _, _ => False
    | .slice t x lo hi mx, some d => match opV fr x, opVo fr lo, opVo fr hi, opVo fr mx, cget fr.l d with
      | some v, some lo, some hi, some mx, some (.v u) => REQ (aSlice C.E t v lo hi mx H = some u) q
      | _, _, _, _, _ => False
    | .lookup t x i ok, some d => match opV fr x, opV fr i, cget fr.l d with
      | some x, some i, some (.v u) => REQ (aLookup C.E t x i ok H = some u) q
      | _, _, _ => False
    | .call ⟨.builtin .len, args, ts⟩, some _ => match args.toList, ts.toList with
      | [x], [t] => match opV fr x, C.E.ty t with
        | some (.slice _ _ _), some ⟨.slice _, _, _, _⟩ => q
        | _, _ => False
      | _, _ => False
    | _, _ => False) → q ∧ Asked C ops fr L H o := by
    intro q hq
    unfold Asked
    split at hq
    · rename_i t x d ho hd
      split at hq
      · rename_i b off v ti h1 h2 h3
        obtain ⟨y, g1, g2, g3⟩ := hq
        refine ⟨g3, fun _ => ?_⟩
        exact ⟨y, g1, g2⟩
      · rename_i i off v ti h1 h2 h3
        split at hq
        · rename_i m cs hL
          split at hq
          · rename_i hlen
            obtain ⟨g1, g2⟩ := hq
            refine ⟨g2, fun _ => ?_⟩
            exact ⟨hlen, g1⟩
          · exact hq.elim
        · exact hq.elim
      · exact hq.elim
    · split at hq
      · exact ⟨hq.2, fun _ => hq.1⟩
      · exact hq.elim
    · split at hq
      · exact ⟨hq.2, fun _ => hq.1⟩
      · exact hq.elim
    · split at hq
      · split at hq
        · exact ⟨hq, fun _ => trivial⟩
        · exact hq.elim
      · exact hq.elim
    · exact hq.elim
  simp only at h
  split at h
  · exact key h
  · rename_i j want hg
    split at h
    · rename_i hd
      refine ⟨h, fun hw => ?_⟩
      exact (hw.not ⟨j, want, hg, .inl hd⟩).elim
    · rename_i d hd
      split at h
      · rename_i b hc
        cases want with
        | true =>
          simp only [if_true] at h
          cases b with
          | true => exact key h
          | false => exact ⟨h, fun hw => (hw.not ⟨j, true, hg, .inr ⟨d, _, hd, hc, rfl⟩⟩).elim⟩
        | false =>
          simp only [Bool.false_eq_true, if_false] at h
          cases b with
          | true => exact ⟨h, fun hw => (hw.not ⟨j, false, hg, .inr ⟨d, _, hd, hc, rfl⟩⟩).elim⟩
          | false => exact key h
      · rename_i xs hc
        exact ⟨h, fun hw => (hw.not ⟨j, want, hg, .inr ⟨d, _, hd, hc, rfl⟩⟩).elim⟩
      · exact h.elim
theorem cAsks_split : ∀ {as : List Oper} {k : Prop}, cAsks C ops fr L H as k → k ∧ ∀ o ∈ as, Asked C ops fr L H o
  | [], k, h => ⟨h, fun o ho => by simp at ho⟩
  | o :: r, k, h => by
    obtain ⟨h1, h2⟩ := cAsk_split h
    obtain ⟨h3, h4⟩ := cAsks_split h1
    refine ⟨h3, fun o' ho' => ?_⟩
    rcases List.mem_cons.1 ho' with rfl | ho'
    · exact h2
    · exact h4 o' ho'

/-- A read that was asked again gives what it gave. -/
theorem vals_asked {o : Oper} {s : Sv} (hv : Vals C loc o.dst o.type o.op fr L H s) (hu : ∀ t, t ∈ useOf ops o → cget fr'.l t = cget fr.l t) (hd : ∀ d, o.dst = some d → cget fr'.l d = some s) (hw : Wan ops o fr') (ha : Asked C ops fr' L' H' o) :
    Vals C loc o.dst o.type o.op fr' L' H' s := by
  have ha := ha hw
  have hv := vals_congr hu hv
  split at ha
  · rename_i t x d ho hdst
    unfold Vals SameS at *
    rw [ho] at hv ⊢
    simp only [cOp, and_self, and_true] at hv ⊢
    have hcd := hd d hdst
    split at ha
    · rename_i b off v ti h1 h2 h3
      rw [h2] at hcd; simp at hcd; subst hcd
      simp only [h1, h3] at hv ⊢
      split at hv
      · rename_i hc
        rw [if_pos hc]
        obtain ⟨y, g1, g2⟩ := ha
        exact ⟨y, g1, by simp [g2]⟩
      · exact hv.elim
    · rename_i i off v ti h1 h2 h3
      rw [h2] at hcd; simp at hcd; subst hcd
      simp only [h1, h3] at hv ⊢
      split at ha
      · rename_i m cs hL
        simp only [hL, if_pos ha.1, ha.2]
      · exact ha.elim
    · exact ha.elim
  · rename_i t x lo hi mx d ho hdst
    unfold Vals SameS at *
    rw [ho] at hv ⊢
    simp only [cOp, and_self, and_true] at hv ⊢
    have hcd := hd d hdst
    split at ha
    · rename_i v lo' hi' mx' u h1 h2 h3 h4 h5
      rw [h5] at hcd; simp at hcd; subst hcd
      simp only [h1, h2, h3, h4] at hv ⊢
      obtain ⟨y, _, g2⟩ := hv
      have g2 : Sv.v u = .v ((C.tag o.type).enc y) := by first | exact g2.symm | exact g2.1.symm
      injection g2 with g2
      exact ⟨y, by rw [ha, g2], by rw [g2]⟩
    · exact ha.elim
  · rename_i t x i ok d ho hdst
    unfold Vals SameS at *
    rw [ho] at hv ⊢
    simp only [cOp, and_self, and_true] at hv ⊢
    have hcd := hd d hdst
    split at ha
    · rename_i v i' u h1 h2 h3
      rw [h3] at hcd; simp at hcd; subst hcd
      simp only [h1, h2] at hv ⊢
      split at hv
      · rename_i hok
        subst hok
        split at hv
        · rename_i T hT
          rw [if_pos rfl]
          obtain ⟨y, b, _, g2⟩ := hv
          have g2 : Sv.v u = .v (.tuple #[T.enc y, .bool b]) := by first | exact g2.symm | exact g2.1.symm
          injection g2 with g2
          exact ⟨y, b, by rw [ha, g2], by rw [g2]⟩
        · exact hv.elim
      · rename_i hok
        rw [if_neg hok]
        obtain ⟨y, _, g2⟩ := hv
        have g2 : Sv.v u = .v ((C.tag o.type).enc y) := by first | exact g2.symm | exact g2.1.symm
        injection g2 with g2
        exact ⟨y, by rw [ha, g2], by rw [g2]⟩
    · exact ha.elim
  · rename_i args ts d ho hdst
    unfold Vals SameS at *
    rw [ho] at hv ⊢
    simp only [cOp, cCall, and_self, and_true] at hv ⊢
    split at ha
    · rename_i x t ea et
      split at ha
      · rename_i p m c e1 e2 e3 h1 h2
        simp only [ea, et, h1, h2] at hv ⊢
        exact hv
      · exact ha.elim
    · exact ha.elim
  · exact ha.elim
end

section
/- Regions whose order is drawn: every order comes to what was looked at; the end. -/
variable {C : CEnv} {M M' M0 : Mp} {H H' H0 : Heap} {w w' w0 : World} {L L' L0 : Loc} {ML ML' ML0 : Ml} {fr fr' fr0 : CFr} {a a' a0 : Act} {ro : Option Nat} {n : Nat} {Q : Exit → Act → World → Prop} {Kw : Act → World → Prop} {loc : List Nat}
  {ops : Array Oper} {A : Nat → Nat → Prop} {T : Nat → Prop} {pos : Nat → Nat} {S : List Step} {K0 : CFr → Loc → Heap → Prop} {lst : Nat → Bool} {p : Nat} {idf : Nat → Nat}

/-- One that turns something runs. -/
theorem J.exT (g : Good loc ops A T pos S) (hE : C.E.Ok C.P) (j : J C loc ops A T pos S K0 M0 H0 L0 ML0 w0 fr0 a0 lst p fr L H M ML idf a w) {i : Nat} {o : Oper} (hi : ops[i]? = some o) (hp : pos i = p) (hT : T i) (hl : lst i = false) (hA : ∀ q, A i q → lst q = true)
    (hK : ∀ fr' L' H' M' ML' a' w', J C loc ops A T pos S K0 M0 H0 L0 ML0 w0 fr0 a0 (fun q => lst q || q == i) (p + 1) fr' L' H' M' ML' idf a' w' → Kw a' w') : wpOpIn (Fw ro) n C.P ops Q i Kw a w := by
  obtain ⟨as, hS, _, has⟩ := g.sat i o hi
  have has := has hT
  rw [hp] at hS has
  have hlt : p < ops.size := by rw [← hp]; exact g.lt i o hi
  have hdrop : S.drop p = ⟨i, o, as⟩ :: S.drop (p + 1) := by
    obtain ⟨h1, h2⟩ := List.getElem?_eq_some_iff.1 hS
    rw [List.drop_eq_getElem_cons h1, h2]
  have hrun := j.run
  rw [hdrop] at hrun
  simp only [cSteps] at hrun
  obtain ⟨hput, fr1, hs1, hc1, hcase⟩ := cOper_split hrun
  have hsee := j.sees g hi hA
  have hone : ∀ (q : Nat) (oq : Oper), ops[q]? = some oq → q ≠ i → pos q < p + 1 → pos q < p := fun q oq hq hne hlt => by
    have : pos q ≠ p := fun e => hne (g.inj q i (op_lt hq) (op_lt hi) (e.trans hp.symm))
    omega
  have huse : ∀ (s : Sv) (q : Nat) (oq : Oper), ops[q]? = some oq → q ≠ i → pos q < p → lst q = false → ∀ t, t ∈ useOf ops oq → cget (fr1.put? o.dst s).l t = cget fr.l t := fun s q oq hq hne hlt hlq t ht => by
    cases hd : o.dst with
    | none => exact hc1 t
    | some d =>
      show cget (fr1.put d s).l t = _
      rw [cget_put, if_neg fun e => ?_]
      · exact hc1 t
      · subst e
        rcases g.use q oq d i o hq ht hi hd with h | ⟨_, h | h⟩
        · have := g.ord q i (op_lt hq) (op_lt hi) h; omega
        · exact hne h.symm
        · have := hA q h; rw [hlq] at this; simp at this
  have hdstne : ∀ (s : Sv) (q : Nat) (oq : Oper) (d : Nat), ops[q]? = some oq → q ≠ i → oq.dst = some d → cget (fr1.put? o.dst s).l d = cget fr.l d := fun s q oq d hq hne hdq => by
    cases hd : o.dst with
    | none => exact hc1 d
    | some d' =>
      show cget (fr1.put d' s).l d = _
      rw [cget_put, if_neg (fun e => hne (g.dsts q i oq o d hq hi hdq (by rw [hd, e])))]
      exact hc1 d
  have hn : ∀ s : Sv, (fr1.put? o.dst s).n = fr.n := fun s => ((hs1.trans (.put? _ _ _)).1)
  have fin : ∀ (s : Sv) (L' : Loc) (H' : Heap) (M' : Mp) (ML' : Ml) (w' : World) (u : Value), LSt M H ML w M' H' ML' w' → LR M' H' L' ML' w' → (∃ N, ML' = ML ++ N) → LRel L L' → (∀ k : Nat, ML[k]? = some none → L'[k]? = L[k]?) →
      cAsks C ops (fr1.put? o.dst s) L' H' as (cSteps C loc ops (S.drop (p + 1)) (fr1.put? o.dst s) L' H' K0) → SvR M' ML' s u →
      J C loc ops A T pos S K0 M0 H0 L0 ML0 w0 fr0 a0 (fun q => lst q || q == i) (p + 1) (fr1.put? o.dst s) L' H' M' ML' idf (a.put o.dst u) w' := by
    intro s L' H' M' ML' w' u hst hlr hml hrel hkeep hasks hu
    obtain ⟨hrun', hasked⟩ := cAsks_split hasks
    have hml0 : ∀ k : Nat, ML[k]? = some none → ML'[k]? = some none := fun k hk => by
      obtain ⟨N, rfl⟩ := hml
      rw [List.getElem?_append_left (List.getElem?_eq_some_iff.1 hk).1]; exact hk
    refine ⟨by omega, fun q oq hq hTq => ?_, fun q oq hq hlq => ?_, fun x y hx hxy => ?_, hrun', j.st.trans hst, j.rel.trans hrel, j.suf.trans (hs1.trans (.put? _ _ _)), ?_, by rw [put_defers]; exact j.defers, by rw [put_size, hn]; exact j.size,
      fun t s' hs' hall => ?_, hlr, fun q oq hq hlt hlq => ?_, fun q q' oq oq' t t' hq hq' h1 h2 h3 h4 h5 h6 h7 h8 he => ?_⟩
    · by_cases e : q = i
      · subst e; simp [hp]
      · have : (q == i) = false := by simpa using e
        simp only [this, Bool.or_false]
        rw [j.t1 q oq hq hTq]
        exact ⟨fun h => by omega, fun h => hone q oq hq e h⟩
    · simp only [Bool.or_eq_true, beq_iff_eq] at hlq
      rcases hlq with h | h
      · have := j.t2 q oq hq h; omega
      · subst h; omega
    · simp only [Bool.or_eq_true, beq_iff_eq] at hx ⊢
      rcases hx with h | h
      · exact .inl (j.cl x y h hxy)
      · subst h; exact .inl (hA y hxy)
    · obtain ⟨N, hN⟩ := j.mlx
      obtain ⟨N', hN'⟩ := hml
      exact ⟨N ++ N', by rw [hN', hN, List.append_assoc]⟩
    · by_cases e : o.dst = some t
      · rw [e] at hs'
        have hs2 : cget (fr1.put t s).l t = some s' := hs'
        rw [cget_put, if_pos rfl] at hs2
        simp at hs2; subst hs2
        have hlt : t < a.tmps.size := by
          have hput' := hput
          unfold cPutOk at hput'
          rw [e] at hput'
          rw [j.size]; simpa using hput'
        rw [e, putD_eq hlt]; exact hu
      · rw [putD_ne e]
        have hold : cget fr.l t = some s' := by
          cases hd : o.dst with
          | none => rw [hd] at hs'; rw [← hc1 t]; exact hs'
          | some d =>
            rw [hd] at hs'
            have hs2 : cget (fr1.put d s).l t = some s' := hs'
            rw [cget_put, if_neg (fun e' => e (by rw [hd, e']))] at hs2
            rw [← hc1 t]; exact hs2
        refine (j.slots t s' hold fun q oq hq hd hlt => ?_).mono2 hst.st.ext hml
        have := hall q oq hq hd (by omega)
        simp only [Bool.or_eq_true, beq_iff_eq] at this
        rcases this with h | h
        · exact h
        · subst h; rw [hi] at hq; simp at hq; subst hq; exact absurd hd e
    · simp only [Bool.or_eq_false_iff, beq_eq_false_iff_ne] at hlq
      obtain ⟨hlq, hne⟩ := hlq
      have hlt' := hone q oq hq hne hlt
      obtain ⟨h1, h2⟩ := j.pend q oq hq hlt' hlq
      refine ⟨by unfold cPutOk at h1 ⊢; rw [hn]; exact h1, ?_⟩
      rcases h2 with ⟨h2, h3⟩ | ⟨h2, h3⟩
      · exact .inl ⟨h2.congr (huse s q oq hq hne hlt' hlq), fun d hd => by rw [hdstne s q oq d hq hne hd]; exact h3 d hd⟩
      · have hw' := h2.congr (huse s q oq hq hne hlt' hlq)
        refine .inr ⟨hw', ?_⟩
        rcases h3 with ⟨t, ti, m, e1, e2, e3, e4, e5, e6⟩ | ⟨s', e1, e2, e3⟩
        · exact .inl ⟨t, ti, m, e1, e2, fun d hd => by rw [hdstne s q oq d hq hne hd]; exact e3 d hd, e4, hml0 _ e5, by rw [hkeep _ e5]; exact e6⟩
        · have hd' : ∀ d, oq.dst = some d → cget (fr1.put? o.dst s).l d = some s' := fun d hd => by rw [hdstne s q oq d hq hne hd]; exact e1 d hd
          refine .inr ⟨s', hd', e2, ?_⟩
          cases hr : reads oq.op with
          | false => exact vals_pure hr (vals_congr (huse s q oq hq hne hlt' hlq) e3) e2
          | true =>
            have hnT : ¬ T q := fun hTq => by
              have := (j.t1 q oq hq hTq).2 hlt'
              rw [hlq] at this; simp at this
            have hnA : ¬ A i q := fun h => by have := hA q h; rw [hlq] at this; simp at this
            exact vals_asked e3 (huse s q oq hq hne hlt' hlq) hd' hw' (hasked oq (has q oq hq hlt' hr hnA hnT))
    · simp only [Bool.or_eq_false_iff, beq_eq_false_iff_ne] at h3 h4
      have k1 := hone q oq hq h3.2 h1
      have k2 := hone q' oq' hq' h4.2 h2
      exact j.ids q q' oq oq' t t' hq hq' k1 k2 h3.1 h4.1 h5 h6 (h7.congr fun t ht => (huse s q oq hq h3.2 k1 h3.1 t ht).symm) (h8.congr fun t ht => (huse s q' oq' hq' h4.2 k2 h4.1 t ht).symm) he
  unfold wpOpIn
  rw [hi]
  simp only
  rcases hcase with ⟨hu, hk⟩ | ⟨hw, hop⟩
  · rw [unw_ok hu hsee]
    exact ⟨fun _ _ => trivial, hK _ _ _ _ _ _ _ (fin _ L H M ML w undef (.refl j.st.st.hr ML) j.lr ⟨[], by simp⟩ (.refl L) (fun _ _ => rfl) hk (VR.undef M))⟩
  · rw [wan_ok hw hsee]
    exact cOp_ok (ro := ro) (n := n) (Q := Q) (pos := o.pos) (after := o.after) (guard := o.guard) hE j.st.st.hr j.lr (useFr_fs j.size hsee) (useFr_cOp hc1 hop) fun s L' H' M' ML' w' u hk ha hu =>
      hK _ _ _ _ _ _ _ (fin s L' H' M' ML' w' u ha.1 ha.2.1 ha.2.2.2.2.1 ha.2.2.2.1 ha.2.2.2.2.2 hk hu)

/-- What turns nothing is looked at, as far as one likes. -/
theorem J.adv (g : Good loc ops A T pos S) : ∀ (m p : Nat) (fr : CFr) (L : Loc) (ML : Ml) (idf : Nat → Nat), J C loc ops A T pos S K0 M0 H0 L0 ML0 w0 fr0 a0 lst p fr L H M ML idf a w → p + m ≤ ops.size → (∀ i o, ops[i]? = some o → p ≤ pos i → pos i < p + m → ¬ T i ∧ lst i = false) →
    ∃ fr' L' ML' idf', J C loc ops A T pos S K0 M0 H0 L0 ML0 w0 fr0 a0 lst (p + m) fr' L' H M ML' idf' a w
  | 0, p, fr, L, ML, idf, j, _, _ => ⟨fr, L, ML, idf, j⟩
  | m + 1, p, fr, L, ML, idf, j, hle, hno => by
    obtain ⟨i, o, hi, hp⟩ := g.inv p (by omega)
    obtain ⟨h1, h2⟩ := hno i o hi (by omega) (by omega)
    obtain ⟨fr1, L1, ML1, idf1, j1⟩ := j.adv1 g hi hp h1 h2
    obtain ⟨fr2, L2, ML2, idf2, j2⟩ := J.adv g m (p + 1) fr1 L1 ML1 idf1 j1 (by omega) (fun i o hi h1 h2 => hno i o hi (by omega) (by omega))
    exact ⟨fr2, L2, ML2, idf2, by rw [show p + (m + 1) = p + 1 + m by omega]; exact j2⟩

def JJ (C : CEnv) (loc : List Nat) (ops : Array Oper) (A : Nat → Nat → Prop) (T : Nat → Prop) (pos : Nat → Nat) (S : List Step) (K0 : CFr → Loc → Heap → Prop) (M0 : Mp) (H0 : Heap) (L0 : Loc) (ML0 : Ml) (w0 : World) (fr0 : CFr) (a0 : Act) (lst : Nat → Bool) (a : Act) (w : World) : Prop :=
  ∃ p fr L H M ML idf, J C loc ops A T pos S K0 M0 H0 L0 ML0 w0 fr0 a0 lst p fr L H M ML idf a w

theorem JJ.step (g : Good loc ops A T pos S) (hE : C.E.Ok C.P) (jj : JJ C loc ops A T pos S K0 M0 H0 L0 ML0 w0 fr0 a0 lst a w) {i : Nat} {o : Oper} (hi : ops[i]? = some o) (hl : lst i = false) (he : ∀ e ∈ o.after.toList, Region.binds .any e = true → lst e.on = true)
    (hK : ∀ a' w', JJ C loc ops A T pos S K0 M0 H0 L0 ML0 w0 fr0 a0 (fun q => lst q || q == i) a' w' → Kw a' w') : wpOpIn (Fw ro) n C.P ops Q i Kw a w := by
  obtain ⟨p, fr, L, H, M, ML, idf, j⟩ := jj
  have hA : ∀ q, A i q → lst q = true := fun q hq => by
    obtain ⟨o', e, h1, h2, h3, h4⟩ := g.edge i q hq
    rw [hi] at h1; simp at h1; subst h1
    have := he e h2 h3
    rcases h4 with rfl | h4
    · exact this
    · exact j.cl _ _ this h4
  -- between here and i nothing turns anything, nothing has run
  have hno : ∀ (q : Nat) (oq : Oper), ops[q]? = some oq → p ≤ pos q → pos q < pos i → ¬ T q ∧ lst q = false := fun q oq hq h1 h2 => by
    have hlq : lst q = false := by
      cases h : lst q with
      | false => rfl
      | true => have := j.t2 q oq hq h; omega
    refine ⟨fun hTq => ?_, hlq⟩
    have := hA q (g.tt i q (op_lt hi) (op_lt hq) hTq h2)
    rw [hlq] at this; simp at this
  have hpi := g.lt i o hi
  by_cases hT : T i
  · have hge : p ≤ pos i := by
      rcases Nat.lt_or_ge (pos i) p with h | h
      · have := (j.t1 i o hi hT).2 h
        rw [hl] at this; simp at this
      · exact h
    obtain ⟨fr1, L1, ML1, idf1, j1⟩ := J.adv g (pos i - p) p fr L ML idf j (by omega) (fun q oq hq h1 h2 => hno q oq hq h1 (by omega))
    rw [show p + (pos i - p) = pos i by omega] at j1
    exact j1.exT g hE hi rfl hT hl hA fun fr' L' H' M' ML' a' w' j' => hK a' w' ⟨_, _, _, _, _, _, _, j'⟩
  · by_cases hlt : pos i < p
    · exact j.exP g hE hi hlt hT hl hA fun M' ML' a' w' j' => hK a' w' ⟨_, _, _, _, _, _, _, j'⟩
    · obtain ⟨fr1, L1, ML1, idf1, j1⟩ := J.adv g (pos i + 1 - p) p fr L ML idf j (by omega) (fun q oq hq h1 h2 => by
        by_cases e : pos q = pos i
        · have := g.inj q i (op_lt hq) (op_lt hi) e
          subst this
          exact ⟨hT, hl⟩
        · exact hno q oq hq h1 (by omega))
      rw [show p + (pos i + 1 - p) = pos i + 1 by omega] at j1
      exact j1.exP g hE hi (by omega) hT hl hA fun M' ML' a' w' j' => hK a' w' ⟨_, _, _, _, _, _, _, j'⟩

theorem any_gen {P : Program} {I : (Nat → Bool) → Act → World → Prop} (back : ∀ (i : Nat) (o : Oper) (e : Edge), ops[i]? = some o → e ∈ o.after.toList → Region.binds .any e = true → e.on < i)
    (step : ∀ (lst : Nat → Bool) (a : Act) (w : World) (i : Nat) (o : Oper) (K : Act → World → Prop), I lst a w → ops[i]? = some o → lst i = false → (∀ e ∈ o.after.toList, Region.binds .any e = true → lst e.on = true) → (∀ a' w', I (fun q => lst q || q == i) a' w' → K a' w') → wpOpIn (Fw ro) n P ops Q i K a w)
    (hQ : ∀ lst a w, (∀ q, q < ops.size → lst q = true) → I lst a w → Q .normal a w) :
    ∀ (fuel : Nat) (listed : Array Bool) (a : Act) (w : World), listed.size = ops.size → (List.range ops.size).countP (fun i => !Lof listed i) ≤ fuel → I (Lof listed) a w → wpAnyIn (Fw ro) n P .any ops Q fuel listed a w := by
  have allListed : ∀ (listed : Array Bool), listed.size = ops.size → Region.ready .any ops listed = [] → ∀ q, q < ops.size → Lof listed q = true := by
    intro listed hls hr q
    induction q using Nat.strongRecOn with
    | _ q ih =>
      intro hq
      cases hL : Lof listed q with
      | true => rfl
      | false =>
        exfalso
        have : q ∈ Region.ready .any ops listed := by
          rw [mem_ready]
          refine ⟨?_, ops[q], Array.getElem?_eq_getElem hq, fun e he hb => ?_⟩
          · unfold Lof at hL
            have hql : q < listed.size := by omega
            simp only [Array.getD_eq_getD_getElem?, Array.getElem?_eq_getElem hql, Option.getD_some] at hL ⊢
            exact hL
          · have hlt := back q _ e (Array.getElem?_eq_getElem hq) (by simpa using he) hb
            exact ih e.on hlt (by omega)
        rw [hr] at this; simp at this
  intro fuel
  induction fuel with
  | zero =>
    intro listed a w hls hcnt d
    have hall : ∀ q, q < ops.size → Lof listed q = true := by
      intro q hq
      have h0 : (List.range ops.size).countP (fun i => !Lof listed i) = 0 := by omega
      have := List.countP_eq_zero.1 h0 q (by simpa using hq)
      simpa using this
    refine ⟨?_, hQ _ a w hall d⟩
    apply List.eq_nil_iff_forall_not_mem.2
    intro i hi
    rw [mem_ready] at hi
    obtain ⟨h1, o, h2, _⟩ := hi
    have hin : i < ops.size := (Array.getElem?_eq_some_iff.1 h2).1
    have := hall i hin
    unfold Lof at this
    have hql : i < listed.size := by omega
    simp only [Array.getD_eq_getD_getElem?, Array.getElem?_eq_getElem hql, Option.getD_some] at h1 this
    rw [h1] at this; simp at this
  | succ fuel ih =>
    intro listed a w hls hcnt d
    refine ⟨fun hr => hQ _ a w (allListed listed hls hr) d, fun i hi => ?_⟩
    rw [mem_ready] at hi
    obtain ⟨h1, o, h2, h3⟩ := hi
    have hin : i < ops.size := (Array.getElem?_eq_some_iff.1 h2).1
    have hql : i < listed.size := by omega
    have hL : Lof listed i = false := by
      unfold Lof
      simp only [Array.getD_eq_getD_getElem?, Array.getElem?_eq_getElem hql, Option.getD_some] at h1 ⊢
      exact h1
    refine step _ a w i o _ d h2 hL (fun e he hb => h3 e (by simpa using he) hb) fun a' w' d' => ?_
    have hLe : (fun q => Lof listed q || q == i) = Lof (listed.setIfInBounds i true) := by
      funext q
      unfold Lof
      by_cases e : i = q
      · subst e
        simp [hql]
      · rw [getD_set_ne false e]
        have : (q == i) = false := by simpa using Ne.symm e
        rw [this, Bool.or_false]
    rw [hLe] at d'
    refine ih _ a' w' (by simpa using hls) ?_ d'
    have := countP_lt (l := List.range ops.size) (p := fun i => !Lof listed i) (q := fun q => !Lof (listed.setIfInBounds i true) q) (i := i) ?_ (by simpa using hin) (by simp [hL]) (by rw [← hLe]; simp)
    · omega
    · intro x hx
      rw [← hLe] at hx
      simp at hx ⊢
      exact hx.1

theorem LR.drew (l : LR M H L ML w) : LR M H L ML w.drew :=
  ⟨l.len, fun i e n cs hi hL => l.loc i e n cs hi hL, l.sep1, l.sep2⟩

theorem drawn_ok (hE : C.E.Ok C.P) {id : Nat} (hS : drawOrd loc ops = some S) (ho : cSteps C loc ops S fr L H K0) (h : HR M H w) (l : LR M H L ML w) (f : FS M ML fr a.tmps)
    (hQ : ∀ fr' L' H' M' ML' a' w', K0 fr' L' H' → Behind M H L ML w fr a M' H' L' ML' w' fr' a' → Q .normal a' w') : (Code.region id ops true).wpIn (Fw ro) n C.P Q a w := by
  obtain ⟨A, T, pos, g⟩ := good_of hS
  refine wpIn_region_any hE.ord ?_
  have hL0 : ∀ q, Lof (Array.replicate ops.size false) q = false := by
    intro q
    unfold Lof
    rcases Nat.lt_or_ge q ops.size with hq | hq
    · simp [hq]
    · simp [hq]
  refine any_gen (I := JJ C loc ops A T pos S K0 M H L ML w fr a) g.back (fun lst a' w' i o K jj hi hl he hK => jj.step g hE hi hl he hK) (fun lst a' w' hall jj => ?_) ops.size _ a _ (by simp) ?_ ?_
  · obtain ⟨p, fr', L', H', M', ML', idf, j⟩ := jj
    have hp : p = ops.size := by
      rcases Nat.lt_or_ge p ops.size with h | h
      · obtain ⟨i, o, hi, hpi⟩ := g.inv p h
        have := j.t2 i o hi (hall i (op_lt hi))
        omega
      · have := j.le; omega
    subst hp
    have hrun := j.run
    rw [List.drop_of_length_le (by rw [g.slen]; exact Nat.le_refl _)] at hrun
    exact hQ fr' L' H' M' ML' a' w' hrun ⟨j.st, j.lr, ⟨j.size, fun t s hs => j.slots t s hs fun i o hi _ _ => hall i (op_lt hi)⟩, j.rel, j.suf, j.mlx, .of_eq j.defers⟩
  · have := List.countP_le_length (p := fun i => !Lof (Array.replicate ops.size false) i) (l := List.range ops.size)
    simpa using this
  · refine ⟨0, fr, L, H, M, ML, fun _ => 0, Nat.zero_le _, fun i o hi _ => ?_, fun i o hi hl => ?_, fun i q hi => ?_, ho, (Stp.drew h).toLSt ML, .refl L, .refl fr, ⟨[], by simp⟩, rfl, f.size, fun t s hs _ => f.get t s hs, l.drew, fun i o hi hlt => by omega, fun i i' o o' t t' hi hi' h1 => by omega⟩
    · rw [hL0]; simp
    · rw [hL0] at hl; simp at hl
    · rw [hL0] at hi; simp at hi

theorem reg_ok (hE : C.E.Ok C.P) {id : Nat} {draw : Bool} (ho : cReg C loc ops draw fr L H K0) (h : HR M H w) (l : LR M H L ML w) (f : FS M ML fr a.tmps)
    (hQ : ∀ fr' L' H' M' ML' a' w', K0 fr' L' H' → Behind M H L ML w fr a M' H' L' ML' w' fr' a' → Q .normal a' w') : (Code.region id ops draw).wpIn (Fw ro) n C.P Q a w := by
  unfold cReg at ho
  cases draw with
  | false => simp at ho; exact text_ok hE ho h l f hQ
  | true =>
    simp only [if_true] at ho
    split at ho
    · rename_i S hS; exact drawn_ok hE hS ho h l f hQ
    · exact ho.elim
end
end Go.Proofs.YthgfjbafhjkhnaaGreat.Zq
