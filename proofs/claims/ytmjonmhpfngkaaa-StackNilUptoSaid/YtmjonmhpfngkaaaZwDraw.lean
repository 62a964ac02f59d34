/- Regions whose order is drawn: facts on single operations. -/
import Derived.Test.YtmjonmhpfngkaaaZwReg
namespace Go.Proofs.Ytmjonmhpfngkaaa.Zq
variable {C : CEnv} {M M' : Mp} {H H' : Heap} {w w' : World} {L L' : Loc} {ML ML' : Ml} {fr fr' : CFr} {a a' : Act} {ro : Option Nat} {n : Nat} {Q : Exit → Act → World → Prop} {Kw : Act → World → Prop} {loc : List Nat}
  {dst : Option Nat} {ty : TypeId} {op : Op} {k : Sv → Loc → Heap → Prop}

theorem opS_congr {x : Operand} (h : ∀ t, x = .tmp t → cget fr.l t = cget fr'.l t) : opS fr x = opS fr' x := by
  cases x with
  | tmp t => exact h t rfl
  | _ => rfl
theorem opV_congr {x : Operand} (h : ∀ t, x = .tmp t → cget fr.l t = cget fr'.l t) : opV fr x = opV fr' x := by unfold opV; rw [opS_congr h]
theorem opVs_congr : ∀ {l : List Operand}, (∀ t, Operand.tmp t ∈ l → cget fr.l t = cget fr'.l t) → opVs fr l = opVs fr' l
  | [], _ => rfl
  | x :: r, h => by simp only [opVs]; rw [opV_congr (x := x) (fun t e => h t (by simp [e])), opVs_congr (l := r) (fun t e => h t (by simp [e]))]
theorem opPs_congr : ∀ {l : List (Nat × Operand)}, (∀ t, Operand.tmp t ∈ l.map (·.2) → cget fr.l t = cget fr'.l t) → opPs fr l = opPs fr' l
  | [], _ => rfl
  | (i, x) :: r, h => by simp only [opPs]; rw [opV_congr (x := x) (fun t e => h t (by simp [e])), opPs_congr (l := r) (fun t e => h t (by simp at e ⊢; exact .inr e))]
theorem opVo_congr {x : Option Operand} (h : ∀ t, x = some (.tmp t) → cget fr.l t = cget fr'.l t) : opVo fr x = opVo fr' x := by
  cases x with
  | none => rfl
  | some x => simp only [opVo]; rw [opV_congr (x := x) (fun t e => h t (by rw [e]))]

theorem cCall_congr {c : Call} (h : ∀ t, Operand.tmp t ∈ c.operands.toList → cget fr.l t = cget fr'.l t) : cCall C fr c ty L H k = cCall C fr' c ty L H k := by
  obtain ⟨callee, args, ts⟩ := c
  have ha : ∀ t, Operand.tmp t ∈ args.toList → cget fr.l t = cget fr'.l t := fun t e => h t (by simp [Call.operands]; right; simpa using e)
  have hvs : opVs fr args.toList = opVs fr' args.toList := opVs_congr ha
  have h1 : ∀ x, x ∈ args.toList → opV fr x = opV fr' x := fun x hx => opV_congr fun t e => ha t (by rw [← e]; exact hx)
  have h2 : ∀ x, x ∈ args.toList → opS fr x = opS fr' x := fun x hx => opS_congr fun t e => ha t (by rw [← e]; exact hx)
  cases callee with
  | value f =>
    have hf : opV fr f = opV fr' f := opV_congr fun t e => h t (by simp [Call.operands, e])
    cases f <;> simp only [cCall, hvs, hf]
  | builtin b =>
    cases b with
    | len =>
      simp only [cCall]
      split
      · rename_i x t hx _; rw [h1 x (by rw [hx]; simp)]
      · rfl
    | cap =>
      simp only [cCall]
      split
      · rename_i x t hx _; rw [h1 x (by rw [hx]; simp)]
      · rfl
    | append =>
      simp only [cCall]
      split
      · rename_i s x hx; rw [h1 s (by rw [hx]; simp), h2 x (by rw [hx]; simp)]
      · rfl
    | copy => simp only [cCall, hvs]
    | min => simp only [cCall, hvs]
    | max => simp only [cCall, hvs]
    | _ => rfl
  | invoke r m => rfl

theorem cOp_congr (h : ∀ t, Operand.tmp t ∈ op.operands.toList → cget fr.l t = cget fr'.l t) : cOp C loc dst ty op fr L H k = cOp C loc dst ty op fr' L H k := by
  cases op with
  | makeFunc f first caps =>
    cases f <;> simp only [cOp]
    rw [opVs_congr (l := first.toList) (fun t e => h t (by simp [Op.operands]; left; simpa using e)), opVs_congr (l := caps.toList) (fun t e => h t (by simp [Op.operands]; right; simpa using e))]
  | call c =>
    simp only [cOp]
    exact cCall_congr fun t e => h t (by simpa [Op.operands] using e)
  | build t ps =>
    simp only [cOp]
    rw [opPs_congr (fun t e => h t (by simpa [Op.operands] using e))]
  | buildSlice t n ps =>
    simp only [cOp]
    rw [opPs_congr (fun t e => h t (by simpa [Op.operands] using e))]
  | slice t x lo hi mx =>
    simp only [cOp]
    rw [opV_congr (x := x) (fun t e => h t (by simp [Op.operands, e])), opVo_congr (x := lo) (fun t e => h t (by simp [Op.operands, e])), opVo_congr (x := hi) (fun t e => h t (by simp [Op.operands, e])), opVo_congr (x := mx) (fun t e => h t (by simp [Op.operands, e]))]
  | move x | assign x | load _ x | nilCheck x =>
    simp only [cOp]
    rw [opS_congr (x := x) (fun t e => h t (by simp [Op.operands, e]))]
  | fieldAddr _ x _ =>
    simp only [cOp]
    rw [opS_congr (x := x) (fun t e => h t (by simp [Op.operands, e]))]
  | box _ x | unOp _ _ x | convert _ _ x | field _ x _ | extract x _ =>
    simp only [cOp]
    rw [opV_congr (x := x) (fun t e => h t (by simp [Op.operands, e]))]
  | pick c x y =>
    simp only [cOp]
    rw [opV_congr (x := c) (fun t e => h t (by simp [Op.operands, e])), opS_congr (x := x) (fun t e => h t (by simp [Op.operands, e])), opS_congr (x := y) (fun t e => h t (by simp [Op.operands, e]))]
  | makeMap t r => cases r <;> rfl
  | mapUpdate t m k x =>
    simp only [cOp]
    rw [opV_congr (x := m) (fun t e => h t (by simp [Op.operands, e])), opV_congr (x := k) (fun t e => h t (by simp [Op.operands, e])), opV_congr (x := x) (fun t e => h t (by simp [Op.operands, e]))]
  | store _ x y =>
    simp only [cOp]
    rw [opS_congr (x := x) (fun t e => h t (by simp [Op.operands, e])), opV_congr (x := y) (fun t e => h t (by simp [Op.operands, e]))]
  | indexAddr _ x y =>
    simp only [cOp]
    rw [opS_congr (x := x) (fun t e => h t (by simp [Op.operands, e])), opV_congr (x := y) (fun t e => h t (by simp [Op.operands, e]))]
  | binOp _ _ x y _ | makeSlice _ x y | index _ x y | lookup _ x y _ =>
    simp only [cOp]
    rw [opV_congr (x := x) (fun t e => h t (by simp [Op.operands, e])), opV_congr (x := y) (fun t e => h t (by simp [Op.operands, e]))]
  | _ => rfl

def SameS (s : Sv) (L : Loc) (H : Heap) : Sv → Loc → Heap → Prop := fun s' L' H' => s' = s ∧ L' = L ∧ H' = H
/-- The value that an operation gives, all else as it was. -/
def Vals (C : CEnv) (loc : List Nat) (dst : Option Nat) (ty : TypeId) (op : Op) (fr : CFr) (L : Loc) (H : Heap) (s : Sv) : Prop :=
  cOp C loc dst ty op fr L H (SameS s L H)

theorem len_vals {c : Call} (hc : c.callee = .builtin .len ∨ c.callee = .builtin .min ∨ c.callee = .builtin .max) (ho : cCall C fr c ty L H k) : ∃ s, cCall C fr c ty L H (SameS s L H) ∧ k s L H := by
  obtain ⟨callee, args, ts⟩ := c
  simp only at hc
  rcases hc with rfl | rfl | rfl
  · simp only [cCall] at ho ⊢
    split at ho
    · split at ho
      · exact ⟨_, ⟨rfl, rfl, rfl⟩, ho⟩
      · obtain ⟨y, g1, g2⟩ := ho
        exact ⟨_, ⟨y, g1, rfl, rfl, rfl⟩, g2⟩
      · exact ho.elim
    · exact ho.elim
  all_goals
    simp only [cCall] at ho ⊢
    split at ho
    · rename_i x r hx
      split at ho
      · exact ⟨_, ⟨rfl, rfl, rfl⟩, ho⟩
      · exact ho.elim
    · exact ho.elim

theorem cBin_mono {E : Env} {o : BinOp} {t : TypeId} {x y : Value} {k k' : Value → Prop} (hk : ∀ v, k v → k' v) (h : cBin E o t x y k) : cBin E o t x y k' := by
  unfold cBin at h ⊢
  repeat' split at h
  all_goals first
    | exact ⟨h.1, hk _ h.2⟩
    | exact hk _ h
    | exact h.elim
    | (rename_i hc; rw [if_pos hc]; exact ⟨h.1, hk _ h.2⟩)

theorem cBin_vals {E : Env} {o : BinOp} {t : TypeId} {x y : Value} {k : Value → Prop} (h : cBin E o t x y k) : ∃ v, cBin E o t x y (fun v' => v' = v) ∧ k v := by
  unfold cBin at h ⊢
  repeat' split at h
  all_goals first
    | exact ⟨_, ⟨h.1, rfl⟩, h.2⟩
    | exact ⟨_, rfl, h⟩
    | exact h.elim
    | (rename_i hc; simp only [if_pos hc]; exact ⟨_, ⟨h.1, rfl⟩, h.2⟩)

theorem cOp_vals (ht : turns op = false) (ho : cOp C loc dst ty op fr L H k) : ∃ s, Vals C loc dst ty op fr L H s ∧ k s L H := by
  unfold Vals
  cases op with
  | move x | assign x =>
    simp only [cOp] at ho ⊢
    split at ho
    · exact ⟨_, ⟨rfl, rfl, rfl⟩, ho⟩
    · exact ho.elim
  | pick c x y =>
    simp only [cOp] at ho ⊢
    split at ho
    · rename_i g hg
      cases g with
      | true =>
        simp only [ifB] at ho ⊢
        split at ho
        · exact ⟨_, ⟨rfl, rfl, rfl⟩, ho⟩
        · exact ho.elim
      | false =>
        simp only [ifB] at ho ⊢
        split at ho
        · exact ⟨_, ⟨rfl, rfl, rfl⟩, ho⟩
        · exact ho.elim
    · exact ho.elim
  | build t ps =>
    simp only [cOp] at ho ⊢
    split at ho
    · split at ho
      · exact ⟨_, ⟨rfl, rfl, rfl⟩, ho⟩
      · exact ho.elim
    · exact ho.elim
  | load t x =>
    simp only [cOp] at ho ⊢
    split at ho
    · split at ho
      · rename_i hL ht2
        split at ho
        · rename_i hlen
          split at ho
          · simp only [if_pos hlen]; exact ⟨_, ⟨rfl, rfl, rfl⟩, ho⟩
          · exact ho.elim
        · exact ho.elim
      · exact ho.elim
    · split at ho
      · rename_i ti hti
        split at ho
        · rename_i hc
          obtain ⟨y, g1, g2⟩ := ho
          simp only [if_pos hc]
          exact ⟨_, ⟨y, g1, rfl, rfl, rfl⟩, g2⟩
        · exact ho.elim
      · exact ho.elim
    · exact ho.elim
  | nilCheck x =>
    simp only [cOp] at ho ⊢
    split at ho
    · exact ⟨_, ⟨rfl, rfl, rfl⟩, ho⟩
    · unfold NIL at ho ⊢
      split at ho
      · exact ⟨_, ⟨rfl, rfl, rfl⟩, ho⟩
      · exact ho.elim
    · exact ⟨_, ⟨rfl, rfl, rfl⟩, ho⟩
    · exact ⟨_, ⟨rfl, rfl, rfl⟩, ho⟩
    · exact ho.elim
  | binOp o t x y t2 =>
    simp only [cOp] at ho ⊢
    split at ho
    · obtain ⟨v, h1, h2⟩ := cBin_vals ho
      exact ⟨.v v, cBin_mono (fun u hu => (⟨by rw [hu], rfl, rfl⟩ : SameS _ _ _ _ _ _)) h1, h2⟩
    · exact ho.elim
  | unOp o t x =>
    simp only [cOp] at ho ⊢
    split at ho
    · split at ho
      · exact ⟨_, ⟨rfl, rfl, rfl⟩, ho⟩
      · exact ho.elim
    · exact ho.elim
  | convert s d x =>
    simp only [cOp] at ho ⊢
    split at ho
    · split at ho
      · exact ⟨_, ⟨rfl, rfl, rfl⟩, ho⟩
      · exact ho.elim
    · exact ho.elim
  | makeFunc g first caps =>
    cases g with
    | func g =>
      simp only [cOp] at ho ⊢
      split at ho
      · exact ⟨_, ⟨rfl, rfl, rfl⟩, ho⟩
      · exact ho.elim
    | _ => simp [cOp] at ho
  | slice t x lo hi mx =>
    simp only [cOp] at ho ⊢
    split at ho
    · obtain ⟨y, g1, g2⟩ := ho
      exact ⟨_, ⟨y, g1, rfl, rfl, rfl⟩, g2⟩
    · exact ho.elim
  | fieldAddr t x i =>
    simp only [cOp] at ho ⊢
    split at ho
    · split at ho
      · rename_i hty
        split at ho
        · rename_i hi
          split at ho
          · rename_i te hte
            split at ho
            · exact ho.elim
            · rename_i h0
              simp only [if_neg h0]
              exact ⟨_, ⟨rfl, rfl, rfl⟩, ho⟩
          · exact ho.elim
        · exact ho.elim
      · exact ho.elim
    · split at ho
      · exact ⟨_, ⟨rfl, rfl, rfl⟩, ho⟩
      · exact ho.elim
    · exact ho.elim
  | field t x i =>
    simp only [cOp] at ho ⊢
    split at ho
    · split at ho
      · exact ⟨_, ⟨rfl, rfl, rfl⟩, ho⟩
      · exact ho.elim
    · exact ho.elim
  | indexAddr t x i =>
    simp only [cOp] at ho ⊢
    split at ho
    · split at ho
      · split at ho
        · rename_i te hte
          split at ho
          · rename_i hb
            simp only [if_pos hb]
            exact ⟨_, ⟨rfl, rfl, rfl⟩, ho⟩
          · exact ho.elim
        · exact ho.elim
      · exact ho.elim
    · split at ho
      · split at ho
        · rename_i te hte
          unfold IDX NIL at ho ⊢
          split at ho
          · exact ⟨_, ⟨ho.1, rfl, rfl, rfl⟩, ho.2⟩
          · exact ho.elim
        · exact ho.elim
      · exact ho.elim
    · split at ho
      · split at ho
        · rename_i te hte
          exact ⟨_, ⟨ho.1, rfl, rfl, rfl⟩, ho.2⟩
        · exact ho.elim
      · exact ho.elim
    · exact ho.elim
  | index t x i =>
    simp only [cOp] at ho ⊢
    split at ho
    · obtain ⟨y, g1, g2⟩ := ho
      exact ⟨_, ⟨y, g1, rfl, rfl, rfl⟩, g2⟩
    · exact ho.elim
  | extract x i =>
    simp only [cOp] at ho ⊢
    split at ho
    · split at ho
      · exact ⟨_, ⟨rfl, rfl, rfl⟩, ho⟩
      · exact ho.elim
    · exact ho.elim
  | lookup t x i ok =>
    simp only [cOp] at ho ⊢
    split at ho
    · cases ok with
      | true =>
        simp only [if_true] at ho ⊢
        split at ho
        · obtain ⟨y, b, g1, g2⟩ := ho
          exact ⟨_, ⟨y, b, g1, rfl, rfl, rfl⟩, g2⟩
        · exact ho.elim
      | false =>
        simp only [Bool.false_eq_true, if_false] at ho ⊢
        obtain ⟨y, g1, g2⟩ := ho
        exact ⟨_, ⟨y, g1, rfl, rfl, rfl⟩, g2⟩
    · exact ho.elim
  | call c =>
    simp only [cOp] at ho ⊢
    refine len_vals ?_ ho
    obtain ⟨callee, args, ts⟩ := c
    cases callee with
    | builtin b => cases b <;> first | (simp [turns] at ht; done) | simp
    | _ => simp [turns] at ht
  | _ => simp [turns] at ht

end Go.Proofs.Ytmjonmhpfngkaaa.Zq
