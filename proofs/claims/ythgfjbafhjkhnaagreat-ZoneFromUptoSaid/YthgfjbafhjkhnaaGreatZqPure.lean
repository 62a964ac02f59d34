/- Which operations leave the heap alone; which hang on it; on which slots they hang. -/
import Derived.Test.YthgfjbafhjkhnaaGreatZqReg
namespace Go.Proofs.YthgfjbafhjkhnaaGreat.Zq
variable {P : Program} {E : Env} {call call' : CallT} {fr fr' : AFr} {H H' H2 : Heap} {v : Value}

theorem opv_congr {x : Operand} (h : ∀ t, x = .tmp t → fr.get t = fr'.get t) : opv fr x = opv fr' x := by
  cases x <;> simp [opv]
  exact h _ rfl
theorem opvs_congr : ∀ {l : List Operand}, (∀ t, Operand.tmp t ∈ l → fr.get t = fr'.get t) → opvs fr l = opvs fr' l
  | [], _ => rfl
  | x :: l, h => by
    simp only [opvs]
    rw [opv_congr (fun t e => h t (by simp [e])), opvs_congr (fun t e => h t (by simp [e]))]
theorem aParts_congr : ∀ {l : List (Nat × Operand)}, (∀ t, Operand.tmp t ∈ l.map (·.2) → fr.get t = fr'.get t) → aParts fr l = aParts fr' l
  | [], _ => rfl
  | (i, x) :: l, h => by
    simp only [aParts]
    rw [opv_congr (fun t e => h t (by simp [e])), aParts_congr (fun t e => h t (by simp only [List.map_cons, List.mem_cons]; exact .inr e))]
theorem opvo_congr {x : Option Operand} (h : ∀ t, x = some (.tmp t) → fr.get t = fr'.get t) : opvo fr x = opvo fr' x := by
  cases x with
  | none => rfl
  | some x => simp only [opvo]; rw [opv_congr (fun t e => h t (by rw [e]))]

theorem op_congr {o : Op} (h : ∀ t, Operand.tmp t ∈ o.operands.toList → fr.get t = fr'.get t) : aOp E call fr o H = aOp E call fr' o H := by
  cases o with
  | makeFunc f first caps =>
    cases f <;> simp only [aOp]
    rw [opvs_congr (l := first.toList) (fun t e => h t (by simp [Op.operands]; left; simpa using e)), opvs_congr (l := caps.toList) (fun t e => h t (by simp [Op.operands]; right; simpa using e))]
  | call c =>
    simp only [aOp]
    rw [opvs_congr (l := c.args.toList) (fun t e => h t (by simp [Op.operands, Call.operands]; right; simpa using e))]
    have hv : ∀ f, c.callee = .value f → opv fr f = opv fr' f := fun f hf => opv_congr fun t e => h t (by simp [Op.operands, Call.operands, hf, e])
    obtain ⟨callee, args, ts⟩ := c
    cases callee with
    | value f => simp only [hv f rfl]
    | builtin b => cases b <;> rfl
    | invoke r m => rfl
  | build t ps =>
    simp only [aOp]
    rw [aParts_congr (fun t e => h t (by simpa [Op.operands] using e))]
  | buildSlice t n ps =>
    simp only [aOp]
    rw [aParts_congr (fun t e => h t (by simpa [Op.operands] using e))]
  | slice t x lo hi mx =>
    simp only [aOp]
    rw [opv_congr (x := x) (fun t e => h t (by simp [Op.operands, e])), opvo_congr (x := lo) (fun t e => h t (by simp [Op.operands, e])), opvo_congr (x := hi) (fun t e => h t (by simp [Op.operands, e])), opvo_congr (x := mx) (fun t e => h t (by simp [Op.operands, e]))]
  | move x | assign x | box _ x | load _ x | nilCheck x | unOp _ _ x | convert _ _ x | fieldAddr _ x _ | field _ x _ | extract x _ | range _ x =>
    simp only [aOp]
    rw [opv_congr (x := x) (fun t e => h t (by simp [Op.operands, e]))]
  | pick c x y =>
    simp only [aOp]
    rw [opv_congr (x := c) (fun t e => h t (by simp [Op.operands, e])), opv_congr (x := x) (fun t e => h t (by simp [Op.operands, e])), opv_congr (x := y) (fun t e => h t (by simp [Op.operands, e]))]
  | makeMap t r => cases r <;> rfl
  | next x st =>
    cases st with
    | false => rfl
    | true =>
      simp only [aOp]
      rw [opv_congr (x := x) (fun t e => h t (by simp [Op.operands, e]))]
  | mapUpdate t m k x | insert t m k x =>
    simp only [aOp]
    rw [opv_congr (x := m) (fun t e => h t (by simp [Op.operands, e])), opv_congr (x := k) (fun t e => h t (by simp [Op.operands, e])), opv_congr (x := x) (fun t e => h t (by simp [Op.operands, e]))]
  | store _ x y | binOp _ _ x y _ | makeSlice _ x y | indexAddr _ x y | index _ x y | lookup _ x y _ =>
    simp only [aOp]
    rw [opv_congr (x := x) (fun t e => h t (by simp [Op.operands, e])), opv_congr (x := y) (fun t e => h t (by simp [Op.operands, e]))]
  | _ => rfl

theorem nonX_call {o : Op} (h : isX o = false) : aOp E call fr o H = aOp E call' fr o H := by
  cases o with
  | call c =>
    obtain ⟨callee, args, ts⟩ := c
    cases callee with
    | builtin b => cases b <;> first | rfl | (simp [isX] at h)
    | _ => simp [isX] at h
  | makeFunc f first caps => cases f <;> rfl
  | makeMap t r => cases r <;> rfl
  | _ => first | rfl | (simp [isX] at h)

theorem nonX_heap {o : Op} (h : isX o = false) (ho : aOp E call fr o H = some (v, H')) : H' = H := by
  cases o with
  | call c =>
    obtain ⟨callee, args, ts⟩ := c
    cases callee with
    | builtin b =>
      cases b <;> first | (simp [isX] at h; done) | skip
      all_goals
        simp only [aOp] at ho
        obtain ⟨vs, h1, h2⟩ := some_bind ho
        split at h2
        · obtain ⟨u, h3, h4⟩ := some_bind h2
          simp at h4; exact h4.2.symm
        · simp at h2
    | _ => simp [isX] at h
  | makeFunc f first caps =>
    cases f <;> simp only [aOp] at ho
    · obtain ⟨xs, h1, h2⟩ := some_bind ho
      obtain ⟨ys, h3, h4⟩ := some_bind h2
      simp at h4; exact h4.2.symm
    all_goals simp at ho
  | pick c x y =>
    simp only [aOp] at ho
    obtain ⟨u, h1, h2⟩ := some_bind ho
    unfold ifV at h2
    split at h2
    · obtain ⟨u2, h3, h4⟩ := some_bind h2
      simp at h4; exact h4.2.symm
    · obtain ⟨u2, h3, h4⟩ := some_bind h2
      simp at h4; exact h4.2.symm
    · simp at h2
  | move x | assign x =>
    simp only [aOp] at ho
    obtain ⟨u, h1, h2⟩ := some_bind ho
    simp at h2; exact h2.2.symm
  | nilCheck x =>
    simp only [aOp] at ho
    obtain ⟨u, h1, h2⟩ := some_bind ho
    split at h2
    · simp at h2; exact h2.2.symm
    · simp at h2; exact h2.2.symm
    · simp at h2; exact h2.2.symm
    · simp at h2
  | build t ps | unOp _ _ x | convert _ _ x | fieldAddr _ x _ | field _ x _ | extract x _ | load _ x =>
    simp only [aOp] at ho
    obtain ⟨u, h1, h2⟩ := some_bind ho
    obtain ⟨u2, h3, h4⟩ := some_bind h2
    simp at h4; exact h4.2.symm
  | binOp _ _ x y _ | indexAddr _ x y | index _ x y | lookup _ x y _ =>
    simp only [aOp] at ho
    obtain ⟨u, h1, h2⟩ := some_bind ho
    obtain ⟨u2, h3, h4⟩ := some_bind h2
    obtain ⟨u3, h5, h6⟩ := some_bind h4
    simp at h6; exact h6.2.symm
  | slice t x lo hi mx =>
    simp only [aOp] at ho
    obtain ⟨u, h1, h2⟩ := some_bind ho
    obtain ⟨lo, h3, h4⟩ := some_bind h2
    obtain ⟨hi, h5, h6⟩ := some_bind h4
    obtain ⟨mx, h7, h8⟩ := some_bind h6
    obtain ⟨r, h9, h10⟩ := some_bind h8
    simp at h10; exact h10.2.symm
  | _ => first | (simp [isX] at h; done) | (simp [aOp] at ho)

theorem pure_heap {o : Op} (h : isPure o = true) (ho : aOp E call fr o H = some (v, H')) (H2 : Heap) : aOp E call fr o H2 = some (v, H2) := by
  cases o with
  | call c =>
    obtain ⟨callee, args, ts⟩ := c
    cases callee with
    | builtin b =>
      cases b <;> first | (simp [isPure] at h; done) | skip
      all_goals
        simp only [aOp] at ho ⊢
        obtain ⟨vs, h1, h2⟩ := some_bind ho
        rw [h1]
        simp only [Option.bind_some]
        split at h2
        · obtain ⟨u, h3, h4⟩ := some_bind h2
          simp at h4
          simp [h3, h4.1]
        · simp at h2
    | _ => simp [isPure] at h
  | makeFunc f first caps =>
    cases f <;> simp only [aOp] at ho ⊢
    · obtain ⟨xs, h1, h2⟩ := some_bind ho
      obtain ⟨ys, h3, h4⟩ := some_bind h2
      simp at h4; simp [h1, h3, h4.1]
    all_goals simp at ho
  | pick c x y =>
    simp only [aOp] at ho ⊢
    obtain ⟨u, h1, h2⟩ := some_bind ho
    rw [h1]; simp only [Option.bind_some]
    unfold ifV at h2 ⊢
    split at h2
    · obtain ⟨u2, h3, h4⟩ := some_bind h2
      simp at h4; simp [h3, h4.1]
    · obtain ⟨u2, h3, h4⟩ := some_bind h2
      simp at h4; simp [h3, h4.1]
    · simp at h2
  | move x | assign x =>
    simp only [aOp] at ho ⊢
    obtain ⟨u, h1, h2⟩ := some_bind ho
    simp at h2; simp [h1, h2.1]
  | nilCheck x =>
    simp only [aOp] at ho ⊢
    obtain ⟨u, h1, h2⟩ := some_bind ho
    rw [h1]; simp only [Option.bind_some]
    split at h2
    · simp at h2; simp [h2.1]
    · simp at h2; simp [h2.1]
    · simp at h2; simp [h2.1]
    · simp at h2
  | build t ps | unOp _ _ x | convert _ _ x | fieldAddr _ x _ | field _ x _ | extract x _ =>
    simp only [aOp] at ho ⊢
    obtain ⟨u, h1, h2⟩ := some_bind ho
    obtain ⟨u2, h3, h4⟩ := some_bind h2
    simp at h4; simp [h1, h3, h4.1]
  | binOp _ _ x y _ | indexAddr _ x y | index _ x y =>
    simp only [aOp] at ho ⊢
    obtain ⟨u, h1, h2⟩ := some_bind ho
    obtain ⟨u2, h3, h4⟩ := some_bind h2
    obtain ⟨u3, h5, h6⟩ := some_bind h4
    simp at h6; simp [h1, h3, h5, h6.1]
  | _ => first | (simp [isPure] at h; done) | (simp [aOp] at ho)

theorem same1_eq {a b : Value} (h : same1 a b = true) : a = b := by
  unfold same1 at h
  split at h
  · simp at h; rw [h]
  · simp at h; rw [h.1, h.2]
  · rename_i x y
    obtain ⟨⟨x⟩⟩ := x
    obtain ⟨⟨y⟩⟩ := y
    simp at h; rw [h]
  · simp at h; rw [h]
  · simp at h; rw [h.1.1, h.1.2, h.2]
  · simp at h; rw [h]
  · rfl
  · rfl
  · simp at h
theorem sameL_eq : ∀ {a b : List Value}, sameL a b = true → a = b
  | [], [], _ => rfl
  | [], _ :: _, h => by simp [sameL] at h
  | _ :: _, [], h => by simp [sameL] at h
  | a :: x, b :: y, h => by
    simp [sameL] at h
    rw [same1_eq h.1, sameL_eq h.2]
theorem sameV_eq {a b : Value} (h : sameV a b = true) : a = b := by
  unfold sameV at h
  split at h
  · have := sameL_eq h
    rw [Array.ext' this]
  · exact same1_eq h

end Go.Proofs.YthgfjbafhjkhnaaGreat.Zq
