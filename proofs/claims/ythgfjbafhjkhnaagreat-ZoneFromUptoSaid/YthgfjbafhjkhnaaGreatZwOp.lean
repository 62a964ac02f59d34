/- One operation: what its proposition says, the machine does. -/
import Derived.Test.YthgfjbafhjkhnaaGreatZwRel
namespace Go.Proofs.YthgfjbafhjkhnaaGreat.Zq
variable {C : CEnv} {M M' : Mp} {H H' : Heap} {w w' : World} {L : Loc} {ML : Ml} {fr : CFr} {a : Act} {ro : Option Nat} {n : Nat} {Q : Exit → Act → World → Prop} {Kw : Act → World → Prop} {loc : List Nat}

/-- What became of the locals: none is lost; one that was not written is what it was. -/
def LRel (L L' : Loc) : Prop := L.length ≤ L'.length ∧ ∀ (i n : Nat) (cs : List Value) (m : Nat) (cs' : List Value), L[i]? = some (n, cs) → L'[i]? = some (m, cs') → n ≤ m ∧ (m = n → cs' = cs)
theorem LRel.refl (L : Loc) : LRel L L := ⟨Nat.le_refl _, fun i n cs m cs' h h' => by rw [h] at h'; simp at h'; exact ⟨by omega, fun _ => h'.2.symm⟩⟩
theorem LRel.trans {L L' L'' : Loc} (h : LRel L L') (k : LRel L' L'') : LRel L L'' := by
  refine ⟨Nat.le_trans h.1 k.1, fun i n cs m cs' h1 h2 => ?_⟩
  have hi : i < L'.length := Nat.lt_of_lt_of_le (List.getElem?_eq_some_iff.1 h1).1 h.1
  obtain ⟨a1, a2⟩ := h.2 i n cs (L'[i]).1 (L'[i]).2 h1 (by rw [List.getElem?_eq_getElem hi])
  obtain ⟨b1, b2⟩ := k.2 i (L'[i]).1 (L'[i]).2 m cs' (by rw [List.getElem?_eq_getElem hi]) h2
  exact ⟨by omega, fun e => by rw [b2 (by omega), a2 (by omega)]⟩
theorem LRel.app (L N : Loc) : LRel L (L ++ N) := ⟨by simp, fun i n cs m cs' h h' => by
  have hi := (List.getElem?_eq_some_iff.1 h).1
  rw [List.getElem?_append_left hi, h] at h'; simp at h'; exact ⟨by omega, fun _ => h'.2.symm⟩⟩
theorem LRel.set {i n : Nat} {cs cs' : List Value} (h : L[i]? = some (n, cs)) : LRel L (L.set i (n + 1, cs')) := ⟨by simp, fun j p ds q ds' h1 h2 => by
  by_cases e : j = i
  · subst e
    have hi := (List.getElem?_eq_some_iff.1 h1).1
    rw [List.getElem?_set_self hi] at h2
    rw [h] at h1; simp at h1 h2
    exact ⟨by omega, fun e => by omega⟩
  · rw [List.getElem?_set_ne (Ne.symm e), h1] at h2; simp at h2; exact ⟨by omega, fun _ => h2.2.symm⟩⟩

/-- What stands behind an operation. -/
def Aft (M : Mp) (H : Heap) (L : Loc) (ML : Ml) (w : World) (fr : CFr) (a : Act) (M' : Mp) (H' : Heap) (L' : Loc) (ML' : Ml) (w' : World) : Prop :=
  LSt M H ML w M' H' ML' w' ∧ LR M' H' L' ML' w' ∧ FS M' ML' fr a.tmps ∧ LRel L L' ∧ (∃ N, ML' = ML ++ N) ∧ ∀ j : Nat, ML[j]? = some none → L'[j]? = L[j]?

theorem wp_of_run {P : Program} {o : Oper} {s : Sem Value} {u : Value} (hd : ∀ c, o.op ≠ .defer c) (hs : execOp a.eval o = (do pure (.value (← s)))) (hr : s.run P w = .ok u w') (hK : Kw (a.put o.dst u) w') : o.wpIn (Fw ro) n P a w Kw Q := by
  refine ⟨fun _ _ => trivial, ?_⟩
  rw [Oper.semAt_eq _ _ _ hd, hs]
  simp only [Sem.run_bind, hr, Result.andThen_ok, Sem.run_pure]
  exact hK

theorem flat_ok {x : Operand} {s : Sv} (f : FS M ML fr a.tmps) (hx : opS fr x = some s) : SvR M ML s (a.eval x) := by
  cases x with
  | tmp t => exact f.get t s hx
  | const u =>
    simp only [opS] at hx
    split at hx
    · rename_i hf; simp at hx; subst hx; exact VR.flat hf
    · simp at hx
  | global g => simp [opS] at hx
  | func g =>
    simp [opS] at hx; subst hx
    exact .func rfl rfl (fun i x u h _ => by simp at h) (fun i x u h _ => by simp at h)

theorem opV_some {x : Operand} {v : Value} (h : opV fr x = some v) : opS fr x = some (.v v) := by
  unfold opV at h
  split at h
  · rename_i u hu; simp at h; subst h; exact hu
  · simp at h
theorem cV_ok {x : Operand} {v : Value} (f : FS M ML fr a.tmps) (hx : opV fr x = some v) : VR M v (a.eval x) := flat_ok f (opV_some hx)
theorem cVs_ok (f : FS M ML fr a.tmps) : ∀ {l : List Operand} {vs : List Value}, opVs fr l = some vs → VL M vs (l.map a.eval)
  | [], vs, hv => by simp [opVs] at hv; subst hv; exact .nil M
  | x :: l, vs, hv => by
    simp only [opVs] at hv
    split at hv
    · rename_i v us h1 h2
      simp at hv; subst hv
      exact .cons (cV_ok f h1) (cVs_ok f h2)
    · simp at hv
theorem cPs_ok (f : FS M ML fr a.tmps) : ∀ {l : List (Nat × Operand)} {ps : List (Nat × Value)}, opPs fr l = some ps → PL M ps (l.map fun (i, x) => (i, a.eval x))
  | [], ps, hv => by simp [opPs] at hv; subst hv; exact .nil
  | (i, x) :: l, ps, hv => by
    simp only [opPs] at hv
    split at hv
    · rename_i v us h1 h2
      simp at hv; subst hv
      exact .cons ⟨rfl, cV_ok f h1⟩ (cPs_ok f h2)
    · simp at hv
theorem cVo_ok (f : FS M ML fr a.tmps) {x : Option Operand} {v : Option Value} (hv : opVo fr x = some v) : OV M v (x.map a.eval) := by
  cases x with
  | none => simp [opVo] at hv; subst hv; exact .none
  | some x =>
    simp only [opVo] at hv
    split at hv
    · rename_i u h1
      simp at hv; subst hv
      exact .some (cV_ok f h1)
    · simp at hv

/-! ### Equality and binary operations -/
theorem cEq_ok (E : Env) : ∀ d, (∀ t x y b, cEqV E d t x y = some b → eqV E d t x y = some b) ∧ (∀ fs xs ys b, cEqF E d fs xs ys = some b → eqFields E d fs xs ys = some b) ∧
    (∀ e size n i xs ys b, cEqE E d e size n i xs ys = some b → eqElems E d e size n i xs ys = some b)
  | 0 => ⟨fun t x y b h => by simp [cEqV] at h, fun fs xs ys b h => by simp [cEqF] at h, fun e size n i xs ys b h => by simp [cEqE] at h⟩
  | d + 1 => by
    obtain ⟨ih1, ih2, ih3⟩ := cEq_ok E d
    refine ⟨fun t x y b h => ?_, fun fs xs ys b h => ?_, fun e size n i xs ys b h => ?_⟩
    · unfold cEqV at h; unfold eqV
      split at h
      · simp at h
      · rename_i ti ht
        rw [ht]
        simp only [Option.bind_some]
        split at h
        · rename_i fs xs ys hk; simp only [hk]; exact ih2 _ _ _ _ h
        · rename_i n e xs ys hk
          simp only [hk]
          split at h
          · rename_i te hte; rw [hte]; exact ih3 _ _ _ _ _ _ _ h
          · simp at h
        · rename_i h1 h2
          split
          · rename_i fs xs ys hk; exact absurd hk (h1 _ _ _ · rfl rfl)
          · rename_i n e xs ys hk; exact absurd hk (h2 _ _ _ _ · rfl rfl)
          · exact h
    · cases fs with
      | nil => simp [cEqF] at h; subst h; simp [eqFields]
      | cons f r =>
        obtain ⟨o, t⟩ := f
        simp only [cEqF] at h
        simp only [eqFields]
        split at h
        · rename_i x y hx hy
          rw [hx, hy]
          simp only [Option.bind_some]
          split at h
          · rename_i b1 c1 h1 h2
            simp at h; subst h
            rw [ih1 _ _ _ _ h1]
            simp only [Option.bind_some]
            cases b1 with
            | true => simpa using ih2 _ _ _ _ h2
            | false => simp
          · simp at h
        · simp at h
    · simp only [cEqE] at h
      simp only [eqElems]
      split at h
      · simp at h; subst h; rfl
      · rename_i m
        split at h
        · rename_i x y hx hy
          rw [hx, hy]
          simp only [Option.bind_some]
          split at h
          · rename_i b1 c1 h1 h2
            simp at h; subst h
            rw [ih1 _ _ _ _ h1]
            simp only [Option.bind_some]
            cases b1 with
            | true => simpa using ih3 _ _ _ _ _ _ _ h2
            | false => simp
          · simp at h
        · simp at h

theorem aBin_eql {E : Env} {t : TypeId} {x y : Value} (q1 : ∀ (ka : IntKind) (a : Int) (kb : IntKind) (b : Int), x = .int ka a → y = .int kb b → False) (q2 : ∀ (a b : ByteArray), x = .string a → y = .string b → False) :
    aBin E .eql t x y = (eqV E 100 t x y).bind fun b => some (.bool b) := by
  unfold aBin
  split
  · exact absurd rfl (q1 _ _ _ _ rfl)
  · exact absurd rfl (q2 _ _ rfl)
  · rfl
theorem aBin_neq {E : Env} {t : TypeId} {x y : Value} (q1 : ∀ (ka : IntKind) (a : Int) (kb : IntKind) (b : Int), x = .int ka a → y = .int kb b → False) (q2 : ∀ (a b : ByteArray), x = .string a → y = .string b → False) :
    aBin E .neq t x y = (eqV E 100 t x y).bind fun b => some (.bool !b) := by
  unfold aBin
  split
  · exact absurd rfl (q1 _ _ _ _ rfl)
  · exact absurd rfl (q2 _ _ rfl)
  · rfl
theorem cBin_ok {E : Env} {op : BinOp} {t : TypeId} {x y : Value} {k : Value → Prop} (h : cBin E op t x y k) : ∃ v, aBin E op t x y = some v ∧ k v := by
  unfold cBin at h
  split at h
  · rename_i ka a' kb b'
    split at h
    · obtain ⟨h1, h2⟩ := h; exact ⟨_, by simp [aBin, h1], h2⟩
    · obtain ⟨h1, h2⟩ := h; exact ⟨_, by simp [aBin, h1], h2⟩
    · split at h
      · rename_i hk; obtain ⟨h1, h2⟩ := h; exact ⟨_, by simp [aBin, hk, h1], h2⟩
      · exact h.elim
    · split at h
      · rename_i hk; obtain ⟨h1, h2⟩ := h; exact ⟨_, by simp [aBin, hk, h1], h2⟩
      · exact h.elim
    · split at h
      · rename_i v hv; exact ⟨v, hv, h⟩
      · exact h.elim
  · split at h
    · obtain ⟨h1, h2⟩ := h; exact ⟨_, by simp [aBin, h1], h2⟩
    · split at h
      · rename_i v hv; exact ⟨v, hv, h⟩
      · exact h.elim
  · rename_i p
    split at h
    · rename_i ht
      split at h
      · refine ⟨_, ?_, h⟩; simp only [aBin, eqV, ht, Option.bind_some]; cases p <;> rfl
      · refine ⟨_, ?_, h⟩; simp only [aBin, eqV, ht, Option.bind_some]; cases p <;> rfl
      · exact h.elim
    · exact h.elim
  · rename_i p n1 n2
    split at h
    · rename_i ht
      split at h
      · refine ⟨_, ?_, h⟩; simp only [aBin, eqV, ht, Option.bind_some]; cases p <;> rfl
      · refine ⟨_, ?_, h⟩; simp only [aBin, eqV, ht, Option.bind_some]; cases p <;> rfl
      · exact h.elim
    · exact h.elim
  · rename_i q1 q2 q3 q4
    cases op with
    | eql =>
      simp only at h
      split at h
      · rename_i b hb; exact ⟨_, by rw [aBin_eql q1 q2, (cEq_ok E 100).1 _ _ _ _ hb]; rfl, h⟩
      · exact h.elim
    | neq =>
      simp only at h
      split at h
      · rename_i b hb; exact ⟨_, by rw [aBin_neq q1 q2, (cEq_ok E 100).1 _ _ _ _ hb]; rfl, h⟩
      · exact h.elim
    | _ => exact h.elim

end Go.Proofs.YthgfjbafhjkhnaaGreat.Zq
