/- Lists of operations in the text's order. -/
import Derived.Test.YthgfjbafhjkhnaaGreatZqRun
namespace Go.Proofs.YthgfjbafhjkhnaaGreat.Zq
variable {P : Program} {E : Env} {M : Mp} {H H' : Heap} {w : World} {call : CallT} {ro : Option Nat} {n : Nat} {fr fr' : AFr} {a : Act} {Q : Exit → Act → World → Prop}

theorem wanted_ok {ops : Array Oper} {o : Oper} {b : Bool} (hf : FR M fr a.tmps) (h : aWanted ops fr o = some b) : Region.wanted o (yielded ops a.tmps) = b := by
  unfold aWanted at h
  unfold Region.wanted
  split at h
  · rename_i hg; simp at h; subst h; rw [hg]
  · rename_i j want hg
    rw [hg]
    simp only
    unfold yielded
    split at h
    · rename_i hd; simp at h; subst h; rw [hd]; rfl
    · rename_i d hd
      rw [hd]
      obtain ⟨v, hv, h2⟩ := some_bind h
      have hr := hf.get d v hv
      simp only [Option.bind_some]
      split at h2
      · rename_i c
        simp at h2; subst h2
        have := hr.of_bool
        simp only [Array.getD_eq_getD_getElem?] at this
        cases hq : a.tmps[d]? with
        | none => rw [hq] at this; simp [undef] at this
        | some u => rw [hq] at this; simp at this; subst this; simp
      · rename_i hnb
        simp at h2; subst h2
        simp only [Array.getD_eq_getD_getElem?] at hr
        cases hq : a.tmps[d]? with
        | none => simp
        | some u =>
          rw [hq] at hr
          simp only [Option.getD_some] at hr
          cases u with
          | bool c => exfalso; cases hr; exact hnb _ rfl
          | _ => simp

theorem FR.put' {tmps : Act} (h : FR M fr tmps.tmps) {d : Option Nat} (hd : putOk fr d = true) {v v' : Value} (hv : VR M v v') : FR M (fr.put? d v) (tmps.put d v').tmps := by
  cases d with
  | none => exact h
  | some d => exact h.put (by simpa [putOk] using hd) hv

theorem put_defers (a : Act) (d : Option Nat) (v : Value) : (a.put d v).defers = a.defers := by cases d <;> rfl

/-- One operation: wanted or not. -/
theorem oper_ok (hE : E.Ok P) (hC : CallOk P call) (h : HR M H w) {ops : Array Oper} {o : Oper} {i : Nat} (hi : ops[i]? = some o) (hf : FR M fr a.tmps) (ho : aOper E call ops o fr H = some (fr', H')) {K : Act → World → Prop}
    (hK : ∀ M' a' w', Stp M H w M' H' w' → FR M' fr' a'.tmps → a'.defers = a.defers → K a' w') : wpOpIn (Fw ro) n P ops Q i K a w := by
  unfold aOper at ho
  split at ho
  · rename_i hp
    obtain ⟨b, hb, h2⟩ := some_bind ho
    have hw := wanted_ok hf hb
    unfold wpOpIn
    rw [hi]
    simp only
    rw [hw]
    cases b with
    | true =>
      simp only [if_true] at h2 ⊢
      obtain ⟨r, hr, h3⟩ := some_bind h2
      simp at h3; obtain ⟨rfl, rfl⟩ := h3
      obtain ⟨v, H1⟩ := r
      exact op_ok hE hC h hf hr fun v' M' w' hs hv => hK M' _ w' hs ((hf.mono hs.ext).put' hp hv) (put_defers _ _ _)
    | false =>
      simp at h2; obtain ⟨rfl, rfl⟩ := h2
      simp only [Bool.false_eq_true, if_false]
      exact ⟨fun _ _ => trivial, hK M _ w (.refl h) (hf.put' hp (.undef M)) (put_defers _ _ _)⟩
  · simp at ho

theorem ops_ok (hE : E.Ok P) (hC : CallOk P call) {ops : Array Oper} : ∀ (os : List Oper) (k : Nat) (fr : AFr) (H : Heap) (M : Mp) (a : Act) (w : World), ops.toList.drop k = os → aOps E call ops os fr H = some (fr', H') → HR M H w → FR M fr a.tmps →
    (∀ M' a' w', Stp M H w M' H' w' → FR M' fr' a'.tmps → a'.defers = a.defers → Q .normal a' w') → wpOpsIn (Fw ro) n P ops Q (List.range' k os.length) a w
  | [], k, fr, H, M, a, w, _, ho, h, hf, hQ => by
    simp [aOps] at ho; obtain ⟨rfl, rfl⟩ := ho
    exact hQ M a w (.refl h) hf rfl
  | o :: os, k, fr, H, M, a, w, hd, ho, h, hf, hQ => by
    simp only [aOps] at ho
    obtain ⟨r, h1, h2⟩ := some_bind ho
    obtain ⟨fr1, H1⟩ := r
    have hi : ops[k]? = some o := by
      have := congrArg (·[0]?) hd
      simpa using this
    have hd' : ops.toList.drop (k + 1) = os := by
      rw [← List.drop_drop, hd]; rfl
    simp only [List.length_cons, List.range'_succ]
    rw [wpOpsIn_cons]
    refine oper_ok hE hC h hi hf h1 fun M1 a1 w1 hs1 hf1 hdef1 => ?_
    exact ops_ok hE hC os (k + 1) fr1 H1 M1 a1 w1 hd' h2 hs1.hr hf1 fun M' a' w' hs' hf' hdef' => hQ M' a' w' (hs1.trans hs') hf' (hdef'.trans hdef1)

theorem region_ok (hE : E.Ok P) (hC : CallOk P call) {ops : Array Oper} {id : Nat} (ho : aOps E call ops ops.toList fr H = some (fr', H')) (h : HR M H w) (hf : FR M fr a.tmps)
    (hQ : ∀ M' a' w', Stp M H w M' H' w' → FR M' fr' a'.tmps → a'.defers = a.defers → Q .normal a' w') : (Code.region id ops false).wpIn (Fw ro) n P Q a w := by
  refine wpIn_region ?_
  have := ops_ok (ro := ro) (n := n) (Q := Q) hE hC ops.toList 0 fr H M a w (by simp) ho h hf hQ
  rw [List.range_eq_range']
  simpa using this

end Go.Proofs.YthgfjbafhjkhnaaGreat.Zq
