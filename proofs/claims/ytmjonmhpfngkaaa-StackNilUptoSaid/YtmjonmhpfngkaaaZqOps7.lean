/- The operations one by one, seventh part: copy, smallest, greatest, equality. -/
import Derived.Test.YtmjonmhpfngkaaaZqOps6
namespace Go.Proofs.Ytmjonmhpfngkaaa.Zq
variable {P : Program} {E : Env} {M : Mp} {H H' : Heap} {w : World}

theorem firstOf_zero {x : Value} {size : Nat} {xs : List Value} (hf : firstOf x 0 size H = some xs) : xs = [] := by
  unfold firstOf at hf
  split at hf
  · simp at hf; exact hf
  · simp only [Nat.zero_mul] at hf
    have := rd_len hf
    exact List.length_eq_zero_iff.1 this
  · simp at hf; exact hf
  · simp at hf; exact hf
  · simp at hf

theorem run_copy0 {ats : Array TypeId} {td ty e : TypeId} {x' : Value} {dl dc n size : Nat} {us : List Value} (hat : ats[0]? = some td) (hu : P.underlying td = some (.slice e)) (hsz : ∀ w, (sizeOf e).run P w = .ok size w)
    (hn : ∀ w, (Builtin.lenOf x').run P w = .ok n w) (hf : (Builtin.firstCells size (min n dl) x').run P w = .ok us.toArray w) :
    (Builtin.copy_ ats ty #[.slice none dl dc, x']).run P w = .ok (.int .i64 ↑(min n dl)) w := by
  have hm : n.min dl = min n dl := rfl
  simp [Builtin.copy_, hat, run_underlying hu, hn, hsz, hm, hf, goInt]
theorem run_copy1 {ats : Array TypeId} {td ty e : TypeId} {x' : Value} {a : Addr} {dl dc n size : Nat} {us : List Value} (hat : ats[0]? = some td) (hu : P.underlying td = some (.slice e)) (hsz : ∀ w, (sizeOf e).run P w = .ok size w)
    (hn : ∀ w, (Builtin.lenOf x').run P w = .ok n w) (hf : (Builtin.firstCells size (min n dl) x').run P w = .ok us.toArray w) :
    (Builtin.copy_ ats ty #[.slice (some a) dl dc, x']).run P w = ((storeCells a us).run P w).andThen fun _ w' => .ok (.int .i64 ↑(min n dl)) w' := by
  have hm : n.min dl = min n dl := rfl
  simp [Builtin.copy_, hat, run_underlying hu, hn, hsz, hm, hf, goInt]

theorem copy_ok (hE : E.Ok P) (h : HR M H w) {ats : Array TypeId} {ty : TypeId} {d d' x x' v : Value} (hd : VR M d d') (hx : VR M x x') (ha : aCopy E ats.toList d x H = some (v, H')) :
    Gives P M H w (Builtin.copy_ ats ty #[d', x']) v H' := by
  unfold aCopy at ha
  split at ha
  rotate_left
  · simp at ha
  rename_i td rest hats
  have hat : ats[0]? = some td := by
    have : ats.toList[0]? = some td := by rw [hats]; rfl
    simpa using this
  obtain ⟨ti, ht, ha2⟩ := some_bind ha
  clear ha
  obtain ⟨i1, d1, z1, T1⟩ := hE.ty _ _ ht
  split at ha2
  · rename_i e base dl dc hke
    obtain ⟨te, hte, ha3⟩ := some_bind ha2
    obtain ⟨n, hn, ha4⟩ := some_bind ha3
    obtain ⟨xs, hf, ha5⟩ := some_bind ha4
    clear ha2 ha3 ha4
    obtain ⟨i3, d3, z3, T3⟩ := hE.ty _ _ hte
    have hk := T1.k
    rw [hke] at hk
    have hund : P.underlying td = some (.slice e) := by
      cases hd : d1 <;> rw [hd] at hk <;> first | exact hk.elim | (have hk : e = _ := hk; subst hk; rw [T1.und, hd])
    obtain ⟨us, hfr, hvl⟩ := firstOf_ok (P := P) h hx hf
    have hle : ∀ w, (Builtin.lenOf x').run P w = .ok n w := fun w => lenX_ok hx hn
    have zero : min n dl = 0 → us = [] := by
      intro h0
      rw [h0] at hf
      have := firstOf_zero hf
      subst this
      exact hvl.of_nil
    split at ha5
    · simp at ha5; obtain ⟨rfl, rfl⟩ := ha5
      have : ∃ c, d' = .slice none dl c ∧ dl = 0 := by cases hd; exact ⟨_, rfl, rfl⟩
      obtain ⟨c, rfl, _⟩ := this
      have := run_copy0 (ty := ty) (dl := dl) (dc := c) hat hund (fun w => T3.run_size w) hle (hfr w rfl)
      exact Gives.pure h this (.int _ _)
    · split at ha5
      · rename_i h0
        simp at ha5; obtain ⟨rfl, rfl⟩ := ha5
        have hdd : ∃ a c, d' = .slice (some a) dl c := by
          cases hd with
          | sliceE => exact ⟨_, _, rfl⟩
        obtain ⟨a, c, rfl⟩ := hdd
        have := run_copy1 (ty := ty) (a := a) (dl := dl) (dc := c) hat hund (fun w => T3.run_size w) hle (hfr w rfl)
        rw [zero h0] at this
        simp only [wrNil, Result.andThen_ok, h0] at this
        exact Gives.pure h this (.int _ _)
      · simp at ha5
    · rename_i b off
      obtain ⟨en, c, he, hc, rfl⟩ := hd.of_slice
      have hr := run_copy1 (ty := ty) (a := ⟨en.blk, en.base + off, none⟩) (dl := dl) (dc := c) hat hund (fun w => T3.run_size w) hle (hfr w rfl)
      split at ha5
      · rename_i h0
        simp at ha5; obtain ⟨rfl, rfl⟩ := ha5
        rw [zero h0] at hr
        simp only [wrNil, Result.andThen_ok, h0] at hr
        exact Gives.pure h hr (.int _ _)
      · obtain ⟨H2, hw, ha6⟩ := some_bind ha5
        simp at ha6; obtain ⟨rfl, rfl⟩ := ha6
        obtain ⟨w', g1, g2⟩ := wr_ok P h hw he hvl
        simp only [g1, Result.andThen_ok] at hr
        exact ⟨_, _, _, hr, g2, .int _ _⟩
  · simp at ha2

theorem clear_ok (hE : E.Ok P) (h : HR M H w) {ats : Array TypeId} {ty : TypeId} {x x' : Value} (hx : VR M x x') (ha : aClear E ats.toList x H = some H') :
    Gives P M H w (Builtin.clear_ ats ty #[x']) undef H' := by
  unfold aClear at ha
  split at ha
  rotate_left
  · simp at ha
  rename_i t rest hats
  have hat : ats[0]? = some t := by
    have : ats.toList[0]? = some t := by rw [hats]; rfl
    simpa using this
  obtain ⟨ti, ht, ha2⟩ := some_bind ha
  clear ha
  obtain ⟨i1, d1, z1, T1⟩ := hE.ty _ _ ht
  have hk := T1.k
  have hund : ∀ e, ti.k = .slice e → P.underlying t = some (.slice e) := fun e hke => by
    rw [hke] at hk
    cases hd : d1 <;> rw [hd] at hk <;> first | exact hk.elim | (have hk : e = _ := hk; subst hk; rw [T1.und, hd])
  split at ha2
  · rename_i hke
    have hu := hund _ hke
    cases ha2
    cases hx
    refine Gives.pure h ?_ (.undef _)
    simp [Builtin.clear_, hat, run_underlying hu, undef]
  · rename_i e b off m cap hke
    have hu := hund _ hke
    obtain ⟨te, hte, ha3⟩ := some_bind ha2
    obtain ⟨i3, d3, z3, T3⟩ := hE.ty _ _ hte
    obtain ⟨en, c, he, hc, rfl⟩ := hx.of_slice
    split at ha3
    · rename_i h0
      cases ha3
      subst h0
      refine Gives.pure h ?_ (.undef _)
      simp [Builtin.clear_, hat, run_underlying hu, undef]
    · rename_i h0
      have hz := zeros_vl (M := M) T3 m
      have hsz : z3.cells.size = te.size := by rw [← T3.len, ← T3.cells]; simp
      have hzc : (Builtin.zeroCells z3.cells m).toList = (madeCells z3.cells (m * te.size)).toList := by rw [← hsz]; rfl
      rw [← hzc] at hz
      obtain ⟨w', g1, g2⟩ := wr_ok P h ha3 he hz
      obtain ⟨q, rfl⟩ : ∃ q, m = q + 1 := ⟨m - 1, by omega⟩
      refine ⟨undef, _, _, ?_, g2, .undef _⟩
      simp [Builtin.clear_, hat, run_underlying hu, T3.run_zero, g1, undef]
  · rename_i hke
    have hu := hund _ hke
    cases ha2
    cases hx
    refine Gives.pure h ?_ (.undef _)
    simp [Builtin.clear_, hat, run_underlying hu, undef]
  · cases ha2

theorem min2_ok {mx : Bool} {a a' b b' v : Value} (ha : VR M a a') (hb : VR M b b') (hv : aMin2 mx a b = some v) :
    VR M v v ∧ ∀ w : World, ((if mx then Builtin.max2 else Builtin.min2) a' b').run P w = .ok v w := by
  unfold aMin2 at hv
  split at hv
  · simp at hv; subst hv
    have := ha.of_int; subst this
    have := hb.of_int; subst this
    refine ⟨.int _ _, fun w => ?_⟩
    cases mx <;> simp [Builtin.min2, Builtin.max2]
  · simp at hv

theorem minL_ok {mx : Bool} : ∀ {l l' : List Value} {a a' v : Value}, VR M a a' → VL M l l' → aMinL mx a l = some v →
    ∃ v', VR M v v' ∧ ∀ w : World, (l'.foldlM (if mx then Builtin.max2 else Builtin.min2) a').run P w = .ok v' w := by
  intro l
  induction l with
  | nil =>
    intro l' a a' v ha hl hv
    have := hl.of_nil; subst this
    simp [aMinL] at hv; subst hv
    exact ⟨a', ha, fun w => by simp⟩
  | cons x r ih =>
    intro l' a a' v ha hl hv
    obtain ⟨u, us, rfl, hu, hr⟩ := hl.of_cons
    unfold aMinL at hv
    obtain ⟨m, hm, hv2⟩ := some_bind hv
    obtain ⟨h1, h2⟩ := min2_ok (P := P) ha hu hm
    obtain ⟨v', g1, g2⟩ := ih h1 hr hv2
    exact ⟨v', g1, fun w => by simp only [List.foldlM_cons, Sem.run_bind, h2, Result.andThen_ok, g2]⟩

theorem min_ok (h : HR M H w) {mx : Bool} {ts : Array TypeId} {ty : TypeId} {l l' : List Value} {a a' v : Value} (ha : VR M a a') (hl : VL M l l') (hv : aMinL mx a l = some v) :
    Gives P M H w ((if mx then Builtin.max_ else Builtin.min_) ts ty (a' :: l').toArray) v H := by
  obtain ⟨v', g1, g2⟩ := minL_ok (P := P) ha hl hv
  refine Gives.pure h ?_ g1
  cases mx
  · have := g2 w
    simpa [Builtin.min_] using this
  · have := g2 w
    simpa [Builtin.max_] using this

end Go.Proofs.Ytmjonmhpfngkaaa.Zq
