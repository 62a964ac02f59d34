/- The operations one by one, third part: slices, lengths, appends, copies. -/
import Derived.Test.YtmjonmhpfngkaaaZqOps2
namespace Go.Proofs.Ytmjonmhpfngkaaa.Zq
variable {P : Program} {E : Env} {M : Mp} {H H' : Heap} {w : World}

inductive OV (M : Mp) : Option Value → Option Value → Prop
  | none : OV M none none
  | some {v u} (h : VR M v u) : OV M (some v) (some u)

theorem natOf_eq {o o' : Option Value} {d l : Nat} (h : OV M o o') (hn : natOf o d = some l) : o' = o := by
  cases h with
  | none => rfl
  | some h =>
    rename_i v u
    unfold natOf at hn
    cases v <;> simp at hn
    rw [h.of_int]

theorem run_bound {o : Option Value} {d l y : Nat} {v : Value} {code : BoundsCode} (ho : o = some v) (hn : natOf o d = some l) (hy : l ≤ y) : (Instr.sliceBound v y code).run P w = .ok l w := by
  subst ho
  cases v <;> simp [natOf] at hn
  rename_i k n
  obtain ⟨h0, rfl⟩ := hn
  have : n ≤ (y : Int) := by omega
  simp [Instr.sliceBound, asIntOf, h0, this]

theorem run_bounds {isS : Bool} {len cap c m h l : Nat} {lo hi mx : Option Value} (hmx : (mx.isSome && hi.isNone) = false) (hm : natOf mx cap = some m) (hh : natOf hi len = some h) (hl : natOf lo 0 = some l)
    (h1 : mx.isSome = true → m ≤ c) (h2 : h ≤ (if mx.isSome then m else c)) (h3 : l ≤ h) :
    (Instr.sliceBounds isS len c lo hi mx).run P w = .ok (l, h, if mx.isSome then m else c) w := by
  cases mx with
  | none =>
    simp only [Option.isSome_none, Bool.false_eq_true, if_false] at h2 ⊢
    cases hi with
    | none =>
      simp [natOf] at hh; subst hh
      cases lo with
      | none => simp [natOf] at hl; subst hl; simp [Instr.sliceBounds]
      | some lv => simp [Instr.sliceBounds, run_bound rfl hl h3]
    | some hv =>
      cases lo with
      | none => simp [natOf] at hl; subst hl; simp [Instr.sliceBounds, run_bound rfl hh h2]
      | some lv => simp [Instr.sliceBounds, run_bound rfl hh h2, run_bound rfl hl h3]
  | some mv =>
    simp only [Option.isSome_some, if_true] at h2 ⊢
    have h1 := h1 rfl
    cases hi with
    | none => simp at hmx
    | some hv =>
      cases lo with
      | none => simp [natOf] at hl; subst hl; simp [Instr.sliceBounds, run_bound rfl hm h1, run_bound rfl hh h2]
      | some lv => simp [Instr.sliceBounds, run_bound rfl hm h1, run_bound rfl hh h2, run_bound rfl hl h3]

theorem exact_ok (h : HR M H w) {b off cap c : Nat} {e : Ent} (hx : exact H b off cap = true) (he : M[b]? = some (some e)) (hc : CapOk e off cap c) : c = cap := by
  unfold exact at hx
  split at hx
  · rename_i cells sz opn ro live hk
    obtain ⟨q1, q2, q3, _⟩ := h.blk _ _ _ he hk
    rcases hc with hc | ⟨a1, a2, _⟩
    · exact hc
    · rw [q1] at a1; subst a1
      simp at hx
      rw [q2, q3] at a2
      omega
  · simp at hx

theorem hasSz_ok (h : HR M H w) {b size : Nat} {e : Ent} (hx : hasSz H b size = true) (he : M[b]? = some (some e)) : e.sz = size := by
  unfold hasSz at hx
  split at hx
  · rename_i cells sz opn ro live hk
    obtain ⟨q1, q2, q3, _⟩ := h.blk _ _ _ he hk
    simp at hx; omega
  · simp at hx

theorem sliceAt_ok (hE : E.Ok P) (h : HR M H w) {t : TypeId} {x x' v : Value} {lo lo' hi hi' mx mx' : Option Value} (hx : VR M x x') (hlo : OV M lo lo') (hhi : OV M hi hi') (hmx : OV M mx mx')
    (hl : aSlice E t x lo hi mx H = some v) : Gives P M H w (Instr.sliceAt t x' lo' hi' mx') v H := by
  unfold aSlice at hl
  split at hl
  · simp at hl
  rename_i hg
  have hg : (mx.isSome && hi.isNone) = false := Bool.eq_false_iff.2 hg
  obtain ⟨ti, ht, hl2⟩ := some_bind hl
  clear hl
  obtain ⟨ii, d, z, T⟩ := hE.ty t ti ht
  have hk := T.k
  split at hl2
  · rename_i n e b off hkd
    rw [hkd] at hk
    obtain ⟨te, hte, hl3⟩ := some_bind hl2
    obtain ⟨m, hm, hl4⟩ := some_bind hl3
    obtain ⟨hh, hhh, hl5⟩ := some_bind hl4
    obtain ⟨l, hll, hl6⟩ := some_bind hl5
    obtain ⟨i2, d2, z2, T2⟩ := hE.ty _ _ hte
    cases natOf_eq hmx hm; cases natOf_eq hhi hhh; cases natOf_eq hlo hll
    split at hl6
    · rename_i hb
      obtain ⟨b1, b2, b3⟩ := hb
      simp at hl6; subst hl6
      obtain ⟨en, he, rfl⟩ := hx.of_ptr
      cases d with
      | array n' e' =>
        obtain ⟨rfl, rfl, _⟩ := hk
        have hmm : (if mx.isSome = true then m else n) = m := by
          cases mx with
          | none => simp [natOf] at hm; simp [hm]
          | some _ => rfl
        have hb := run_bounds (P := P) (w := w) (isS := false) (c := n) hg hm hhh hll (fun _ => b1) (by rw [hmm]; exact b2) b3
        rw [hmm] at hb
        refine Gives.pure h ?_ (.slice he (.inl rfl))
        simp only [Instr.sliceAt, Sem.run_bind, T.run_und, Result.andThen_ok, Instr.sureAddr, Sem.run_pure, hb, T2.run_size, add_none]
        congr 3
        split <;> simp [Nat.add_assoc]
      | _ => exact hk.elim
    · simp at hl6
  · rename_i e b off len cap hkd
    rw [hkd] at hk
    obtain ⟨te, hte, hl3⟩ := some_bind hl2
    obtain ⟨m, hm, hl4⟩ := some_bind hl3
    obtain ⟨hh, hhh, hl5⟩ := some_bind hl4
    obtain ⟨l, hll, hl6⟩ := some_bind hl5
    obtain ⟨i2, d2, z2, T2⟩ := hE.ty _ _ hte
    cases natOf_eq hmx hm; cases natOf_eq hhi hhh; cases natOf_eq hlo hll
    split at hl6
    · rename_i hb
      obtain ⟨b1, b2, b3⟩ := hb
      obtain ⟨en, c, he, hcap, rfl⟩ := hx.of_slice
      have hcc : cap ≤ c := by rcases hcap with hq | ⟨_, _, hq, _⟩ <;> omega
      cases d with
      | slice e' =>
        have hk : e = e' := hk
        subst hk
        have hm2 : m ≤ (if mx.isSome = true then m else c) := by
          cases mx with
          | none => simp [natOf] at hm; simp; omega
          | some _ => simp
        have hb := run_bounds (P := P) (w := w) (isS := true) (c := c) hg hm hhh hll (fun _ => by omega) (by omega) b3
        split at hl6
        · rename_i hex
          simp at hl6; subst hl6
          have hmm : (if mx.isSome = true then m else c) = m := by
            cases mx with
            | none =>
              simp [natOf] at hm
              rcases hex with hex | hex
              · simp at hex
              · simp [exact_ok h hex he hcap, hm]
            | some _ => rfl
          rw [hmm] at hb
          refine Gives.pure h ?_ (.slice he (.inl rfl))
          simp only [Instr.sliceAt, Instr.slice, Sem.run_bind, T.run_und, Result.andThen_ok, Sem.run_pure, hb, T2.run_size]
          congr 3
          split <;> simp [add_none, Nat.add_assoc]
        · rename_i hnex
          have hmn : mx = none := by
            cases mx with
            | none => rfl
            | some _ => simp at hnex
          subst hmn
          simp [natOf] at hm; subst hm
          simp only [Option.isSome_none, Bool.false_eq_true, if_false] at hb
          split at hl6
          · rename_i hsz
            have hsz := hasSz_ok h hsz he
            split at hl6
            · rename_i hlt
              simp at hl6; subst hl6
              have hne : ¬ c = l := by omega
              refine Gives.pure h ?_ (.slice (len := hh - l) (c := c - l) he ?_)
              · simp only [Instr.sliceAt, Instr.slice, Sem.run_bind, T.run_und, Result.andThen_ok, Sem.run_pure, hb, T2.run_size, if_neg hne, Option.map_some, add_none, Nat.add_assoc]
              · rcases hcap with hq | ⟨q1, q2, q3, q4⟩
                · exact .inl (by omega)
                · refine .inr ⟨q1, ?_, by omega, ?_⟩
                  · have : l * te.size + (cap - l) * en.sz = cap * en.sz := by
                      rw [hsz, ← Nat.add_mul]; congr 1; omega
                    omega
                  · have : l * te.size + (c - l) * en.sz = c * en.sz := by
                      rw [hsz, ← Nat.add_mul]; congr 1; omega
                    omega
            · rename_i hnlt
              simp at hl6; subst hl6
              have e0 : hh - l = 0 := by omega
              refine Gives.pure (v' := .slice (some (if c = l then ⟨en.blk, en.base + off, none⟩ else ⟨en.blk, en.base + off + l * te.size, none⟩)) (hh - l) (c - l)) h ?_ ?_
              · simp only [Instr.sliceAt, Instr.slice, Sem.run_bind, T.run_und, Result.andThen_ok, Sem.run_pure, hb, T2.run_size, Option.map_some, add_none]
                split <;> rfl
              · rw [e0]; split <;> exact .sliceE
          · simp at hl6
      | _ => exact hk.elim
    · simp at hl6
  · rename_i e hkd
    rw [hkd] at hk
    obtain ⟨te, hte, hl3⟩ := some_bind hl2
    obtain ⟨m, hm, hl4⟩ := some_bind hl3
    obtain ⟨hh, hhh, hl5⟩ := some_bind hl4
    obtain ⟨l, hll, hl6⟩ := some_bind hl5
    obtain ⟨i2, d2, z2, T2⟩ := hE.ty _ _ hte
    cases natOf_eq hmx hm; cases natOf_eq hhi hhh; cases natOf_eq hlo hll
    split at hl6
    · rename_i hb
      obtain ⟨b1, b2, b3⟩ := hb
      simp at hl6; subst hl6
      have := hx.of_slice0; subst this
      cases d with
      | slice e' =>
        have hk : e = e' := hk
        subst hk
        have hmm : (if mx.isSome = true then m else 0) = 0 := by split <;> omega
        have hb := run_bounds (P := P) (w := w) (isS := true) (c := 0) hg hm hhh hll (fun _ => b1) (by rw [hmm]; omega) b3
        rw [hmm] at hb
        refine Gives.pure h ?_ .slice0
        have e1 : hh - l = 0 := by omega
        simp only [Instr.sliceAt, Instr.slice, Sem.run_bind, T.run_und, Result.andThen_ok, Sem.run_pure, hb, T2.run_size, e1, Nat.zero_sub, Option.map_none, ite_self]
      | _ => exact hk.elim
    · simp at hl6
  · rename_i e b off hkd
    rw [hkd] at hk
    obtain ⟨te, hte, hl3⟩ := some_bind hl2
    obtain ⟨i2, d2, z2, T2⟩ := hE.ty _ _ hte
    split at hl3
    · simp at hl3
    · rename_i hmn
      have hmn : mx = none := by cases mx <;> simp_all
      subst hmn
      cases hmx
      obtain ⟨hh, hhh, hl5⟩ := some_bind hl3
      obtain ⟨l, hll, hl6⟩ := some_bind hl5
      cases natOf_eq hhi hhh; cases natOf_eq hlo hll
      split at hl6
      · rename_i hb
        obtain ⟨b2, b3⟩ := hb
        simp at hl6; subst hl6
        obtain ⟨a', c, rfl⟩ := hx.of_sliceE
        cases d with
        | slice e' =>
          have hk : e = e' := hk
          subst hk
          have hb := run_bounds (P := P) (w := w) (isS := true) (cap := c) (m := c) (c := c) (mx := none) rfl rfl hhh hll (by simp) (by simp; omega) b3
          simp only [Option.isSome_none, Bool.false_eq_true, if_false] at hb
          have e1 : hh - l = 0 := by omega
          have e2 : l = 0 := by omega
          refine Gives.pure (v' := .slice (some a') 0 (c - l)) h ?_ .sliceE
          subst e2
          simp only [Instr.sliceAt, Instr.slice, Sem.run_bind, T.run_und, Result.andThen_ok, Sem.run_pure, hb, T2.run_size, e1, Nat.zero_mul, Option.map_some, Addr.add_zero', ite_self]
        | _ => exact hk.elim
      · simp at hl6
  · rename_i s hkd
    rw [hkd] at hk
    split at hl2
    · simp at hl2
    · rename_i hmn
      have hmn : mx = none := by cases mx <;> simp_all
      subst hmn
      cases hmx
      obtain ⟨hh, hhh, hl5⟩ := some_bind hl2
      obtain ⟨l, hll, hl6⟩ := some_bind hl5
      cases natOf_eq hhi hhh; cases natOf_eq hlo hll
      split at hl6
      · rename_i hb
        obtain ⟨b2, b3⟩ := hb
        simp at hl6; subst hl6
        have := hx.of_string; subst this
        cases d with
        | string =>
          have hb := run_bounds (P := P) (w := w) (isS := false) (cap := s.size) (m := s.size) (c := s.size) (mx := none) rfl rfl hhh hll (by simp) (by simp; omega) b3
          refine Gives.pure h ?_ (.string _)
          simp [Instr.sliceAt, Instr.slice, T.run_und, hb]
        | _ => exact hk.elim
      · simp at hl6
  · simp at hl2

theorem len_ok (hE : E.Ok P) (h : HR M H w) {t ty : TypeId} {x x' v : Value} (hx : VR M x x') (hl : aLen E t x H = some v) : Gives P M H w (Builtin.len_ #[t] ty #[x']) v H := by
  unfold aLen at hl
  obtain ⟨ti, ht, hl2⟩ := some_bind hl
  clear hl
  obtain ⟨ii, d, z, T⟩ := hE.ty t ti ht
  have hk := T.k
  split at hl2
  · rename_i s hkd
    rw [hkd] at hk
    simp at hl2; subst hl2
    have := hx.of_string; subst this
    cases d with
    | string => exact Gives.pure h (by simp [Builtin.len_, T.run_und, goInt]) (.int _ _)
    | _ => exact hk.elim
  · rename_i n e hkd
    rw [hkd] at hk
    simp at hl2; subst hl2
    cases d with
    | array n' e' =>
      obtain ⟨rfl, rfl, _⟩ := hk
      exact Gives.pure h (by simp [Builtin.len_, T.run_und, goInt]) (.int _ _)
    | _ => exact hk.elim
  · rename_i e a n c hkd
    rw [hkd] at hk
    simp at hl2; subst hl2
    cases d with
    | slice e' =>
      cases hx <;> exact Gives.pure h (by simp [Builtin.len_, T.run_und, goInt]) (.int _ _)
    | _ => exact hk.elim
  · rename_i hkd
    rw [hkd] at hk
    simp at hl2; subst hl2
    cases d with
    | map k' e' =>
      cases hx
      exact Gives.pure h (by simp [Builtin.len_, T.run_und, goInt]) (.int _ _)
    | _ => exact hk.elim
  · rename_i r hkd
    rw [hkd] at hk
    split at hl2
    · rename_i es clock hr
      simp at hl2; subst hl2
      cases d with
      | map k' e' =>
        cases hx with
        | map he =>
          obtain ⟨es', g1, g2, _⟩ := h.blk _ _ _ he hr
          refine Gives.pure h ?_ (.int _ _)
          simp [Builtin.len_, T.run_und, goInt, getObj, Sem.run, g1, g2]
      | _ => exact hk.elim
    · simp at hl2
  · simp at hl2

theorem cap_ok (hE : E.Ok P) (h : HR M H w) {t ty : TypeId} {x x' v : Value} (hx : VR M x x') (hl : aCap E t x H = some v) : Gives P M H w (Builtin.cap_ #[t] ty #[x']) v H := by
  unfold aCap at hl
  obtain ⟨ti, ht, hl2⟩ := some_bind hl
  clear hl
  obtain ⟨ii, d, z, T⟩ := hE.ty t ti ht
  have hk := T.k
  split at hl2
  · rename_i n e hkd
    rw [hkd] at hk
    simp at hl2; subst hl2
    cases d with
    | array n' e' =>
      obtain ⟨rfl, rfl, _⟩ := hk
      exact Gives.pure h (by simp [Builtin.cap_, T.run_und, goInt]) (.int _ _)
    | _ => exact hk.elim
  · rename_i hkd
    rw [hkd] at hk
    simp at hl2; subst hl2
    cases d with
    | slice e' =>
      have := hx.of_slice0; subst this
      exact Gives.pure h (by simp [Builtin.cap_, T.run_und, goInt]) (.int _ _)
    | _ => exact hk.elim
  · rename_i b off len cap hkd
    rw [hkd] at hk
    split at hl2
    · rename_i hex
      simp at hl2; subst hl2
      cases d with
      | slice e' =>
        obtain ⟨e, c, he, hc, rfl⟩ := hx.of_slice
        have := exact_ok h hex he hc; subst this
        exact Gives.pure h (by simp [Builtin.cap_, T.run_und, goInt]) (.int _ _)
      | _ => exact hk.elim
    · simp at hl2
  · simp at hl2

end Go.Proofs.Ytmjonmhpfngkaaa.Zq
