/- The operations one by one, eighth part: equality; the operators of two operands. -/
import Derived.Test.YtmjonmhpfngkaaaZqOps7
import Derived.Laws.StructEq
namespace Go.Proofs.Ytmjonmhpfngkaaa.Zq
variable {P : Program} {E : Env} {M : Mp} {H H' : Heap} {w : World}

def eqArr (d : Nat) (e : TypeId) (n : Nat) (xs ys : Array Value) : List Nat → Sem Bool
  | [] => pure true
  | i :: l => do
    let a ← part e xs (i * n)
    let b ← part e ys (i * n)
    let r ← Op.equalIn d e a b
    if (!r) = true then pure false else eqArr d e n xs ys l

theorem run_equalIn_array (w : World) (d : Nat) (t e : TypeId) (len n : Nat) (xs ys : Array Value) (ht : P.underlying t = some (.array len e)) (hs : ∀ w, (sizeOf e).run P w = .ok n w) :
    (Op.equalIn (d + 1) t (.agg xs) (.agg ys)).run P w = (eqArr d e n xs ys (List.range' 0 len)).run P w := by
  simp only [Op.equalIn, Sem.run_bind, run_underlying ht, Result.andThen_ok, hs, Std.Legacy.Range.forIn_eq_forIn_range', Std.Legacy.Range.size]
  have e0 : (len - 0 + 1 - 1) / 1 = len := by simp
  rw [e0]
  generalize List.range' 0 len = l
  clear ht
  induction l generalizing w with
  | nil => simp [eqArr]
  | cons i l ih =>
    simp only [List.forIn_cons, eqArr, Sem.run_bind, Sem.run_ite]
    generalize (part e xs (i * n)).run P w = r1
    cases r1 with
    | ok a w1 =>
      simp only [Result.andThen_ok]
      generalize (part e ys (i * n)).run P w1 = r2
      cases r2 with
      | ok b w2 =>
        simp only [Result.andThen_ok]
        generalize (Op.equalIn d e a b).run P w2 = r3
        cases r3 with
        | ok r w3 =>
          cases r
          · simp only [Result.andThen_ok, Bool.not_false, if_true, Sem.run_pure]
          · simp only [Result.andThen_ok, Bool.not_true, Bool.false_eq_true, if_false, Sem.run_pure]
            exact ih w3
        | halt x w3 => simp [Result.andThen]
      | halt x w2 => simp [Result.andThen]
    | halt x w1 => simp [Result.andThen]

set_option maxHeartbeats 1000000 in
theorem eq1_ok {k : TK} {d : TypeDesc} {t : TypeId} {x x' y y' : Value} {b : Bool} {D : Nat} (hk : KOk P t k d) (ht : P.underlying t = some d) (hx : VR M x x') (hy : VR M y y') (h : eq1 k x y = some b) (w : World) :
    (Op.equalIn (D + 1) t x' y').run P w = .ok b w := by
  unfold eq1 at h
  split at h
  · cases d <;> first | exact hk.elim | skip
    simp at h; subst h
    have := hx.of_bool; subst this; have := hy.of_bool; subst this
    simp [Op.equalIn, run_underlying ht]
  · cases d <;> first | exact hk.elim | skip
    split at h
    · rename_i hkk
      simp at h; subst h
      have := hx.of_int; subst this; have := hy.of_int; subst this
      simp [Op.equalIn, run_underlying ht, hkk]
    · simp at h
  · cases d <;> first | exact hk.elim | skip
    simp at h; subst h
    have := hx.of_string; subst this; have := hy.of_string; subst this
    exact run_equalIn_string w D t _ _ ht
  · cases d <;> first | exact hk.elim | skip
    simp at h; subst h
    cases hx
    cases hy <;> simp [Op.equalIn, run_underlying ht]
  · cases d <;> first | exact hk.elim | skip
    simp at h; subst h
    cases hx
    cases hy
    simp [Op.equalIn, run_underlying ht]
  · cases d <;> first | exact hk.elim | skip
    simp at h; subst h
    cases hx
    cases hy <;> simp [Op.equalIn, run_underlying ht]
  · cases d <;> first | exact hk.elim | skip
    simp at h; subst h
    cases hy
    cases hx <;> simp [Op.equalIn, run_underlying ht]
  · cases d <;> first | exact hk.elim | skip
    simp at h; subst h
    cases hx
    cases hy <;> simp [Op.equalIn, run_underlying ht]
  · cases d <;> first | exact hk.elim | skip
    simp at h; subst h
    cases hx
    cases hy
    simp [Op.equalIn, run_underlying ht]
  · cases d <;> first | exact hk.elim | skip
    simp at h; subst h
    cases hx <;> cases hy <;> simp [Op.equalIn, run_underlying ht]
  · cases d <;> first | exact hk.elim | skip
    simp at h; subst h
    cases hx <;> cases hy <;> simp [Op.equalIn, run_underlying ht]
  · cases d <;> first | exact hk.elim | skip
    simp at h; subst h
    cases hx <;> cases hy <;> simp [Op.equalIn, run_underlying ht]
  · cases d <;> first | exact hk.elim | skip
    simp at h; subst h
    cases hx <;> cases hy <;> simp [Op.equalIn, run_underlying ht]
  · cases d <;> first | exact hk.elim | skip
    simp at h; subst h
    cases hx <;> cases hy <;> simp [Op.equalIn, run_underlying ht]
  · simp at h

theorem eq_ok (hE : E.Ok P) : ∀ (d : Nat),
    (∀ (t : TypeId) (x x' y y' : Value) (b : Bool) (D : Nat), d ≤ D → VR M x x' → VR M y y' → eqV E d t x y = some b → ∀ w, (Op.equalIn D t x' y').run P w = .ok b w) ∧
    (∀ (fs : List (Nat × TypeId)) (gs : List Field) (xs xs' ys ys' : List Value) (b : Bool) (D : Nat), d ≤ D + 1 → fs = gs.map (fun f => (f.offset, f.type)) → (∀ f ∈ gs, f.name ≠ "_") → VL M xs xs' → VL M ys ys' → eqFields E d fs xs ys = some b →
      ∀ w, (Op.eqFields D xs'.toArray ys'.toArray gs).run P w = .ok b w) ∧
    (∀ (e : TypeId) (size n i : Nat) (xs xs' ys ys' : List Value) (b : Bool) (D : Nat), d ≤ D + 1 → VL M xs xs' → VL M ys ys' → eqElems E d e size n i xs ys = some b →
      ∀ w, (eqArr D e size xs'.toArray ys'.toArray (List.range' i n)).run P w = .ok b w) := by
  intro d
  induction d with
  | zero =>
    refine ⟨?_, ?_, ?_⟩
    · intro t x x' y y' b D _ _ _ h; simp [eqV] at h
    · intro fs gs xs xs' ys ys' b D _ _ _ _ _ h; simp [eqFields] at h
    · intro e size n i xs xs' ys ys' b D _ _ _ h; simp [eqElems] at h
  | succ d ih =>
    obtain ⟨ih1, ih2, ih3⟩ := ih
    refine ⟨?_, ?_, ?_⟩
    · intro t x x' y y' b D hD hx hy h w
      obtain ⟨D, rfl⟩ : ∃ q, D = q + 1 := ⟨D - 1, by omega⟩
      unfold eqV at h
      obtain ⟨ti, ht, h2⟩ := some_bind h
      clear h
      obtain ⟨i, dd, z, T⟩ := hE.ty _ _ ht
      have hk := T.k
      split at h2
      · rename_i fs xs ys hkd
        rw [hkd] at hk
        obtain ⟨us, rfl, hu⟩ := hx.of_agg
        obtain ⟨vs, rfl, hv⟩ := hy.of_agg
        cases dd with
        | struct gs =>
          obtain ⟨hg, hn, hst, _⟩ := hk
          have hf : P.underlying t = some (.struct (P.fieldsOf t)) := by unfold Program.fieldsOf; rw [T.und]
          have hfe : P.fieldsOf t = gs := by unfold Program.fieldsOf; rw [T.und]
          rw [run_equalIn_struct w D t us vs hf hst, hfe]
          have := ih2 fs gs.toList xs.toList us.toList ys.toList vs.toList b D (by omega) hg hn hu hv h2 w
          simpa using this
        | _ => exact hk.elim
      · rename_i n e xs ys hkd
        rw [hkd] at hk
        obtain ⟨te, hte, h3⟩ := some_bind h2
        obtain ⟨i2, d2, z2, T2⟩ := hE.ty _ _ hte
        obtain ⟨us, rfl, hu⟩ := hx.of_agg
        obtain ⟨vs, rfl, hv⟩ := hy.of_agg
        cases dd with
        | array n' e' =>
          obtain ⟨rfl, rfl, _⟩ := hk
          rw [run_equalIn_array w D t e n te.size us vs T.und (fun w => T2.run_size w)]
          have := ih3 e te.size n 0 xs.toList us.toList ys.toList vs.toList b D (by omega) hu hv h3 w
          simpa using this
        | _ => exact hk.elim
      · exact eq1_ok hk T.und hx hy h2 w
    · intro fs gs xs xs' ys ys' b D hD hfs hn hx hy h w
      cases gs with
      | nil =>
        subst hfs
        simp [eqFields] at h; subst h
        simp [Op.eqFields]
      | cons f gs =>
        subst hfs
        simp only [List.map_cons, eqFields] at h
        obtain ⟨a, ha, h2⟩ := some_bind h
        obtain ⟨c, hc, h3⟩ := some_bind h2
        obtain ⟨r, hr, h4⟩ := some_bind h3
        obtain ⟨a', g1, g2⟩ := part_ok hE hx ha
        obtain ⟨c', g3, g4⟩ := part_ok hE hy hc
        have hn0 := hn f (by simp)
        have e1 := ih1 f.type a a' c c' r D (by omega) g2 g4 hr w
        simp only [Op.eqFields, if_pos hn0, Sem.run_bind, g1, g3, Result.andThen_ok, e1, Sem.run_ite]
        cases r with
        | false => simp at h4; subst h4; simp
        | true =>
          simp only [if_true] at h4
          simp only [Bool.not_true, Bool.false_eq_true, if_false]
          exact ih2 _ gs xs xs' ys ys' b D (by omega) rfl (fun g hg => hn g (by simp [hg])) hx hy h4 w
    · intro e size n i xs xs' ys ys' b D hD hx hy h w
      cases n with
      | zero =>
        simp [eqElems] at h; subst h
        simp [eqArr]
      | succ n =>
        simp only [eqElems] at h
        obtain ⟨a, ha, h2⟩ := some_bind h
        obtain ⟨c, hc, h3⟩ := some_bind h2
        obtain ⟨r, hr, h4⟩ := some_bind h3
        obtain ⟨a', g1, g2⟩ := part_ok hE hx ha
        obtain ⟨c', g3, g4⟩ := part_ok hE hy hc
        have e1 := ih1 e a a' c c' r D (by omega) g2 g4 hr w
        rw [List.range'_succ]
        simp only [eqArr, Sem.run_bind, g1, g3, Result.andThen_ok, e1, Sem.run_ite]
        cases r with
        | false => simp at h4; subst h4; simp
        | true =>
          simp only [if_true] at h4
          simp only [Bool.not_true, Bool.false_eq_true, if_false]
          exact ih3 e size n (i + 1) xs xs' ys ys' b D (by omega) hx hy h4 w

end Go.Proofs.Ytmjonmhpfngkaaa.Zq
