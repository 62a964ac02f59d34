/- The operations one by one, ninth part: the operators of two operands. -/
import Derived.Test.YtmjonmhpfngkaaaZqOps8
import Derived.Laws.Bits
namespace Go.Proofs.Ytmjonmhpfngkaaa.Zq
variable {P : Program} {E : Env} {M : Mp} {H H' : Heap} {w : World}

def apartV : Value → Value → Bool
  | .int _ _, .int _ _ | .float _ _, .float _ _ | .complex _ _ _, .complex _ _ _ | .string _, .string _ => false
  | _, _ => true

theorem binOp_eql' (t : TypeId) (a b : Value) (h : apartV a b = true) : binOp .eql t a b = (do pure (.bool (← Op.equal t a b))) := by
  unfold binOp
  split <;> simp_all [apartV]
theorem binOp_neq' (t : TypeId) (a b : Value) (h : apartV a b = true) : binOp .neq t a b = (do pure (.bool (!(← Op.equal t a b)))) := by
  unfold binOp
  split <;> simp_all [apartV]

theorem apart_of {x x' y y' : Value} (hx : VR M x x') (hy : VR M y y') (h1 : ∀ k a k' b, x = .int k a → y = .int k' b → False) (h2 : ∀ a b, x = .string a → y = .string b → False) (h3 : ∀ k a, x ≠ .float k a) : apartV x' y' = true := by
  cases hx <;> cases hy <;> first | rfl | exact (h1 _ _ _ _ rfl rfl).elim | exact (h2 _ _ rfl rfl).elim | exact absurd rfl (h3 _ _)

theorem guard_ok (hE : E.Ok P) {op : BinOp} {t : TypeId} {d : Nat} {ox oy : Operand} {x x' y y' : Value} {b : Bool} (hx : VR M x x') (hy : VR M y y') (h : eqV E d t x y = some b) (w : World) :
    (eqGuard op t ox oy x' y').run P w = .ok () w := by
  cases d with
  | zero => simp [eqV] at h
  | succ d =>
    cases hx with
    | agg hs gx =>
      cases hy with
      | agg hs' gx' =>
        unfold eqV at h
        obtain ⟨ti, ht, h2⟩ := some_bind h
        obtain ⟨i, dd, z, T⟩ := hE.ty _ _ ht
        have hk := T.k
        split at h2
        · rename_i fs xs ys hkd _ _
          rw [hkd] at hk
          cases dd with
          | struct gs => exact run_eqGuard_agg w op t ox oy _ _ hk.2.2.2.1
          | _ => exact hk.elim
        · rename_i n e xs ys hkd _ _
          rw [hkd] at hk
          cases dd with
          | array n' e' => exact run_eqGuard_agg w op t ox oy _ _ hk.2.2
          | _ => exact hk.elim
        · exact absurd h2 (by unfold eq1; split <;> simp_all)
      | _ => cases op <;> simp [eqGuard]
    | nilIface =>
      cases hy with
      | nilIface =>
        exfalso
        unfold eqV at h
        obtain ⟨ti, ht, h2⟩ := some_bind h
        split at h2
        · simp_all
        · simp_all
        · exact absurd h2 (by unfold eq1; split <;> simp_all)
      | _ => cases op <;> simp [eqGuard]
    | _ => cases op <;> simp [eqGuard]

theorem bin_ok (hE : E.Ok P) (h : HR M H w) {op : BinOp} {t : TypeId} {ox oy : Operand} {x x' y y' v : Value} (hx : VR M x x') (hy : VR M y y') (hb : aBin E op t x y = some v) :
    Gives P M H w (do eqGuard op t ox oy x' y'; binOp op t x' y') v H := by
  unfold aBin at hb
  split at hb
  · rename_i k a k' b
    have := hx.of_int; subst this
    have := hy.of_int; subst this
    refine Gives.pure h ?_ (v' := v) ?_
    · simp only [eqGuard_at_int, Sem.run_bind, Sem.run_pure, Result.andThen_ok]
      split at hb
      · split at hb
        · rename_i h0
          simp at hb; subst hb
          have : ¬ b < 0 := by omega
          simp [binOp, Op.shift, this]
        · simp at hb
      · split at hb
        · rename_i h0
          simp at hb; subst hb
          have : ¬ b < 0 := by omega
          simp [binOp, Op.shift, this]
        · simp at hb
      · split at hb
        · rename_i hk
          subst hk
          split at hb <;> (try split at hb) <;> simp at hb <;> (try subst hb) <;> simp_all [binOp, Op.intArith, Op.intDiv, Op.intBits, Op.intCmp]
        · simp at hb
    · split at hb <;> (try split at hb) <;> (try split at hb) <;> (try split at hb) <;> simp at hb <;> subst hb <;> constructor
  · rename_i a b
    have := hx.of_string; subst this
    have := hy.of_string; subst this
    refine Gives.pure h ?_ (v' := v) ?_
    · simp only [eqGuard_at_string, Sem.run_bind, Sem.run_pure, Result.andThen_ok]
      split at hb <;> (try split at hb) <;> simp at hb <;> subst hb <;> simp [binOp, Op.stringOp]
      all_goals omega
    · split at hb <;> (try split at hb) <;> simp at hb <;> subst hb <;> constructor
  · rename_i hni hns
    split at hb
    · obtain ⟨b, hq, hb2⟩ := some_bind hb
      simp at hb2; subst hb2
      have hf : ∀ k a, x ≠ .float k a := by
        intro k a e; subst e
        unfold eqV at hq
        obtain ⟨ti, ht, h2⟩ := some_bind hq
        split at h2
        · simp_all
        · simp_all
        · exact absurd h2 (by unfold eq1; split <;> simp_all)
      have hap := apart_of hx hy (fun k a k' b e1 e2 => hni k a k' b e1 e2) (fun a b e1 e2 => hns a b e1 e2) hf
      have he := (eq_ok (M := M) hE 100).1 t x x' y y' b 10000 (by omega) hx hy hq
      refine Gives.pure h ?_ (.bool _)
      simp [guard_ok hE hx hy hq, binOp_eql' t _ _ hap, Op.equal, Op.maxDepth, he]
    · obtain ⟨b, hq, hb2⟩ := some_bind hb
      simp at hb2; subst hb2
      have hf : ∀ k a, x ≠ .float k a := by
        intro k a e; subst e
        unfold eqV at hq
        obtain ⟨ti, ht, h2⟩ := some_bind hq
        split at h2
        · simp_all
        · simp_all
        · exact absurd h2 (by unfold eq1; split <;> simp_all)
      have hap := apart_of hx hy (fun k a k' b e1 e2 => hni k a k' b e1 e2) (fun a b e1 e2 => hns a b e1 e2) hf
      have he := (eq_ok (M := M) hE 100).1 t x x' y y' b 10000 (by omega) hx hy hq
      refine Gives.pure h ?_ (.bool _)
      simp [guard_ok hE hx hy hq, binOp_neq' t _ _ hap, Op.equal, Op.maxDepth, he]
    · simp at hb

end Go.Proofs.Ytmjonmhpfngkaaa.Zq
