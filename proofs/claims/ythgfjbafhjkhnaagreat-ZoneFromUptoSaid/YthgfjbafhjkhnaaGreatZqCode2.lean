/- Codes: what the evaluator does, the machine does. -/
import Derived.Test.YthgfjbafhjkhnaaGreatZqRange
import Derived.Scope
namespace Go.Proofs.YthgfjbafhjkhnaaGreat.Zq
variable {P : Program} {E : Env} {M : Mp} {H H' : Heap} {w : World} {call : CallT} {ro : Option Nat} {n : Nat} {fr fr' : AFr} {a : Act}

theorem wpIn_scope_straight {F : Fence} {Q : Exit → Act → World → Prop} {c : Code} (h : c.wpIn F n P (Exit.noGoto Q) a w) : (Code.scope c).wpIn F n P Q a w := by
  intro b k cs hro hb hr
  obtain ⟨e, a₁, w₁, hq, harr⟩ := h b (.inScope c :: k) cs hro hb hr
  have s1 : StepsIn (Machine.fenced P F) P (lone (b.atR a (.code (.scope c) :: k)) cs w) (lone (b.atR a (.code c :: .inScope c :: k)) cs w) :=
    .one (fenced_calm hb hr rfl) (step_lone_go (by simp [stepG, stepG.exec, Frame.atR]))
  cases e with
  | normal => exact ⟨.normal, a₁, w₁, hq, s1.trans (StepsIn.trans harr (.one (fenced_calm hb hr rfl) (step_lone_go (by simp [stepG, stepG.exec, Frame.atR]))))⟩
  | exit id =>
    exact ⟨.exit id, a₁, w₁, hq, fun k' hk => s1.trans (harr.1 k' (by simpa [exitTo] using hk)),
      fun hR hk => let ⟨k₁, h1, h2⟩ := harr.2 hR (by simpa [exitTo] using hk); ⟨k₁, h1, s1.trans h2⟩⟩
  | goto l => exact hq.elim
  | ret => exact ⟨_, a₁, w₁, hq, .of_steps s1 harr⟩
  | panic ch => exact ⟨_, a₁, w₁, hq, .of_steps s1 harr⟩
  | outgrown => exact ⟨_, a₁, w₁, hq, .of_steps s1 harr⟩

theorem code_ok (hE : E.Ok P) (hC : CallOk P call) (k : Nat) (out : Bool) (ho : out = true → ro = none) : ∀ (c : Code) (h : Hint), Sound P ro c (fun fr H R K => aCode E call k out c h fr H R K) := by
  intro c
  induction c with
  | skip =>
    intro h fr H R K r hr
    simp only [aCode] at hr
    exact ⟨.normal, fr, H, hr, rfl, fun n M a w hr hf => wpIn_skip ⟨trivial, M, .refl hr, hf, .refl _ _ _⟩⟩
  | label l =>
    intro h fr H R K r hr
    simp only [aCode] at hr
    exact ⟨.normal, fr, H, hr, rfl, fun n M a w hr hf => wpIn_label ⟨trivial, M, .refl hr, hf, .refl _ _ _⟩⟩
  | exit id =>
    intro h fr H R K r hr
    simp only [aCode] at hr
    exact ⟨.exit id, fr, H, hr, rfl, fun n M a w hr hf => wpIn_exit ⟨rfl, M, .refl hr, hf, .refl _ _ _⟩⟩
  | ret =>
    intro h fr H R K r hr
    simp only [aCode] at hr
    exact ⟨.ret, fr, H, hr, rfl, fun n M a w hr hf => wpIn_ret ⟨trivial, M, .refl hr, hf, .refl _ _ _⟩⟩
  | region id ops draw =>
    intro h fr H R K r hr
    cases draw with
    | false =>
      simp only [aCode] at hr
      obtain ⟨x, h1, h2⟩ := some_bind hr
      obtain ⟨fr1, H1⟩ := x
      refine ⟨.normal, fr1, H1, h2, ?_, fun n M a w hr hf => region_ok hE hC h1 hr hf fun M' a' w' q1 q2 q3 => ⟨trivial, M', q1, q2, .of_eq q3⟩⟩
      exact ops_n _ _ _ h1
    | true =>
      simp only [aCode] at hr
      obtain ⟨x, h1, h2⟩ := some_bind hr
      obtain ⟨fr1, H1⟩ := x
      refine ⟨.normal, fr1, H1, h2, ?_, fun n M a w hr hf => draw_ok hE hC h1 hr hf fun M' a' w' q1 q2 q3 => ⟨trivial, M', q1, q2, .of_eq q3⟩⟩
      exact draw_n h1
  | seq x y ihx ihy =>
    intro h fr H R K r hr
    simp only [aCode] at hr
    obtain ⟨e1, fr1, H1, h1, h2⟩ := ihx h.a fr H R _ r hr
    cases e1 with
    | normal =>
      simp only at h1
      obtain ⟨e2, fr2, H2, h3, h4⟩ := ihy h.b fr1 H1 R _ r h1
      refine ⟨e2, fr2, H2, h3, h4.1.trans h2.1, fun n M a w hr hf => wpIn_seq (wpIn_mono (h2.2 n M a w hr hf) ?_)⟩
      rintro x a' w' ⟨q1, M', q2, q3, q4⟩
      cases x <;> first | exact q1.elim | skip
      refine wpIn_mono (h4.2 n M' a' w' q2.hr q3) ?_
      rintro x2 a2 w2 ⟨r1, M2, r2, r3, r4⟩
      exact ⟨r1, M2, q2.trans r2, r3, q4.trans q2.hr r2 q2.size r4⟩
    | exit i =>
      refine ⟨.exit i, fr1, H1, h1, h2.1, fun n M a w hr hf => wpIn_seq (wpIn_mono (h2.2 n M a w hr hf) ?_)⟩
      rintro x a' w' ⟨q1, q2⟩
      cases x <;> first | exact q1.elim | exact ⟨q1, q2⟩
    | ret =>
      refine ⟨.ret, fr1, H1, h1, h2.1, fun n M a w hr hf => wpIn_seq (wpIn_mono (h2.2 n M a w hr hf) ?_)⟩
      rintro x a' w' ⟨q1, q2⟩
      cases x <;> first | exact q1.elim | exact ⟨q1, q2⟩
  | cond c x y ihx ihy =>
    intro h fr H R K r hr
    simp only [aCode] at hr
    refine join_sound (m := fun fr H R K => (opv fr c).bind fun v => ifV v (aCode E call k out x h.a fr H R K) (aCode E call k out y h.b fr H R K)) ?_ fr H R K r hr
    intro fr H R K r hr
    obtain ⟨v, h1, h2⟩ := some_bind hr
    unfold ifV at h2
    split at h2
    · obtain ⟨e, fr', H', h3, h4⟩ := ihx h.a fr H R K r h2
      exact ⟨e, fr', H', h3, h4.1, fun n M a w hr hf => wpIn_cond_true (opv_ok hf h1).of_bool (h4.2 n M a w hr hf)⟩
    · obtain ⟨e, fr', H', h3, h4⟩ := ihy h.b fr H R K r h2
      exact ⟨e, fr', H', h3, h4.1, fun n M a w hr hf => wpIn_cond_false (opv_ok hf h1).of_bool (h4.2 n M a w hr hf)⟩
    · simp at h2
  | block id c ih =>
    intro h fr H R K r hr
    simp only [aCode] at hr
    refine join_sound (m := fun fr H R K => aCode E call k out c h.a fr H R fun e fr H => match e with | .exit i => if i = id then K .normal fr H else K (.exit i) fr H | e => K e fr H) ?_ fr H R K r hr
    intro fr H R K r hr
    obtain ⟨e, fr', H', h3, h4⟩ := ih h.a fr H R _ r hr
    cases e with
    | normal =>
      refine ⟨.normal, fr', H', h3, h4.1, fun n M a w hr hf => wpIn_block (wpIn_mono (h4.2 n M a w hr hf) ?_)⟩
      rintro x a' w' ⟨q1, q2⟩
      cases x <;> first | exact q1.elim | exact ⟨q1, q2⟩
    | ret =>
      refine ⟨.ret, fr', H', h3, h4.1, fun n M a w hr hf => wpIn_block (wpIn_mono (h4.2 n M a w hr hf) ?_)⟩
      rintro x a' w' ⟨q1, q2⟩
      cases x <;> first | exact q1.elim | exact ⟨q1, q2⟩
    | exit i =>
      simp only at h3
      split at h3
      · rename_i hi
        refine ⟨.normal, fr', H', h3, h4.1, fun n M a w hr hf => wpIn_block (wpIn_mono (h4.2 n M a w hr hf) ?_)⟩
        rintro x a' w' ⟨q1, q2⟩
        cases x <;> first | exact q1.elim | skip
        rename_i i2
        have q1 : i = i2 := q1
        subst q1; subst hi
        simp only [Exit.inBlock, if_true]
        exact ⟨trivial, q2⟩
      · rename_i hi
        refine ⟨.exit i, fr', H', h3, h4.1, fun n M a w hr hf => wpIn_block (wpIn_mono (h4.2 n M a w hr hf) ?_)⟩
        rintro x a' w' ⟨q1, q2⟩
        cases x <;> first | exact q1.elim | skip
        rename_i i2
        have q1 : i = i2 := q1
        subst q1
        simp only [Exit.inBlock, if_neg hi]
        exact ⟨rfl, q2⟩
  | loop c ih =>
    intro h fr H R K r hr
    simp only [aCode] at hr
    split at hr
    · rename_i live hc
      obtain ⟨x, h1, h2⟩ := some_bind hr
      obtain ⟨e, s, H1⟩ := x
      refine ⟨e, mkFr fr.n live s, H1, h2, rfl, fun n M a w hr hf => wpIn_loop_rounds k ?_⟩
      refine iter_sound (P := P) (ro := ro) (c := c) (live := live) (N := fr.n) (fun s H e s' H' hfs => ?_) k _ _ _ _ _ h1 n M a w hr (hf.restrict live)
      obtain ⟨e2, fr2, H2, h3, h4⟩ := ih h.a _ _ _ _ _ hfs
      simp at h3; obtain ⟨rfl, rfl, rfl⟩ := h3
      exact h4.restrict live
    · simp at hr
  | scope c ih =>
    intro h fr H R K r hr
    simp only [aCode] at hr
    obtain ⟨e, fr', H', h3, h4⟩ := ih h.a fr H R K r hr
    refine ⟨e, fr', H', h3, h4.1, fun n M a w hr hf => wpIn_scope_straight (wpIn_mono (h4.2 n M a w hr hf) ?_)⟩
    rintro x a' w' ⟨q1, q2⟩
    cases x with
    | goto l => cases e <;> exact q1.elim
    | _ => exact ⟨q1, q2⟩
  | rangeFunc f ps asg body _ _ =>
    intro h fr H R K r hr
    simp only [aCode] at hr
    split at hr
    · rename_i hout
      have hro := ho hout
      subst hro
      obtain ⟨fv, h1, h2⟩ := some_bind hr
      split at h2
      · rename_i g xs ys
        obtain ⟨x, h3, h4⟩ := some_bind h2
        obtain ⟨res, H2⟩ := x
        split at h4
        · rename_i st pend fr' ps' asg' body' hb' hl2
          split at h4
          · simp at h4
          · rename_i hst
            refine ⟨pend.getD .normal, fr, _, h4, rfl, fun n M a w hr hf => ?_⟩
            exact range_ok hC h1 h3 hl2 hst hr hf
        · simp at h4
      · simp at h2
    · simp at hr
  | _ => intro h fr H R K r hr; simp [aCode] at hr

end Go.Proofs.YthgfjbafhjkhnaaGreat.Zq
