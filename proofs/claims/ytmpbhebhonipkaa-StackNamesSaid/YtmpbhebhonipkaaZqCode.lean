/- Codes and functions: what the evaluator does, the machine does. -/
import Derived.Test.YtmpbhebhonipkaaZqDraw3
import Derived.LoopNIn
namespace Go.Proofs.Ytmpbhebhonipkaa.Zq
variable {P : Program} {E : Env} {M : Mp} {H H' : Heap} {w : World} {call : FuncId → List Value → Heap → Option (Value × Heap)} {ro : Option Nat} {n : Nat} {fr fr' : AFr} {a : Act}

def ExR : Ex → Exit → Prop
  | .normal, .normal => True
  | .ret, .ret => True
  | .exit i, .exit j => i = j
  | _, _ => False

/-- The code, walked from whatever is alike, comes to this. -/
def Runs (P : Program) (ro : Option Nat) (c : Code) (fr : AFr) (H : Heap) (e : Ex) (fr' : AFr) (H' : Heap) : Prop :=
  fr'.n = fr.n ∧ ∀ (n : Nat) (M : Mp) (a : Act) (w : World), HR M H w → FR M fr a.tmps → c.wpIn (Fw ro) n P (fun x a' w' => ExR e x ∧ ∃ M', Stp M H w M' H' w' ∧ FR M' fr' a'.tmps ∧ a'.defers = a.defers) a w

theorem look_mkL : ∀ (live : List Nat) (j : Nat) (s : List (Option Value)) (t : Nat), look (mkL live j s) t = match live.idxOf? t with | some i => (s[j + i]?).join | none => none
  | [], j, s, t => by simp [mkL, look]
  | x :: r, j, s, t => by
    simp only [mkL, look, List.idxOf?_cons]
    by_cases h : x = t
    · simp [h]
    · have hb : (x == t) = false := by simpa using h
      rw [if_neg h, look_mkL r (j + 1) s t, hb]
      cases r.idxOf? t with
      | none => simp
      | some i => simp [Nat.add_comm, Nat.add_left_comm]

theorem get_mkFr {n : Nat} {live : List Nat} {fr : AFr} {t : Nat} {v : Value} (h : (mkFr n live (live.map fr.get)).get t = some v) : fr.get t = some v := by
  unfold AFr.get mkFr at h
  simp only at h
  rw [look_mkL] at h
  split at h
  · rename_i i hi
    have hi' := List.idxOf?_eq_some_iff.1 hi
    simp only [Nat.zero_add, List.getElem?_map] at h
    obtain ⟨hl, ht, _⟩ := hi'
    rw [List.getElem?_eq_getElem hl] at h
    simp at h
    have : live[i] = t := by simpa using ht
    rw [this] at h
    exact h
  · simp at h

theorem FR.restrict {tmps : Array Value} (h : FR M fr tmps) (live : List Nat) : FR M (mkFr fr.n live (live.map fr.get)) tmps :=
  ⟨h.size, fun t v hv => h.get t v (get_mkFr hv)⟩

theorem Runs.restrict {c : Code} {e : Ex} (h : Runs P ro c fr H e fr' H') (live : List Nat) : Runs P ro c fr H e (mkFr fr.n live (live.map fr'.get)) H' := by
  refine ⟨rfl, fun n M a w hr hf => wpIn_mono (h.2 n M a w hr hf) fun x a' w' ⟨h1, M', h2, h3, h4⟩ => ⟨h1, M', h2, ?_, h4⟩⟩
  have := h3.restrict live
  rw [h.1] at this; exact this

/-- The evaluator's answer stands behind a way through the code. -/
def Sound (P : Program) (ro : Option Nat) (c : Code) (m : AFr → Heap → (R : Type) → (Ex → AFr → Heap → Option R) → Option R) : Prop :=
  ∀ (fr : AFr) (H : Heap) (R : Type) (K : Ex → AFr → Heap → Option R) (r : R), m fr H R K = some r → ∃ e fr' H', K e fr' H' = some r ∧ Runs P ro c fr H e fr' H'

theorem join_sound {c : Code} {j : Option (List Nat)} {m : AFr → Heap → (R : Type) → (Ex → AFr → Heap → Option R) → Option R} (h : Sound P ro c m) :
    Sound P ro c (fun fr H _ K => joinK fr.n j (fun R K => m fr H R K) K) := by
  intro fr H R K r hr
  unfold joinK at hr
  cases j with
  | none => exact h fr H R K r hr
  | some live =>
    simp only at hr
    obtain ⟨s, h1, h2⟩ := some_bind hr
    obtain ⟨e, fr', H', h3, h4⟩ := h fr H St _ s h1
    simp at h3; subst h3
    exact ⟨e, _, H', h2, h4.restrict live⟩

theorem rounds_mono {F : Fence} {c : Code} {Q Q' : Exit → Act → World → Prop} (hq : ∀ x a w, Q x a w → Q' x a w) : ∀ (m : Nat) (a : Act) (w : World), Code.roundsIn F n P c Q m a w → Code.roundsIn F n P c Q' m a w
  | 0, _, _, h => h
  | m + 1, a, w, h => by
    refine wpIn_mono (c := c) h fun x a' w' hx => ?_
    cases x with
    | normal => exact rounds_mono hq m a' w' hx
    | _ => exact hq _ _ _ hx

theorem iter_sound {c : Code} {live : List Nat} {N : Nat} {f : List (Option Value) × Heap → Option (Ex × List (Option Value) × Heap)}
    (hf : ∀ s H e s' H', f (s, H) = some (e, s', H') → Runs P ro c (mkFr N live s) H e (mkFr N live s') H') :
    ∀ (k : Nat) (s : List (Option Value)) (H : Heap) (e : Ex) (s' : List (Option Value)) (H' : Heap), aIter k f (s, H) = some (e, s', H') → ∀ (n : Nat) (M : Mp) (a : Act) (w : World), HR M H w → FR M (mkFr N live s) a.tmps →
      Code.roundsIn (Fw ro) n P c (fun x a' w' => ExR e x ∧ ∃ M', Stp M H w M' H' w' ∧ FR M' (mkFr N live s') a'.tmps ∧ a'.defers = a.defers) k a w := by
  intro k
  induction k with
  | zero => intro s H e s' H' h; simp [aIter] at h
  | succ k ih =>
    intro s H e s' H' h n M a w hr hfr
    simp only [aIter] at h
    obtain ⟨x, h1, h2⟩ := some_bind h
    obtain ⟨e1, s1, H1⟩ := x
    have hrun := hf s H e1 s1 H1 h1
    rw [roundsIn_succ]
    refine wpIn_mono (hrun.2 n M a w hr hfr) ?_
    rintro x a' w' ⟨q1, M', q2, q3, q4⟩
    cases e1 with
    | normal =>
      cases x <;> first | exact q1.elim | skip
      simp only at h2
      refine rounds_mono ?_ k a' w' (ih s1 H1 e s' H' h2 n M' a' w' q2.hr q3)
      rintro x2 a2 w2 ⟨r1, M2, r2, r3, r4⟩
      exact ⟨r1, M2, q2.trans r2, r3, r4.trans q4⟩
    | exit i =>
      cases x <;> first | exact q1.elim | skip
      simp at h2; obtain ⟨rfl, rfl, rfl⟩ := h2
      exact ⟨q1, M', q2, q3, q4⟩
    | ret =>
      cases x <;> first | exact q1.elim | skip
      simp at h2; obtain ⟨rfl, rfl, rfl⟩ := h2
      exact ⟨q1, M', q2, q3, q4⟩

theorem put_n (fr : AFr) (d : Option Nat) (v : Value) : (fr.put? d v).n = fr.n := by cases d <;> rfl
theorem oper_n {ops : Array Oper} {o : Oper} (h : aOper E call ops o fr H = some (fr', H')) : fr'.n = fr.n := by
  unfold aOper at h
  split at h
  · obtain ⟨b, hb, h2⟩ := some_bind h
    cases b with
    | true =>
      simp only [if_true] at h2
      obtain ⟨r, hr, h3⟩ := some_bind h2
      simp at h3; obtain ⟨rfl, _⟩ := h3
      exact put_n _ _ _
    | false => simp at h2; obtain ⟨rfl, _⟩ := h2; exact put_n _ _ _
  · simp at h
theorem ops_n {ops : Array Oper} : ∀ (os : List Oper) (fr : AFr) (H : Heap), aOps E call ops os fr H = some (fr', H') → fr'.n = fr.n
  | [], fr, H, h => by simp [aOps] at h; rw [h.1]
  | o :: os, fr, H, h => by
    simp only [aOps] at h
    obtain ⟨r, h1, h2⟩ := some_bind h
    exact (ops_n os r.1 r.2 h2).trans (oper_n h1)

theorem code_ok (hE : E.Ok P) (hC : CallOk P call) (k : Nat) : ∀ (c : Code) (h : Hint), Sound P ro c (fun fr H R K => aCode E call k c h fr H R K) := by
  intro c
  induction c with
  | skip =>
    intro h fr H R K r hr
    simp only [aCode] at hr
    exact ⟨.normal, fr, H, hr, rfl, fun n M a w hr hf => wpIn_skip ⟨trivial, M, .refl hr, hf, rfl⟩⟩
  | label l =>
    intro h fr H R K r hr
    simp only [aCode] at hr
    exact ⟨.normal, fr, H, hr, rfl, fun n M a w hr hf => wpIn_label ⟨trivial, M, .refl hr, hf, rfl⟩⟩
  | exit id =>
    intro h fr H R K r hr
    simp only [aCode] at hr
    exact ⟨.exit id, fr, H, hr, rfl, fun n M a w hr hf => wpIn_exit ⟨rfl, M, .refl hr, hf, rfl⟩⟩
  | ret =>
    intro h fr H R K r hr
    simp only [aCode] at hr
    exact ⟨.ret, fr, H, hr, rfl, fun n M a w hr hf => wpIn_ret ⟨trivial, M, .refl hr, hf, rfl⟩⟩
  | region id ops draw =>
    intro h fr H R K r hr
    cases draw with
    | false =>
      simp only [aCode] at hr
      obtain ⟨x, h1, h2⟩ := some_bind hr
      obtain ⟨fr1, H1⟩ := x
      refine ⟨.normal, fr1, H1, h2, ?_, fun n M a w hr hf => region_ok hE hC h1 hr hf fun M' a' w' q1 q2 q3 => ⟨trivial, M', q1, q2, q3⟩⟩
      exact ops_n _ _ _ h1
    | true =>
      simp only [aCode] at hr
      obtain ⟨x, h1, h2⟩ := some_bind hr
      obtain ⟨fr1, H1⟩ := x
      refine ⟨.normal, fr1, H1, h2, ?_, fun n M a w hr hf => draw_ok hE hC h1 hr hf fun M' a' w' q1 q2 q3 => ⟨trivial, M', q1, q2, q3⟩⟩
      exact draw_n h1
  | seq x y ihx ihy =>
    intro h fr H R K r hr
    simp only [aCode] at hr
    obtain ⟨e1, fr1, H1, h1, h2⟩ := ihx h.a fr H R _ r hr
    cases e1 with
    | normal =>
      simp only at h1
      obtain ⟨e2, fr2, H2, h3, h4⟩ := ihy h.b fr1 H1 R _ r h1
      refine ⟨e2, fr2, H2, h3, h4.1.trans h2.1, fun n M a w hr hf => wpIn_seq (wpIn_mono (h2.2 n M a w hr hf) ?_)⟩
      rintro x a' w' ⟨q1, M', q2, q3, q4⟩
      cases x <;> first | exact q1.elim | skip
      refine wpIn_mono (h4.2 n M' a' w' q2.hr q3) ?_
      rintro x2 a2 w2 ⟨r1, M2, r2, r3, r4⟩
      exact ⟨r1, M2, q2.trans r2, r3, r4.trans q4⟩
    | exit i =>
      refine ⟨.exit i, fr1, H1, h1, h2.1, fun n M a w hr hf => wpIn_seq (wpIn_mono (h2.2 n M a w hr hf) ?_)⟩
      rintro x a' w' ⟨q1, q2⟩
      cases x <;> first | exact q1.elim | exact ⟨q1, q2⟩
    | ret =>
      refine ⟨.ret, fr1, H1, h1, h2.1, fun n M a w hr hf => wpIn_seq (wpIn_mono (h2.2 n M a w hr hf) ?_)⟩
      rintro x a' w' ⟨q1, q2⟩
      cases x <;> first | exact q1.elim | exact ⟨q1, q2⟩
  | cond c x y ihx ihy =>
    intro h fr H R K r hr
    simp only [aCode] at hr
    refine join_sound (m := fun fr H R K => (opv fr c).bind fun v => match v with | .bool true => aCode E call k x h.a fr H R K | .bool false => aCode E call k y h.b fr H R K | _ => none) ?_ fr H R K r hr
    intro fr H R K r hr
    obtain ⟨v, h1, h2⟩ := some_bind hr
    split at h2
    · obtain ⟨e, fr', H', h3, h4⟩ := ihx h.a fr H R K r h2
      exact ⟨e, fr', H', h3, h4.1, fun n M a w hr hf => wpIn_cond_true (opv_ok hf h1).of_bool (h4.2 n M a w hr hf)⟩
    · obtain ⟨e, fr', H', h3, h4⟩ := ihy h.b fr H R K r h2
      exact ⟨e, fr', H', h3, h4.1, fun n M a w hr hf => wpIn_cond_false (opv_ok hf h1).of_bool (h4.2 n M a w hr hf)⟩
    · simp at h2
  | block id c ih =>
    intro h fr H R K r hr
    simp only [aCode] at hr
    refine join_sound (m := fun fr H R K => aCode E call k c h.a fr H R fun e fr H => match e with | .exit i => if i = id then K .normal fr H else K (.exit i) fr H | e => K e fr H) ?_ fr H R K r hr
    intro fr H R K r hr
    obtain ⟨e, fr', H', h3, h4⟩ := ih h.a fr H R _ r hr
    cases e with
    | normal =>
      refine ⟨.normal, fr', H', h3, h4.1, fun n M a w hr hf => wpIn_block (wpIn_mono (h4.2 n M a w hr hf) ?_)⟩
      rintro x a' w' ⟨q1, q2⟩
      cases x <;> first | exact q1.elim | exact ⟨q1, q2⟩
    | ret =>
      refine ⟨.ret, fr', H', h3, h4.1, fun n M a w hr hf => wpIn_block (wpIn_mono (h4.2 n M a w hr hf) ?_)⟩
      rintro x a' w' ⟨q1, q2⟩
      cases x <;> first | exact q1.elim | exact ⟨q1, q2⟩
    | exit i =>
      simp only at h3
      split at h3
      · rename_i hi
        refine ⟨.normal, fr', H', h3, h4.1, fun n M a w hr hf => wpIn_block (wpIn_mono (h4.2 n M a w hr hf) ?_)⟩
        rintro x a' w' ⟨q1, q2⟩
        cases x <;> first | exact q1.elim | skip
        rename_i i2
        have q1 : i = i2 := q1
        subst q1; subst hi
        simp only [Exit.inBlock, if_true]
        exact ⟨trivial, q2⟩
      · rename_i hi
        refine ⟨.exit i, fr', H', h3, h4.1, fun n M a w hr hf => wpIn_block (wpIn_mono (h4.2 n M a w hr hf) ?_)⟩
        rintro x a' w' ⟨q1, q2⟩
        cases x <;> first | exact q1.elim | skip
        rename_i i2
        have q1 : i = i2 := q1
        subst q1
        simp only [Exit.inBlock, if_neg hi]
        exact ⟨rfl, q2⟩
  | loop c ih =>
    intro h fr H R K r hr
    simp only [aCode] at hr
    split at hr
    · rename_i live hc
      obtain ⟨x, h1, h2⟩ := some_bind hr
      obtain ⟨e, s, H1⟩ := x
      refine ⟨e, mkFr fr.n live s, H1, h2, rfl, fun n M a w hr hf => wpIn_loop_rounds k ?_⟩
      refine iter_sound (P := P) (ro := ro) (c := c) (live := live) (N := fr.n) (fun s H e s' H' hfs => ?_) k _ _ _ _ _ h1 n M a w hr (hf.restrict live)
      obtain ⟨e2, fr2, H2, h3, h4⟩ := ih h.a _ _ _ _ _ hfs
      simp at h3; obtain ⟨rfl, rfl, rfl⟩ := h3
      exact h4.restrict live
    · simp at hr
  | _ => intro h fr H R K r hr; simp [aCode] at hr

end Go.Proofs.Ytmpbhebhonipkaa.Zq
