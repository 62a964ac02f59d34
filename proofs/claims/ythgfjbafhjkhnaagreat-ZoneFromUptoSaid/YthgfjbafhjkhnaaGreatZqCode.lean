/- Codes and functions: what the evaluator does, the machine does. -/
import Derived.Test.YthgfjbafhjkhnaaGreatZqDraw3
import Derived.LoopNIn
import Derived.RangeFuncLeaves
namespace Go.Proofs.YthgfjbafhjkhnaaGreat.Zq
variable {P : Program} {E : Env} {M : Mp} {H H' : Heap} {w : World} {call : CallT} {ro : Option Nat} {n : Nat} {fr fr' : AFr} {a : Act}

def ExR : Ex → Exit → Prop
  | .normal, .normal => True
  | .ret, .ret => True
  | .exit i, .exit j => i = j
  | _, _ => False

/-- The marks of loops over functions, pushed since the world w0: each stands for a block of deferred calls, which is empty. -/
def Marks (w0 w : World) (ds ds' : List Deferred) : Prop :=
  ∃ rs : List Nat, ds' = rs.map (fun r => { target := .collected r, args := #[] }) ++ ds ∧ rs.Nodup ∧ ∀ r ∈ rs, w0.heap.size ≤ r ∧ w.heap[r]? = some (.deferred (some []))

theorem Marks.refl (w0 w : World) (ds : List Deferred) : Marks w0 w ds ds := ⟨[], rfl, List.nodup_nil, fun r h => by simp at h⟩
theorem Marks.of_eq {w0 w : World} {ds ds' : List Deferred} (h : ds' = ds) : Marks w0 w ds ds' := by rw [h]; exact .refl _ _ _

theorem deferred_kept {M M' : Mp} {H H' : Heap} {w w' : World} (hr : HR M H w) (hs : Stp M H w M' H' w') {r : Nat} {ds : Option (List Deferred)} (h : w.heap[r]? = some (.deferred ds)) : w'.heap[r]? = some (.deferred ds) := by
  rw [hs.frame r (Array.getElem?_eq_some_iff.1 h).1 ?_]
  · exact h
  · intro b e hb hw he
    obtain ⟨k, hk⟩ := hr.get' hb
    have hbr := hr.blk b e k hb hk
    unfold writB at hw
    rw [hk] at hw
    cases k with
    | row c sz opn ro live =>
      obtain ⟨_, _, _, h4⟩ := hbr
      obtain ⟨c', t, fz, g, _⟩ := h4 hw.1
      rw [he, h] at g; simp at g
    | map es clock =>
      obtain ⟨es', g, _⟩ := hbr
      rw [he, h] at g; simp at g
    | iter s pos =>
      have g := hbr.2
      rw [he, h] at g; simp at g
    | loop =>
      obtain ⟨L, g, _⟩ := hbr
      rw [he, h] at g; simp at g

theorem Marks.trans {M1 M2 : Mp} {H1 H2 : Heap} {w0 w1 w2 : World} {ds ds1 ds2 : List Deferred} (h : Marks w0 w1 ds ds1) (hr : HR M1 H1 w1) (hs : Stp M1 H1 w1 M2 H2 w2) (h0 : w0.heap.size ≤ w1.heap.size) (k : Marks w1 w2 ds1 ds2) : Marks w0 w2 ds ds2 := by
  obtain ⟨rs, e1, n1, a1⟩ := h
  obtain ⟨qs, e2, n2, a2⟩ := k
  refine ⟨qs ++ rs, by rw [e2, e1]; simp, ?_, ?_⟩
  · rw [List.nodup_append]
    refine ⟨n2, n1, fun a ha b hb hab => ?_⟩
    subst hab
    have := (a2 a ha).1
    have := (Array.getElem?_eq_some_iff.1 (a1 a hb).2).1
    omega
  · intro r hr'
    rcases List.mem_append.1 hr' with h | h
    · exact ⟨by have := (a2 r h).1; omega, (a2 r h).2⟩
    · exact ⟨(a1 r h).1, deferred_kept hr hs (a1 r h).2⟩

/-- The code, walked from whatever is alike, comes to this. -/
def Runs (P : Program) (ro : Option Nat) (c : Code) (fr : AFr) (H : Heap) (e : Ex) (fr' : AFr) (H' : Heap) : Prop :=
  fr'.n = fr.n ∧ ∀ (n : Nat) (M : Mp) (a : Act) (w : World), HR M H w → FR M fr a.tmps → c.wpIn (Fw ro) n P (fun x a' w' => ExR e x ∧ ∃ M', Stp M H w M' H' w' ∧ FR M' fr' a'.tmps ∧ Marks w w' a.defers a'.defers) a w

theorem look_mkL : ∀ (live : List Nat) (j : Nat) (s : List (Option Value)) (t : Nat), look (mkL live j s) t = match live.idxOf? t with | some i => (s[j + i]?).join | none => none
  | [], j, s, t => by simp [mkL, look]
  | x :: r, j, s, t => by
    simp only [mkL, look, List.idxOf?_cons]
    by_cases h : x = t
    · simp [h]
    · have hb : (x == t) = false := by simpa using h
      rw [if_neg h, look_mkL r (j + 1) s t, hb]
      cases r.idxOf? t with
      | none => simp
      | some i => simp [Nat.add_comm, Nat.add_left_comm]

theorem get_mkFr {n : Nat} {live : List Nat} {fr : AFr} {t : Nat} {v : Value} (h : (mkFr n live (live.map fr.get)).get t = some v) : fr.get t = some v := by
  unfold AFr.get mkFr at h
  simp only at h
  rw [look_mkL] at h
  split at h
  · rename_i i hi
    have hi' := List.idxOf?_eq_some_iff.1 hi
    simp only [Nat.zero_add, List.getElem?_map] at h
    obtain ⟨hl, ht, _⟩ := hi'
    rw [List.getElem?_eq_getElem hl] at h
    simp at h
    have : live[i] = t := by simpa using ht
    rw [this] at h
    exact h
  · simp at h

theorem FR.restrict {tmps : Array Value} (h : FR M fr tmps) (live : List Nat) : FR M (mkFr fr.n live (live.map fr.get)) tmps :=
  ⟨h.size, fun t v hv => h.get t v (get_mkFr hv)⟩

theorem Runs.restrict {c : Code} {e : Ex} (h : Runs P ro c fr H e fr' H') (live : List Nat) : Runs P ro c fr H e (mkFr fr.n live (live.map fr'.get)) H' := by
  refine ⟨rfl, fun n M a w hr hf => wpIn_mono (h.2 n M a w hr hf) fun x a' w' ⟨h1, M', h2, h3, h4⟩ => ⟨h1, M', h2, ?_, h4⟩⟩
  have := h3.restrict live
  rw [h.1] at this; exact this

/-- The evaluator's answer stands behind a way through the code. -/
def Sound (P : Program) (ro : Option Nat) (c : Code) (m : AFr → Heap → (R : Type) → (Ex → AFr → Heap → Option R) → Option R) : Prop :=
  ∀ (fr : AFr) (H : Heap) (R : Type) (K : Ex → AFr → Heap → Option R) (r : R), m fr H R K = some r → ∃ e fr' H', K e fr' H' = some r ∧ Runs P ro c fr H e fr' H'

theorem join_sound {c : Code} {j : Option (List Nat)} {m : AFr → Heap → (R : Type) → (Ex → AFr → Heap → Option R) → Option R} (h : Sound P ro c m) :
    Sound P ro c (fun fr H _ K => joinK fr.n j (fun R K => m fr H R K) K) := by
  intro fr H R K r hr
  unfold joinK at hr
  cases j with
  | none => exact h fr H R K r hr
  | some live =>
    simp only at hr
    obtain ⟨s, h1, h2⟩ := some_bind hr
    obtain ⟨e, fr', H', h3, h4⟩ := h fr H St _ s h1
    simp at h3; subst h3
    exact ⟨e, _, H', h2, h4.restrict live⟩

theorem rounds_mono {F : Fence} {c : Code} {Q Q' : Exit → Act → World → Prop} (hq : ∀ x a w, Q x a w → Q' x a w) : ∀ (m : Nat) (a : Act) (w : World), Code.roundsIn F n P c Q m a w → Code.roundsIn F n P c Q' m a w
  | 0, _, _, h => h
  | m + 1, a, w, h => by
    refine wpIn_mono (c := c) h fun x a' w' hx => ?_
    cases x with
    | normal => exact rounds_mono hq m a' w' hx
    | _ => exact hq _ _ _ hx

theorem iter_sound {c : Code} {live : List Nat} {N : Nat} {f : List (Option Value) × Heap → Option (Ex × List (Option Value) × Heap)}
    (hf : ∀ s H e s' H', f (s, H) = some (e, s', H') → Runs P ro c (mkFr N live s) H e (mkFr N live s') H') :
    ∀ (k : Nat) (s : List (Option Value)) (H : Heap) (e : Ex) (s' : List (Option Value)) (H' : Heap), aIter k f (s, H) = some (e, s', H') → ∀ (n : Nat) (M : Mp) (a : Act) (w : World), HR M H w → FR M (mkFr N live s) a.tmps →
      Code.roundsIn (Fw ro) n P c (fun x a' w' => ExR e x ∧ ∃ M', Stp M H w M' H' w' ∧ FR M' (mkFr N live s') a'.tmps ∧ Marks w w' a.defers a'.defers) k a w := by
  intro k
  induction k with
  | zero => intro s H e s' H' h; simp [aIter] at h
  | succ k ih =>
    intro s H e s' H' h n M a w hr hfr
    simp only [aIter] at h
    obtain ⟨x, h1, h2⟩ := some_bind h
    obtain ⟨e1, s1, H1⟩ := x
    have hrun := hf s H e1 s1 H1 h1
    rw [roundsIn_succ]
    refine wpIn_mono (hrun.2 n M a w hr hfr) ?_
    rintro x a' w' ⟨q1, M', q2, q3, q4⟩
    cases e1 with
    | normal =>
      cases x <;> first | exact q1.elim | skip
      simp only at h2
      refine rounds_mono ?_ k a' w' (ih s1 H1 e s' H' h2 n M' a' w' q2.hr q3)
      rintro x2 a2 w2 ⟨r1, M2, r2, r3, r4⟩
      exact ⟨r1, M2, q2.trans r2, r3, q4.trans q2.hr r2 q2.size r4⟩
    | exit i =>
      cases x <;> first | exact q1.elim | skip
      simp at h2; obtain ⟨rfl, rfl, rfl⟩ := h2
      exact ⟨q1, M', q2, q3, q4⟩
    | ret =>
      cases x <;> first | exact q1.elim | skip
      simp at h2; obtain ⟨rfl, rfl, rfl⟩ := h2
      exact ⟨q1, M', q2, q3, q4⟩

theorem put_n (fr : AFr) (d : Option Nat) (v : Value) : (fr.put? d v).n = fr.n := by cases d <;> rfl
theorem oper_n {ops : Array Oper} {o : Oper} (h : aOper E call ops o fr H = some (fr', H')) : fr'.n = fr.n := by
  unfold aOper at h
  split at h
  · obtain ⟨b, hb, h2⟩ := some_bind h
    cases b with
    | true =>
      simp only [if_true] at h2
      obtain ⟨r, hr, h3⟩ := some_bind h2
      simp at h3; obtain ⟨rfl, _⟩ := h3
      exact put_n _ _ _
    | false => simp at h2; obtain ⟨rfl, _⟩ := h2; exact put_n _ _ _
  · simp at h
theorem ops_n {ops : Array Oper} : ∀ (os : List Oper) (fr : AFr) (H : Heap), aOps E call ops os fr H = some (fr', H') → fr'.n = fr.n
  | [], fr, H, h => by simp [aOps] at h; rw [h.1]
  | o :: os, fr, H, h => by
    simp only [aOps] at h
    obtain ⟨r, h1, h2⟩ := some_bind h
    exact (ops_n os r.1 r.2 h2).trans (oper_n h1)

theorem Stp.hidden {M : Mp} {H : Heap} {w : World} (h : HR M H w) (o : Obj) : Stp M H w M H (w.alloc o) := by
  have hh : ∀ j, j < w.heap.size → (w.alloc o).heap[j]? = w.heap[j]? := fun j hj => by
    show (w.heap.push _)[j]? = _
    rw [Array.getElem?_push, if_neg (by omega)]
  refine ⟨.refl M, ⟨h.len, fun b e k hb hk => (h.blk b e k hb hk).same fun hlv => hh _ (h.blk_lt hb ?_), h.sep⟩, rfl, rfl, rfl, by simp, Nat.le_refl _, fun c hc _ => hh c hc, fun b e hb hw _ => ⟨b, e, hb, hw, rfl⟩, fun _ h => ⟨h, rfl⟩, fun b e hb hw _ => ⟨b, e, hb, hw, rfl⟩⟩
  unfold liveB; rw [hk]; cases k <;> first | exact hlv | trivial

end Go.Proofs.YthgfjbafhjkhnaaGreat.Zq
