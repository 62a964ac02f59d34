/- What the evaluator is told, checked by a program. -/
import Derived.Test.YthgfjbafhjkhnaaGreatZqFn
namespace Go.Proofs.YthgfjbafhjkhnaaGreat.Zq

def kOk (P : Program) (t : TypeId) : TK → TypeDesc → Bool
  | .bool, .bool => true
  | .int k, .int k' => decide (k = k')
  | .string, .string => true
  | .pointer e, .pointer e' => e == e'
  | .slice e, .slice e' => e == e'
  | .array n e, .array n' e' => n == n' && e == e' && !P.eqGuardType P.depth t
  | .map k e, .map k' e' => k == k' && e == e'
  | .struct fs, .struct gs => decide (fs = gs.toList.map (fun f => (f.offset, f.type))) && gs.toList.all (fun f => f.name != "_") && !P.stoodInHeld t && !P.eqGuardType P.depth t && (gs.toList.mapM (fun f => (P.info? f.type).map fun i => (f.offset, i.size))).isSome
  | .func, .func _ _ _ => true
  | .iface, .interface _ => true
  | _, _ => false

theorem kOk_ok {P : Program} {t : TypeId} {k : TK} {d : TypeDesc} (h : kOk P t k d = true) : KOk P t k d := by
  unfold kOk at h
  split at h
  case h_8 fs gs =>
    simp only [Bool.and_eq_true, decide_eq_true_eq, Bool.not_eq_true', List.all_eq_true, bne_iff_ne] at h
    obtain ⟨⟨⟨⟨h1, h2⟩, h3⟩, h4⟩, h5⟩ := h
    exact ⟨h1, h2, h3, h4, h5⟩
  all_goals simp_all [KOk]

def isAggV : Value → Bool
  | .agg _ => true
  | _ => false

def tiOk (P : Program) (t : TypeId) (ti : TI) : Bool :=
  match P.info? t, P.underlying t with
  | some i, some d =>
    match i.zero with
    | some z => i.size == ti.size && i.bytes == ti.bytes && sameL z.cells.toList ti.zero && ti.zero.all flat1 && ti.zero.length == ti.size && (isAggK ti.k == isAggV z) && kOk P t ti.k d
    | none => false
  | _, _ => false

theorem tiOk_ok {P : Program} {t : TypeId} {ti : TI} (h : tiOk P t ti = true) : ∃ i d z, TyOk P t ti i d z := by
  unfold tiOk at h
  split at h
  · rename_i i d hi hd
    split at h
    · rename_i z hz
      simp only [Bool.and_eq_true, beq_iff_eq] at h
      obtain ⟨⟨⟨⟨⟨⟨h1, h2⟩, h3⟩, h4⟩, h5⟩, h6⟩, h7⟩ := h
      refine ⟨i, d, z, hi, hd, h1, h2, hz, sameL_eq h3, h4, h5, ?_, kOk_ok h7⟩
      rw [h6]
      unfold isAggV
      split
      · exact ⟨fun _ => ⟨_, rfl⟩, fun _ => rfl⟩
      · rename_i hn
        exact ⟨fun h => by simp at h, fun ⟨cs, hc⟩ => absurd hc (hn cs)⟩
    · simp at h
  · simp at h

/-- The types as a table; the functions by their numbers. -/
def tyOf (tab : List (Option TI)) (t : TypeId) : Option TI := (tab[t]?).join
def tabOk (P : Program) : List (Option TI) → Nat → Bool
  | [], _ => true
  | none :: r, i => tabOk P r (i + 1)
  | some ti :: r, i => tiOk P i ti && tabOk P r (i + 1)
theorem tabOk_ok {P : Program} : ∀ (l : List (Option TI)) (i : Nat), tabOk P l i = true → ∀ j ti, l[j]? = some (some ti) → tiOk P (i + j) ti = true
  | [], i, _, j, ti, h => by simp at h
  | none :: r, i, h, j, ti, hj => by
    cases j with
    | zero => simp at hj
    | succ j =>
      have := tabOk_ok r (i + 1) h j ti (by simpa using hj)
      rw [show i + (j + 1) = i + 1 + j by omega]; exact this
  | some t :: r, i, h, j, ti, hj => by
    simp only [tabOk, Bool.and_eq_true] at h
    cases j with
    | zero => simp at hj; subst hj; exact h.1
    | succ j =>
      have := tabOk_ok r (i + 1) h.2 j ti (by simpa using hj)
      rw [show i + (j + 1) = i + 1 + j by omega]; exact this

def fnOf (P : Program) (l : List FuncId) (f : FuncId) : Option Func := if l.contains f then P.funcs[f]? else none
def fnsOk (P : Program) (l : List FuncId) : Bool := l.all fun f => match P.funcs[f]? with | some fn => !(fn.name == "runtime.NumGoroutine") | none => true

theorem env_ok {P : Program} {tab : List (Option TI)} {l : List FuncId} {hint : FuncId → Hint} {ext : FuncId → Option (List Value → Heap → Option (Value × Heap))} (h1 : tabOk P tab 0 = true) (h2 : fnsOk P l = true) (h3 : P.follows .mixedOrders = true) :
    Env.Ok { ty := tyOf tab, fn := fnOf P l, hint, ext } P := by
  refine ⟨fun t ti ht => ?_, fun f fn hf => ?_, h3⟩
  · have : tab[t]? = some (some ti) := by
      unfold tyOf at ht
      cases hq : tab[t]? with
      | none => simp [hq] at ht
      | some o => simp [hq] at ht; rw [ht]
    have := tabOk_ok tab 0 h1 t ti this
    rw [Nat.zero_add] at this
    exact tiOk_ok this
  · simp only [fnOf] at hf
    split at hf
    · rename_i hc
      refine ⟨hf, ?_⟩
      have := List.all_eq_true.1 h2 f (by simpa using hc)
      rw [hf] at this
      simpa using this
    · simp at hf

theorem extNone {P : Program} {ty : TypeId → Option TI} {fn : FuncId → Option Func} {hint : FuncId → Hint} : ExtOk P { ty, fn, hint, ext := fun _ => none } := fun f x h => by simp at h

end Go.Proofs.YthgfjbafhjkhnaaGreat.Zq
