/- The fast evaluator's answers are the evaluator's: operations, codes, functions. -/
import Derived.Test.YtjanjgegchgjiaaGreatDoorZqFast2
namespace Go.Proofs.YtjanjgegchgjiaaGreatDoor.Zq
variable {E : Env} {n : Nat} {t : Tr} {H : Heap} {N : Nat} {l : FL} {call : CallT}

theorem keepV_ok {v v' : Value} {d : Dl} (hk : keepV v = some (v', d)) : some (v, H) = some (v', applyL H d) := by cases hk; rfl

theorem fOp_spec (o : Op) : fOp E l n t o = fOpS E l n t o := by
  cases o with
  | makeFunc f a b => cases f <;> rfl
  | makeMap ty r => cases r <;> rfl
  | next x st => cases st <;> rfl
  | _ => rfl
theorem fOp_ok (h : Rl n t H) {o : Op} {v : Value} {d : Dl} (hk : fOp E l n t o = some (v, d)) : aOp E call ⟨N, l⟩ o H = some (v, applyL H d) := by
  rw [fOp_spec] at hk
  unfold fOpS at hk
  split at hk <;> simp only [aOp, ← fopv_eq (N := N), ← fopvs_eq (N := N), ← fopvo_eq (N := N), ← fparts_eq (N := N)]
  case h_1 => exact ob_imp (fun a hk => keepV_ok hk) hk
  case h_2 => exact ob_imp (fun a hk => keepV_ok hk) hk
  case h_3 => exact ob_imp (fun c hk => ifV_imp (fun hk => ob_imp (fun a hk => keepV_ok hk) hk) (fun hk => ob_imp (fun a hk => keepV_ok hk) hk) hk) hk
  case h_4 => rw [fAlloc_eq h, hk]; rfl
  case h_5 => exact ob_imp (fun a hk => by rw [fBox_eq h, hk]; rfl) hk
  case h_6 => exact ob_imp (fun a hk => ob_imp (fun b hk => keepV_ok hk) hk) hk
  case h_7 => exact ob_imp (fun a hk => fBuildSlice_ok h hk) hk
  case h_8 => exact ob_imp (fun a hk => by rw [ob_eq] at hk; obtain ⟨q, h1, h2⟩ := some_bind hk; rw [fLoad_ok h h1]; exact keepV_ok h2) hk
  case h_9 =>
    refine ob_imp (fun a hk => ob_imp (fun b hk => ?_) hk) hk
    rw [ob_eq] at hk
    obtain ⟨q, h1, h2⟩ := some_bind hk
    rw [fStore_ok h h1]; cases h2; rfl
  case h_10 =>
    refine ob_imp (fun a hk => ?_) hk
    unfold fNil at hk
    split at hk
    · cases hk; rfl
    · cases hk; rfl
    · cases hk; rfl
    · cases hk
  case h_11 => exact ob_imp (fun a hk => ob_imp (fun b hk => ob_imp (fun c hk => keepV_ok hk) hk) hk) hk
  case h_12 => exact ob_imp (fun a hk => ob_imp (fun b hk => keepV_ok hk) hk) hk
  case h_13 => exact ob_imp (fun a hk => ob_imp (fun b hk => keepV_ok hk) hk) hk
  case h_14 => exact ob_imp (fun a hk => ob_imp (fun b hk => by cases hk; rfl) hk) hk
  case h_15 => exact ob_imp (fun a hk => ob_imp (fun b hk => fMakeSlice_ok h hk) hk) hk
  case h_16 => exact ob_imp (fun a hk => ob_imp (fun b hk => ob_imp (fun c hk => ob_imp (fun d hk => by rw [ob_eq] at hk; obtain ⟨q, h1, h2⟩ := some_bind hk; rw [fSlice_ok h h1]; exact keepV_ok h2) hk) hk) hk) hk
  case h_17 => cases hk; rw [h.len]; rfl
  case h_18 => exact ob_imp (fun a hk => ob_imp (fun b hk => by rw [ob_eq] at hk; obtain ⟨q, h1, h2⟩ := some_bind hk; rw [fLookup_ok h h1]; exact keepV_ok h2) hk) hk
  case h_19 =>
    refine ob_imp (fun a hk => ob_imp (fun b hk => ob_imp (fun c hk => ?_) hk) hk) hk
    rw [ob_eq] at hk
    obtain ⟨q, h1, h2⟩ := some_bind hk
    rw [fMapUpdate_ok h h1]; cases h2; rfl
  case h_20 => exact ob_imp (fun a hk => ob_imp (fun b hk => keepV_ok hk) hk) hk
  case h_21 => exact ob_imp (fun a hk => ob_imp (fun b hk => keepV_ok hk) hk) hk
  case h_22 => exact ob_imp (fun a hk => ob_imp (fun b hk => ob_imp (fun c hk => keepV_ok hk) hk) hk) hk
  case h_23 => exact ob_imp (fun a hk => ob_imp (fun b hk => ob_imp (fun c hk => keepV_ok hk) hk) hk) hk
  case h_24 => exact ob_imp (fun a hk => ob_imp (fun b hk => keepV_ok hk) hk) hk
  case h_25 => exact ob_imp (fun a hk => fRange_ok h hk) hk
  case h_26 => exact ob_imp (fun a hk => fNext_ok h hk) hk
  case h_27 =>
    refine ob_imp (fun a hk => ob_imp (fun b hk => ob_imp (fun c hk => ?_) hk) hk) hk
    rw [ob_eq] at hk
    obtain ⟨q, h1, h2⟩ := some_bind hk
    rw [fMapUpdate_ok h h1]; cases h2; rfl
  case h_28 =>
    rename_i c
    rcases c with ⟨ce, args, ats⟩
    unfold fBuiltin at hk
    dsimp only at hk ⊢
    split at hk
    case h_1 =>
      refine ob_imp (fun vs hk => ?_) hk
      split at hk
      · exact fAppend_ok h hk
      · cases hk
    case h_2 =>
      refine ob_imp (fun vs hk => ?_) hk
      split at hk
      · exact fCopy_ok h hk
      · cases hk
    case h_3 =>
      refine ob_imp (fun vs hk => ?_) hk
      split at hk
      · dsimp only
        split
        · rename_i e1 e2
          simp_all
          rw [ob_eq] at hk
          obtain ⟨q, h1, h2⟩ := some_bind hk
          rw [fLen_ok h h1]
          exact keepV_ok h2
        · simp_all
      · cases hk
    case h_4 =>
      refine ob_imp (fun vs hk => ?_) hk
      split at hk
      · dsimp only
        split
        · simp_all
          rw [ob_eq] at hk
          obtain ⟨q, h1, h2⟩ := some_bind hk
          rw [fCap_ok h h1]
          exact keepV_ok h2
        · simp_all
      · cases hk
    case h_5 =>
      refine ob_imp (fun vs hk => ?_) hk
      split at hk
      · exact ob_imp (fun b hk => keepV_ok hk) hk
      · cases hk
    case h_6 =>
      refine ob_imp (fun vs hk => ?_) hk
      split at hk
      · exact ob_imp (fun b hk => keepV_ok hk) hk
      · cases hk
    case h_7 =>
      refine ob_imp (fun vs hk => ?_) hk
      split at hk
      · rw [ob_eq] at hk
        obtain ⟨q, h1, h2⟩ := some_bind hk
        have g1 := fClear_ok h h1
        dsimp only
        rw [g1]; cases h2; rfl
      · cases hk
    case h_8 => cases hk
  case h_29 => cases hk

theorem fWanted_eq {ops : Array Oper} {o : Oper} : fWanted ops l o = aWanted ops ⟨N, l⟩ o := by
  have e : fWanted ops l o = fWantedR o.guard ops l := rfl
  rw [e]
  unfold aWanted
  cases o.guard with
  | none => rfl
  | some g =>
    rcases g with ⟨j, want⟩
    unfold fWantedR
    dsimp only
    cases (ops[j]?).bind (·.dst) with
    | none => rfl
    | some d =>
      dsimp only
      rw [ob_eq, flook_eq]; rfl
theorem isVC_some {o : Op} {x : Operand × Array Operand} (h : isVC o = some x) : ∃ ats, o = .call ⟨.value x.1, x.2, ats⟩ := by
  cases o with
  | call c =>
    rcases c with ⟨ce, args, ats⟩
    cases ce with
    | value f => cases h; exact ⟨ats, rfl⟩
    | _ => cases h
  | _ => cases h
theorem fPutOk_eq {d : Option Nat} : fPutOk N d = putOk ⟨N, l⟩ d := by
  cases d with
  | none => rfl
  | some d =>
    have e : fPutOk N (some d) = Nat.ble (Nat.succ d) N := rfl
    rw [e]
    simp only [putOk]
    by_cases h : d < N
    · rw [decide_eq_true h]; exact Nat.ble_eq_true_of_le h
    · rw [decide_eq_false h]
      cases hb : Nat.ble (Nat.succ d) N with
      | false => rfl
      | true => exact absurd (Nat.le_of_ble_eq_true hb) h
theorem fput_eq {d : Option Nat} {v : Value} : AFr.put? ⟨N, l⟩ d v = ⟨N, fput l d v⟩ := by cases d <;> rfl

/-- Calls, in both. -/
def CallF (call : CallT) (fc : FCall) : Prop := ∀ tg args n t K r, fc tg args n t K = some r → ∀ H, Rl n t H → ∃ v n' t' H', Rl n' t' H' ∧ call tg args H = some (v, H') ∧ K v n' t' = some r
variable {fc : FCall} (hC : CallF call fc)
include hC

theorem fOpK_ok (h : Rl n t H) {d : Option Nat} {o : Op} {K : FL → Nat → Tr → Option R} {r : R} (hk : fOpK E fc l n t d o K = some r) :
    ∃ v n' t' H', Rl n' t' H' ∧ K (fput l d v) n' t' = some r ∧ aOp E call ⟨N, l⟩ o H = some (v, H') := by
  unfold fOpK at hk
  cases hvc : isVC o with
  | none =>
    rw [hvc] at hk
    have hk2 : (ob (fOp E l n t o) fun x => Prod.rec (fun v dl => fApp n t dl fun n t => K (fput l d v) n t) x) = some r := hk
    rw [ob_eq] at hk2
    obtain ⟨x, h1, hk⟩ := some_bind hk2
    obtain ⟨v, dl⟩ := x
    obtain ⟨n', t', g1, g2⟩ := fApp_ok h hk
    exact ⟨v, n', t', _, g1, g2, fOp_ok h h1⟩
  | some x =>
    rw [hvc] at hk
    obtain ⟨f, args⟩ := x
    obtain ⟨ats, rfl⟩ := isVC_some hvc
    have hk2 : (ob (fopvs l args.toList) fun vs => ob (fopv l f) fun f => fGo fc l n t d vs f K) = some r := hk
    rw [ob_eq] at hk2
    obtain ⟨vs, h1, hk2⟩ := some_bind hk2
    rw [ob_eq] at hk2
    obtain ⟨fv, h2, hk2⟩ := some_bind hk2
    rw [fopvs_eq (N := N)] at h1
    rw [fopv_eq (N := N)] at h2
    simp only [aOp, h1, h2, Option.bind_some]
    unfold fGo at hk2
    split at hk2
    · obtain ⟨v, n', t', H', g1, g2, g3⟩ := hC _ _ _ _ _ _ hk2 H h
      exact ⟨v, n', t', H', g1, g3, g2⟩
    · obtain ⟨v, n', t', H', g1, g2, g3⟩ := hC _ _ _ _ _ _ hk2 H h
      exact ⟨v, n', t', H', g1, g3, g2⟩
    · cases hk2
theorem fOper_ok (h : Rl n t H) {ops : Array Oper} {o : Oper} {K : FL → Nat → Tr → Option R} {r : R} (hk : fOper E fc N ops o l n t K = some r) :
    ∃ l' n' t' H', Rl n' t' H' ∧ K l' n' t' = some r ∧ aOper E call ops o ⟨N, l⟩ H = some (⟨N, l'⟩, H') := by
  obtain ⟨h1, h2⟩ := brec_some (b := fPutOk N o.dst) hk
  rw [ob_eq] at h2
  obtain ⟨b, h3, h4⟩ := some_bind h2
  rw [fPutOk_eq (l := l)] at h1
  rw [fWanted_eq (N := N)] at h3
  simp only [aOper, h1, if_true, h3, Option.bind_some]
  cases b with
  | false => exact ⟨_, n, t, H, h, h4, by simp [fput_eq]⟩
  | true =>
    obtain ⟨v, n', t', H', g1, g2, g3⟩ := fOpK_ok (N := N) hC h h4
    exact ⟨_, n', t', H', g1, g2, by simp [g3, fput_eq]⟩
theorem fOps_ok {ops : Array Oper} {r : R} : ∀ (os : List Oper) (l : FL) (n : Nat) (t : Tr) (H : Heap) (K : FL → Nat → Tr → Option R), Rl n t H → fOps E fc N ops os l n t K = some r →
    ∃ l' n' t' H', Rl n' t' H' ∧ K l' n' t' = some r ∧ aOps E call ops os ⟨N, l⟩ H = some (⟨N, l'⟩, H')
  | [], l, n, t, H, K, h, hk => ⟨l, n, t, H, h, hk, rfl⟩
  | o :: os, l, n, t, H, K, h, hk => by
    have e : fOps E fc N ops (o :: os) l n t K = fOper E fc N ops o l n t fun l n t => fOps E fc N ops os l n t K := rfl
    rw [e] at hk
    obtain ⟨l1, n1, t1, H1, g1, g2, g3⟩ := fOper_ok hC h hk
    obtain ⟨l2, n2, t2, H2, q1, q2, q3⟩ := fOps_ok os l1 n1 t1 H1 K g1 g2
    exact ⟨l2, n2, t2, H2, q1, q2, by simp only [aOps, g3, Option.bind_some, q3]⟩

omit hC in
theorem fResv_ok {r : R} : ∀ (os : List Oper) (n : Nat) (t : Tr) (H : Heap) (K : List (Option Value) → Nat → Tr → Option R), Rl n t H → fResv E os n t K = some r →
    ∃ ps n' t' H', Rl n' t' H' ∧ K ps n' t' = some r ∧ aResv E os H = some (ps, H')
  | [], n, t, H, K, h, hk => ⟨[], n, t, H, h, hk, rfl⟩
  | o :: os, n, t, H, K, h, hk => by
    have e : fResv E (o :: os) n t K = (match o.op with
      | .alloc ty => ob (fAlloc E ty n) fun x => fApp n t x.2 fun n t => fResv E os n t fun ps n t => K (some x.1 :: ps) n t
      | _ => fResv E os n t fun ps n t => K (none :: ps) n t) := rfl
    rw [e] at hk
    simp only [aResv]
    split at hk
    · rename_i ty heq
      rw [ob_eq] at hk
      obtain ⟨x, h1, hk⟩ := some_bind hk
      obtain ⟨n1, t1, g1, g2⟩ := fApp_ok h hk
      obtain ⟨ps, n2, t2, H2, q1, q2, q3⟩ := fResv_ok os n1 t1 _ _ g1 g2
      refine ⟨_, n2, t2, H2, q1, q2, ?_⟩
      simp only [heq, fAlloc_eq h, h1, Option.map_some, Option.bind_some, q3]
    · obtain ⟨ps, n2, t2, H2, q1, q2, q3⟩ := fResv_ok os n t H _ h hk
      refine ⟨_, n2, t2, H2, q1, q2, ?_⟩
      split
      · rename_i hne _ ty heq
        exact absurd heq (hne ty)
      · simp only [q3, Option.bind_some]

theorem fOperD_ok (h : Rl n t H) {ops : Array Oper} {p : Option Value} {o : Oper} {K : FL → Nat → Tr → Option R} {r : R} (hk : fOperD E fc N ops p o l n t K = some r) :
    ∃ l' n' t' H', Rl n' t' H' ∧ K l' n' t' = some r ∧ aOperD E call ops p o ⟨N, l⟩ H = some (⟨N, l'⟩, H') := by
  obtain ⟨h1, h2⟩ := brec_some (b := fPutOk N o.dst) hk
  rw [ob_eq] at h2
  obtain ⟨b, h3, h4⟩ := some_bind h2
  rw [fPutOk_eq (l := l)] at h1
  rw [fWanted_eq (N := N)] at h3
  simp only [aOperD, h1, if_true, h3, Option.bind_some]
  cases b with
  | false => exact ⟨_, n, t, H, h, h4, by simp [fput_eq]⟩
  | true =>
    cases p with
    | some v => exact ⟨_, n, t, H, h, h4, by simp [aOpD, fput_eq]⟩
    | none =>
      obtain ⟨v, n', t', H', g1, g2, g3⟩ := fOpK_ok (N := N) hC h h4
      exact ⟨_, n', t', H', g1, g2, by simp [aOpD, g3, fput_eq]⟩

/-- What was met, in both. -/
def TrR (N : Nat) (x : FL × Nat × Tr) (y : AFr × Heap) : Prop := y.1 = ⟨N, x.1⟩ ∧ Rl x.2.1 x.2.2 y.2
def TrL (N : Nat) (a : List (FL × Nat × Tr)) (b : List (AFr × Heap)) : Prop := a.length = b.length ∧ ∀ (i : Nat) x y, a[i]? = some x → b[i]? = some y → TrR N x y
omit hC in
theorem TrL.cons {x y a b} (h : TrR N x y) (k : TrL N a b) : TrL N (x :: a) (y :: b) := by
  refine ⟨by simp [k.1], fun i u v hu hv => ?_⟩
  cases i with
  | zero => simp at hu hv; subst hu; subst hv; exact h
  | succ i => exact k.2 i u v (by simpa using hu) (by simpa using hv)
omit hC in
theorem TrL.get {a b} (h : TrL N a b) {i : Nat} {x} (hx : a[i]? = some x) : ∃ y, b[i]? = some y ∧ TrR N x y := by
  have hl := (List.getElem?_eq_some_iff.1 hx).1
  have hb : i < b.length := by rw [← h.1]; exact hl
  exact ⟨b[i], List.getElem?_eq_getElem hb, h.2 i x _ hx (List.getElem?_eq_getElem hb)⟩

theorem fOpsT_ok {ops : Array Oper} {r : R} : ∀ (os : List Oper) (ps : List (Option Value)) (l : FL) (n : Nat) (t : Tr) (H : Heap) (K : List (FL × Nat × Tr) → Option R), Rl n t H → fOpsT E fc N ops os ps l n t K = some r →
    ∃ tr tr', TrL N tr tr' ∧ K tr = some r ∧ aOpsT E call ops os ps ⟨N, l⟩ H = some tr'
  | [], ps, l, n, t, H, K, h, hk => ⟨_, [(⟨N, l⟩, H)], TrL.cons ⟨rfl, h⟩ ⟨rfl, fun i x y hx => by simp at hx⟩, hk, rfl⟩
  | o :: os, ps, l, n, t, H, K, h, hk => by
    have e : fOpsT E fc N ops (o :: os) ps l n t K = fOperD E fc N ops (ps.headD none) o l n t fun l' n' t' => fOpsT E fc N ops os ps.tail l' n' t' fun tr => K ((l, n, t) :: tr) := rfl
    rw [e] at hk
    obtain ⟨l1, n1, t1, H1, g1, g2, g3⟩ := fOperD_ok hC h hk
    obtain ⟨tr, tr', q1, q2, q3⟩ := fOpsT_ok os ps.tail l1 n1 t1 H1 _ g1 g2
    exact ⟨_, _, TrL.cons (y := (⟨N, l⟩, H)) ⟨rfl, h⟩ q1, q2, by simp only [aOpsT, g3, Option.bind_some, q3]⟩

omit hC in
theorem fAgain_ok {ops : Array Oper} {tr : List (FL × Nat × Tr)} {tr' : List (AFr × Heap)} (h : TrL N tr tr') {j c : Nat} (hk : fAgain E ops tr j c = true) : aAgain E ops tr' j c = true := by
  unfold fAgain at hk
  split at hk
  · rename_i o l1 n1 t1 l2 n2 t2 l3 n3 t3 h1 h2 h3 h4
    obtain ⟨⟨f1, G1⟩, g1, r1⟩ := h.get h2
    obtain ⟨⟨f2, G2⟩, g2, r2⟩ := h.get h3
    obtain ⟨⟨f3, G3⟩, g3, r3⟩ := h.get h4
    have e1 : f1 = ⟨N, l1⟩ := r1.1
    have e2 : f2 = ⟨N, l2⟩ := r2.1
    subst e1; subst e2
    unfold aAgain
    rw [h1, g1, g2, g3]
    dsimp only
    rw [← fWanted_eq]
    split at hk
    · rename_i hw
      rw [hw]
      dsimp only
      split at hk
      · rename_i v dl d ho hd
        rw [fOp_ok (call := fun _ _ _ => none) (N := N) r3.2 ho, hd]
        dsimp only
        split at hk
        · rename_i u hu
          have : AFr.get ⟨N, l2⟩ d = some u := by rw [← hu, flook_eq]; rfl
          rw [this]; exact hk
        · cases hk
      · cases hk
    · rename_i hw
      rw [hw]
    · cases hk
  · cases hk

theorem fDraw_ok (h : Rl n t H) {ops : Array Oper} {K : FL → Nat → Tr → Option R} {r : R} (hk : fDraw E fc N ops l n t K = some r) :
    ∃ l' n' t' H', Rl n' t' H' ∧ K l' n' t' = some r ∧ aDraw E call ops ⟨N, l⟩ H = some (⟨N, l'⟩, H') := by
  obtain ⟨h1, h2⟩ := brec_some (b := drawOk ops) hk
  obtain ⟨ps, n1, t1, H1, g1, g2, g3⟩ := fResv_ok _ _ _ _ _ h h2
  obtain ⟨tr, tr', q1, q2, q3⟩ := fOpsT_ok hC _ _ _ _ _ _ _ g1 g2
  obtain ⟨p1, p2⟩ := brec_some q2
  rw [ob_eq] at p2
  obtain ⟨x, k1, k2⟩ := some_bind p2
  obtain ⟨lx, nx, tx⟩ := x
  rw [List.getLast?_eq_getElem?] at k1
  obtain ⟨⟨fy, Hy⟩, y1, y2, y3⟩ := q1.get k1
  have e : fy = ⟨N, lx⟩ := y2
  subst e
  refine ⟨lx, nx, tx, Hy, y3, k2, ?_⟩
  unfold aDraw
  rw [if_pos h1, g3]
  simp only [Option.bind_some]
  rw [q3]
  simp only [Option.bind_some]
  rw [if_pos, List.getLast?_eq_getElem?, ← q1.1, y1]
  rw [List.all_eq_true] at p1 ⊢
  intro p hp
  have := p1 p hp
  rw [List.all_eq_true] at this ⊢
  exact fun c hc => fAgain_ok q1 (this c hc)

omit hC in
theorem fmk_eq (l : FL) : ∀ (live : List Nat) (j : Nat) (pre : List (Option Value)), pre.length = j → mkL live j (pre ++ live.map (AFr.get ⟨N, l⟩)) = fmk live l
  | [], _, _, _ => rfl
  | a :: r, j, pre, hj => by
    have e : fmk (a :: r) l = (a, flook l a) :: fmk r l := rfl
    rw [e]
    simp only [mkL]
    have h2 := fmk_eq l r (j + 1) (pre ++ [AFr.get ⟨N, l⟩ a]) (by simp [hj])
    rw [List.append_assoc] at h2
    simp only [List.map_cons] at h2 ⊢
    rw [show pre ++ AFr.get ⟨N, l⟩ a :: List.map (AFr.get ⟨N, l⟩) r = pre ++ ([AFr.get ⟨N, l⟩ a] ++ List.map (AFr.get ⟨N, l⟩) r) from rfl, h2]
    congr 1
    subst hj
    rw [List.getElem?_append_right (Nat.le_refl _), Nat.sub_self, flook_eq]; rfl
omit hC in
theorem mkFr_eq' (live : List Nat) (l : FL) : mkFr N live (live.map (AFr.get ⟨N, l⟩)) = ⟨N, fmk live l⟩ := by
  unfold mkFr
  have := fmk_eq (N := N) l live 0 [] rfl
  rw [List.nil_append] at this
  rw [this]

/-- What a code comes to, in both. -/
def CodeF (E : Env) (call : CallT) (fc : FCall) (k : Nat) (out : Bool) (c : Code) : Prop :=
  ∀ (N : Nat) (h : Hint) (l : FL) (n : Nat) (t : Tr) (K : FK) (r : R), fCode E fc N k out c h l n t K = some r → ∀ H, Rl n t H →
    ∃ e l' n' t' H', Rl n' t' H' ∧ K e l' n' t' = some r ∧ ∀ (R' : Type) (K' : Ex → AFr → Heap → Option R'), aCode E call k out c h ⟨N, l⟩ H R' K' = K' e ⟨N, l'⟩ H'

omit hC in
theorem join_f {m : ∀ R : Type, (Ex → AFr → Heap → Option R) → Option R} {j : Option (List Nat)} {K : FK} {r : R} {e : Ex} {l' : FL} {n' : Nat} {t' : Tr} {H' : Heap} (h1 : Rl n' t' H') (h2 : fJoin j K e l' n' t' = some r)
    (hm : ∀ (R' : Type) (K' : Ex → AFr → Heap → Option R'), m R' K' = K' e ⟨N, l'⟩ H') :
    ∃ e l' n' t' H', Rl n' t' H' ∧ K e l' n' t' = some r ∧ ∀ (R' : Type) (K' : Ex → AFr → Heap → Option R'), joinK N j m K' = K' e ⟨N, l'⟩ H' := by
  cases j with
  | none => exact ⟨e, l', n', t', H', h1, h2, hm⟩
  | some live =>
    refine ⟨e, fmk live l', n', t', H', h1, h2, fun R' K' => ?_⟩
    simp only [joinK, hm, Option.bind_some]
    rw [mkFr_eq']

omit hC in
theorem fIter_ok {live : List Nat} {f : FL → Nat → Tr → FK → Option R} {g : List (Option Value) × Heap → Option (Ex × List (Option Value) × Heap)} {r : R} {K : FK}
    (hf : ∀ l n t K r, f l n t K = some r → ∀ H, Rl n t H → ∀ s, mkFr N live s = ⟨N, l⟩ → ∃ e l' n' t' H', Rl n' t' H' ∧ K e l' n' t' = some r ∧ g (s, H) = some (e, live.map (AFr.get ⟨N, l'⟩), H')) :
    ∀ (k : Nat) (l : FL) (n : Nat) (t : Tr) (H : Heap), Rl n t H → fIter k f live l n t K = some r → ∃ e s n' t' H', Rl n' t' H' ∧ K e (mkFr N live s).l n' t' = some r ∧ aIter k g (live.map (AFr.get ⟨N, l⟩), H) = some (e, s, H') := by
  intro k
  induction k with
  | zero => intro l n t H h hk; cases hk
  | succ k ih =>
    intro l n t H h hk
    obtain ⟨e, l1, n1, t1, H1, g1, g2, g3⟩ := hf _ _ _ _ _ hk H h (live.map (AFr.get ⟨N, l⟩)) (mkFr_eq' live l)
    simp only [aIter, g3, Option.bind_some]
    cases e with
    | normal => exact ih l1 n1 t1 H1 g1 g2
    | exit i => exact ⟨.exit i, _, n1, t1, H1, g1, by rw [mkFr_eq']; exact g2, rfl⟩
    | ret => exact ⟨.ret, _, n1, t1, H1, g1, by rw [mkFr_eq']; exact g2, rfl⟩

theorem fCode_ok (k : Nat) (out : Bool) : ∀ c : Code, CodeF E call fc k out c := by
  intro c
  induction c with
  | skip => exact fun N h l n t K r hk H hr => ⟨.normal, l, n, t, H, hr, hk, fun R' K' => rfl⟩
  | label q => exact fun N h l n t K r hk H hr => ⟨.normal, l, n, t, H, hr, hk, fun R' K' => rfl⟩
  | exit id => exact fun N h l n t K r hk H hr => ⟨.exit id, l, n, t, H, hr, hk, fun R' K' => rfl⟩
  | ret => exact fun N h l n t K r hk H hr => ⟨.ret, l, n, t, H, hr, hk, fun R' K' => rfl⟩
  | goto q => intro N h l n t K r hk; cases hk
  | refuse q => intro N h l n t K r hk; cases hk
  | region id ops draw =>
    intro N h l n t K r hk H hr
    cases draw with
    | false =>
      obtain ⟨l1, n1, t1, H1, g1, g2, g3⟩ := fOps_ok hC _ _ _ _ _ _ hr (show fOps E fc N ops ops.toList l n t (K .normal) = some r from hk)
      exact ⟨.normal, l1, n1, t1, H1, g1, g2, fun R' K' => by simp only [aCode, g3, Option.bind_some]⟩
    | true =>
      obtain ⟨l1, n1, t1, H1, g1, g2, g3⟩ := fDraw_ok hC hr (show fDraw E fc N ops l n t (K .normal) = some r from hk)
      exact ⟨.normal, l1, n1, t1, H1, g1, g2, fun R' K' => by simp only [aCode, g3, Option.bind_some]⟩
  | seq a b iha ihb =>
    intro N h l n t K r hk H hr
    obtain ⟨e, l1, n1, t1, H1, g1, g2, g3⟩ := iha N h.a l n t _ r hk H hr
    cases e with
    | normal =>
      obtain ⟨e2, l2, n2, t2, H2, q1, q2, q3⟩ := ihb N h.b l1 n1 t1 _ r g2 H1 g1
      exact ⟨e2, l2, n2, t2, H2, q1, q2, fun R' K' => by simp only [aCode, g3, q3]⟩
    | exit i => exact ⟨_, l1, n1, t1, H1, g1, g2, fun R' K' => by simp only [aCode, g3]⟩
    | ret => exact ⟨_, l1, n1, t1, H1, g1, g2, fun R' K' => by simp only [aCode, g3]⟩
  | cond c x y ihx ihy =>
    intro N h l n t K r hk H hr
    have hk2 : (ob (fopv l c) fun v => fIf v (fCode E fc N k out x h.a l n t (fJoin h.j K)) (fCode E fc N k out y h.b l n t (fJoin h.j K))) = some r := hk
    rw [ob_eq] at hk2
    obtain ⟨v, h1, h2⟩ := some_bind hk2
    rw [fopv_eq (N := N)] at h1
    unfold fIf ifV at h2
    split at h2
    · obtain ⟨e, l1, n1, t1, H1, g1, g2, g3⟩ := ihx N h.a l n t _ r h2 H hr
      obtain ⟨e2, l2, n2, t2, H2, q1, q2, q3⟩ := join_f (N := N) (m := fun R K => (opv ⟨N, l⟩ c).bind fun v => ifV v (aCode E call k out x h.a ⟨N, l⟩ H R K) (aCode E call k out y h.b ⟨N, l⟩ H R K)) g1 g2 (fun R' K' => by simp only [h1, Option.bind_some, ifV, g3])
      exact ⟨e2, l2, n2, t2, H2, q1, q2, fun R' K' => by simp only [aCode]; exact q3 R' K'⟩
    · obtain ⟨e, l1, n1, t1, H1, g1, g2, g3⟩ := ihy N h.b l n t _ r h2 H hr
      obtain ⟨e2, l2, n2, t2, H2, q1, q2, q3⟩ := join_f (N := N) (m := fun R K => (opv ⟨N, l⟩ c).bind fun v => ifV v (aCode E call k out x h.a ⟨N, l⟩ H R K) (aCode E call k out y h.b ⟨N, l⟩ H R K)) g1 g2 (fun R' K' => by simp only [h1, Option.bind_some, ifV, g3])
      exact ⟨e2, l2, n2, t2, H2, q1, q2, fun R' K' => by simp only [aCode]; exact q3 R' K'⟩
    · cases h2
  | block id c ih =>
    intro N h l n t K r hk H hr
    obtain ⟨e, l1, n1, t1, H1, g1, g2, g3⟩ := ih N h.a l n t _ r hk H hr
    have key : ∀ (R' : Type) (K' : Ex → AFr → Heap → Option R'), (aCode E call k out c h.a ⟨N, l⟩ H R' fun e fr H => match e with | .exit i => if i = id then K' .normal fr H else K' (.exit i) fr H | e => K' e fr H) = K' (Ex.rec .normal (fun i => Bool.rec (.exit i) .normal (Nat.beq i id)) .ret e : Ex) ⟨N, l1⟩ H1 := by
      intro R' K'
      rw [g3]
      cases e with
      | normal => rfl
      | ret => rfl
      | exit i =>
        dsimp only
        rw [nbeq]
        by_cases hi : i = id <;> simp [hi]
    obtain ⟨e2, l2, n2, t2, H2, q1, q2, q3⟩ := join_f (N := N) (m := fun R' K' => aCode E call k out c h.a ⟨N, l⟩ H R' fun e fr H => match e with | .exit i => if i = id then K' .normal fr H else K' (.exit i) fr H | e => K' e fr H) g1 g2 key
    exact ⟨e2, l2, n2, t2, H2, q1, q2, fun R' K' => by simp only [aCode]; exact q3 R' K'⟩
  | loop c ih =>
    intro N h l n t K r hk H hr
    have hk2 : (Option.rec none (fun live => fIter k (fCode E fc N k out c h.a) live l n t K) h.j : Option R) = some r := hk
    cases hj : h.j with
    | none => rw [hj] at hk2; cases hk2
    | some live =>
      rw [hj] at hk2
      obtain ⟨e, s, n1, t1, H1, g1, g2, g3⟩ := fIter_ok (N := N) (live := live) (f := fCode E fc N k out c h.a) (g := fun s => aCode E call k out c h.a (mkFr N live s.1) s.2 (Ex × List (Option Value) × Heap) fun e fr H => some (e, live.map fr.get, H)) (fun l n t K r hk H hr s hs => by
        obtain ⟨e, l1, n1, t1, H1, g1, g2, g3⟩ := ih N h.a l n t K r hk H hr
        refine ⟨e, l1, n1, t1, H1, g1, g2, ?_⟩
        simp only [hs, g3]) k l n t H hr hk2
      refine ⟨e, _, n1, t1, H1, g1, g2, fun R' K' => ?_⟩
      simp only [aCode, hj]
      rw [g3]
      rfl
  | scope c ih =>
    intro N h l n t K r hk H hr
    obtain ⟨e, l1, n1, t1, H1, g1, g2, g3⟩ := ih N h.a l n t _ r hk H hr
    exact ⟨e, l1, n1, t1, H1, g1, g2, fun R' K' => by simp only [aCode, g3]⟩
  | rangeFunc f ps asg body _ _ =>
    intro N h l n t K r hk H hr
    obtain ⟨ho, hk2⟩ := brec_some (b := out) hk
    clear hk
    subst ho
    rw [ob_eq] at hk2
    obtain ⟨fv, h1, hk⟩ := some_bind hk2
    rw [fopv_eq (N := N)] at h1
    split at hk
    · rename_i g xs ys
      obtain ⟨n1, t1, g1, g2⟩ := fApp_ok hr hk
      obtain ⟨v, n2, t2, H2, q1, q2, q3⟩ := hC _ _ _ _ _ _ g2 _ g1
      split at q3
      · rename_i st pend fr' ps' asg' body' hb' hl
        have hl := q1.get _ _ hl
        split at q3
        · cases q3
        · rename_i hst
          obtain ⟨n3, t3, p1, p2⟩ := fApp_ok q1 q3
          refine ⟨_, l, n3, t3, _, p1, p2, fun R' K' => ?_⟩
          simp only [aCode, if_true, h1, Option.bind_some]
          have e1 := hr.len
          subst e1
          simp only [applyL] at q2
          rw [q2]
          simp only [Option.bind_some, hl, if_neg hst]
          rfl
      · cases q3
    · cases hk

omit hC in
theorem fResL_ok (h : Rl n t H) (l : FL) : ∀ (rs : List ResultVar) (vs : List Value), fResL E l t rs = some vs → aResultL E ⟨N, l⟩ H rs = some vs
  | [], vs, hk => hk
  | .tmp a :: rs, vs, hk => by
    simp only [fResL, ob_eq, flook_eq] at hk
    simp only [aResultL, aResult]
    obtain ⟨v, h1, hk⟩ := some_bind hk
    obtain ⟨us, h2, hk⟩ := some_bind hk
    have e : AFr.get ⟨N, l⟩ a = some v := h1
    rw [e, Option.bind_some, fResL_ok h l rs us h2]; exact hk
  | .cell a ty :: rs, vs, hk => by
    simp only [fResL, ob_eq, flook_eq] at hk
    simp only [aResultL, aResult]
    obtain ⟨p, h1, hk⟩ := some_bind hk
    obtain ⟨v, h3, hk⟩ := some_bind hk
    obtain ⟨us, h2, hk⟩ := some_bind hk
    have e : AFr.get ⟨N, l⟩ a = some p := h1
    rw [e, Option.bind_some, fLoad_ok h h3, Option.bind_some, fResL_ok h l rs us h2]; exact hk
omit hC in
theorem putL_n : ∀ {ps : List Nat} {args : List Value} {fr fr' : AFr}, putL fr ps args = some fr' → fr'.n = fr.n
  | [], [], fr, fr', h => by simp [putL] at h; rw [h]
  | t :: ts, v :: vs, fr, fr', h => by
    simp only [putL] at h
    split at h
    · rw [putL_n h]; rfl
    · cases h
  | [], _ :: _, _, _, h => by cases h
  | _ :: _, [], _, _, h => by cases h

omit hC in
theorem fStep_ok {k : Nat} (hC : CallF (aFn E k) fc) : CallF (aFn E (k + 1)) (fStep E k fc) := by
  intro tg args n t K r hk H hr
  cases tg with
  | fn f =>
    have hk2 : (Option.rec (ob (E.fn f) fun fn => ob fn.body fun c =>
      fCode E (fc) (args.length + (fn.ntmps - args.length)) k true c (E.hint f) (enterL 0 args) n t fun e l n t => Ex.rec (ob (fResL E l t fn.results.toList) fun vs => K (tupleOf vs) n t) (fun _ => none) (ob (fResL E l t fn.results.toList) fun vs => K (tupleOf vs) n t) e)
      (fun _ => none) (E.ext f) : Option R) = some r := hk
    cases hx : E.ext f with
    | some x => rw [hx] at hk2; cases hk2
    | none =>
      rw [hx] at hk2
      simp only [ob_eq] at hk2
      obtain ⟨fn, h1, hk2⟩ := some_bind hk2
      obtain ⟨c, h2, hk2⟩ := some_bind hk2
      obtain ⟨e, l1, n1, t1, H1, g1, g2, g3⟩ := fCode_ok hC k true c _ _ _ _ _ _ _ hk2 H hr
      simp only [aFn, hx, h1, h2, Option.bind_some, enterFr, g3]
      cases e with
      | normal =>
        obtain ⟨vs, q1, q2⟩ := some_bind g2
        have q1 := fResL_ok (N := args.length + (fn.ntmps - args.length)) g1 _ _ _ q1
        exact ⟨_, n1, t1, H1, g1, by simp only [q1, Option.bind_some], q2⟩
      | ret =>
        obtain ⟨vs, q1, q2⟩ := some_bind g2
        have q1 := fResL_ok (N := args.length + (fn.ntmps - args.length)) g1 _ _ _ q1
        exact ⟨_, n1, t1, H1, g1, by simp only [q1, Option.bind_some], q2⟩
      | exit i => cases g2
  | round q =>
    have hk2 : (match tget t q with
      | some (.loop _ _ fr ps asg body hb) => ob (putL fr ps args) fun fr =>
        fCode E (fc) fr.n k false asg .leaf fr.l n t fun e l n t =>
          match e, tget t q with
          | .normal, some (.loop .ready p fr0 ps0 asg0 body0 hb0) =>
            fApp n t (.set q (.loop .busy p fr0 ps0 asg0 body0 hb0)) fun n t => fCode E (fc) fr.n k false body hb l n t fun e _ n t =>
              match tget t q with
              | some (.loop _ _ fr1 ps1 asg1 body1 hb1) =>
                Ex.rec (fApp n t (.set q (.loop .ready none fr1 ps1 asg1 body1 hb1)) fun n t => K (.bool true) n t)
                  (fun i => fApp n t (.set q (.loop .done (some (.exit i)) fr1 ps1 asg1 body1 hb1)) fun n t => K (.bool false) n t)
                  (fApp n t (.set q (.loop .done (some .ret) fr1 ps1 asg1 body1 hb1)) fun n t => K (.bool false) n t) e
              | _ => none
          | _, _ => none
      | _ => none : Option R) = some r := hk
    split at hk2
    · rename_i st pend fr ps asg body hb hl
      rw [ob_eq] at hk2
      obtain ⟨fr1, h1, hk2⟩ := some_bind hk2
      obtain ⟨e, l1, n1, t1, H1, g1, g2, g3⟩ := fCode_ok hC k false asg _ _ _ _ _ _ _ hk2 H hr
      have hl := hr.get _ _ hl
      split at g2
      · rename_i p fr0 ps0 asg0 body0 hb0 hl1
        have hl1 := g1.get _ _ hl1
        obtain ⟨n2, t2, q1, q2⟩ := fApp_ok g1 g2
        obtain ⟨e2, l3, n3, t3, H3, k1, k2, k3⟩ := fCode_ok hC k false body _ _ _ _ _ _ _ q2 _ q1
        split at k2
        · rename_i st3 pd3 fr3 ps3 asg3 body3 hb3 hl3
          have hl3 := k1.get _ _ hl3
          have base : aFn E (k + 1) (.round q) args H = (if e2 = .normal then some (.bool true, H3.set q (.loop .ready none fr3 ps3 asg3 body3 hb3)) else some (.bool false, H3.set q (.loop .done (some e2) fr3 ps3 asg3 body3 hb3))) := by
            have g3' := fun R' K' => g3 R' K'
            have k3' := fun R' K' => k3 R' K'
            have en : (⟨fr1.n, fr1.l⟩ : AFr) = fr1 := rfl
            simp only [en, applyL] at g3' k3'
            simp only [aFn, hl, h1, Option.bind_some, g3', hl1, k3', hl3]
          rw [base]
          cases e2 with
          | normal =>
            obtain ⟨n4, t4, p1, p2⟩ := fApp_ok k1 k2
            exact ⟨_, n4, t4, _, p1, rfl, p2⟩
          | exit i =>
            obtain ⟨n4, t4, p1, p2⟩ := fApp_ok k1 k2
            exact ⟨_, n4, t4, _, p1, rfl, p2⟩
          | ret =>
            obtain ⟨n4, t4, p1, p2⟩ := fApp_ok k1 k2
            exact ⟨_, n4, t4, _, p1, rfl, p2⟩
        · cases k2
      · cases g2
    · cases hk2
omit hC in
theorem fFn_ok (E : Env) : ∀ k, CallF (aFn E k) (fFn E k) := by
  intro k
  induction k with
  | zero => intro tg args n t K r hk; cases hk
  | succ k ih => exact fStep_ok ih
omit hC in
theorem fast_trueA {k : Nat} {f : FuncId} {args : List Value} (h : yes (fFn E k (.fn f) args 0 .nil trueK) = true) : ∃ H, aFn E k (.fn f) args [] = some (.bool true, H) := by
  unfold yes at h
  split at h
  · rename_i b hb
    subst h
    obtain ⟨v, n, t, H, h1, h2, h3⟩ := fFn_ok E k _ _ _ _ _ _ hb [] Rl.nil
    unfold trueK at h3
    split at h3
    · cases h3; exact ⟨H, h2⟩
    · cases h3
  · cases h
omit hC in
theorem fast_true {k : Nat} {f : FuncId} (h : yes (fFn E k (.fn f) [] 0 .nil trueK) = true) : ∃ H, aFn E k (.fn f) [] [] = some (.bool true, H) := fast_trueA h
end Go.Proofs.YtjanjgegchgjiaaGreatDoor.Zq
