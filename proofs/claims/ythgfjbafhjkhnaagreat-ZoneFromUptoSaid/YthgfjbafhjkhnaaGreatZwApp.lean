/- An append that grows: whatever room it gets, there is nothing in it. -/
import Derived.Test.YthgfjbafhjkhnaaGreatZwCore
namespace Go.Proofs.YthgfjbafhjkhnaaGreat.Zq
variable {P : Program} {E : Env} {M : Mp} {H H' : Heap} {w : World}

/-- What a growing append leaves, as it is. -/
theorem grown_all {s : Sem Value} {xs us ze : List Value} {z : Value} {size need newCap : Nat} {e : TypeId} (h : HR M H w) (hv : VL M xs us)
    (hz : VL M ze (Builtin.zeroCells z.cells (newCap - need)).toList)
    (hr : s.run P w = .ok (.slice (some ⟨w.heap.size, 0, none⟩) need newCap) (w.drew.alloc (.cells (us.toArray ++ Builtin.zeroCells z.cells (newCap - need)) e (0, 0)))) :
    Gives P M H w s (.slice (some ⟨H.length, 0, none⟩) need newCap) (mk H (xs ++ ze) size false) := by
  have hl : (xs ++ ze).length = (us.toArray ++ Builtin.zeroCells z.cells (newCap - need)).size := by
    have h1 := hz.1
    have h2 := hv.1
    simp only [Array.length_toList] at h1
    simp [h1, h2]
  have st := Stp.newRow (M := M) (H := H) (w := w.drew) h.drew (cells := xs ++ ze) (c := us.toArray ++ Builtin.zeroCells z.cells (newCap - need)) e size false (Nat.le_of_eq hl) (by
    rw [hl, ← Array.length_toList, List.take_length]
    simp only [Array.toList_append]
    exact hv.append hz)
  exact ⟨_, _, _, hr, (Stp.drew h).trans st, newSlice h rfl rfl (.inl rfl)⟩

theorem growE_ok (hE : E.Ok P) (h : HR M H w) {ts : List TypeId} {ty : TypeId} {s' x' : Value} {base : Option Addr} {len cap n : Nat} {old xs us0 : List Value} (hs : s' = .slice base len cap) (hlt : cap < len + n)
    (hle : ∀ w, (Builtin.lenOf x').run P w = .ok n w)
    (hfs : ∀ t ti e te, ts.head? = some t → E.ty t = some ti → ti.k = .slice e → E.ty e = some te → xs.length = n * te.size →
      ∃ us : List Value, (∀ w' : World, w'.heap = w.heap → (Builtin.firstCells te.size n x').run P w' = .ok us.toArray w') ∧ VL M xs us)
    (hf0 : ∀ size, old.length = len * size → ∀ w' : World, w'.heap = w.heap → (Builtin.firstCells size len s').run P w' = .ok us0.toArray w') (hvo : VL M old us0)
    {K : Value → Heap → Prop} (ha : ∀ x, (x = 0 ∨ len + n + x ≤ 9223372036854775807) → ∃ v H', growE E ts len n old xs H x = some (v, H') ∧ K v H') :
    ∃ v H', K v H' ∧ Gives P M H w (Builtin.append_ ts.toArray ty #[s', x']) v H' := by
  obtain ⟨v0, H0, h0, _⟩ := ha 0 (.inl rfl)
  unfold growE at h0 ha
  split at h0
  · rename_i ts tx
    simp only at ha
    split at h0
    · rename_i ti tj ht htj
      simp only [ht, htj] at ha
      obtain ⟨i1, d1, z1, T1⟩ := hE.ty _ _ ht
      obtain ⟨i2, d2, z2, T2⟩ := hE.ty _ _ htj
      split at h0
      · simp at h0
      · rename_i e hke hnot
        have hd2 : isIntD d2 = false := not_int T2.k (fun j hj => hnot j hj)
        have hk := T1.k
        rw [hke] at hk
        have hund : P.underlying ts = some (.slice e) := by
          cases hd : d1 <;> rw [hd] at hk <;> first | exact hk.elim | (have hk : e = _ := hk; subst hk; rw [T1.und, hd])
        split at h0
        · rename_i te hte
          obtain ⟨i3, d3, z3, T3⟩ := hE.ty _ _ hte
          split at h0
          · simp at h0
          rename_i hsz
          split at h0
          · rename_i hb
            obtain ⟨hb1, hb2⟩ := hb
            obtain ⟨us, hfr, hvl⟩ := hfs ts ti e te rfl ht hke hte (by omega)
            obtain ⟨nc, q1, q2, q3⟩ := append_growB (ty := ty) hund T2.und hd2 T3 hs hle hfr (us0 := us0) (hf0 te.size (by omega)) hlt hb1 hb2
            obtain ⟨v, H1, e1, e2⟩ := ha (nc - (len + n)) (.inr (by omega))
            have e3 : (if te.size = 0 ∨ xs.length ≠ n * te.size ∨ old.length ≠ len * te.size then (none : Option (Value × Heap))
                else if 2 * (len + n) * te.bytes ≤ 281474976710656 ∧ te.bytes ≠ 0 then some (.slice (some ⟨H.length, 0, none⟩) (len + n) (len + n + (nc - (len + n))), mk H (old ++ xs ++ rep (nc - (len + n)) te.zero) te.size false) else none) = some (v, H1) := by
              revert e1
              cases hkj : tj.k <;> simp only [hke, hte] <;> first | exact id | (exact absurd hkj (hnot _))
            rw [if_neg hsz, if_pos ⟨hb1, hb2⟩] at e3
            simp only [Option.some.injEq, Prod.mk.injEq] at e3
            obtain ⟨rfl, rfl⟩ := e3
            have hnc : len + n + (nc - (len + n)) = nc := by omega
            rw [hnc] at e2
            refine ⟨_, _, e2, ?_⟩
            have hz := zeros_vl (M := M) T3 (nc - (len + n))
            have hzs : z3.cells.size = te.size := by rw [← T3.len, ← T3.cells]; simp
            have hzc : (Builtin.zeroCells z3.cells (nc - (len + n))).toList = (madeCells z3.cells ((nc - (len + n)) * te.size)).toList := by rw [← hzs]; rfl
            rw [← hzc] at hz
            exact grown_all (e := e) h (hvo.append hvl) hz (by rw [← List.append_toArray]; exact q3)
          · simp at h0
        · simp at h0
      · simp at h0
    · simp at h0
  · simp at h0

theorem appE_ok (hE : E.Ok P) (h : HR M H w) {ts : List TypeId} {ty : TypeId} {s s' x' : Value} {n : Nat} {xs : List Value} (hs : VR M s s')
    (hle : ∀ w, (Builtin.lenOf x').run P w = .ok n w)
    (hfs : ∀ t ti e te, ts.head? = some t → E.ty t = some ti → ti.k = .slice e → E.ty e = some te → xs.length = n * te.size →
      ∃ us : List Value, (∀ w' : World, w'.heap = w.heap → (Builtin.firstCells te.size n x').run P w' = .ok us.toArray w') ∧ VL M xs us)
    {K : Value → Heap → Prop} (ha : ∀ x, (x = 0 ∨ lenV s + n + x ≤ 9223372036854775807) → ∃ v H', aAppE E ts s n xs H x = some (v, H') ∧ K v H') :
    ∃ v H', K v H' ∧ Gives P M H w (Builtin.append_ ts.toArray ty #[s', x']) v H' := by
  have old : (∀ x, aAppE E ts s n xs H x = aAppX E ts s n xs H) → ∃ v H', K v H' ∧ Gives P M H w (Builtin.append_ ts.toArray ty #[s', x']) v H' := fun he => by
    obtain ⟨v, H', h1, h2⟩ := ha 0 (.inl rfl)
    rw [he] at h1
    exact ⟨v, H', h2, appX_ok hE h hs hle hfs h1⟩
  by_cases hn : n = 0
  · refine old fun x => ?_
    unfold aAppE
    split
    · rw [if_pos hn]
    · rw [if_neg (by omega)]
    · rfl
  · unfold aAppE at ha old
    split at ha
    · simp only [if_neg hn] at ha
      have := hs.of_slice0; subst this
      exact growE_ok (us0 := []) hE h rfl (by omega) hle hfs (fun _ _ _ _ => by simp [Builtin.firstCells]) (VL.nil M) (by simpa [lenV] using ha)
    · rename_i b off len cap
      obtain ⟨en, c, he, hc, rfl⟩ := hs.of_slice
      by_cases hx : n ≠ 0 ∧ cap < len + n ∧ exact H b off cap = true
      · simp only [if_pos hx] at ha
        obtain ⟨hx1, hx2, hx3⟩ := hx
        have := exact_ok h hx3 he hc; subst this
        cases ho : rd H b off (len * eltE E ts) with
        | none => obtain ⟨v, H', h1, _⟩ := ha 0 (.inl rfl); rw [ho] at h1; simp at h1
        | some od =>
          rw [ho] at ha
          obtain ⟨us0, g1, g2, g3, _⟩ := rd_ok P h ho he
          refine growE_ok (us0 := us0) hE h rfl hx2 hle hfs (fun size hsz w' hw' => ?_) g2 (by simpa [lenV] using ha)
          have : len * size = len * eltE E ts := by
            have := rd_len ho
            omega
          simp [Builtin.firstCells, this, g1 w' hw']
      · simp only [if_neg hx] at old
        exact old fun _ => trivial
    · rename_i q1 q2
      refine old fun x => ?_
      split
      · exact absurd rfl (q1)
      · exact absurd rfl (q2 _ _ _ _)
      · rfl

theorem appendE_ok (hE : E.Ok P) (h : HR M H w) {ts : List TypeId} {ty : TypeId} {s s' x x' : Value} (hs : VR M s s') (hx : VR M x x')
    {K : Value → Heap → Prop} (ha : ∀ y, (y = 0 ∨ lenV s + (lenX x).getD 0 + y ≤ 9223372036854775807) → ∃ v H', aAppendE E ts s x H y = some (v, H') ∧ K v H') :
    ∃ v H', K v H' ∧ Gives P M H w (Builtin.append_ ts.toArray ty #[s', x']) v H' := by
  obtain ⟨v0, H0, h0, _⟩ := ha 0 (.inl rfl)
  unfold aAppendE at h0 ha
  split at h0
  · rename_i t1 t2
    split at h0
    · rename_i ti ht
      split at h0
      · rename_i e hke
        split at h0
        · rename_i te hte
          split at h0
          · rename_i n hn
            split at h0
            · rename_i xs hf
              simp only [ht, hke, hte, hn, hf, Option.getD_some] at ha
              refine appE_ok hE h hs (fun w => lenX_ok hx hn) (fun t ti' e' te' q1 q2 q3 q4 _ => ?_) ha
              simp at q1; subst q1
              rw [ht] at q2; simp at q2; subst q2
              rw [hke] at q3; simp at q3; subst q3
              rw [hte] at q4; simp at q4; subst q4
              exact firstOf_ok (P := P) h hx hf
            · simp at h0
          · simp at h0
        · simp at h0
      · simp at h0
    · simp at h0
  · simp at h0
end Go.Proofs.YthgfjbafhjkhnaaGreat.Zq
