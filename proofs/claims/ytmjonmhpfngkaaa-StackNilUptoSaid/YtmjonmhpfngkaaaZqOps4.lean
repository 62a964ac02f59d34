/- The operations one by one, fourth part: append and copy. -/
import Derived.Test.YtmjonmhpfngkaaaZqOps3
namespace Go.Proofs.Ytmjonmhpfngkaaa.Zq
variable {P : Program} {E : Env} {M : Mp} {H H' : Heap} {w : World}

theorem growBy_le (n : Nat) : ∀ (r c : Nat), 256 ≤ c → c ≤ 2 * n → Builtin.growBy n r c ≤ 2 * n
  | 0, c, _, h => by simpa [Builtin.growBy] using h
  | r + 1, c, h0, h => by
    unfold Builtin.growBy
    split
    · exact h
    · exact growBy_le n r _ (by omega) (by omega)

theorem nextcap_le (need c : Nat) (h : c < need) : Builtin.nextslicecap need c ≤ 2 * need := by
  unfold Builtin.nextslicecap
  split
  · omega
  · split
    · omega
    · exact growBy_le need 4 c (by omega) (by omega)

theorem lenX_ok {x x' : Value} {n : Nat} (hx : VR M x x') (hn : lenX x = some n) : (Builtin.lenOf x').run P w = .ok n w := by
  unfold lenX at hn
  split at hn
  · simp at hn; subst hn
    cases hx <;> rfl
  · simp at hn; subst hn
    have := hx.of_string; subst this; rfl
  · simp at hn

theorem firstOf_ok (h : HR M H w) {x x' : Value} {n size : Nat} {xs : List Value} (hx : VR M x x') (hn : firstOf x n size H = some xs) :
    ∃ us : List Value, (∀ w' : World, w'.heap = w.heap → (Builtin.firstCells size n x').run P w' = .ok us.toArray w') ∧ VL M xs us := by
  unfold firstOf at hn
  split at hn
  · split at hn
    · simp at hn; subst hn
      cases hx
      exact ⟨[], fun _ _ => by simp [Builtin.firstCells], .nil M⟩
    · simp at hn
  · obtain ⟨e, c, he, hc, rfl⟩ := hx.of_slice
    obtain ⟨us, h1, h2, _, _⟩ := rd_ok P h hn he
    exact ⟨us, fun w' hw' => by simp [Builtin.firstCells, h1 w' hw'], h2⟩
  · split at hn
    · rename_i hz
      simp at hn; subst hn
      obtain ⟨a', c, rfl⟩ := hx.of_sliceE
      subst hz
      exact ⟨[], fun _ _ => by simp [Builtin.firstCells, loadCells, loadCellsFrom], .nil M⟩
    · simp at hn
  · rename_i s
    split at hn
    · simp at hn; subst hn
      have := hx.of_string; subst this
      refine ⟨(s.data.toList.take n).map fun b => .int .u8 b.toNat, fun _ _ => ?_, ?_⟩
      · simp only [Builtin.firstCells, Sem.run_pure]
        congr 1
        apply Array.ext'
        simp [ByteArray.data_extract]
      · rw [List.map_take]
        refine ⟨rfl, fun i x u hx hu => ?_⟩
        rw [hx] at hu; simp at hu; subst hu
        rw [← List.map_take] at hx
        simp only [List.getElem?_map, Option.map_eq_some_iff] at hx
        obtain ⟨c, _, rfl⟩ := hx
        exact .int _ _
    · simp at hn
  · simp at hn

theorem wrNil (P : Program) (w : World) (a : Addr) : (storeCells a []).run P w = .ok () w := by simp [storeCells]

/-- APPEND IN PLACE, where the abstract slice has no room that is known: the elder block is gone, a new one lies in its place. -/
theorem Stp.inPlace (h : HR M H w) {b off len n size : Nat} {cells old xs us : List Value} {opn : Bool} {e : Ent} (hk : H[b]? = some (.row cells size opn false true)) (he : M[b]? = some (some e))
    (ho : rd H b off (len * size) = some old) (hv : VL M xs us) (hn : us.length = n * size) (h1 : ∀ u ∈ us, u.oneCell' = true) (hroom : e.base + off + (len + n) * size ≤ e.csz) :
    ∃ w', (storeCells ⟨e.blk, e.base + off + len * size, none⟩ us).run P w = .ok () w' ∧
      Stp M H w (M ++ [some ⟨e.blk, e.base + off, true, (old ++ xs).length, size, e.csz⟩]) (Zq.mk (kill H b) (old ++ xs) size true) w' := by
  obtain ⟨c', t, fz, hw, hsz, hb, hvl, hfz⟩ := row_cells h hk he
  have hfz := hfz rfl; subst hfz
  have hold : off + len * size ≤ cells.length ∧ old = (cells.drop off).take (len * size) := by
    unfold rd at ho
    rw [hk] at ho
    simp only at ho
    split at ho
    · simp at ho; exact ⟨by assumption, ho.symm⟩
    · simp at ho
  obtain ⟨hle, rfl⟩ := hold
  have hmul : (len + n) * size = len * size + n * size := Nat.add_mul _ _ _
  have hst := run_storeCells_at P e.blk (e.base + off + len * size) t us 0 c' w hw (by omega) h1
  refine ⟨_, hst, ?_⟩
  generalize hW : w.setRow e.blk (c'.toList.take (e.base + off + len * size + 0) ++ us ++ c'.toList.drop (e.base + off + len * size + 0 + us.length)).toArray = W
  have hblt : e.blk < w.heap.size := (Array.getElem?_eq_some_iff.1 hw).1
  have hWe : W.heap[e.blk]? = some (.cells (c'.toList.take (e.base + off + len * size) ++ us ++ c'.toList.drop (e.base + off + len * size + us.length)).toArray t (0, 0)) := by
    rw [← hW]; simpa using setRow_heap w e.blk c' _ t (0, 0) hw
  have hWo : ∀ k, k ≠ e.blk → W.heap[k]? = w.heap[k]? := by
    intro k hne
    rw [← hW]; unfold World.setRow; simp only [Array.getElem?_modify]; rw [if_neg (Ne.symm hne)]
  have hWs : W.heap.size = w.heap.size := by rw [← hW]; simp [World.setRow]
  have hWos : W.os = w.os := by rw [← hW]; rfl
  have hWout : W.output = w.output := by rw [← hW]; rfl
  have hWt : W.tape = w.tape := by rw [← hW]; rfl
  have hblen : b < H.length := (List.getElem?_eq_some_iff.1 hk).1
  have hkl : (kill H b).length = H.length := by unfold kill; rw [hk]; simp
  have hkb : (kill H b)[b]? = some (.row cells size opn false false) := by unfold kill; rw [hk]; simp [hblen]
  have hko : ∀ j : Nat, j ≠ b → (kill H b)[j]? = H[j]? := fun j hj => by unfold kill; rw [hk]; simp only; rw [List.getElem?_set_ne (Ne.symm hj)]
  have hwb : writB H b := by unfold writB; rw [hk]; exact ⟨rfl, rfl⟩
  generalize hN : (⟨e.blk, e.base + off, true, ((cells.drop off).take (len * size) ++ xs).length, size, e.csz⟩ : Ent) = N
  have hx := Ext.app M [some N]
  have oldM : ∀ (j : Nat) (ej : Ent), (M ++ [some N])[j]? = some (some ej) → (M[j]? = some (some ej) ∧ j < M.length) ∨ (j = M.length ∧ ej = N) := by
    intro j ej hj
    by_cases hl : j < M.length
    · rw [List.getElem?_append_left hl] at hj; exact .inl ⟨hj, hl⟩
    · rw [List.getElem?_append_right (by omega)] at hj
      by_cases e0 : j = M.length
      · subst e0; simp at hj; exact .inr ⟨rfl, hj.symm⟩
      · have : j - M.length ≠ 0 := by omega
        cases hq : j - M.length with
        | zero => omega
        | succ q => rw [hq] at hj; simp at hj
  have hH : ∀ j : Nat, j < M.length → (Zq.mk (kill H b) ((cells.drop off).take (len * size) ++ xs) size true)[j]? = (kill H b)[j]? := fun j hj => by
    unfold Zq.mk; rw [List.getElem?_append_left (by rw [hkl, ← h.len]; exact hj)]
  have hHn : (Zq.mk (kill H b) ((cells.drop off).take (len * size) ++ xs) size true)[M.length]? = some (.row ((cells.drop off).take (len * size) ++ xs) size true false true) := by
    unfold Zq.mk; rw [h.len, ← hkl, List.getElem?_append_right (Nat.le_refl _)]; simp
  have hliv : ∀ j : Nat, j < M.length → liveB (Zq.mk (kill H b) ((cells.drop off).take (len * size) ++ xs) size true) j → liveB H j ∧ j ≠ b := by
    intro j hj hl
    unfold liveB at hl
    rw [hH j hj] at hl
    by_cases hjb : j = b
    · subst hjb; rw [hkb] at hl; simp at hl
    · refine ⟨?_, hjb⟩
      rw [hko j hjb] at hl; unfold liveB; exact hl
  have hwri : ∀ j : Nat, j < M.length → writB (Zq.mk (kill H b) ((cells.drop off).take (len * size) ++ xs) size true) j → writB H j := by
    intro j hj hl
    unfold writB at hl
    rw [hH j hj] at hl
    by_cases hjb : j = b
    · subst hjb; rw [hkb] at hl; simp at hl
    · rw [hko j hjb] at hl; unfold writB; exact hl
  have hNb : N.blk = e.blk := by rw [← hN]
  refine ⟨hx, ⟨by simp [Zq.mk, hkl, h.len], ?_, ?_⟩, hWos, hWout, hWt, by omega, ?_, ?_, fun j hj => have hl : j < M.length := (List.getElem?_eq_some_iff.1 hj).1; ⟨by rw [List.getElem?_append_left hl]; exact hj, (hH j hl).trans (hko j fun e0 => by subst e0; rw [he] at hj; simp at hj)⟩, ?_⟩
  · intro j ej kj hj hkj
    rcases oldM j ej hj with ⟨hj', hl⟩ | ⟨rfl, rfl⟩
    · rw [hH j hl] at hkj
      by_cases hjb : j = b
      · subst hjb
        rw [hkb] at hkj; simp at hkj; subst hkj
        obtain ⟨q1, q2, q3, _⟩ := h.blk _ _ _ hj' hk
        exact ⟨q1, q2, q3, fun hf => by simp at hf⟩
      · rw [hko j hjb] at hkj
        refine ((h.blk j ej kj hj' hkj).mono hx).same fun hlv => hWo _ ?_
        have : liveB H j := by unfold liveB; rw [hkj]; cases kj <;> exact hlv
        exact (h.sep b j e ej (Ne.symm hjb) he hj' hwb this).symm
    · rw [hHn] at hkj; simp at hkj; subst hkj
      have hol : ((cells.drop off).take (len * size)).length = len * size := by simp; omega
      have hxl := hv.1
      subst hN
      refine ⟨rfl, rfl, rfl, fun _ => ⟨_, t, (0, 0), hWe, by simp; omega, by simp; omega, ?_, fun _ => rfl⟩⟩
      have e1 : (((c'.toList.take (e.base + off + len * size) ++ us ++ c'.toList.drop (e.base + off + len * size + us.length)).toArray.toList.drop (e.base + off)).take ((cells.drop off).take (len * size) ++ xs).length)
          = ((((c'.toList.drop e.base).take cells.length).drop off).take (len * size)) ++ us := by
        apply List.ext_getElem?
        intro q
        simp only [List.length_append, hol, hxl, hn]
        simp only [List.getElem?_take, List.getElem?_drop, List.getElem?_append, List.length_take, List.length_append, List.length_drop, Array.length_toList]
        have c1 : min (e.base + off + len * size) c'.size = e.base + off + len * size := by omega
        have c2 : min (len * size) (min cells.length (c'.size - e.base) - off) = len * size := by omega
        rw [c1, c2]
        by_cases hq : q < len * size
        · have d1 : q < len * size + n * size := by omega
          have d2 : e.base + off + q < e.base + off + len * size := by omega
          have d3 : e.base + off + q < e.base + off + len * size + us.length := by omega
          have d4 : off + q < cells.length := by omega
          have d5 : ¬ len * size + us.length ≤ q := by omega
          simp [hq, d1, d4, d5, Nat.add_assoc]
        · by_cases hq2 : q < len * size + n * size
          · have d2 : ¬ e.base + off + q < e.base + off + len * size := by omega
            have d3 : e.base + off + q < e.base + off + len * size + us.length := by omega
            simp only [hq, hq2, d2, d3, if_true, if_false]
            congr 1; omega
          · have : us[q - len * size]? = none := List.getElem?_eq_none (by omega)
            simp [hq, hq2, this]
      rw [e1]
      exact (((hvl.drop off).take (len * size)).append hv).mono hx
  · intro j j' ej ej' hne hj hj' hw' hl'
    rcases oldM j ej hj with ⟨hj1, hl1⟩ | ⟨rfl, rfl⟩ <;> rcases oldM j' ej' hj' with ⟨hj2, hl2⟩ | ⟨rfl, rfl⟩
    · exact h.sep j j' ej ej' hne hj1 hj2 (hwri j hl1 hw') (hliv j' hl2 hl').1
    · obtain ⟨_, hjb⟩ := hliv j hl1 hw'.live
      rw [hNb]
      exact h.sep j b ej e hjb hj1 he (hwri j hl1 hw') hwb.live
    · obtain ⟨hlv, hjb⟩ := hliv j' hl2 hl'
      rw [hNb]
      exact h.sep b j' e ej' (Ne.symm hjb) he hj2 hwb hlv
    · exact absurd rfl hne
  · intro k hk' hn'
    exact hWo k fun hke => hn' b e he hwb hke.symm
  · intro j ej hj hw' hlt
    rcases oldM j ej hj with ⟨hj1, hl1⟩ | ⟨rfl, rfl⟩
    · exact ⟨j, ej, hj1, hwri j hl1 hw', rfl⟩
    · exact ⟨b, e, he, hwb, hNb.symm⟩
  · intro j ej hj hw' hlt
    rcases oldM j ej hj with ⟨hj1, hl1⟩ | ⟨rfl, rfl⟩
    · exact ⟨j, ej, hj1, (hliv j hl1 hw').1, rfl⟩
    · exact ⟨b, e, he, hwb.live, hNb.symm⟩

end Go.Proofs.Ytmjonmhpfngkaaa.Zq
