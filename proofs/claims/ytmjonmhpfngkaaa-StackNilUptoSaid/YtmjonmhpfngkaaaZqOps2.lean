/- The operations one by one, second part: what is built. -/
import Derived.Test.YtmjonmhpfngkaaaZqOps1
import Derived.Laws.MakeOwn
import Derived.Lib.LaidTab
namespace Go.Proofs.Ytmjonmhpfngkaaa.Zq
variable {P : Program} {E : Env} {M : Mp} {H H' : Heap} {w : World}

theorem foldl_patch (off : Nat) : ∀ (vs : List Value) (j : Nat) (cells : Array Value), off + j + vs.length ≤ cells.size →
    ((vs.zipIdx j).foldl (fun (cs : Array Value) (p : Value × Nat) => cs.setIfInBounds (off + p.2) p.1) cells).toList = patch cells.toList (off + j) vs
  | [], j, cells, _ => by simp [patch]
  | v :: vs, j, cells, h => by
    simp only [List.zipIdx_cons, List.foldl_cons]
    rw [foldl_patch off vs (j + 1) _ (by simp at h ⊢; omega)]
    unfold patch
    rw [Array.toList_setIfInBounds]
    have := list_seg_step cells.toList (off + j) v vs (by simp at h ⊢; omega)
    simpa [Nat.add_assoc] using this

theorem fill_step (cells : Array Value) (off : Nat) (v : Value) (h : off + v.cells.size ≤ cells.size) :
    (v.cells.zipIdx.foldl (fun (cs : Array Value) (p : Value × Nat) => cs.setIfInBounds (off + p.2) p.1) cells).toList = patch cells.toList off v.cells.toList := by
  have := foldl_patch off v.cells.toList 0 cells (by simpa using h)
  simp only [Nat.add_zero] at this
  rw [← this, ← Array.foldl_toList, Array.toList_zipIdx]

/-- Parts, one by one: their places, and their values. -/
inductive PL (M : Mp) : List (Nat × Value) → List (Nat × Value) → Prop
  | nil : PL M [] []
  | cons {a b ps qs} (h : a.1 = b.1 ∧ VR M a.2 b.2) (t : PL M ps qs) : PL M (a :: ps) (b :: qs)

theorem fill_ok {place place' : Nat → Option (Nat × Nat)} (hp : ∀ i x, place i = some x → place' i = some x) :
    ∀ {ps qs : List (Nat × Value)} {cs r : List Value} {us : Array Value}, PL M ps qs → VL M cs us.toList → aFill place cs ps = some r →
      ∃ r', Instr.fill place' us qs = some r' ∧ VL M r r'.toList := by
  intro ps
  induction ps with
  | nil =>
    intro qs cs r us hpl hv hr
    cases hpl
    simp [aFill] at hr; subst hr
    exact ⟨us, rfl, hv⟩
  | cons a ps ih =>
    intro qs cs r us hpl hv hr
    obtain ⟨i, v⟩ := a
    cases hpl with
    | cons hab hpl =>
      rename_i b qs
      obtain ⟨j, u⟩ := b
      obtain ⟨he, hvu⟩ := hab
      simp only at he; subst he
      unfold aFill at hr
      split at hr
      · simp at hr
      · rename_i off size hpi
        split at hr
        · rename_i hsz
          split at hr
          · rename_i hle
            have hc := hvu.cells
            have e1 : u.cells.size = size := by have := hc.1; simp only [Array.length_toList] at this hsz; omega
            have e2 : off + u.cells.size ≤ us.size := by have := hv.1; simp only [Array.length_toList] at this; omega
            have hv2 : VL M (patch cs off v.cells.toList) (u.cells.zipIdx.foldl (fun (cs : Array Value) (p : Value × Nat) => cs.setIfInBounds (off + p.2) p.1) us).toList := by
              rw [fill_step us off u e2]; exact hv.patch hc off
            obtain ⟨r', h1, h2⟩ := ih hpl hv2 hr
            refine ⟨r', ?_, h2⟩
            unfold Instr.fill
            rw [hp i _ hpi]
            simp only
            rw [if_neg (by simp; omega)]
            exact h1
          · simp at hr
        · simp at hr

theorem build_ok (hE : E.Ok P) (h : HR M H w) {t : TypeId} {ps : List (Nat × Value)} {qs : Array (Nat × Value)} {v : Value} (hp : PL M ps qs.toList) (hl : aBuild E t ps = some v) : Gives P M H w (Instr.build t qs) v H := by
  unfold aBuild at hl
  obtain ⟨ti, ht, hl⟩ := some_bind hl
  obtain ⟨i, d, z, T⟩ := hE.ty _ _ ht
  have hk := T.k
  split at hl
  · rename_i fs hfs
    rw [hfs] at hk
    obtain ⟨cs, hf, hl⟩ := some_bind hl
    simp at hl; subst hl
    cases d with
    | struct gs =>
      obtain ⟨hg, _, _, _, hpl⟩ := hk
      obtain ⟨pl, hpl⟩ := Option.isSome_iff_exists.1 hpl
      have hplace : ∀ j x, fieldPlaces E fs j = some x → pl.toArray[j]? = some x := by
        intro j x hx
        unfold fieldPlaces at hx
        split at hx
        · rename_i off ft hj
          obtain ⟨te, hte, hx⟩ := some_bind hx
          simp at hx; subst hx
          rw [hg] at hj
          simp only [List.getElem?_map, Option.map_eq_some_iff] at hj
          obtain ⟨f, hf, hfe⟩ := hj
          simp at hfe; obtain ⟨rfl, rfl⟩ := hfe
          obtain ⟨i2, d2, z2, T2⟩ := hE.ty _ _ hte
          obtain ⟨b, hb, hfb⟩ := Lib.mapM_at hpl j f hf
          simp [T2.info] at hfb; subst hfb
          rw [← T2.size]; simpa using hb
        · simp at hx
      obtain ⟨r', h1, h2⟩ := fill_ok (place' := (pl.toArray[·]?)) (us := z.cells) (M := M) hplace hp (T.vl M) hf
      refine Gives.pure h (run_build (P := P) w t qs r' ?_) (by simpa using h2.agg)
      unfold Program.built
      simp only [T.info, T.und, T.zero, hpl]
      exact h1
    | _ => exact hk.elim
  · rename_i n e hfs
    rw [hfs] at hk
    obtain ⟨te, hte, hl⟩ := some_bind hl
    obtain ⟨cs, hf, hl⟩ := some_bind hl
    simp at hl; subst hl
    obtain ⟨i2, d2, z2, T2⟩ := hE.ty _ _ hte
    cases d with
    | array n' e' =>
      obtain ⟨rfl, rfl, _⟩ := hk
      obtain ⟨r', h1, h2⟩ := fill_ok (place' := fun i => some (i * te.size, te.size)) (us := z.cells) (M := M) (fun _ _ hx => hx) hp (T.vl M) hf
      refine Gives.pure h (run_build (P := P) w t qs r' ?_) (by simpa using h2.agg)
      unfold Program.built
      simp only [T.info, T.und, T.zero, T2.info, T2.size]
      exact h1
    | _ => exact hk.elim
  · simp at hl

theorem length_rep (z : List Value) : ∀ n, (rep n z).length = n * z.length
  | 0 => by simp [rep]
  | n + 1 => by simp [rep, length_rep z n, Nat.succ_mul, Nat.add_comm]

theorem get_rep (z : List Value) : ∀ (n i : Nat), i < n * z.length → (rep n z)[i]? = z[i % z.length]?
  | 0, i, h => by simp at h
  | n + 1, i, h => by
    simp only [rep]
    by_cases hi : i < z.length
    · rw [List.getElem?_append_left hi, Nat.mod_eq_of_lt hi]
    · rw [List.getElem?_append_right (by omega), get_rep z n (i - z.length) (by rw [Nat.succ_mul] at h; omega)]
      congr 1
      have : z.length ≤ i := by omega
      rw [Nat.mod_eq_sub_mod this]

/-- The cells of n zero values. -/
theorem zeros_vl {t : TypeId} {ti : TI} {i : TypeInfo} {d : TypeDesc} {z : Value} (T : TyOk P t ti i d z) (n : Nat) : VL M (rep n ti.zero) (madeCells z.cells (n * ti.size)).toList := by
  have hz : z.cells.size = ti.size := by rw [← T.len, ← T.cells]; simp
  refine ⟨by rw [length_rep, T.len]; simp [size_madeCells], fun j x u hx hu => ?_⟩
  have hj : j < n * ti.zero.length := by have := (List.getElem?_eq_some_iff.1 hx).1; rwa [length_rep] at this
  rw [get_rep _ _ _ hj] at hx
  have hpos : 0 < ti.zero.length := by
    rcases Nat.eq_zero_or_pos ti.zero.length with h0 | h0
    · rw [h0] at hj; simp at hj
    · exact h0
  have hm : j % ti.zero.length < ti.zero.length := Nat.mod_lt _ hpos
  have hu' : u = z.cells[j % z.cells.size]! := by
    have hj2 : j < n * ti.size := by rw [← T.len]; exact hj
    simp only [madeCells, Array.toList_map, Array.toList_range, List.getElem?_map, List.getElem?_range hj2, Option.map_some, Option.some.injEq] at hu
    exact hu.symm
  have hlt : j % z.cells.size < z.cells.size := by rw [hz, ← T.len]; exact hm
  have hzu : z.cells.toList[j % ti.zero.length]? = some u := by
    rw [hu', T.len, ← hz]
    simp only [Array.getElem?_toList, Array.getElem?_eq_getElem hlt]
    rw [getElem!_pos z.cells _ hlt]
  exact (T.vl M).2 _ x u hx hzu

theorem newSlice (h : HR M H w) {e : Ent} (hb : e.base = 0) (he : e.blk = w.heap.size) {len cap c : Nat} (hc : CapOk e 0 cap c) :
    VR (M ++ [some e]) (.slice (some ⟨H.length, 0, none⟩) len cap) (.slice (some ⟨w.heap.size, 0, none⟩) len c) := by
  have := VR.slice (M := M ++ [some e]) (off := 0) (len := len) (get_new h e) hc
  rw [hb, he] at this; exact this

theorem makeSlice_ok (hE : E.Ok P) (h : HR M H w) {t : TypeId} {l l' c c' v : Value} (hl : VR M l l') (hc : VR M c c') (hm : aMakeSlice E t l c H = some (v, H')) : Gives P M H w (Instr.makeSlice t l' c') v H' := by
  unfold aMakeSlice at hm
  split at hm
  · rename_i k1 n1 k2 n2
    obtain ⟨ti, ht, hm⟩ := some_bind hm
    obtain ⟨i, d, z, T⟩ := hE.ty _ _ ht
    have hk := T.k
    split at hm
    · rename_i e he
      rw [he] at hk
      obtain ⟨te, hte, hm⟩ := some_bind hm
      obtain ⟨i2, d2, z2, T2⟩ := hE.ty _ _ hte
      split at hm
      · rename_i hb
        obtain ⟨h0, h1, h2, h3⟩ := hb
        simp at hm; obtain ⟨rfl, rfl⟩ := hm
        have := hl.of_int; subst this
        have := hc.of_int; subst this
        cases d with
        | slice e' =>
          have hk : e = e' := hk
          subst hk
          have hr := run_make (P := P) w t e i2 z2 T.und T2.info T2.zero k1 k2 n1 n2 h0 h1 (by rw [T2.bytes]; exact h2) h3
          rw [T2.size] at hr
          have hv := zeros_vl (M := M) T2 n2.toNat
          refine Gives.new h hr (Nat.le_of_eq (by have := hv.1; simpa using this)) ?_ (newSlice h rfl rfl (.inl rfl))
          rw [List.take_of_length_le (by have := hv.1; simp at this ⊢; omega)]
          exact hv
        | _ => exact hk.elim
      · simp at hm
    · simp at hm
  · simp at hm

theorem buildSlice_ok (hE : E.Ok P) (h : HR M H w) {t : TypeId} {n : Nat} {ps : List (Nat × Value)} {qs : Array (Nat × Value)} {v : Value} (hp : PL M ps qs.toList) (hl : aBuildSlice E t n ps H = some (v, H')) :
    Gives P M H w (Instr.buildSlice t n qs) v H' := by
  unfold aBuildSlice at hl
  obtain ⟨ti, ht, hl⟩ := some_bind hl
  obtain ⟨i, d, z, T⟩ := hE.ty _ _ ht
  have hk := T.k
  split at hl
  · rename_i e he
    rw [he] at hk
    obtain ⟨te, hte, hl⟩ := some_bind hl
    obtain ⟨i2, d2, z2, T2⟩ := hE.ty _ _ hte
    split at hl
    · rename_i hb
      obtain ⟨cs, hf, hl⟩ := some_bind hl
      simp at hl; obtain ⟨rfl, rfl⟩ := hl
      cases d with
      | slice e' =>
        have hk : e = e' := hk
        subst hk
        have hv := zeros_vl (M := M) T2 n
        obtain ⟨r', h1, h2⟩ := fill_ok (place' := fun i => some (i * te.size, te.size)) (us := madeCells z2.cells (n * te.size)) (M := M) (fun _ _ hx => hx) hp hv hf
        refine Gives.new (c := r') (t := e) h ?_ (Nat.le_of_eq (by have := h2.1; simpa using this)) ?_ (newSlice h rfl rfl (.inl rfl))
        · have hb' : ¬ n * te.size > 2 ^ 24 := by omega
          by_cases h0 : n * te.size = 0
          · have hm : madeCells z2.cells (n * te.size) = #[] := by simp [madeCells, h0, Array.range_zero']
            rw [hm] at h1
            have hq : (Array.map (fun x => (#[] : Array Value)[x % (#[] : Array Value).size]!) (Array.range (n * te.size))) = #[] := by simp [h0, Array.range_zero']
            simp only [h0] at hq
            simp only [Instr.buildSlice, Sem.run_bind, T.run_und, Result.andThen_ok, T2.run_size, h0]
            rw [if_neg (by decide)]
            simp only [Sem.run_bind, Sem.run_pure, Result.andThen_ok, if_true, hq, h1, newRow, run_newObj]
            rfl
          · simp only [Instr.buildSlice, Sem.run_bind, T.run_und, Result.andThen_ok, T2.run_size, hb', if_false, Sem.run_pure, h0, T2.run_zero]
            unfold madeCells at h1
            simp only [h1, newRow, Sem.run_bind, run_newObj, Result.andThen_ok, Sem.run_pure]
            rfl
        · rw [List.take_of_length_le (by have := h2.1; simp at this ⊢; omega)]
          exact h2
      | _ => exact hk.elim
    · simp at hl
  · simp at hl

end Go.Proofs.Ytmjonmhpfngkaaa.Zq
