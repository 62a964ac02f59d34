/- The operations one by one, first part: each gives what the abstract one gives. -/
import Derived.Test.YtmjonmhpfngkaaaZqTy
namespace Go.Proofs.Ytmjonmhpfngkaaa.Zq
variable {P : Program} {E : Env} {M : Mp} {H H' : Heap} {w : World}

theorem VR.of_ptr {b off : Nat} {u : Value} (h : VR M (.pointer (some ⟨b, off, none⟩)) u) : ∃ e, M[b]? = some (some e) ∧ u = .pointer (some ⟨e.blk, e.base + off, none⟩) := by
  cases h with
  | ptr h => exact ⟨_, h, rfl⟩
theorem VR.of_int {k : IntKind} {n : Int} {u : Value} (h : VR M (.int k n) u) : u = .int k n := by cases h; rfl
theorem VR.of_bool {b : Bool} {u : Value} (h : VR M (.bool b) u) : u = .bool b := by cases h; rfl
theorem VR.of_string {b : ByteArray} {u : Value} (h : VR M (.string b) u) : u = .string b := by cases h; rfl
theorem VR.of_slice {b off len cap : Nat} {u : Value} (h : VR M (.slice (some ⟨b, off, none⟩) len cap) u) :
    ∃ e c, M[b]? = some (some e) ∧ CapOk e off cap c ∧ u = .slice (some ⟨e.blk, e.base + off, none⟩) len c := by
  cases h with
  | slice h hc => exact ⟨_, _, h, hc, rfl⟩
theorem VR.of_sliceE {b off : Nat} {u : Value} (h : VR M (.slice (some ⟨b, off, some 0⟩) 0 0) u) :
    ∃ a c, u = .slice (some a) 0 c := by
  cases h with
  | sliceE => exact ⟨_, _, rfl⟩
theorem VR.of_slice0 {u : Value} (h : VR M (.slice none 0 0) u) : u = .slice none 0 0 := by cases h; rfl

theorem some_bind {α β : Type} {o : Option α} {f : α → Option β} {b : β} (h : o.bind f = some b) : ∃ a, o = some a ∧ f a = some b := by
  cases o with
  | none => simp at h
  | some a => exact ⟨a, rfl, h⟩

/-- A value of a type read at an address. -/
theorem loadVar_ok (hE : E.Ok P) (h : HR M H w) {t : TypeId} {ti : TI} {b off : Nat} {e : Ent} {cs : List Value} {v : Value} (ht : E.ty t = some ti) (he : M[b]? = some (some e))
    (hr : rd H b off ti.size = some cs) (hv : ofCells ti.k cs = some v) : ∃ u, (loadVar t ⟨e.blk, e.base + off, none⟩).run P w = .ok u w ∧ VR M v u := by
  obtain ⟨i, d, z, T⟩ := hE.ty t ti ht
  obtain ⟨us, h1, h2, h3, h4⟩ := rd_ok P h hr he
  obtain ⟨u, g1, g2, g3⟩ := ofCells_ok h2 hv
  refine ⟨u, ?_, g1⟩
  simp only [loadVar, Sem.run_bind, T.run_isAgg, Result.andThen_ok]
  cases hk : isAggK ti.k with
  | true => simp [T.run_size, h1 w rfl, g2 hk]
  | false =>
    have hu := g3 hk
    have hc := h4 0 u (by rw [hu]; rfl)
    simp only [Nat.add_zero] at hc
    simp [hc]

theorem load_ok (hE : E.Ok P) (h : HR M H w) {t : TypeId} {a a' v : Value} (ha : VR M a a') (hl : aLoad E t a H = some v) : Gives P M H w (Instr.loadAt t a') v H := by
  unfold aLoad at hl
  split at hl
  · obtain ⟨ti, ht, hl⟩ := some_bind hl
    obtain ⟨cs, hr, hv⟩ := some_bind hl
    obtain ⟨e, he, rfl⟩ := ha.of_ptr
    obtain ⟨u, h1, h2⟩ := loadVar_ok hE h ht he hr hv
    exact Gives.pure h (by simp [Instr.loadAt, Instr.sureAddr, h1]) h2
  · simp at hl

theorem store_ok (hE : E.Ok P) (h : HR M H w) {t : TypeId} {a a' v v' : Value} (ha : VR M a a') (hv : VR M v v') (hs : aStore E t a v H = some H') :
    ∃ w', (Instr.storeAt t a' v').run P w = .ok () w' ∧ Stp M H w M H' w' := by
  unfold aStore at hs
  split at hs
  · obtain ⟨ti, ht, hs⟩ := some_bind hs
    obtain ⟨e, he, rfl⟩ := ha.of_ptr
    obtain ⟨i, d, z, T⟩ := hE.ty t ti ht
    split at hs
    · rename_i hlen
      obtain ⟨w', h1, h2⟩ := wr_ok P h hs he hv.cells
      refine ⟨w', ?_, h2⟩
      have hc : v'.cells.size = ti.size := by have := hv.cells.1; simp at this hlen; omega
      simp only [Instr.storeAt, Instr.sureAddr, storeVar, Sem.run_bind, Sem.run_pure, Result.andThen_ok, T.run_size, hc]
      simp [h1]
    · simp at hs
  · simp at hs

/-- A new block behind a computation. -/
theorem Gives.new {s : Sem Value} {cells : List Value} {c : Array Value} {t : TypeId} {sz : Nat} {opn : Bool} {v v' : Value} (h : HR M H w)
    (hr : s.run P w = .ok v' (w.alloc (.cells c t (0, 0)))) (hn : cells.length ≤ c.size) (hv : VL M cells (c.toList.take cells.length))
    (hv' : VR (M ++ [some ⟨w.heap.size, 0, opn, cells.length, sz, c.size⟩]) v v') : Gives P M H w s v (mk H cells sz opn) :=
  ⟨v', _, _, hr, Stp.newRow h t sz opn hn hv, hv'⟩

theorem get_new (h : HR M H w) (e : Ent) : (M ++ [some e])[H.length]? = some (some e) := by
  rw [List.getElem?_append_right (by rw [h.len]; exact Nat.le_refl _), h.len]; simp

theorem newPtr (h : HR M H w) {e : Ent} (hb : e.base = 0) (he : e.blk = w.heap.size) : VR (M ++ [some e]) (.pointer (some ⟨H.length, 0, none⟩)) (.pointer (some ⟨w.heap.size, 0, none⟩)) := by
  have := VR.ptr (M := M ++ [some e]) (off := 0) (get_new h e)
  rw [hb, he] at this; exact this

theorem newVar_run (t : TypeId) (v : Value) : (newVar t v).run P w = .ok ⟨w.heap.size, 0, none⟩ (w.alloc (.cells v.cells t (0, 0))) := by
  simp [newVar, newRow]

theorem alloc_ok (hE : E.Ok P) (h : HR M H w) {t : TypeId} {v : Value} (ha : aAlloc E t H = some (v, H')) : Gives P M H w (Instr.alloc t true (.tuple #[])) v H' := by
  unfold aAlloc at ha
  obtain ⟨ti, ht, ha⟩ := some_bind ha
  obtain ⟨i, d, z, T⟩ := hE.ty t ti ht
  simp at ha; obtain ⟨rfl, rfl⟩ := ha
  have hz : ti.zero.length = z.cells.size := by rw [← T.cells]; simp
  refine Gives.new (c := z.cells) (t := t) h ?_ (Nat.le_of_eq hz) ?_ (newPtr h rfl rfl)
  · simp [Instr.alloc, T.run_zero, newVar_run]
  · rw [hz, List.take_of_length_le (by simp)]; exact T.vl M

theorem box_ok (h : HR M H w) {t : TypeId} {x x' v : Value} (hx : VR M x x') (ha : aBox x H = some (v, H')) : Gives P M H w (Instr.box t x') v H' := by
  unfold aBox at ha
  simp at ha; obtain ⟨rfl, rfl⟩ := ha
  have hc := hx.cells
  refine Gives.new (c := x'.cells) (t := t) h ?_ ?_ ?_ (newPtr h rfl rfl)
  · simp [Instr.box, newVar_run]
  · have := hc.1; simp at this; simp; omega
  · have := hc.1; simp at this
    rw [List.take_of_length_le (by simp; omega)]; exact hc

theorem fieldAt_ok (hE : E.Ok P) (h : HR M H w) {t : TypeId} {i : Nat} {a a' v : Value} (ha : VR M a a') (hl : aFieldAddr E t a i = some v) : Gives P M H w (Instr.fieldAt t a' i) v H := by
  unfold aFieldAddr at hl
  split at hl
  · obtain ⟨ti, ht, hl⟩ := some_bind hl
    obtain ⟨e, he, rfl⟩ := ha.of_ptr
    obtain ⟨ii, d, z, T⟩ := hE.ty t ti ht
    have hk := T.k
    split at hl
    · rename_i fs hfs
      rw [hfs] at hk
      cases d with
      | struct gs =>
        obtain ⟨hg, _⟩ := hk
        split at hl
        · rename_i o ft hi
          obtain ⟨te, hte, hl⟩ := some_bind hl
          split at hl
          · simp at hl
          · rename_i hsz
            simp at hl; subst hl
            obtain ⟨i2, d2, z2, T2⟩ := hE.ty ft te hte
            rw [hg] at hi
            simp only [List.getElem?_map, Option.map_eq_some_iff] at hi
            obtain ⟨f, hf, hfe⟩ := hi
            simp at hfe; obtain ⟨rfl, rfl⟩ := hfe
            have hf' : gs[i]? = some f := by simpa using hf
            refine Gives.pure h ?_ (.ptr he)
            simp only [Instr.fieldAt, Sem.run_bind, T.run_und, Result.andThen_ok, hf', Instr.sureAddr, Sem.run_pure, fieldPlace, T2.run_size, hsz, if_false, add_none, Nat.add_assoc]
        · simp at hl
      | _ => exact hk.elim
    · simp at hl
  · simp at hl

theorem extract_ok (h : HR M H w) {i : Nat} {a a' v : Value} (ha : VR M a a') (hl : aExtract a i = some v) : Gives P M H w (Instr.extract a' i) v H := by
  unfold aExtract at hl
  split at hl
  · cases ha with
    | tuple hx gx =>
      rename_i us
      have hi : i < us.size := by rw [← hx]; exact (Array.getElem?_eq_some_iff.1 hl).1
      refine Gives.pure (v' := us[i]) h ?_ (gx i _ _ hl (Array.getElem?_eq_getElem hi))
      simp [Instr.extract, Array.getElem?_eq_getElem hi]
  · simp at hl

theorem unary_ok (h : HR M H w) {op : UnOp} {a a' v : Value} (ha : VR M a a') (hl : aUn op a = some v) : Gives P M H w (Op.unary op a') v H := by
  unfold aUn at hl
  split at hl
  · simp at hl; subst hl; have := ha.of_int; subst this
    exact Gives.pure h (by simp [Op.unary, Op.intArith]) (.int _ _)
  · simp at hl; subst hl; have := ha.of_bool; subst this
    exact Gives.pure h (by simp [Op.unary]) (.bool _)
  · simp at hl

theorem indexAt_ok (hE : E.Ok P) (h : HR M H w) {t : TypeId} {x x' i i' v : Value} (hx : VR M x x') (hi : VR M i i') (hl : aIndexAddr E t x i = some v) : Gives P M H w (Instr.indexAt t x' i') v H := by
  unfold aIndexAddr at hl
  split at hl
  · rename_i k n
    have := hi.of_int; subst this
    obtain ⟨ti, ht, hl⟩ := some_bind hl
    obtain ⟨ii, d, z, T⟩ := hE.ty t ti ht
    have hk := T.k
    split at hl
    · rename_i len e b off hkd _
      rw [hkd] at hk
      cases d with
      | array n' e' =>
        obtain ⟨rfl, rfl, _⟩ := hk
        obtain ⟨te, hte, hl⟩ := some_bind hl
        obtain ⟨i2, d2, z2, T2⟩ := hE.ty _ te hte
        obtain ⟨en, he, rfl⟩ := hx.of_ptr
        split at hl
        · rename_i hb
          simp at hl; subst hl
          refine Gives.pure h ?_ (.ptr he)
          simp [Instr.indexAt, asIntOf, T.run_und, Instr.sureAddr, hb, T2.run_size, add_none, Nat.add_assoc]
        · simp at hl
      | _ => exact hk.elim
    · rename_i e b off len cap hkd _
      rw [hkd] at hk
      cases d with
      | slice e' =>
        have hk : e = e' := hk
        subst hk
        obtain ⟨te, hte, hl⟩ := some_bind hl
        obtain ⟨i2, d2, z2, T2⟩ := hE.ty _ te hte
        obtain ⟨en, c, he, _, rfl⟩ := hx.of_slice
        split at hl
        · rename_i hb
          simp at hl; subst hl
          refine Gives.pure h ?_ (.ptr he)
          simp [Instr.indexAt, asIntOf, T.run_und, hb, T2.run_size, add_none, Nat.add_assoc]
        · simp at hl
      | _ => exact hk.elim
    · simp at hl
  · simp at hl

theorem part_ok (hE : E.Ok P) {t : TypeId} {cs us : List Value} {off : Nat} {v : Value} (hc : VL M cs us) (hl : aPart E t cs off = some v) :
    ∃ u, (∀ w, (part t us.toArray off).run P w = .ok u w) ∧ VR M v u := by
  unfold aPart at hl
  obtain ⟨ti, ht, hl⟩ := some_bind hl
  obtain ⟨i, d, z, T⟩ := hE.ty t ti ht
  split at hl
  · rename_i hle
    obtain ⟨u, g1, g2, g3⟩ := ofCells_ok ((hc.drop off).take ti.size) hl
    refine ⟨u, fun w => ?_, g1⟩
    simp only [part, Sem.run_bind, T.run_isAgg, Result.andThen_ok]
    cases hk : isAggK ti.k with
    | true =>
      have e : us.toArray.extract off (off + ti.size) = ((us.drop off).take ti.size).toArray := by
        apply Array.ext'
        simp [List.extract, List.take_drop]
      simp [T.run_size, g2 hk]
    | false =>
      have hu := g3 hk
      have : us[off]? = some u := by
        have h0 : ((us.drop off).take ti.size)[0]? = some u := by rw [hu]; rfl
        simp only [List.getElem?_take, List.getElem?_drop] at h0
        split at h0
        · simpa using h0
        · simp at h0
      simp [this]
  · simp at hl

theorem field_ok (hE : E.Ok P) (h : HR M H w) {t : TypeId} {i : Nat} {a a' v : Value} (ha : VR M a a') (hl : aField E t a i = some v) : Gives P M H w (Instr.field t a' i) v H := by
  unfold aField at hl
  split at hl
  · obtain ⟨us, rfl, hu⟩ := ha.of_agg
    obtain ⟨ti, ht, hl⟩ := some_bind hl
    obtain ⟨ii, d, z, T⟩ := hE.ty t ti ht
    have hk := T.k
    split at hl
    · rename_i fs hfs
      rw [hfs] at hk
      cases d with
      | struct gs =>
        obtain ⟨hg, _⟩ := hk
        split at hl
        · rename_i o ft hi
          obtain ⟨u, h1, h2⟩ := part_ok hE hu hl
          rw [hg] at hi
          simp only [List.getElem?_map, Option.map_eq_some_iff] at hi
          obtain ⟨f, hf, hfe⟩ := hi
          simp at hfe; obtain ⟨rfl, rfl⟩ := hfe
          have hf' : gs[i]? = some f := by simpa using hf
          refine Gives.pure h ?_ h2
          have := h1 w
          simp only [Array.toArray_toList] at this
          simp [Instr.field, T.run_und, hf', asAgg, this]
        · simp at hl
      | _ => exact hk.elim
    · simp at hl
  · simp at hl

theorem index_ok (hE : E.Ok P) (h : HR M H w) {t : TypeId} {x x' i i' v : Value} (hx : VR M x x') (hi : VR M i i') (hl : aIndex E t x i = some v) : Gives P M H w (Instr.index t x' i') v H := by
  unfold aIndex at hl
  split at hl
  · rename_i k n
    have := hi.of_int; subst this
    obtain ⟨ti, ht, hl⟩ := some_bind hl
    obtain ⟨ii, d, z, T⟩ := hE.ty t ti ht
    have hk := T.k
    split at hl
    · rename_i len e cs hkd _
      rw [hkd] at hk
      cases d with
      | array n' e' =>
        obtain ⟨rfl, rfl, _⟩ := hk
        obtain ⟨te, hte, hl⟩ := some_bind hl
        obtain ⟨i2, d2, z2, T2⟩ := hE.ty _ te hte
        obtain ⟨us, rfl, hu⟩ := hx.of_agg
        split at hl
        · rename_i hb
          obtain ⟨u, h1, h2⟩ := part_ok hE hu hl
          refine Gives.pure h ?_ h2
          have := h1 w
          simp only [Array.toArray_toList] at this
          simp [Instr.index, asIntOf, T.run_und, hb, T2.run_size, this]
        · simp at hl
      | _ => exact hk.elim
    · rename_i s hkd _
      rw [hkd] at hk
      cases d with
      | string =>
        have := hx.of_string; subst this
        split at hl
        · rename_i h0
          split at hl
          · rename_i c hc
            simp at hl; subst hl
            refine Gives.pure h ?_ (.int _ _)
            simp [Instr.index, asIntOf, T.run_und, h0, hc]
          · simp at hl
        · simp at hl
      | _ => exact hk.elim
    · simp at hl
  · simp at hl

theorem convert_ok (hE : E.Ok P) (h : HR M H w) {s d : TypeId} {a a' v : Value} (ha : VR M a a') (hl : aConv E s d a = some v) : Gives P M H w (convert s d a') v H := by
  unfold aConv at hl
  obtain ⟨ts, hts, hl⟩ := some_bind hl
  obtain ⟨td, htd, hl⟩ := some_bind hl
  obtain ⟨i1, d1, z1, T1⟩ := hE.ty _ _ hts
  obtain ⟨i2, d2, z2, T2⟩ := hE.ty _ _ htd
  have hk := T2.k
  split at hl
  · rename_i k k' n hkd _ _
    rw [hkd] at hk
    cases d2 with
    | int k2 =>
      have hk : k = k2 := hk
      subst hk
      simp at hl; subst hl; have := ha.of_int; subst this
      refine Gives.pure h ?_ (.int _ _)
      simp [convert, T1.run_und, T2.run_und, Conv.intToInt]
    | _ => exact hk.elim
  · rename_i s' hkd _ _
    rw [hkd] at hk
    cases d2 with
    | string =>
      simp at hl; subst hl; have := ha.of_string; subst this
      refine Gives.pure h ?_ (.string _)
      simp [convert, T1.run_und, T2.run_und]
    | _ => exact hk.elim
  · simp at hl

end Go.Proofs.Ytmjonmhpfngkaaa.Zq
