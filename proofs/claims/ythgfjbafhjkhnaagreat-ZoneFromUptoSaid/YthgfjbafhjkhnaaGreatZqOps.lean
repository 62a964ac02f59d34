/- The operations one by one, first part: each gives what the abstract one gives. -/
import Derived.Test.YthgfjbafhjkhnaaGreatZqTy
import Derived.Laws.MakeOwn
import Derived.Lib.LaidTab
import Derived.Laws.StructEq
import Derived.Laws.Bits
namespace Go.Proofs.YthgfjbafhjkhnaaGreat.Zq
section
/- The operations one by one, first part: each gives what the abstract one gives. -/
variable {P : Program} {E : Env} {M : Mp} {H H' : Heap} {w : World}

theorem VR.of_ptr {b off : Nat} {u : Value} (h : VR M (.pointer (some ⟨b, off, none⟩)) u) : ∃ e, M[b]? = some (some e) ∧ u = .pointer (some ⟨e.blk, e.base + off, none⟩) := by
  cases h with
  | ptr h => exact ⟨_, h, rfl⟩
theorem VR.of_int {k : IntKind} {n : Int} {u : Value} (h : VR M (.int k n) u) : u = .int k n := by cases h; rfl
theorem VR.of_bool {b : Bool} {u : Value} (h : VR M (.bool b) u) : u = .bool b := by cases h; rfl
theorem VR.of_string {b : ByteArray} {u : Value} (h : VR M (.string b) u) : u = .string b := by cases h; rfl
theorem VR.of_slice {b off len cap : Nat} {u : Value} (h : VR M (.slice (some ⟨b, off, none⟩) len cap) u) :
    ∃ e c, M[b]? = some (some e) ∧ CapOk e off cap c ∧ u = .slice (some ⟨e.blk, e.base + off, none⟩) len c := by
  cases h with
  | slice h hc => exact ⟨_, _, h, hc, rfl⟩
theorem VR.of_sliceE {b off : Nat} {u : Value} (h : VR M (.slice (some ⟨b, off, some 0⟩) 0 0) u) :
    ∃ a c, u = .slice (some a) 0 c := by
  cases h with
  | sliceE => exact ⟨_, _, rfl⟩
theorem VR.of_slice0 {u : Value} (h : VR M (.slice none 0 0) u) : u = .slice none 0 0 := by cases h; rfl

theorem some_bind {α β : Type} {o : Option α} {f : α → Option β} {b : β} (h : o.bind f = some b) : ∃ a, o = some a ∧ f a = some b := by
  cases o with
  | none => simp at h
  | some a => exact ⟨a, rfl, h⟩

/-- A value of a type read at an address. -/
theorem loadVar_ok (hE : E.Ok P) (h : HR M H w) {t : TypeId} {ti : TI} {b off : Nat} {e : Ent} {cs : List Value} {v : Value} (ht : E.ty t = some ti) (he : M[b]? = some (some e))
    (hr : rd H b off ti.size = some cs) (hv : ofCells ti.k cs = some v) : ∃ u, (loadVar t ⟨e.blk, e.base + off, none⟩).run P w = .ok u w ∧ VR M v u := by
  obtain ⟨i, d, z, T⟩ := hE.ty t ti ht
  obtain ⟨us, h1, h2, h3, h4⟩ := rd_ok P h hr he
  obtain ⟨u, g1, g2, g3⟩ := ofCells_ok h2 hv
  refine ⟨u, ?_, g1⟩
  simp only [loadVar, Sem.run_bind, T.run_isAgg, Result.andThen_ok]
  cases hk : isAggK ti.k with
  | true => simp [T.run_size, h1 w rfl, g2 hk]
  | false =>
    have hu := g3 hk
    have hc := h4 0 u (by rw [hu]; rfl)
    simp only [Nat.add_zero] at hc
    simp [hc]

theorem load_ok (hE : E.Ok P) (h : HR M H w) {t : TypeId} {a a' v : Value} (ha : VR M a a') (hl : aLoad E t a H = some v) : Gives P M H w (Instr.loadAt t a') v H := by
  unfold aLoad at hl
  split at hl
  · obtain ⟨ti, ht, hl⟩ := some_bind hl
    obtain ⟨cs, hr, hv⟩ := some_bind hl
    obtain ⟨e, he, rfl⟩ := ha.of_ptr
    obtain ⟨u, h1, h2⟩ := loadVar_ok hE h ht he hr hv
    exact Gives.pure h (by simp [Instr.loadAt, Instr.sureAddr, h1]) h2
  · simp at hl

theorem store_ok (hE : E.Ok P) (h : HR M H w) {t : TypeId} {a a' v v' : Value} (ha : VR M a a') (hv : VR M v v') (hs : aStore E t a v H = some H') :
    ∃ w', (Instr.storeAt t a' v').run P w = .ok () w' ∧ Stp M H w M H' w' := by
  unfold aStore at hs
  split at hs
  · obtain ⟨ti, ht, hs⟩ := some_bind hs
    obtain ⟨e, he, rfl⟩ := ha.of_ptr
    obtain ⟨i, d, z, T⟩ := hE.ty t ti ht
    split at hs
    · rename_i hlen
      obtain ⟨w', h1, h2⟩ := wr_ok P h hs he hv.cells
      refine ⟨w', ?_, h2⟩
      have hc : v'.cells.size = ti.size := by have := hv.cells.1; simp at this hlen; omega
      simp only [Instr.storeAt, Instr.sureAddr, storeVar, Sem.run_bind, Sem.run_pure, Result.andThen_ok, T.run_size, hc]
      simp [h1]
    · simp at hs
  · simp at hs

/-- A new block behind a computation. -/
theorem Gives.new {s : Sem Value} {cells : List Value} {c : Array Value} {t : TypeId} {sz : Nat} {opn : Bool} {v v' : Value} (h : HR M H w)
    (hr : s.run P w = .ok v' (w.alloc (.cells c t (0, 0)))) (hn : cells.length ≤ c.size) (hv : VL M cells (c.toList.take cells.length))
    (hv' : VR (M ++ [some ⟨w.heap.size, 0, opn, cells.length, sz, c.size⟩]) v v') : Gives P M H w s v (mk H cells sz opn) :=
  ⟨v', _, _, hr, Stp.newRow h t sz opn hn hv, hv'⟩

theorem get_new (h : HR M H w) (e : Ent) : (M ++ [some e])[H.length]? = some (some e) := by
  rw [List.getElem?_append_right (by rw [h.len]; exact Nat.le_refl _), h.len]; simp

theorem newPtr (h : HR M H w) {e : Ent} (hb : e.base = 0) (he : e.blk = w.heap.size) : VR (M ++ [some e]) (.pointer (some ⟨H.length, 0, none⟩)) (.pointer (some ⟨w.heap.size, 0, none⟩)) := by
  have := VR.ptr (M := M ++ [some e]) (off := 0) (get_new h e)
  rw [hb, he] at this; exact this

theorem newVar_run (t : TypeId) (v : Value) : (newVar t v).run P w = .ok ⟨w.heap.size, 0, none⟩ (w.alloc (.cells v.cells t (0, 0))) := by
  simp [newVar, newRow]

theorem alloc_ok (hE : E.Ok P) (h : HR M H w) {t : TypeId} {v : Value} (ha : aAlloc E t H = some (v, H')) : Gives P M H w (Instr.alloc t true (.tuple #[])) v H' := by
  unfold aAlloc at ha
  obtain ⟨ti, ht, ha⟩ := some_bind ha
  obtain ⟨i, d, z, T⟩ := hE.ty t ti ht
  simp at ha; obtain ⟨rfl, rfl⟩ := ha
  have hz : ti.zero.length = z.cells.size := by rw [← T.cells]; simp
  refine Gives.new (c := z.cells) (t := t) h ?_ (Nat.le_of_eq hz) ?_ (newPtr h rfl rfl)
  · simp [Instr.alloc, T.run_zero, newVar_run]
  · rw [hz, List.take_of_length_le (by simp)]; exact T.vl M

theorem box_ok (h : HR M H w) {t : TypeId} {x x' v : Value} (hx : VR M x x') (ha : aBox x H = some (v, H')) : Gives P M H w (Instr.box t x') v H' := by
  unfold aBox at ha
  simp at ha; obtain ⟨rfl, rfl⟩ := ha
  have hc := hx.cells
  refine Gives.new (c := x'.cells) (t := t) h ?_ ?_ ?_ (newPtr h rfl rfl)
  · simp [Instr.box, newVar_run]
  · have := hc.1; simp at this; simp; omega
  · have := hc.1; simp at this
    rw [List.take_of_length_le (by simp; omega)]; exact hc

theorem fieldAt_ok (hE : E.Ok P) (h : HR M H w) {t : TypeId} {i : Nat} {a a' v : Value} (ha : VR M a a') (hl : aFieldAddr E t a i = some v) : Gives P M H w (Instr.fieldAt t a' i) v H := by
  unfold aFieldAddr at hl
  split at hl
  · obtain ⟨ti, ht, hl⟩ := some_bind hl
    obtain ⟨e, he, rfl⟩ := ha.of_ptr
    obtain ⟨ii, d, z, T⟩ := hE.ty t ti ht
    have hk := T.k
    split at hl
    · rename_i fs hfs
      rw [hfs] at hk
      cases d with
      | struct gs =>
        obtain ⟨hg, _⟩ := hk
        split at hl
        · rename_i o ft hi
          obtain ⟨te, hte, hl⟩ := some_bind hl
          split at hl
          · simp at hl
          · rename_i hsz
            simp at hl; subst hl
            obtain ⟨i2, d2, z2, T2⟩ := hE.ty ft te hte
            rw [hg] at hi
            simp only [List.getElem?_map, Option.map_eq_some_iff] at hi
            obtain ⟨f, hf, hfe⟩ := hi
            simp at hfe; obtain ⟨rfl, rfl⟩ := hfe
            have hf' : gs[i]? = some f := by simpa using hf
            refine Gives.pure h ?_ (.ptr he)
            simp only [Instr.fieldAt, Sem.run_bind, T.run_und, Result.andThen_ok, hf', Instr.sureAddr, Sem.run_pure, fieldPlace, T2.run_size, hsz, if_false, add_none, Nat.add_assoc]
        · simp at hl
      | _ => exact hk.elim
    · simp at hl
  · simp at hl

theorem extract_ok (h : HR M H w) {i : Nat} {a a' v : Value} (ha : VR M a a') (hl : aExtract a i = some v) : Gives P M H w (Instr.extract a' i) v H := by
  unfold aExtract at hl
  split at hl
  · cases ha with
    | tuple hx gx =>
      rename_i us
      have hi : i < us.size := by rw [← hx]; exact (Array.getElem?_eq_some_iff.1 hl).1
      refine Gives.pure (v' := us[i]) h ?_ (gx i _ _ hl (Array.getElem?_eq_getElem hi))
      simp [Instr.extract, Array.getElem?_eq_getElem hi]
  · simp at hl

theorem unary_ok (h : HR M H w) {op : UnOp} {a a' v : Value} (ha : VR M a a') (hl : aUn op a = some v) : Gives P M H w (Op.unary op a') v H := by
  unfold aUn at hl
  split at hl
  · simp at hl; subst hl; have := ha.of_int; subst this
    exact Gives.pure h (by simp [Op.unary, Op.intArith]) (.int _ _)
  · simp at hl; subst hl; have := ha.of_bool; subst this
    exact Gives.pure h (by simp [Op.unary]) (.bool _)
  · simp at hl

theorem indexAt_ok (hE : E.Ok P) (h : HR M H w) {t : TypeId} {x x' i i' v : Value} (hx : VR M x x') (hi : VR M i i') (hl : aIndexAddr E t x i = some v) : Gives P M H w (Instr.indexAt t x' i') v H := by
  unfold aIndexAddr at hl
  split at hl
  · rename_i k n
    have := hi.of_int; subst this
    obtain ⟨ti, ht, hl⟩ := some_bind hl
    obtain ⟨ii, d, z, T⟩ := hE.ty t ti ht
    have hk := T.k
    split at hl
    · rename_i len e b off hkd _
      rw [hkd] at hk
      cases d with
      | array n' e' =>
        obtain ⟨rfl, rfl, _⟩ := hk
        obtain ⟨te, hte, hl⟩ := some_bind hl
        obtain ⟨i2, d2, z2, T2⟩ := hE.ty _ te hte
        obtain ⟨en, he, rfl⟩ := hx.of_ptr
        split at hl
        · rename_i hb
          simp at hl; subst hl
          refine Gives.pure h ?_ (.ptr he)
          simp [Instr.indexAt, asIntOf, T.run_und, Instr.sureAddr, hb, T2.run_size, add_none, Nat.add_assoc]
        · simp at hl
      | _ => exact hk.elim
    · rename_i e b off len cap hkd _
      rw [hkd] at hk
      cases d with
      | slice e' =>
        have hk : e = e' := hk
        subst hk
        obtain ⟨te, hte, hl⟩ := some_bind hl
        obtain ⟨i2, d2, z2, T2⟩ := hE.ty _ te hte
        obtain ⟨en, c, he, _, rfl⟩ := hx.of_slice
        split at hl
        · rename_i hb
          simp at hl; subst hl
          refine Gives.pure h ?_ (.ptr he)
          simp [Instr.indexAt, asIntOf, T.run_und, hb, T2.run_size, add_none, Nat.add_assoc]
        · simp at hl
      | _ => exact hk.elim
    · simp at hl
  · simp at hl

theorem part_ok (hE : E.Ok P) {t : TypeId} {cs us : List Value} {off : Nat} {v : Value} (hc : VL M cs us) (hl : aPart E t cs off = some v) :
    ∃ u, (∀ w, (part t us.toArray off).run P w = .ok u w) ∧ VR M v u := by
  unfold aPart at hl
  obtain ⟨ti, ht, hl⟩ := some_bind hl
  obtain ⟨i, d, z, T⟩ := hE.ty t ti ht
  split at hl
  · rename_i hle
    obtain ⟨u, g1, g2, g3⟩ := ofCells_ok ((hc.drop off).take ti.size) hl
    refine ⟨u, fun w => ?_, g1⟩
    simp only [part, Sem.run_bind, T.run_isAgg, Result.andThen_ok]
    cases hk : isAggK ti.k with
    | true =>
      have e : us.toArray.extract off (off + ti.size) = ((us.drop off).take ti.size).toArray := by
        apply Array.ext'
        simp [List.extract, List.take_drop]
      simp [T.run_size, g2 hk]
    | false =>
      have hu := g3 hk
      have : us[off]? = some u := by
        have h0 : ((us.drop off).take ti.size)[0]? = some u := by rw [hu]; rfl
        simp only [List.getElem?_take, List.getElem?_drop] at h0
        split at h0
        · simpa using h0
        · simp at h0
      simp [this]
  · simp at hl

theorem field_ok (hE : E.Ok P) (h : HR M H w) {t : TypeId} {i : Nat} {a a' v : Value} (ha : VR M a a') (hl : aField E t a i = some v) : Gives P M H w (Instr.field t a' i) v H := by
  unfold aField at hl
  split at hl
  · obtain ⟨us, rfl, hu⟩ := ha.of_agg
    obtain ⟨ti, ht, hl⟩ := some_bind hl
    obtain ⟨ii, d, z, T⟩ := hE.ty t ti ht
    have hk := T.k
    split at hl
    · rename_i fs hfs
      rw [hfs] at hk
      cases d with
      | struct gs =>
        obtain ⟨hg, _⟩ := hk
        split at hl
        · rename_i o ft hi
          obtain ⟨u, h1, h2⟩ := part_ok hE hu hl
          rw [hg] at hi
          simp only [List.getElem?_map, Option.map_eq_some_iff] at hi
          obtain ⟨f, hf, hfe⟩ := hi
          simp at hfe; obtain ⟨rfl, rfl⟩ := hfe
          have hf' : gs[i]? = some f := by simpa using hf
          refine Gives.pure h ?_ h2
          have := h1 w
          simp only [Array.toArray_toList] at this
          simp [Instr.field, T.run_und, hf', asAgg, this]
        · simp at hl
      | _ => exact hk.elim
    · simp at hl
  · simp at hl

theorem index_ok (hE : E.Ok P) (h : HR M H w) {t : TypeId} {x x' i i' v : Value} (hx : VR M x x') (hi : VR M i i') (hl : aIndex E t x i = some v) : Gives P M H w (Instr.index t x' i') v H := by
  unfold aIndex at hl
  split at hl
  · rename_i k n
    have := hi.of_int; subst this
    obtain ⟨ti, ht, hl⟩ := some_bind hl
    obtain ⟨ii, d, z, T⟩ := hE.ty t ti ht
    have hk := T.k
    split at hl
    · rename_i len e cs hkd _
      rw [hkd] at hk
      cases d with
      | array n' e' =>
        obtain ⟨rfl, rfl, _⟩ := hk
        obtain ⟨te, hte, hl⟩ := some_bind hl
        obtain ⟨i2, d2, z2, T2⟩ := hE.ty _ te hte
        obtain ⟨us, rfl, hu⟩ := hx.of_agg
        split at hl
        · rename_i hb
          obtain ⟨u, h1, h2⟩ := part_ok hE hu hl
          refine Gives.pure h ?_ h2
          have := h1 w
          simp only [Array.toArray_toList] at this
          simp [Instr.index, asIntOf, T.run_und, hb, T2.run_size, this]
        · simp at hl
      | _ => exact hk.elim
    · rename_i s hkd _
      rw [hkd] at hk
      cases d with
      | string =>
        have := hx.of_string; subst this
        split at hl
        · rename_i h0
          split at hl
          · rename_i c hc
            simp at hl; subst hl
            refine Gives.pure h ?_ (.int _ _)
            simp [Instr.index, asIntOf, T.run_und, h0, hc]
          · simp at hl
        · simp at hl
      | _ => exact hk.elim
    · simp at hl
  · simp at hl

theorem convert_ok (hE : E.Ok P) (h : HR M H w) {s d : TypeId} {a a' v : Value} (ha : VR M a a') (hl : aConv E s d a = some v) : Gives P M H w (convert s d a') v H := by
  unfold aConv at hl
  obtain ⟨ts, hts, hl⟩ := some_bind hl
  obtain ⟨td, htd, hl⟩ := some_bind hl
  obtain ⟨i1, d1, z1, T1⟩ := hE.ty _ _ hts
  obtain ⟨i2, d2, z2, T2⟩ := hE.ty _ _ htd
  have hk := T2.k
  split at hl
  · rename_i k k' n hkd _ _
    rw [hkd] at hk
    cases d2 with
    | int k2 =>
      have hk : k = k2 := hk
      subst hk
      simp at hl; subst hl; have := ha.of_int; subst this
      refine Gives.pure h ?_ (.int _ _)
      simp [convert, T1.run_und, T2.run_und, Conv.intToInt]
    | _ => exact hk.elim
  · rename_i s' hkd _ _
    rw [hkd] at hk
    cases d2 with
    | string =>
      simp at hl; subst hl; have := ha.of_string; subst this
      refine Gives.pure h ?_ (.string _)
      simp [convert, T1.run_und, T2.run_und]
    | _ => exact hk.elim
  · simp at hl
end

section
/- The operations one by one, second part: what is built. -/
variable {P : Program} {E : Env} {M : Mp} {H H' : Heap} {w : World}

theorem foldl_patch (off : Nat) : ∀ (vs : List Value) (j : Nat) (cells : Array Value), off + j + vs.length ≤ cells.size →
    ((vs.zipIdx j).foldl (fun (cs : Array Value) (p : Value × Nat) => cs.setIfInBounds (off + p.2) p.1) cells).toList = patch cells.toList (off + j) vs
  | [], j, cells, _ => by simp [patch]
  | v :: vs, j, cells, h => by
    simp only [List.zipIdx_cons, List.foldl_cons]
    rw [foldl_patch off vs (j + 1) _ (by simp at h ⊢; omega)]
    unfold patch
    rw [Array.toList_setIfInBounds]
    have := list_seg_step cells.toList (off + j) v vs (by simp at h ⊢; omega)
    simpa [Nat.add_assoc] using this

theorem fill_step (cells : Array Value) (off : Nat) (v : Value) (h : off + v.cells.size ≤ cells.size) :
    (v.cells.zipIdx.foldl (fun (cs : Array Value) (p : Value × Nat) => cs.setIfInBounds (off + p.2) p.1) cells).toList = patch cells.toList off v.cells.toList := by
  have := foldl_patch off v.cells.toList 0 cells (by simpa using h)
  simp only [Nat.add_zero] at this
  rw [← this, ← Array.foldl_toList, Array.toList_zipIdx]

/-- Parts, one by one: their places, and their values. -/
inductive PL (M : Mp) : List (Nat × Value) → List (Nat × Value) → Prop
  | nil : PL M [] []
  | cons {a b ps qs} (h : a.1 = b.1 ∧ VR M a.2 b.2) (t : PL M ps qs) : PL M (a :: ps) (b :: qs)

theorem fill_ok {place place' : Nat → Option (Nat × Nat)} (hp : ∀ i x, place i = some x → place' i = some x) :
    ∀ {ps qs : List (Nat × Value)} {cs r : List Value} {us : Array Value}, PL M ps qs → VL M cs us.toList → aFill place cs ps = some r →
      ∃ r', Instr.fill place' us qs = some r' ∧ VL M r r'.toList := by
  intro ps
  induction ps with
  | nil =>
    intro qs cs r us hpl hv hr
    cases hpl
    simp [aFill] at hr; subst hr
    exact ⟨us, rfl, hv⟩
  | cons a ps ih =>
    intro qs cs r us hpl hv hr
    obtain ⟨i, v⟩ := a
    cases hpl with
    | cons hab hpl =>
      rename_i b qs
      obtain ⟨j, u⟩ := b
      obtain ⟨he, hvu⟩ := hab
      simp only at he; subst he
      unfold aFill at hr
      split at hr
      · simp at hr
      · rename_i off size hpi
        split at hr
        · rename_i hsz
          split at hr
          · rename_i hle
            have hc := hvu.cells
            have e1 : u.cells.size = size := by have := hc.1; simp only [Array.length_toList] at this hsz; omega
            have e2 : off + u.cells.size ≤ us.size := by have := hv.1; simp only [Array.length_toList] at this; omega
            have hv2 : VL M (patch cs off v.cells.toList) (u.cells.zipIdx.foldl (fun (cs : Array Value) (p : Value × Nat) => cs.setIfInBounds (off + p.2) p.1) us).toList := by
              rw [fill_step us off u e2]; exact hv.patch hc off
            obtain ⟨r', h1, h2⟩ := ih hpl hv2 hr
            refine ⟨r', ?_, h2⟩
            unfold Instr.fill
            rw [hp i _ hpi]
            simp only
            rw [if_neg (by simp; omega)]
            exact h1
          · simp at hr
        · simp at hr

theorem build_ok (hE : E.Ok P) (h : HR M H w) {t : TypeId} {ps : List (Nat × Value)} {qs : Array (Nat × Value)} {v : Value} (hp : PL M ps qs.toList) (hl : aBuild E t ps = some v) : Gives P M H w (Instr.build t qs) v H := by
  unfold aBuild at hl
  obtain ⟨ti, ht, hl⟩ := some_bind hl
  obtain ⟨i, d, z, T⟩ := hE.ty _ _ ht
  have hk := T.k
  split at hl
  · rename_i fs hfs
    rw [hfs] at hk
    obtain ⟨cs, hf, hl⟩ := some_bind hl
    simp at hl; subst hl
    cases d with
    | struct gs =>
      obtain ⟨hg, _, _, _, hpl⟩ := hk
      obtain ⟨pl, hpl⟩ := Option.isSome_iff_exists.1 hpl
      have hplace : ∀ j x, fieldPlaces E fs j = some x → pl.toArray[j]? = some x := by
        intro j x hx
        unfold fieldPlaces at hx
        split at hx
        · rename_i off ft hj
          obtain ⟨te, hte, hx⟩ := some_bind hx
          simp at hx; subst hx
          rw [hg] at hj
          simp only [List.getElem?_map, Option.map_eq_some_iff] at hj
          obtain ⟨f, hf, hfe⟩ := hj
          simp at hfe; obtain ⟨rfl, rfl⟩ := hfe
          obtain ⟨i2, d2, z2, T2⟩ := hE.ty _ _ hte
          obtain ⟨b, hb, hfb⟩ := Lib.mapM_at hpl j f hf
          simp [T2.info] at hfb; subst hfb
          rw [← T2.size]; simpa using hb
        · simp at hx
      obtain ⟨r', h1, h2⟩ := fill_ok (place' := (pl.toArray[·]?)) (us := z.cells) (M := M) hplace hp (T.vl M) hf
      refine Gives.pure h (run_build (P := P) w t qs r' ?_) (by simpa using h2.agg)
      unfold Program.built
      simp only [T.info, T.und, T.zero, hpl]
      exact h1
    | _ => exact hk.elim
  · rename_i n e hfs
    rw [hfs] at hk
    obtain ⟨te, hte, hl⟩ := some_bind hl
    obtain ⟨cs, hf, hl⟩ := some_bind hl
    simp at hl; subst hl
    obtain ⟨i2, d2, z2, T2⟩ := hE.ty _ _ hte
    cases d with
    | array n' e' =>
      obtain ⟨rfl, rfl, _⟩ := hk
      obtain ⟨r', h1, h2⟩ := fill_ok (place' := fun i => some (i * te.size, te.size)) (us := z.cells) (M := M) (fun _ _ hx => hx) hp (T.vl M) hf
      refine Gives.pure h (run_build (P := P) w t qs r' ?_) (by simpa using h2.agg)
      unfold Program.built
      simp only [T.info, T.und, T.zero, T2.info, T2.size]
      exact h1
    | _ => exact hk.elim
  · simp at hl

theorem length_rep (z : List Value) : ∀ n, (rep n z).length = n * z.length
  | 0 => by simp [rep]
  | n + 1 => by simp [rep, length_rep z n, Nat.succ_mul, Nat.add_comm]

theorem get_rep (z : List Value) : ∀ (n i : Nat), i < n * z.length → (rep n z)[i]? = z[i % z.length]?
  | 0, i, h => by simp at h
  | n + 1, i, h => by
    simp only [rep]
    by_cases hi : i < z.length
    · rw [List.getElem?_append_left hi, Nat.mod_eq_of_lt hi]
    · rw [List.getElem?_append_right (by omega), get_rep z n (i - z.length) (by rw [Nat.succ_mul] at h; omega)]
      congr 1
      have : z.length ≤ i := by omega
      rw [Nat.mod_eq_sub_mod this]

/-- The cells of n zero values. -/
theorem zeros_vl {t : TypeId} {ti : TI} {i : TypeInfo} {d : TypeDesc} {z : Value} (T : TyOk P t ti i d z) (n : Nat) : VL M (rep n ti.zero) (madeCells z.cells (n * ti.size)).toList := by
  have hz : z.cells.size = ti.size := by rw [← T.len, ← T.cells]; simp
  refine ⟨by rw [length_rep, T.len]; simp [size_madeCells], fun j x u hx hu => ?_⟩
  have hj : j < n * ti.zero.length := by have := (List.getElem?_eq_some_iff.1 hx).1; rwa [length_rep] at this
  rw [get_rep _ _ _ hj] at hx
  have hpos : 0 < ti.zero.length := by
    rcases Nat.eq_zero_or_pos ti.zero.length with h0 | h0
    · rw [h0] at hj; simp at hj
    · exact h0
  have hm : j % ti.zero.length < ti.zero.length := Nat.mod_lt _ hpos
  have hu' : u = z.cells[j % z.cells.size]! := by
    have hj2 : j < n * ti.size := by rw [← T.len]; exact hj
    simp only [madeCells, Array.toList_map, Array.toList_range, List.getElem?_map, List.getElem?_range hj2, Option.map_some, Option.some.injEq] at hu
    exact hu.symm
  have hlt : j % z.cells.size < z.cells.size := by rw [hz, ← T.len]; exact hm
  have hzu : z.cells.toList[j % ti.zero.length]? = some u := by
    rw [hu', T.len, ← hz]
    simp only [Array.getElem?_toList, Array.getElem?_eq_getElem hlt]
    rw [getElem!_pos z.cells _ hlt]
  exact (T.vl M).2 _ x u hx hzu

theorem newSlice (h : HR M H w) {e : Ent} (hb : e.base = 0) (he : e.blk = w.heap.size) {len cap c : Nat} (hc : CapOk e 0 cap c) :
    VR (M ++ [some e]) (.slice (some ⟨H.length, 0, none⟩) len cap) (.slice (some ⟨w.heap.size, 0, none⟩) len c) := by
  have := VR.slice (M := M ++ [some e]) (off := 0) (len := len) (get_new h e) hc
  rw [hb, he] at this; exact this

theorem makeSlice_ok (hE : E.Ok P) (h : HR M H w) {t : TypeId} {l l' c c' v : Value} (hl : VR M l l') (hc : VR M c c') (hm : aMakeSlice E t l c H = some (v, H')) : Gives P M H w (Instr.makeSlice t l' c') v H' := by
  unfold aMakeSlice at hm
  split at hm
  · rename_i k1 n1 k2 n2
    obtain ⟨ti, ht, hm⟩ := some_bind hm
    obtain ⟨i, d, z, T⟩ := hE.ty _ _ ht
    have hk := T.k
    split at hm
    · rename_i e he
      rw [he] at hk
      obtain ⟨te, hte, hm⟩ := some_bind hm
      obtain ⟨i2, d2, z2, T2⟩ := hE.ty _ _ hte
      split at hm
      · rename_i hb
        obtain ⟨h0, h1, h2, h3⟩ := hb
        simp at hm; obtain ⟨rfl, rfl⟩ := hm
        have := hl.of_int; subst this
        have := hc.of_int; subst this
        cases d with
        | slice e' =>
          have hk : e = e' := hk
          subst hk
          have hr := run_make (P := P) w t e i2 z2 T.und T2.info T2.zero k1 k2 n1 n2 h0 h1 (by rw [T2.bytes]; exact h2) h3
          rw [T2.size] at hr
          have hv := zeros_vl (M := M) T2 n2.toNat
          refine Gives.new h hr (Nat.le_of_eq (by have := hv.1; simpa using this)) ?_ (newSlice h rfl rfl (.inl rfl))
          rw [List.take_of_length_le (by have := hv.1; simp at this ⊢; omega)]
          exact hv
        | _ => exact hk.elim
      · simp at hm
    · simp at hm
  · simp at hm

theorem buildSlice_ok (hE : E.Ok P) (h : HR M H w) {t : TypeId} {n : Nat} {ps : List (Nat × Value)} {qs : Array (Nat × Value)} {v : Value} (hp : PL M ps qs.toList) (hl : aBuildSlice E t n ps H = some (v, H')) :
    Gives P M H w (Instr.buildSlice t n qs) v H' := by
  unfold aBuildSlice at hl
  obtain ⟨ti, ht, hl⟩ := some_bind hl
  obtain ⟨i, d, z, T⟩ := hE.ty _ _ ht
  have hk := T.k
  split at hl
  · rename_i e he
    rw [he] at hk
    obtain ⟨te, hte, hl⟩ := some_bind hl
    obtain ⟨i2, d2, z2, T2⟩ := hE.ty _ _ hte
    split at hl
    · rename_i hb
      obtain ⟨cs, hf, hl⟩ := some_bind hl
      simp at hl; obtain ⟨rfl, rfl⟩ := hl
      cases d with
      | slice e' =>
        have hk : e = e' := hk
        subst hk
        have hv := zeros_vl (M := M) T2 n
        obtain ⟨r', h1, h2⟩ := fill_ok (place' := fun i => some (i * te.size, te.size)) (us := madeCells z2.cells (n * te.size)) (M := M) (fun _ _ hx => hx) hp hv hf
        refine Gives.new (c := r') (t := e) h ?_ (Nat.le_of_eq (by have := h2.1; simpa using this)) ?_ (newSlice h rfl rfl (.inl rfl))
        · have hb' : ¬ n * te.size > 2 ^ 24 := by omega
          by_cases h0 : n * te.size = 0
          · have hm : madeCells z2.cells (n * te.size) = #[] := by simp [madeCells, h0, Array.range_zero']
            rw [hm] at h1
            have hq : (Array.map (fun x => (#[] : Array Value)[x % (#[] : Array Value).size]!) (Array.range (n * te.size))) = #[] := by simp [h0, Array.range_zero']
            simp only [h0] at hq
            simp only [Instr.buildSlice, Sem.run_bind, T.run_und, Result.andThen_ok, T2.run_size, h0]
            rw [if_neg (by decide)]
            simp only [Sem.run_bind, Sem.run_pure, Result.andThen_ok, if_true, hq, h1, newRow, run_newObj]
            rfl
          · simp only [Instr.buildSlice, Sem.run_bind, T.run_und, Result.andThen_ok, T2.run_size, hb', if_false, Sem.run_pure, h0, T2.run_zero]
            unfold madeCells at h1
            simp only [h1, newRow, Sem.run_bind, run_newObj, Result.andThen_ok, Sem.run_pure]
            rfl
        · rw [List.take_of_length_le (by have := h2.1; simp at this ⊢; omega)]
          exact h2
      | _ => exact hk.elim
    · simp at hl
  · simp at hl
end

section
/- The operations one by one, third part: slices, lengths, appends, copies. -/
variable {P : Program} {E : Env} {M : Mp} {H H' : Heap} {w : World}

inductive OV (M : Mp) : Option Value → Option Value → Prop
  | none : OV M none none
  | some {v u} (h : VR M v u) : OV M (some v) (some u)

theorem natOf_eq {o o' : Option Value} {d l : Nat} (h : OV M o o') (hn : natOf o d = some l) : o' = o := by
  cases h with
  | none => rfl
  | some h =>
    rename_i v u
    unfold natOf at hn
    cases v <;> simp at hn
    rw [h.of_int]

theorem run_bound {o : Option Value} {d l y : Nat} {v : Value} {code : BoundsCode} (ho : o = some v) (hn : natOf o d = some l) (hy : l ≤ y) : (Instr.sliceBound v y code).run P w = .ok l w := by
  subst ho
  cases v <;> simp [natOf] at hn
  rename_i k n
  obtain ⟨h0, rfl⟩ := hn
  have : n ≤ (y : Int) := by omega
  simp [Instr.sliceBound, asIntOf, h0, this]

theorem run_bounds {isS : Bool} {len cap c m h l : Nat} {lo hi mx : Option Value} (hmx : (mx.isSome && hi.isNone) = false) (hm : natOf mx cap = some m) (hh : natOf hi len = some h) (hl : natOf lo 0 = some l)
    (h1 : mx.isSome = true → m ≤ c) (h2 : h ≤ (if mx.isSome then m else c)) (h3 : l ≤ h) :
    (Instr.sliceBounds isS len c lo hi mx).run P w = .ok (l, h, if mx.isSome then m else c) w := by
  cases mx with
  | none =>
    simp only [Option.isSome_none, Bool.false_eq_true, if_false] at h2 ⊢
    cases hi with
    | none =>
      simp [natOf] at hh; subst hh
      cases lo with
      | none => simp [natOf] at hl; subst hl; simp [Instr.sliceBounds]
      | some lv => simp [Instr.sliceBounds, run_bound rfl hl h3]
    | some hv =>
      cases lo with
      | none => simp [natOf] at hl; subst hl; simp [Instr.sliceBounds, run_bound rfl hh h2]
      | some lv => simp [Instr.sliceBounds, run_bound rfl hh h2, run_bound rfl hl h3]
  | some mv =>
    simp only [Option.isSome_some, if_true] at h2 ⊢
    have h1 := h1 rfl
    cases hi with
    | none => simp at hmx
    | some hv =>
      cases lo with
      | none => simp [natOf] at hl; subst hl; simp [Instr.sliceBounds, run_bound rfl hm h1, run_bound rfl hh h2]
      | some lv => simp [Instr.sliceBounds, run_bound rfl hm h1, run_bound rfl hh h2, run_bound rfl hl h3]

theorem exact_ok (h : HR M H w) {b off cap c : Nat} {e : Ent} (hx : exact H b off cap = true) (he : M[b]? = some (some e)) (hc : CapOk e off cap c) : c = cap := by
  unfold exact at hx
  split at hx
  · rename_i cells sz opn ro live hk
    obtain ⟨q1, q2, q3, _⟩ := h.blk _ _ _ he hk
    rcases hc with hc | ⟨a1, a2, _⟩
    · exact hc
    · rw [q1] at a1; subst a1
      simp at hx
      rw [q2, q3] at a2
      omega
  · simp at hx

theorem hasSz_ok (h : HR M H w) {b size : Nat} {e : Ent} (hx : hasSz H b size = true) (he : M[b]? = some (some e)) : e.sz = size := by
  unfold hasSz at hx
  split at hx
  · rename_i cells sz opn ro live hk
    obtain ⟨q1, q2, q3, _⟩ := h.blk _ _ _ he hk
    simp at hx; omega
  · simp at hx

theorem sliceAt_ok (hE : E.Ok P) (h : HR M H w) {t : TypeId} {x x' v : Value} {lo lo' hi hi' mx mx' : Option Value} (hx : VR M x x') (hlo : OV M lo lo') (hhi : OV M hi hi') (hmx : OV M mx mx')
    (hl : aSlice E t x lo hi mx H = some v) : Gives P M H w (Instr.sliceAt t x' lo' hi' mx') v H := by
  unfold aSlice at hl
  split at hl
  · simp at hl
  rename_i hg
  have hg : (mx.isSome && hi.isNone) = false := Bool.eq_false_iff.2 hg
  obtain ⟨ti, ht, hl2⟩ := some_bind hl
  clear hl
  obtain ⟨ii, d, z, T⟩ := hE.ty t ti ht
  have hk := T.k
  split at hl2
  · rename_i n e b off hkd
    rw [hkd] at hk
    obtain ⟨te, hte, hl3⟩ := some_bind hl2
    obtain ⟨m, hm, hl4⟩ := some_bind hl3
    obtain ⟨hh, hhh, hl5⟩ := some_bind hl4
    obtain ⟨l, hll, hl6⟩ := some_bind hl5
    obtain ⟨i2, d2, z2, T2⟩ := hE.ty _ _ hte
    cases natOf_eq hmx hm; cases natOf_eq hhi hhh; cases natOf_eq hlo hll
    split at hl6
    · rename_i hb
      obtain ⟨b1, b2, b3⟩ := hb
      simp at hl6; subst hl6
      obtain ⟨en, he, rfl⟩ := hx.of_ptr
      cases d with
      | array n' e' =>
        obtain ⟨rfl, rfl, _⟩ := hk
        have hmm : (if mx.isSome = true then m else n) = m := by
          cases mx with
          | none => simp [natOf] at hm; simp [hm]
          | some _ => rfl
        have hb := run_bounds (P := P) (w := w) (isS := false) (c := n) hg hm hhh hll (fun _ => b1) (by rw [hmm]; exact b2) b3
        rw [hmm] at hb
        refine Gives.pure h ?_ (.slice he (.inl rfl))
        simp only [Instr.sliceAt, Sem.run_bind, T.run_und, Result.andThen_ok, Instr.sureAddr, Sem.run_pure, hb, T2.run_size, add_none]
        congr 3
        split <;> simp [Nat.add_assoc]
      | _ => exact hk.elim
    · simp at hl6
  · rename_i e b off len cap hkd
    rw [hkd] at hk
    obtain ⟨te, hte, hl3⟩ := some_bind hl2
    obtain ⟨m, hm, hl4⟩ := some_bind hl3
    obtain ⟨hh, hhh, hl5⟩ := some_bind hl4
    obtain ⟨l, hll, hl6⟩ := some_bind hl5
    obtain ⟨i2, d2, z2, T2⟩ := hE.ty _ _ hte
    cases natOf_eq hmx hm; cases natOf_eq hhi hhh; cases natOf_eq hlo hll
    split at hl6
    · rename_i hb
      obtain ⟨b1, b2, b3⟩ := hb
      obtain ⟨en, c, he, hcap, rfl⟩ := hx.of_slice
      have hcc : cap ≤ c := by rcases hcap with hq | ⟨_, _, hq, _⟩ <;> omega
      cases d with
      | slice e' =>
        have hk : e = e' := hk
        subst hk
        have hm2 : m ≤ (if mx.isSome = true then m else c) := by
          cases mx with
          | none => simp [natOf] at hm; simp; omega
          | some _ => simp
        have hb := run_bounds (P := P) (w := w) (isS := true) (c := c) hg hm hhh hll (fun _ => by omega) (by omega) b3
        split at hl6
        · rename_i hex
          simp at hl6; subst hl6
          have hmm : (if mx.isSome = true then m else c) = m := by
            cases mx with
            | none =>
              simp [natOf] at hm
              rcases hex with hex | hex
              · simp at hex
              · simp [exact_ok h hex he hcap, hm]
            | some _ => rfl
          rw [hmm] at hb
          refine Gives.pure h ?_ (.slice he (.inl rfl))
          simp only [Instr.sliceAt, Instr.slice, Sem.run_bind, T.run_und, Result.andThen_ok, Sem.run_pure, hb, T2.run_size]
          congr 3
          split <;> simp [add_none, Nat.add_assoc]
        · rename_i hnex
          have hmn : mx = none := by
            cases mx with
            | none => rfl
            | some _ => simp at hnex
          subst hmn
          simp [natOf] at hm; subst hm
          simp only [Option.isSome_none, Bool.false_eq_true, if_false] at hb
          split at hl6
          · rename_i hsz
            have hsz := hasSz_ok h hsz he
            split at hl6
            · rename_i hlt
              simp at hl6; subst hl6
              have hne : ¬ c = l := by omega
              refine Gives.pure h ?_ (.slice (len := hh - l) (c := c - l) he ?_)
              · simp only [Instr.sliceAt, Instr.slice, Sem.run_bind, T.run_und, Result.andThen_ok, Sem.run_pure, hb, T2.run_size, if_neg hne, Option.map_some, add_none, Nat.add_assoc]
              · rcases hcap with hq | ⟨q1, q2, q3, q4⟩
                · exact .inl (by omega)
                · refine .inr ⟨q1, ?_, by omega, ?_⟩
                  · have : l * te.size + (cap - l) * en.sz = cap * en.sz := by
                      rw [hsz, ← Nat.add_mul]; congr 1; omega
                    omega
                  · have : l * te.size + (c - l) * en.sz = c * en.sz := by
                      rw [hsz, ← Nat.add_mul]; congr 1; omega
                    omega
            · rename_i hnlt
              simp at hl6; subst hl6
              have e0 : hh - l = 0 := by omega
              refine Gives.pure (v' := .slice (some (if c = l then ⟨en.blk, en.base + off, none⟩ else ⟨en.blk, en.base + off + l * te.size, none⟩)) (hh - l) (c - l)) h ?_ ?_
              · simp only [Instr.sliceAt, Instr.slice, Sem.run_bind, T.run_und, Result.andThen_ok, Sem.run_pure, hb, T2.run_size, Option.map_some, add_none]
                split <;> rfl
              · rw [e0]; split <;> exact .sliceE
          · simp at hl6
      | _ => exact hk.elim
    · simp at hl6
  · rename_i e hkd
    rw [hkd] at hk
    obtain ⟨te, hte, hl3⟩ := some_bind hl2
    obtain ⟨m, hm, hl4⟩ := some_bind hl3
    obtain ⟨hh, hhh, hl5⟩ := some_bind hl4
    obtain ⟨l, hll, hl6⟩ := some_bind hl5
    obtain ⟨i2, d2, z2, T2⟩ := hE.ty _ _ hte
    cases natOf_eq hmx hm; cases natOf_eq hhi hhh; cases natOf_eq hlo hll
    split at hl6
    · rename_i hb
      obtain ⟨b1, b2, b3⟩ := hb
      simp at hl6; subst hl6
      have := hx.of_slice0; subst this
      cases d with
      | slice e' =>
        have hk : e = e' := hk
        subst hk
        have hmm : (if mx.isSome = true then m else 0) = 0 := by split <;> omega
        have hb := run_bounds (P := P) (w := w) (isS := true) (c := 0) hg hm hhh hll (fun _ => b1) (by rw [hmm]; omega) b3
        rw [hmm] at hb
        refine Gives.pure h ?_ .slice0
        have e1 : hh - l = 0 := by omega
        simp only [Instr.sliceAt, Instr.slice, Sem.run_bind, T.run_und, Result.andThen_ok, Sem.run_pure, hb, T2.run_size, e1, Nat.zero_sub, Option.map_none, ite_self]
      | _ => exact hk.elim
    · simp at hl6
  · rename_i e b off hkd
    rw [hkd] at hk
    obtain ⟨te, hte, hl3⟩ := some_bind hl2
    obtain ⟨i2, d2, z2, T2⟩ := hE.ty _ _ hte
    split at hl3
    · simp at hl3
    · rename_i hmn
      have hmn : mx = none := by cases mx <;> simp_all
      subst hmn
      cases hmx
      obtain ⟨hh, hhh, hl5⟩ := some_bind hl3
      obtain ⟨l, hll, hl6⟩ := some_bind hl5
      cases natOf_eq hhi hhh; cases natOf_eq hlo hll
      split at hl6
      · rename_i hb
        obtain ⟨b2, b3⟩ := hb
        simp at hl6; subst hl6
        obtain ⟨a', c, rfl⟩ := hx.of_sliceE
        cases d with
        | slice e' =>
          have hk : e = e' := hk
          subst hk
          have hb := run_bounds (P := P) (w := w) (isS := true) (cap := c) (m := c) (c := c) (mx := none) rfl rfl hhh hll (by simp) (by simp; omega) b3
          simp only [Option.isSome_none, Bool.false_eq_true, if_false] at hb
          have e1 : hh - l = 0 := by omega
          have e2 : l = 0 := by omega
          refine Gives.pure (v' := .slice (some a') 0 (c - l)) h ?_ .sliceE
          subst e2
          simp only [Instr.sliceAt, Instr.slice, Sem.run_bind, T.run_und, Result.andThen_ok, Sem.run_pure, hb, T2.run_size, e1, Nat.zero_mul, Option.map_some, Addr.add_zero', ite_self]
        | _ => exact hk.elim
      · simp at hl6
  · rename_i s hkd
    rw [hkd] at hk
    split at hl2
    · simp at hl2
    · rename_i hmn
      have hmn : mx = none := by cases mx <;> simp_all
      subst hmn
      cases hmx
      obtain ⟨hh, hhh, hl5⟩ := some_bind hl2
      obtain ⟨l, hll, hl6⟩ := some_bind hl5
      cases natOf_eq hhi hhh; cases natOf_eq hlo hll
      split at hl6
      · rename_i hb
        obtain ⟨b2, b3⟩ := hb
        simp at hl6; subst hl6
        have := hx.of_string; subst this
        cases d with
        | string =>
          have hb := run_bounds (P := P) (w := w) (isS := false) (cap := s.size) (m := s.size) (c := s.size) (mx := none) rfl rfl hhh hll (by simp) (by simp; omega) b3
          refine Gives.pure h ?_ (.string _)
          simp [Instr.sliceAt, Instr.slice, T.run_und, hb]
        | _ => exact hk.elim
      · simp at hl6
  · simp at hl2

theorem len_ok (hE : E.Ok P) (h : HR M H w) {t ty : TypeId} {x x' v : Value} (hx : VR M x x') (hl : aLen E t x H = some v) : Gives P M H w (Builtin.len_ #[t] ty #[x']) v H := by
  unfold aLen at hl
  obtain ⟨ti, ht, hl2⟩ := some_bind hl
  clear hl
  obtain ⟨ii, d, z, T⟩ := hE.ty t ti ht
  have hk := T.k
  split at hl2
  · rename_i s hkd
    rw [hkd] at hk
    simp at hl2; subst hl2
    have := hx.of_string; subst this
    cases d with
    | string => exact Gives.pure h (by simp [Builtin.len_, T.run_und, goInt]) (.int _ _)
    | _ => exact hk.elim
  · rename_i n e hkd
    rw [hkd] at hk
    simp at hl2; subst hl2
    cases d with
    | array n' e' =>
      obtain ⟨rfl, rfl, _⟩ := hk
      exact Gives.pure h (by simp [Builtin.len_, T.run_und, goInt]) (.int _ _)
    | _ => exact hk.elim
  · rename_i e a n c hkd
    rw [hkd] at hk
    simp at hl2; subst hl2
    cases d with
    | slice e' =>
      cases hx <;> exact Gives.pure h (by simp [Builtin.len_, T.run_und, goInt]) (.int _ _)
    | _ => exact hk.elim
  · rename_i hkd
    rw [hkd] at hk
    simp at hl2; subst hl2
    cases d with
    | map k' e' =>
      cases hx
      exact Gives.pure h (by simp [Builtin.len_, T.run_und, goInt]) (.int _ _)
    | _ => exact hk.elim
  · rename_i r hkd
    rw [hkd] at hk
    split at hl2
    · rename_i es clock hr
      simp at hl2; subst hl2
      cases d with
      | map k' e' =>
        cases hx with
        | map he =>
          obtain ⟨es', g1, g2, _⟩ := h.blk _ _ _ he hr
          refine Gives.pure h ?_ (.int _ _)
          simp [Builtin.len_, T.run_und, goInt, getObj, Sem.run, g1, g2]
      | _ => exact hk.elim
    · simp at hl2
  · simp at hl2

theorem cap_ok (hE : E.Ok P) (h : HR M H w) {t ty : TypeId} {x x' v : Value} (hx : VR M x x') (hl : aCap E t x H = some v) : Gives P M H w (Builtin.cap_ #[t] ty #[x']) v H := by
  unfold aCap at hl
  obtain ⟨ti, ht, hl2⟩ := some_bind hl
  clear hl
  obtain ⟨ii, d, z, T⟩ := hE.ty t ti ht
  have hk := T.k
  split at hl2
  · rename_i n e hkd
    rw [hkd] at hk
    simp at hl2; subst hl2
    cases d with
    | array n' e' =>
      obtain ⟨rfl, rfl, _⟩ := hk
      exact Gives.pure h (by simp [Builtin.cap_, T.run_und, goInt]) (.int _ _)
    | _ => exact hk.elim
  · rename_i hkd
    rw [hkd] at hk
    simp at hl2; subst hl2
    cases d with
    | slice e' =>
      have := hx.of_slice0; subst this
      exact Gives.pure h (by simp [Builtin.cap_, T.run_und, goInt]) (.int _ _)
    | _ => exact hk.elim
  · rename_i b off len cap hkd
    rw [hkd] at hk
    split at hl2
    · rename_i hex
      simp at hl2; subst hl2
      cases d with
      | slice e' =>
        obtain ⟨e, c, he, hc, rfl⟩ := hx.of_slice
        have := exact_ok h hex he hc; subst this
        exact Gives.pure h (by simp [Builtin.cap_, T.run_und, goInt]) (.int _ _)
      | _ => exact hk.elim
    · simp at hl2
  · simp at hl2
end

section
/- The operations one by one, fourth part: append and copy. -/
variable {P : Program} {E : Env} {M : Mp} {H H' : Heap} {w : World}

theorem growBy_le (n : Nat) : ∀ (r c : Nat), 256 ≤ c → c ≤ 2 * n → Builtin.growBy n r c ≤ 2 * n
  | 0, c, _, h => by simpa [Builtin.growBy] using h
  | r + 1, c, h0, h => by
    unfold Builtin.growBy
    split
    · exact h
    · exact growBy_le n r _ (by omega) (by omega)

theorem nextcap_le (need c : Nat) (h : c < need) : Builtin.nextslicecap need c ≤ 2 * need := by
  unfold Builtin.nextslicecap
  split
  · omega
  · split
    · omega
    · exact growBy_le need 4 c (by omega) (by omega)

theorem lenX_ok {x x' : Value} {n : Nat} (hx : VR M x x') (hn : lenX x = some n) : (Builtin.lenOf x').run P w = .ok n w := by
  unfold lenX at hn
  split at hn
  · simp at hn; subst hn
    cases hx <;> rfl
  · simp at hn; subst hn
    have := hx.of_string; subst this; rfl
  · simp at hn

theorem firstOf_ok (h : HR M H w) {x x' : Value} {n size : Nat} {xs : List Value} (hx : VR M x x') (hn : firstOf x n size H = some xs) :
    ∃ us : List Value, (∀ w' : World, w'.heap = w.heap → (Builtin.firstCells size n x').run P w' = .ok us.toArray w') ∧ VL M xs us := by
  unfold firstOf at hn
  split at hn
  · split at hn
    · simp at hn; subst hn
      cases hx
      exact ⟨[], fun _ _ => by simp [Builtin.firstCells], .nil M⟩
    · simp at hn
  · obtain ⟨e, c, he, hc, rfl⟩ := hx.of_slice
    obtain ⟨us, h1, h2, _, _⟩ := rd_ok P h hn he
    exact ⟨us, fun w' hw' => by simp [Builtin.firstCells, h1 w' hw'], h2⟩
  · split at hn
    · rename_i hz
      simp at hn; subst hn
      obtain ⟨a', c, rfl⟩ := hx.of_sliceE
      subst hz
      exact ⟨[], fun _ _ => by simp [Builtin.firstCells, loadCells, loadCellsFrom], .nil M⟩
    · simp at hn
  · rename_i s
    split at hn
    · simp at hn; subst hn
      have := hx.of_string; subst this
      refine ⟨(s.data.toList.take n).map fun b => .int .u8 b.toNat, fun _ _ => ?_, ?_⟩
      · simp only [Builtin.firstCells, Sem.run_pure]
        congr 1
        apply Array.ext'
        simp [ByteArray.data_extract]
      · rw [List.map_take]
        refine ⟨rfl, fun i x u hx hu => ?_⟩
        rw [hx] at hu; simp at hu; subst hu
        rw [← List.map_take] at hx
        simp only [List.getElem?_map, Option.map_eq_some_iff] at hx
        obtain ⟨c, _, rfl⟩ := hx
        exact .int _ _
    · simp at hn
  · simp at hn

theorem wrNil (P : Program) (w : World) (a : Addr) : (storeCells a []).run P w = .ok () w := by simp [storeCells]

/-- APPEND IN PLACE, where the abstract slice has no room that is known: the elder block is gone, a new one lies in its place. -/
theorem Stp.inPlace (h : HR M H w) {b off len n size : Nat} {cells old xs us : List Value} {opn : Bool} {e : Ent} (hk : H[b]? = some (.row cells size opn false true)) (he : M[b]? = some (some e))
    (ho : rd H b off (len * size) = some old) (hv : VL M xs us) (hn : us.length = n * size) (h1 : ∀ u ∈ us, u.oneCell' = true) (hroom : e.base + off + (len + n) * size ≤ e.csz) :
    ∃ w', (storeCells ⟨e.blk, e.base + off + len * size, none⟩ us).run P w = .ok () w' ∧
      Stp M H w (M ++ [some ⟨e.blk, e.base + off, true, (old ++ xs).length, size, e.csz⟩]) (Zq.mk (kill H b) (old ++ xs) size true) w' := by
  obtain ⟨c', t, fz, hw, hsz, hb, hvl, hfz⟩ := row_cells h hk he
  have hfz := hfz rfl; subst hfz
  have hold : off + len * size ≤ cells.length ∧ old = (cells.drop off).take (len * size) := by
    unfold rd at ho
    rw [hk] at ho
    simp only at ho
    split at ho
    · simp at ho; exact ⟨by assumption, ho.symm⟩
    · simp at ho
  obtain ⟨hle, rfl⟩ := hold
  have hmul : (len + n) * size = len * size + n * size := Nat.add_mul _ _ _
  have hst := run_storeCells_at P e.blk (e.base + off + len * size) t us 0 c' w hw (by omega) h1
  refine ⟨_, hst, ?_⟩
  generalize hW : w.setRow e.blk (c'.toList.take (e.base + off + len * size + 0) ++ us ++ c'.toList.drop (e.base + off + len * size + 0 + us.length)).toArray = W
  have hblt : e.blk < w.heap.size := (Array.getElem?_eq_some_iff.1 hw).1
  have hWe : W.heap[e.blk]? = some (.cells (c'.toList.take (e.base + off + len * size) ++ us ++ c'.toList.drop (e.base + off + len * size + us.length)).toArray t (0, 0)) := by
    rw [← hW]; simpa using setRow_heap w e.blk c' _ t (0, 0) hw
  have hWo : ∀ k, k ≠ e.blk → W.heap[k]? = w.heap[k]? := by
    intro k hne
    rw [← hW]; unfold World.setRow; simp only [Array.getElem?_modify]; rw [if_neg (Ne.symm hne)]
  have hWs : W.heap.size = w.heap.size := by rw [← hW]; simp [World.setRow]
  have hWos : W.os = w.os := by rw [← hW]; rfl
  have hWout : W.output = w.output := by rw [← hW]; rfl
  have hWt : W.tape = w.tape := by rw [← hW]; rfl
  have hWd : w.drawn ≤ W.drawn := by rw [← hW]; exact Nat.le_refl _
  have hblen : b < H.length := (List.getElem?_eq_some_iff.1 hk).1
  have hkl : (kill H b).length = H.length := by unfold kill; rw [hk]; simp
  have hkb : (kill H b)[b]? = some (.row cells size opn false false) := by unfold kill; rw [hk]; simp [hblen]
  have hko : ∀ j : Nat, j ≠ b → (kill H b)[j]? = H[j]? := fun j hj => by unfold kill; rw [hk]; simp only; rw [List.getElem?_set_ne (Ne.symm hj)]
  have hwb : writB H b := by unfold writB; rw [hk]; exact ⟨rfl, rfl⟩
  generalize hN : (⟨e.blk, e.base + off, true, ((cells.drop off).take (len * size) ++ xs).length, size, e.csz⟩ : Ent) = N
  have hx := Ext.app M [some N]
  have oldM : ∀ (j : Nat) (ej : Ent), (M ++ [some N])[j]? = some (some ej) → (M[j]? = some (some ej) ∧ j < M.length) ∨ (j = M.length ∧ ej = N) := by
    intro j ej hj
    by_cases hl : j < M.length
    · rw [List.getElem?_append_left hl] at hj; exact .inl ⟨hj, hl⟩
    · rw [List.getElem?_append_right (by omega)] at hj
      by_cases e0 : j = M.length
      · subst e0; simp at hj; exact .inr ⟨rfl, hj.symm⟩
      · have : j - M.length ≠ 0 := by omega
        cases hq : j - M.length with
        | zero => omega
        | succ q => rw [hq] at hj; simp at hj
  have hH : ∀ j : Nat, j < M.length → (Zq.mk (kill H b) ((cells.drop off).take (len * size) ++ xs) size true)[j]? = (kill H b)[j]? := fun j hj => by
    unfold Zq.mk; rw [List.getElem?_append_left (by rw [hkl, ← h.len]; exact hj)]
  have hHn : (Zq.mk (kill H b) ((cells.drop off).take (len * size) ++ xs) size true)[M.length]? = some (.row ((cells.drop off).take (len * size) ++ xs) size true false true) := by
    unfold Zq.mk; rw [h.len, ← hkl, List.getElem?_append_right (Nat.le_refl _)]; simp
  have hliv : ∀ j : Nat, j < M.length → liveB (Zq.mk (kill H b) ((cells.drop off).take (len * size) ++ xs) size true) j → liveB H j ∧ j ≠ b := by
    intro j hj hl
    unfold liveB at hl
    rw [hH j hj] at hl
    by_cases hjb : j = b
    · subst hjb; rw [hkb] at hl; simp at hl
    · refine ⟨?_, hjb⟩
      rw [hko j hjb] at hl; unfold liveB; exact hl
  have hwri : ∀ j : Nat, j < M.length → writB (Zq.mk (kill H b) ((cells.drop off).take (len * size) ++ xs) size true) j → writB H j := by
    intro j hj hl
    unfold writB at hl
    rw [hH j hj] at hl
    by_cases hjb : j = b
    · subst hjb; rw [hkb] at hl; simp at hl
    · rw [hko j hjb] at hl; unfold writB; exact hl
  have hNb : N.blk = e.blk := by rw [← hN]
  refine ⟨hx, ⟨by simp [Zq.mk, hkl, h.len], ?_, ?_⟩, hWos, hWout, hWt, by omega, hWd, ?_, ?_, fun j hj => have hl : j < M.length := (List.getElem?_eq_some_iff.1 hj).1; ⟨by rw [List.getElem?_append_left hl]; exact hj, (hH j hl).trans (hko j fun e0 => by subst e0; rw [he] at hj; simp at hj)⟩, ?_⟩
  · intro j ej kj hj hkj
    rcases oldM j ej hj with ⟨hj', hl⟩ | ⟨rfl, rfl⟩
    · rw [hH j hl] at hkj
      by_cases hjb : j = b
      · subst hjb
        rw [hkb] at hkj; simp at hkj; subst hkj
        obtain ⟨q1, q2, q3, _⟩ := h.blk _ _ _ hj' hk
        exact ⟨q1, q2, q3, fun hf => by simp at hf⟩
      · rw [hko j hjb] at hkj
        refine ((h.blk j ej kj hj' hkj).mono hx).same fun hlv => hWo _ ?_
        have : liveB H j := by unfold liveB; rw [hkj]; cases kj <;> exact hlv
        exact (h.sep b j e ej (Ne.symm hjb) he hj' hwb this).symm
    · rw [hHn] at hkj; simp at hkj; subst hkj
      have hol : ((cells.drop off).take (len * size)).length = len * size := by simp; omega
      have hxl := hv.1
      subst hN
      refine ⟨rfl, rfl, rfl, fun _ => ⟨_, t, (0, 0), hWe, by simp; omega, by simp; omega, ?_, fun _ => rfl⟩⟩
      have e1 : (((c'.toList.take (e.base + off + len * size) ++ us ++ c'.toList.drop (e.base + off + len * size + us.length)).toArray.toList.drop (e.base + off)).take ((cells.drop off).take (len * size) ++ xs).length)
          = ((((c'.toList.drop e.base).take cells.length).drop off).take (len * size)) ++ us := by
        apply List.ext_getElem?
        intro q
        simp only [List.length_append, hol, hxl, hn]
        simp only [List.getElem?_take, List.getElem?_drop, List.getElem?_append, List.length_take, List.length_append, List.length_drop, Array.length_toList]
        have c1 : min (e.base + off + len * size) c'.size = e.base + off + len * size := by omega
        have c2 : min (len * size) (min cells.length (c'.size - e.base) - off) = len * size := by omega
        rw [c1, c2]
        by_cases hq : q < len * size
        · have d1 : q < len * size + n * size := by omega
          have d2 : e.base + off + q < e.base + off + len * size := by omega
          have d3 : e.base + off + q < e.base + off + len * size + us.length := by omega
          have d4 : off + q < cells.length := by omega
          have d5 : ¬ len * size + us.length ≤ q := by omega
          simp [hq, d1, d4, d5, Nat.add_assoc]
        · by_cases hq2 : q < len * size + n * size
          · have d2 : ¬ e.base + off + q < e.base + off + len * size := by omega
            have d3 : e.base + off + q < e.base + off + len * size + us.length := by omega
            simp only [hq, hq2, d2, d3, if_true, if_false]
            congr 1; omega
          · have : us[q - len * size]? = none := List.getElem?_eq_none (by omega)
            simp [hq, hq2, this]
      rw [e1]
      exact (((hvl.drop off).take (len * size)).append hv).mono hx
  · intro j j' ej ej' hne hj hj' hw' hl'
    rcases oldM j ej hj with ⟨hj1, hl1⟩ | ⟨rfl, rfl⟩ <;> rcases oldM j' ej' hj' with ⟨hj2, hl2⟩ | ⟨rfl, rfl⟩
    · exact h.sep j j' ej ej' hne hj1 hj2 (hwri j hl1 hw') (hliv j' hl2 hl').1
    · obtain ⟨_, hjb⟩ := hliv j hl1 hw'.live
      rw [hNb]
      exact h.sep j b ej e hjb hj1 he (hwri j hl1 hw') hwb.live
    · obtain ⟨hlv, hjb⟩ := hliv j' hl2 hl'
      rw [hNb]
      exact h.sep b j' e ej' (Ne.symm hjb) he hj2 hwb hlv
    · exact absurd rfl hne
  · intro k hk' hn'
    exact hWo k fun hke => hn' b e he hwb hke.symm
  · intro j ej hj hw' hlt
    rcases oldM j ej hj with ⟨hj1, hl1⟩ | ⟨rfl, rfl⟩
    · exact ⟨j, ej, hj1, hwri j hl1 hw', rfl⟩
    · exact ⟨b, e, he, hwb, hNb.symm⟩
  · intro j ej hj hw' hlt
    rcases oldM j ej hj with ⟨hj1, hl1⟩ | ⟨rfl, rfl⟩
    · exact ⟨j, ej, hj1, (hliv j hl1 hw').1, rfl⟩
    · exact ⟨b, e, he, hwb.live, hNb.symm⟩
end

section
/- The operations one by one, fifth part: append and copy, the rules. -/
variable {P : Program} {E : Env} {M : Mp} {H H' : Heap} {w : World}

def isIntD (d : TypeDesc) : Bool := match d with | .int _ => true | _ => false

theorem not_int {t : TypeId} {k : TK} {d : TypeDesc} (hk : KOk P t k d) (hn : ∀ j, k ≠ .int j) : isIntD d = false := by
  cases d with
  | int j => cases k <;> first | exact hk.elim | (rename_i q; exact absurd rfl (hn q))
  | _ => rfl

theorem append_in0 {ts tx ty e : TypeId} {d2 : TypeDesc} {x' : Value} {n size sLen sCap : Nat} {us : List Value} (hs : P.underlying ts = some (.slice e)) (hx : P.underlying tx = some d2)
    (hd : isIntD d2 = false) (hsz : ∀ w, (sizeOf e).run P w = .ok size w) (hn : ∀ w, (Builtin.lenOf x').run P w = .ok n w)
    (hf : (Builtin.firstCells size n x').run P w = .ok us.toArray w) (hle : sLen + n ≤ sCap) :
    (Builtin.append_ #[ts, tx] ty #[.slice none sLen sCap, x']).run P w = .ok (.slice none (sLen + n) sCap) w := by
  cases d2 <;> first
    | (simp [isIntD] at hd; done)
    | (simp only [Builtin.append_, List.getElem?_toArray, List.getElem?_cons_zero, List.getElem?_cons_succ, Sem.run_bind, run_underlying hs, run_underlying hx, Result.andThen_ok, hsz, Sem.run_pure, Bool.false_eq_true, if_false, hn, hle, if_true, hf, Bool.not_false])

theorem append_in {ts tx ty e : TypeId} {d2 : TypeDesc} {x' : Value} {a : Addr} {sLen sCap n size : Nat} {us : List Value} (hs : P.underlying ts = some (.slice e)) (hx : P.underlying tx = some d2)
    (hd : isIntD d2 = false) (hsz : ∀ w, (sizeOf e).run P w = .ok size w) (hn : ∀ w, (Builtin.lenOf x').run P w = .ok n w)
    (hf : (Builtin.firstCells size n x').run P w = .ok us.toArray w) (hle : sLen + n ≤ sCap) :
    (Builtin.append_ #[ts, tx] ty #[.slice (some a) sLen sCap, x']).run P w = ((storeCells (a.add (sLen * size)) us).run P w).andThen fun _ w' => .ok (.slice (some a) (sLen + n) sCap) w' := by
  cases d2 <;> first
    | (simp [isIntD] at hd; done)
    | (simp only [Builtin.append_, List.getElem?_toArray, List.getElem?_cons_zero, List.getElem?_cons_succ, Sem.run_bind, run_underlying hs, run_underlying hx, Result.andThen_ok, hsz, Sem.run_pure, Bool.false_eq_true, if_false, hn, hle, if_true, hf, Bool.not_false])

theorem append_growB {ts tx ty e : TypeId} {ti : TI} {i : TypeInfo} {d d2 : TypeDesc} {z : Value} {s' x' : Value} {base : Option Addr} {sLen sCap n : Nat} {us us0 : List Value} (hs : P.underlying ts = some (.slice e)) (hx : P.underlying tx = some d2)
    (hd : isIntD d2 = false) (T : TyOk P e ti i d z) (hv : s' = .slice base sLen sCap) (hn : ∀ w, (Builtin.lenOf x').run P w = .ok n w)
    (hf : ∀ w', w'.heap = w.heap → (Builtin.firstCells ti.size n x').run P w' = .ok us.toArray w') (hf0 : ∀ w', w'.heap = w.heap → (Builtin.firstCells ti.size sLen s').run P w' = .ok us0.toArray w')
    (hlt : sCap < sLen + n) (hb : 2 * (sLen + n) * ti.bytes ≤ 281474976710656) (hb0 : ti.bytes ≠ 0) :
    ∃ newCap, sLen + n ≤ newCap ∧ newCap < 9223372036854775808 ∧ (Builtin.append_ #[ts, tx] ty #[s', x']).run P w =
      .ok (.slice (some ⟨w.heap.size, 0, none⟩) (sLen + n) newCap) (w.drew.alloc (.cells (us0.toArray ++ us.toArray ++ Builtin.zeroCells z.cells (newCap - (sLen + n))) e (0, 0))) := by
  refine ⟨(Question.appendCap (sLen + n) sCap e).cut (w.tape w.drawn (.appendCap (sLen + n) sCap e)), Nat.le_add_right _ _, ?_, ?_⟩
  · have : 0 < 9223372036854775808 - (sLen + n) := by
      have : sLen + n ≤ 2 * (sLen + n) * ti.bytes := by
        have := Nat.mul_le_mul_left (2 * (sLen + n)) (Nat.one_le_iff_ne_zero.2 hb0)
        omega
      omega
    have := Nat.mod_lt (w.tape w.drawn (.appendCap (sLen + n) sCap e)) this
    show sLen + n + w.tape w.drawn (.appendCap (sLen + n) sCap e) % (2 ^ 63 - (sLen + n)) < _
    rw [show (2 ^ 63 : Nat) = 9223372036854775808 from rfl]
    omega
  have hnext := nextcap_le (sLen + n) sCap hlt
  have hnb : ¬ Builtin.nextslicecap (sLen + n) sCap * i.bytes > 2 ^ 48 := by
    rw [T.bytes]
    have : Builtin.nextslicecap (sLen + n) sCap * ti.bytes ≤ 2 * (sLen + n) * ti.bytes := Nat.mul_le_mul_right _ hnext
    omega
  have hle : ¬ sLen + n ≤ sCap := by omega
  have hi0 : ¬ i.bytes = 0 := by rw [T.bytes]; exact hb0
  subst hv
  have g0 := hf0 w.drew rfl
  have g1 := hf w.drew rfl
  cases d2 <;> first
    | (simp [isIntD] at hd; done)
    | (simp only [Builtin.append_, List.getElem?_toArray, List.getElem?_cons_zero, List.getElem?_cons_succ, Sem.run_bind, run_underlying hs, run_underlying hx, Result.andThen_ok, T.run_size, Sem.run_pure, Bool.false_eq_true, if_false, hn, hle, T.run_info, hi0, or_self, and_false, hnb,
        Sem.run_ite, Result.andThen_ite, run_choose, Question.forced, run_askRoom, Bool.not_false, if_true, World.drew_eq, g0, g1, T.run_zero, newRow, Sem.run_bind, run_newObj, Sem.run_pure]
       rfl)

theorem append_grow {ts tx ty e : TypeId} {ti : TI} {i : TypeInfo} {d d2 : TypeDesc} {z : Value} {s' x' : Value} {base : Option Addr} {sLen sCap n : Nat} {us us0 : List Value} (hs : P.underlying ts = some (.slice e)) (hx : P.underlying tx = some d2)
    (hd : isIntD d2 = false) (T : TyOk P e ti i d z) (hv : s' = .slice base sLen sCap) (hn : ∀ w, (Builtin.lenOf x').run P w = .ok n w)
    (hf : ∀ w', w'.heap = w.heap → (Builtin.firstCells ti.size n x').run P w' = .ok us.toArray w') (hf0 : ∀ w', w'.heap = w.heap → (Builtin.firstCells ti.size sLen s').run P w' = .ok us0.toArray w')
    (hlt : sCap < sLen + n) (hb : 2 * (sLen + n) * ti.bytes ≤ 281474976710656) (hb0 : ti.bytes ≠ 0) :
    ∃ newCap, sLen + n ≤ newCap ∧ (Builtin.append_ #[ts, tx] ty #[s', x']).run P w =
      .ok (.slice (some ⟨w.heap.size, 0, none⟩) (sLen + n) newCap) (w.drew.alloc (.cells (us0.toArray ++ us.toArray ++ Builtin.zeroCells z.cells (newCap - (sLen + n))) e (0, 0))) := by
  obtain ⟨c, h1, _, h3⟩ := append_growB hs hx hd T hv hn hf hf0 hlt hb hb0
  exact ⟨c, h1, h3⟩
end

section
/- The operations one by one, sixth part: append, copy, the smallest and the greatest. -/
variable {P : Program} {E : Env} {M : Mp} {H H' : Heap} {w : World}

theorem HR.heap_eq {w' : World} (h : HR M H w) (e : w'.heap = w.heap) : HR M H w' :=
  ⟨h.len, fun b en k hb hk => (h.blk b en k hb hk).same fun _ => by rw [e], h.sep⟩

theorem one_of_all {xs us : List Value} (hv : VL M xs us) (h : xs.all cell1 = true) : ∀ u ∈ us, u.oneCell' = true := by
  intro u hu
  obtain ⟨j, hj⟩ := List.mem_iff_getElem?.1 hu
  have hjl : j < xs.length := by rw [hv.1]; exact (List.getElem?_eq_some_iff.1 hj).1
  rw [← (hv.2 j _ _ (List.getElem?_eq_getElem hjl) hj).cell1]
  exact List.all_eq_true.1 h _ (List.getElem_mem hjl)

/-- What a growing append leaves. -/
theorem grown_gives {s : Sem Value} {xs us : List Value} {z : Value} {size need newCap : Nat} {e : TypeId} (h : HR M H w) (hv : VL M xs us) (hl : xs.length = need * size) (hz : z.cells.size = size) (hc : need ≤ newCap)
    (hr : s.run P w = .ok (.slice (some ⟨w.heap.size, 0, none⟩) need newCap) (w.drew.alloc (.cells (us.toArray ++ Builtin.zeroCells z.cells (newCap - need)) e (0, 0)))) :
    Gives P M H w s (.slice (some ⟨H.length, 0, none⟩) need need) (mk H xs size true) := by
  have hzc : (Builtin.zeroCells z.cells (newCap - need)).size = (newCap - need) * size := by simp [Builtin.zeroCells, hz]
  have hus := hv.1
  have hsz : (us.toArray ++ Builtin.zeroCells z.cells (newCap - need)).size = newCap * size := by
    simp only [Array.size_append, List.size_toArray, hzc]
    have : newCap * size = need * size + (newCap - need) * size := by rw [← Nat.add_mul]; congr 1; omega
    omega
  have st := Stp.newRow (M := M) (H := H) (w := w.drew) h.drew (cells := xs) (c := us.toArray ++ Builtin.zeroCells z.cells (newCap - need)) e size true (by simp; omega) (by
    simp only [Array.toList_append]
    rw [List.take_append_of_le_length (by omega), List.take_of_length_le (by omega)]
    exact hv)
  refine ⟨_, _, _, hr, (Stp.drew h).trans st, newSlice h rfl rfl (.inr ⟨rfl, by simp; omega, hc, ?_⟩)⟩
  simp only [Nat.zero_add]
  rw [hsz]; exact Nat.le_refl _

theorem rd_len {b off n : Nat} {cs : List Value} (h : rd H b off n = some cs) : cs.length = n := by
  unfold rd at h
  split at h
  · split at h
    · simp at h; subst h; simp; omega
    · simp at h
  · simp at h

theorem HR.killed (h : HR M H w) {cells : List Value} {sz b : Nat} {opn : Bool} (hk : H[b]? = some (.row cells sz opn false true)) : HR M (kill H b) w := by
  have hblen : b < H.length := (List.getElem?_eq_some_iff.1 hk).1
  have hkb : (kill H b)[b]? = some (.row cells sz opn false false) := by unfold kill; rw [hk]; simp [hblen]
  have hko : ∀ j : Nat, j ≠ b → (kill H b)[j]? = H[j]? := fun j hj => by unfold kill; rw [hk]; simp only; rw [List.getElem?_set_ne (Ne.symm hj)]
  have hkl : (kill H b).length = H.length := by unfold kill; rw [hk]; simp
  have hl : ∀ j : Nat, liveB (kill H b) j → liveB H j := by
    intro j hj
    by_cases e : j = b
    · subst e; unfold liveB at hj; rw [hkb] at hj; simp at hj
    · unfold liveB at hj ⊢; rw [hko j e] at hj; exact hj
  have hw : ∀ j : Nat, writB (kill H b) j → writB H j := by
    intro j hj
    by_cases e : j = b
    · subst e; unfold writB at hj; rw [hkb] at hj; simp at hj
    · unfold writB at hj ⊢; rw [hko j e] at hj; exact hj
  refine ⟨by rw [hkl]; exact h.len, fun j e k hj hkj => ?_, fun j j' e e' hne hj hj' h1 h2 => h.sep j j' e e' hne hj hj' (hw j h1) (hl j' h2)⟩
  by_cases ej : j = b
  · subst ej
    rw [hkb] at hkj; simp at hkj; subst hkj
    obtain ⟨q1, q2, q3, _⟩ := h.blk _ _ _ hj hk
    exact ⟨q1, q2, q3, fun hf => by simp at hf⟩
  · rw [hko j ej] at hkj; exact h.blk j e k hj hkj

theorem writB.killed {cells : List Value} {sz b : Nat} {opn : Bool} (hk : H[b]? = some (.row cells sz opn false true)) {j : Nat} (hj : writB (kill H b) j) : writB H j := by
  have hblen : b < H.length := (List.getElem?_eq_some_iff.1 hk).1
  by_cases e : j = b
  · subst e
    have hkb : (kill H j)[j]? = some (.row cells sz opn false false) := by unfold kill; rw [hk]; simp [hblen]
    unfold writB at hj; rw [hkb] at hj; simp at hj
  · have hko : (kill H b)[j]? = H[j]? := by unfold kill; rw [hk]; simp only; rw [List.getElem?_set_ne (Ne.symm e)]
    unfold writB at hj ⊢; rw [hko] at hj; exact hj

theorem liveB.killed {cells : List Value} {sz b : Nat} {opn : Bool} (hk : H[b]? = some (.row cells sz opn false true)) {j : Nat} (hj : liveB (kill H b) j) : liveB H j := by
  by_cases e : j = b
  · subst e
    unfold liveB; rw [hk]
  · have hko : (kill H b)[j]? = H[j]? := by unfold kill; rw [hk]; simp only; rw [List.getElem?_set_ne (Ne.symm e)]
    unfold liveB at hj ⊢; rw [hko] at hj; exact hj

/-- Killing a block is a step. -/
theorem Stp.killed (h : HR M H w) {cells : List Value} {sz b : Nat} {opn : Bool} (hk : H[b]? = some (.row cells sz opn false true)) {e : Ent} (he : M[b]? = some (some e)) : Stp M H w M (kill H b) w :=
  ⟨.refl M, h.killed hk, rfl, rfl, rfl, Nat.le_refl _, Nat.le_refl _, fun _ _ _ => rfl, fun b' e hb hw _ => ⟨b', e, hb, hw.killed hk, rfl⟩, fun j hj => ⟨hj, by
    have hjb : j ≠ b := fun e0 => by subst e0; rw [he] at hj; simp at hj
    unfold kill; rw [hk]; simp only; rw [List.getElem?_set_ne (Ne.symm hjb)]⟩, fun b' e hb hw _ => ⟨b', e, hb, hw.killed hk, rfl⟩⟩

theorem appX_ok (hE : E.Ok P) (h : HR M H w) {ts : List TypeId} {ty : TypeId} {s s' x' v : Value} {n : Nat} {xs : List Value} (hs : VR M s s')
    (hle : ∀ w, (Builtin.lenOf x').run P w = .ok n w)
    (hfs : ∀ t ti e te, ts.head? = some t → E.ty t = some ti → ti.k = .slice e → E.ty e = some te → xs.length = n * te.size →
      ∃ us : List Value, (∀ w' : World, w'.heap = w.heap → (Builtin.firstCells te.size n x').run P w' = .ok us.toArray w') ∧ VL M xs us)
    (ha : aAppX E ts s n xs H = some (v, H')) : Gives P M H w (Builtin.append_ ts.toArray ty #[s', x']) v H' := by
  unfold aAppX at ha
  split at ha
  · rename_i ts tx
    obtain ⟨ti, ht, ha2⟩ := some_bind ha
    obtain ⟨tj, htj, ha3⟩ := some_bind ha2
    clear ha ha2
    obtain ⟨i1, d1, z1, T1⟩ := hE.ty _ _ ht
    obtain ⟨i2, d2, z2, T2⟩ := hE.ty _ _ htj
    split at ha3
    · simp at ha3
    · rename_i e hke hnot
      have hd2 : isIntD d2 = false := not_int T2.k (fun j hj => hnot j hj)
      obtain ⟨te, hte, ha6⟩ := some_bind ha3
      clear ha3
      obtain ⟨i3, d3, z3, T3⟩ := hE.ty _ _ hte
      have hk := T1.k
      rw [hke] at hk
      have hund : P.underlying ts = some (.slice e) := by
        cases hd : d1 <;> rw [hd] at hk <;> first | exact hk.elim | (have hk : e = _ := hk; subst hk; rw [T1.und, hd])
      split at ha6
      · simp at ha6
      rename_i hsz0
      obtain ⟨us, hfr, hvl⟩ := hfs ts ti e te rfl ht hke hte (by omega)
      have hxl : xs.length = n * te.size := by omega
      have hzc : z3.cells.size = te.size := by rw [← T3.len, ← T3.cells]; simp
      split at ha6
      · -- nil
        have := hs.of_slice0; subst this
        split at ha6
        · rename_i hn0
          simp at ha6; obtain ⟨rfl, rfl⟩ := ha6
          subst hn0
          have := append_in0 (ty := ty) (sLen := 0) (sCap := 0) hund T2.und hd2 (fun w => T3.run_size w) hle (hfr w rfl) (Nat.le_refl _)
          exact Gives.pure h this .slice0
        · split at ha6
          · rename_i hn0 hb
            obtain ⟨hb1, hb2, _⟩ := hb
            simp at ha6; obtain ⟨rfl, rfl⟩ := ha6
            obtain ⟨nc, q1, q2⟩ := append_grow (ty := ty) hund T2.und hd2 T3 (s' := .slice none 0 0) rfl hle hfr (us0 := []) (fun _ _ => by simp [Builtin.firstCells]) (by omega) (by simpa using hb1) hb2
            simp only [Nat.zero_add] at q1 q2
            have q3 : ([] : List Value).toArray ++ us.toArray = us.toArray := by simp
            rw [q3] at q2
            exact grown_gives h hvl hxl hzc q1 q2
          · simp at ha6
      · rename_i b off len cap
        obtain ⟨en, c, he, hc, rfl⟩ := hs.of_slice
        have hcc : cap ≤ c := by rcases hc with hq | ⟨_, _, hq, _⟩ <;> omega
        split at ha6
        · rename_i hn0
          subst hn0
          split at ha6
          · rename_i hlc
            simp at ha6; obtain ⟨rfl, rfl⟩ := ha6
            have hlc : len + 0 ≤ c := by omega
            have := append_in (ty := ty) hund T2.und hd2 (fun w => T3.run_size w) (a := ⟨en.blk, en.base + off, none⟩) (sLen := len) (sCap := c) hle (hfr w rfl) hlc
            have hus : us = [] := by have := hvl.1; rw [hxl] at this; simp at this; exact List.length_eq_zero_iff.1 this.symm
            subst hus
            rw [wrNil] at this
            exact Gives.pure h this (.slice he hc)
          · simp at ha6
        · rename_i hn0
          split at ha6
          · rename_i hle2
            obtain ⟨H2, hw, ha7⟩ := some_bind ha6
            simp at ha7; obtain ⟨rfl, rfl⟩ := ha7
            obtain ⟨w', g1, g2⟩ := wr_ok P h hw he hvl
            have := append_in (ty := ty) hund T2.und hd2 (fun w => T3.run_size w) (a := ⟨en.blk, en.base + off, none⟩) (sLen := len) (sCap := c) hle (hfr w rfl) (by omega)
            rw [add_none] at this
            simp only [Nat.add_assoc] at g1 this
            rw [g1] at this
            exact ⟨_, _, _, this, g2, .slice he hc⟩
          · split at ha6
            · rename_i hle2 hb
              obtain ⟨hb1, hb2, hb3⟩ := hb
              obtain ⟨old, ho, ha7⟩ := some_bind ha6
              obtain ⟨us0, g1, g2, g3, _⟩ := rd_ok P h ho he
              have hol : old.length = len * te.size := by rw [g2.1, g3]
              have hlen : (old ++ xs).length = (len + n) * te.size := by simp [hol, hxl, Nat.add_mul]
              have grow : c < len + n → Gives P M H w (Builtin.append_ [ts, tx].toArray ty #[.slice (some ⟨en.blk, en.base + off, none⟩) len c, x']) (.slice (some ⟨H.length, 0, none⟩) (len + n) (len + n)) (mk H (old ++ xs) te.size true) := by
                intro hlt
                obtain ⟨nc, q1, q2⟩ := append_grow (ty := ty) hund T2.und hd2 T3 (s' := .slice (some ⟨en.blk, en.base + off, none⟩) len c) rfl hle hfr (us0 := us0) (fun w' hw' => by simp [Builtin.firstCells, g1 w' hw']) hlt hb1 hb2
                refine grown_gives (e := e) h (g2.append hvl) hlen hzc q1 ?_
                rw [← List.append_toArray] ; exact q2
              split at ha7
              · rename_i hex
                simp at ha7; obtain ⟨rfl, rfl⟩ := ha7
                have := exact_ok h hex he hc; subst this
                exact grow (by omega)
              · split at ha7
                · rename_i cells sz opn hkb
                  split at ha7
                  · rename_i hszq
                    subst hszq
                    simp at ha7; obtain ⟨rfl, rfl⟩ := ha7
                    by_cases hroom : len + n ≤ c
                    · have hroom2 : en.base + off + (len + n) * te.size ≤ en.csz := by
                        rcases hc with hq | ⟨_, _, _, hq⟩
                        · omega
                        · obtain ⟨_, _, q3, _⟩ := h.blk _ _ _ he hkb
                          rw [q3] at hq
                          have : (len + n) * te.size ≤ c * te.size := Nat.mul_le_mul_right _ hroom
                          omega
                      obtain ⟨w', k1, k2⟩ := Stp.inPlace (P := P) h hkb he ho hvl (by rw [← hvl.1]; exact hxl) (one_of_all hvl hb3) hroom2
                      have := append_in (ty := ty) hund T2.und hd2 (fun w => T3.run_size w) (a := ⟨en.blk, en.base + off, none⟩) (sLen := len) (sCap := c) hle (hfr w rfl) hroom
                      rw [add_none] at this
                      rw [k1] at this
                      refine ⟨_, _, _, this, k2, ?_⟩
                      have := VR.slice (M := M ++ [some (⟨en.blk, en.base + off, true, (old ++ xs).length, te.size, en.csz⟩ : Ent)]) (off := 0) (len := len + n) (cap := len + n) (c := c) (get_new h _) (.inr ⟨rfl, by simp only [hlen]; omega, hroom, ?_⟩)
                      · simpa using this
                      · rcases hc with hq | ⟨_, _, _, hq⟩
                        · omega
                        · obtain ⟨_, _, q3, _⟩ := h.blk _ _ _ he hkb
                          rw [q3] at hq
                          simpa using hq
                    · have hlt : c < len + n := by omega
                      obtain ⟨nc, q1, q2⟩ := append_grow (ty := ty) hund T2.und hd2 T3 (s' := .slice (some ⟨en.blk, en.base + off, none⟩) len c) rfl hle hfr (us0 := us0) (fun w' hw' => by simp [Builtin.firstCells, g1 w' hw']) hlt hb1 hb2
                      obtain ⟨v', M', w', r1, r2, r3⟩ := grown_gives (e := e) (h.killed hkb) (g2.append hvl) hlen hzc q1 (by rw [← List.append_toArray]; exact q2)
                      have hkl : (kill H b).length = H.length := by unfold kill; rw [hkb]; simp
                      rw [hkl] at r3
                      exact ⟨v', M', w', r1, (Stp.killed h hkb he).trans r2, r3⟩
                  · simp at ha7
                · simp at ha7
            · simp at ha6
      · rename_i b off
        obtain ⟨a', c, rfl⟩ := hs.of_sliceE
        split at ha6
        · rename_i hn0
          simp at ha6; obtain ⟨rfl, rfl⟩ := ha6
          subst hn0
          have := append_in (ty := ty) hund T2.und hd2 (fun w => T3.run_size w) (a := a') (sLen := 0) (sCap := c) hle (hfr w rfl) (by omega)
          have hus : us = [] := by have := hvl.1; rw [hxl] at this; simp at this; exact List.length_eq_zero_iff.1 this.symm
          subst hus
          rw [wrNil] at this
          exact Gives.pure h this .sliceE
        · simp at ha6
      · simp at ha6
    · simp at ha3
  · simp at ha


theorem append_ok (hE : E.Ok P) (h : HR M H w) {ts : List TypeId} {ty : TypeId} {s s' x x' v : Value} (hs : VR M s s') (hx : VR M x x') (ha : aAppend E ts s x H = some (v, H')) :
    Gives P M H w (Builtin.append_ ts.toArray ty #[s', x']) v H' := by
  unfold aAppend at ha
  split at ha
  · rename_i t1 t2
    obtain ⟨ti, ht, ha2⟩ := some_bind ha
    split at ha2
    · rename_i e hke
      obtain ⟨te, hte, ha4⟩ := some_bind ha2
      obtain ⟨n, hn, ha5⟩ := some_bind ha4
      obtain ⟨xs, hf, ha6⟩ := some_bind ha5
      refine appX_ok hE h hs (fun w => lenX_ok hx hn) (fun t ti' e' te' q1 q2 q3 q4 _ => ?_) ha6
      simp at q1; subst q1
      rw [ht] at q2; simp at q2; subst q2
      rw [hke] at q3; simp at q3; subst q3
      rw [hte] at q4; simp at q4; subst q4
      exact firstOf_ok (P := P) h hx hf
    · simp at ha2
  · simp at ha
end

section
/- The operations one by one, seventh part: copy, smallest, greatest, equality. -/
variable {P : Program} {E : Env} {M : Mp} {H H' : Heap} {w : World}

theorem firstOf_zero {x : Value} {size : Nat} {xs : List Value} (hf : firstOf x 0 size H = some xs) : xs = [] := by
  unfold firstOf at hf
  split at hf
  · simp at hf; exact hf
  · simp only [Nat.zero_mul] at hf
    have := rd_len hf
    exact List.length_eq_zero_iff.1 this
  · simp at hf; exact hf
  · simp at hf; exact hf
  · simp at hf

theorem run_copy0 {ats : Array TypeId} {td ty e : TypeId} {x' : Value} {dl dc n size : Nat} {us : List Value} (hat : ats[0]? = some td) (hu : P.underlying td = some (.slice e)) (hsz : ∀ w, (sizeOf e).run P w = .ok size w)
    (hn : ∀ w, (Builtin.lenOf x').run P w = .ok n w) (hf : (Builtin.firstCells size (min n dl) x').run P w = .ok us.toArray w) :
    (Builtin.copy_ ats ty #[.slice none dl dc, x']).run P w = .ok (.int .i64 ↑(min n dl)) w := by
  have hm : n.min dl = min n dl := rfl
  simp [Builtin.copy_, hat, run_underlying hu, hn, hsz, hm, hf, goInt]
theorem run_copy1 {ats : Array TypeId} {td ty e : TypeId} {x' : Value} {a : Addr} {dl dc n size : Nat} {us : List Value} (hat : ats[0]? = some td) (hu : P.underlying td = some (.slice e)) (hsz : ∀ w, (sizeOf e).run P w = .ok size w)
    (hn : ∀ w, (Builtin.lenOf x').run P w = .ok n w) (hf : (Builtin.firstCells size (min n dl) x').run P w = .ok us.toArray w) :
    (Builtin.copy_ ats ty #[.slice (some a) dl dc, x']).run P w = ((storeCells a us).run P w).andThen fun _ w' => .ok (.int .i64 ↑(min n dl)) w' := by
  have hm : n.min dl = min n dl := rfl
  simp [Builtin.copy_, hat, run_underlying hu, hn, hsz, hm, hf, goInt]

theorem copy_ok (hE : E.Ok P) (h : HR M H w) {ats : Array TypeId} {ty : TypeId} {d d' x x' v : Value} (hd : VR M d d') (hx : VR M x x') (ha : aCopy E ats.toList d x H = some (v, H')) :
    Gives P M H w (Builtin.copy_ ats ty #[d', x']) v H' := by
  unfold aCopy at ha
  split at ha
  rotate_left
  · simp at ha
  rename_i td rest hats
  have hat : ats[0]? = some td := by
    have : ats.toList[0]? = some td := by rw [hats]; rfl
    simpa using this
  obtain ⟨ti, ht, ha2⟩ := some_bind ha
  clear ha
  obtain ⟨i1, d1, z1, T1⟩ := hE.ty _ _ ht
  split at ha2
  · rename_i e base dl dc hke
    obtain ⟨te, hte, ha3⟩ := some_bind ha2
    obtain ⟨n, hn, ha4⟩ := some_bind ha3
    obtain ⟨xs, hf, ha5⟩ := some_bind ha4
    clear ha2 ha3 ha4
    obtain ⟨i3, d3, z3, T3⟩ := hE.ty _ _ hte
    have hk := T1.k
    rw [hke] at hk
    have hund : P.underlying td = some (.slice e) := by
      cases hd : d1 <;> rw [hd] at hk <;> first | exact hk.elim | (have hk : e = _ := hk; subst hk; rw [T1.und, hd])
    obtain ⟨us, hfr, hvl⟩ := firstOf_ok (P := P) h hx hf
    have hle : ∀ w, (Builtin.lenOf x').run P w = .ok n w := fun w => lenX_ok hx hn
    have zero : min n dl = 0 → us = [] := by
      intro h0
      rw [h0] at hf
      have := firstOf_zero hf
      subst this
      exact hvl.of_nil
    split at ha5
    · simp at ha5; obtain ⟨rfl, rfl⟩ := ha5
      have : ∃ c, d' = .slice none dl c ∧ dl = 0 := by cases hd; exact ⟨_, rfl, rfl⟩
      obtain ⟨c, rfl, _⟩ := this
      have := run_copy0 (ty := ty) (dl := dl) (dc := c) hat hund (fun w => T3.run_size w) hle (hfr w rfl)
      exact Gives.pure h this (.int _ _)
    · split at ha5
      · rename_i h0
        simp at ha5; obtain ⟨rfl, rfl⟩ := ha5
        have hdd : ∃ a c, d' = .slice (some a) dl c := by
          cases hd with
          | sliceE => exact ⟨_, _, rfl⟩
        obtain ⟨a, c, rfl⟩ := hdd
        have := run_copy1 (ty := ty) (a := a) (dl := dl) (dc := c) hat hund (fun w => T3.run_size w) hle (hfr w rfl)
        rw [zero h0] at this
        simp only [wrNil, Result.andThen_ok, h0] at this
        exact Gives.pure h this (.int _ _)
      · simp at ha5
    · rename_i b off
      obtain ⟨en, c, he, hc, rfl⟩ := hd.of_slice
      have hr := run_copy1 (ty := ty) (a := ⟨en.blk, en.base + off, none⟩) (dl := dl) (dc := c) hat hund (fun w => T3.run_size w) hle (hfr w rfl)
      split at ha5
      · rename_i h0
        simp at ha5; obtain ⟨rfl, rfl⟩ := ha5
        rw [zero h0] at hr
        simp only [wrNil, Result.andThen_ok, h0] at hr
        exact Gives.pure h hr (.int _ _)
      · obtain ⟨H2, hw, ha6⟩ := some_bind ha5
        simp at ha6; obtain ⟨rfl, rfl⟩ := ha6
        obtain ⟨w', g1, g2⟩ := wr_ok P h hw he hvl
        simp only [g1, Result.andThen_ok] at hr
        exact ⟨_, _, _, hr, g2, .int _ _⟩
  · simp at ha2

theorem clear_ok (hE : E.Ok P) (h : HR M H w) {ats : Array TypeId} {ty : TypeId} {x x' : Value} (hx : VR M x x') (ha : aClear E ats.toList x H = some H') :
    Gives P M H w (Builtin.clear_ ats ty #[x']) undef H' := by
  unfold aClear at ha
  split at ha
  rotate_left
  · simp at ha
  rename_i t rest hats
  have hat : ats[0]? = some t := by
    have : ats.toList[0]? = some t := by rw [hats]; rfl
    simpa using this
  obtain ⟨ti, ht, ha2⟩ := some_bind ha
  clear ha
  obtain ⟨i1, d1, z1, T1⟩ := hE.ty _ _ ht
  have hk := T1.k
  have hund : ∀ e, ti.k = .slice e → P.underlying t = some (.slice e) := fun e hke => by
    rw [hke] at hk
    cases hd : d1 <;> rw [hd] at hk <;> first | exact hk.elim | (have hk : e = _ := hk; subst hk; rw [T1.und, hd])
  split at ha2
  · rename_i hke
    have hu := hund _ hke
    cases ha2
    cases hx
    refine Gives.pure h ?_ (.undef _)
    simp [Builtin.clear_, hat, run_underlying hu, undef]
  · rename_i e b off m cap hke
    have hu := hund _ hke
    obtain ⟨te, hte, ha3⟩ := some_bind ha2
    obtain ⟨i3, d3, z3, T3⟩ := hE.ty _ _ hte
    obtain ⟨en, c, he, hc, rfl⟩ := hx.of_slice
    split at ha3
    · rename_i h0
      cases ha3
      subst h0
      refine Gives.pure h ?_ (.undef _)
      simp [Builtin.clear_, hat, run_underlying hu, undef]
    · rename_i h0
      have hz := zeros_vl (M := M) T3 m
      have hsz : z3.cells.size = te.size := by rw [← T3.len, ← T3.cells]; simp
      have hzc : (Builtin.zeroCells z3.cells m).toList = (madeCells z3.cells (m * te.size)).toList := by rw [← hsz]; rfl
      rw [← hzc] at hz
      obtain ⟨w', g1, g2⟩ := wr_ok P h ha3 he hz
      obtain ⟨q, rfl⟩ : ∃ q, m = q + 1 := ⟨m - 1, by omega⟩
      refine ⟨undef, _, _, ?_, g2, .undef _⟩
      simp [Builtin.clear_, hat, run_underlying hu, T3.run_zero, g1, undef]
  · rename_i hke
    have hu := hund _ hke
    cases ha2
    cases hx
    refine Gives.pure h ?_ (.undef _)
    simp [Builtin.clear_, hat, run_underlying hu, undef]
  · cases ha2

theorem min2_ok {mx : Bool} {a a' b b' v : Value} (ha : VR M a a') (hb : VR M b b') (hv : aMin2 mx a b = some v) :
    VR M v v ∧ ∀ w : World, ((if mx then Builtin.max2 else Builtin.min2) a' b').run P w = .ok v w := by
  unfold aMin2 at hv
  split at hv
  · simp at hv; subst hv
    have := ha.of_int; subst this
    have := hb.of_int; subst this
    refine ⟨.int _ _, fun w => ?_⟩
    cases mx <;> simp [Builtin.min2, Builtin.max2]
  · simp at hv

theorem minL_ok {mx : Bool} : ∀ {l l' : List Value} {a a' v : Value}, VR M a a' → VL M l l' → aMinL mx a l = some v →
    ∃ v', VR M v v' ∧ ∀ w : World, (l'.foldlM (if mx then Builtin.max2 else Builtin.min2) a').run P w = .ok v' w := by
  intro l
  induction l with
  | nil =>
    intro l' a a' v ha hl hv
    have := hl.of_nil; subst this
    simp [aMinL] at hv; subst hv
    exact ⟨a', ha, fun w => by simp⟩
  | cons x r ih =>
    intro l' a a' v ha hl hv
    obtain ⟨u, us, rfl, hu, hr⟩ := hl.of_cons
    unfold aMinL at hv
    obtain ⟨m, hm, hv2⟩ := some_bind hv
    obtain ⟨h1, h2⟩ := min2_ok (P := P) ha hu hm
    obtain ⟨v', g1, g2⟩ := ih h1 hr hv2
    exact ⟨v', g1, fun w => by simp only [List.foldlM_cons, Sem.run_bind, h2, Result.andThen_ok, g2]⟩

theorem min_ok (h : HR M H w) {mx : Bool} {ts : Array TypeId} {ty : TypeId} {l l' : List Value} {a a' v : Value} (ha : VR M a a') (hl : VL M l l') (hv : aMinL mx a l = some v) :
    Gives P M H w ((if mx then Builtin.max_ else Builtin.min_) ts ty (a' :: l').toArray) v H := by
  obtain ⟨v', g1, g2⟩ := minL_ok (P := P) ha hl hv
  refine Gives.pure h ?_ g1
  cases mx
  · have := g2 w
    simpa [Builtin.min_] using this
  · have := g2 w
    simpa [Builtin.max_] using this
end

section
/- The operations one by one, eighth part: equality; the operators of two operands. -/
variable {P : Program} {E : Env} {M : Mp} {H H' : Heap} {w : World}

def eqArr (d : Nat) (e : TypeId) (n : Nat) (xs ys : Array Value) : List Nat → Sem Bool
  | [] => pure true
  | i :: l => do
    let a ← part e xs (i * n)
    let b ← part e ys (i * n)
    let r ← Op.equalIn d e a b
    if (!r) = true then pure false else eqArr d e n xs ys l

theorem run_equalIn_array (w : World) (d : Nat) (t e : TypeId) (len n : Nat) (xs ys : Array Value) (ht : P.underlying t = some (.array len e)) (hs : ∀ w, (sizeOf e).run P w = .ok n w) :
    (Op.equalIn (d + 1) t (.agg xs) (.agg ys)).run P w = (eqArr d e n xs ys (List.range' 0 len)).run P w := by
  simp only [Op.equalIn, Sem.run_bind, run_underlying ht, Result.andThen_ok, hs, Std.Legacy.Range.forIn_eq_forIn_range', Std.Legacy.Range.size]
  have e0 : (len - 0 + 1 - 1) / 1 = len := by simp
  rw [e0]
  generalize List.range' 0 len = l
  clear ht
  induction l generalizing w with
  | nil => simp [eqArr]
  | cons i l ih =>
    simp only [List.forIn_cons, eqArr, Sem.run_bind, Sem.run_ite]
    generalize (part e xs (i * n)).run P w = r1
    cases r1 with
    | ok a w1 =>
      simp only [Result.andThen_ok]
      generalize (part e ys (i * n)).run P w1 = r2
      cases r2 with
      | ok b w2 =>
        simp only [Result.andThen_ok]
        generalize (Op.equalIn d e a b).run P w2 = r3
        cases r3 with
        | ok r w3 =>
          cases r
          · simp only [Result.andThen_ok, Bool.not_false, if_true, Sem.run_pure]
          · simp only [Result.andThen_ok, Bool.not_true, Bool.false_eq_true, if_false, Sem.run_pure]
            exact ih w3
        | halt x w3 => simp [Result.andThen]
      | halt x w2 => simp [Result.andThen]
    | halt x w1 => simp [Result.andThen]

set_option maxHeartbeats 1000000 in
theorem eq1_ok {k : TK} {d : TypeDesc} {t : TypeId} {x x' y y' : Value} {b : Bool} {D : Nat} (hk : KOk P t k d) (ht : P.underlying t = some d) (hx : VR M x x') (hy : VR M y y') (h : eq1 k x y = some b) (w : World) :
    (Op.equalIn (D + 1) t x' y').run P w = .ok b w := by
  unfold eq1 at h
  split at h
  · cases d <;> first | exact hk.elim | skip
    simp at h; subst h
    have := hx.of_bool; subst this; have := hy.of_bool; subst this
    simp [Op.equalIn, run_underlying ht]
  · cases d <;> first | exact hk.elim | skip
    split at h
    · rename_i hkk
      simp at h; subst h
      have := hx.of_int; subst this; have := hy.of_int; subst this
      simp [Op.equalIn, run_underlying ht, hkk]
    · simp at h
  · cases d <;> first | exact hk.elim | skip
    simp at h; subst h
    have := hx.of_string; subst this; have := hy.of_string; subst this
    exact run_equalIn_string w D t _ _ ht
  · cases d <;> first | exact hk.elim | skip
    simp at h; subst h
    cases hx
    cases hy <;> simp [Op.equalIn, run_underlying ht]
  · cases d <;> first | exact hk.elim | skip
    simp at h; subst h
    cases hx
    cases hy
    simp [Op.equalIn, run_underlying ht]
  · cases d <;> first | exact hk.elim | skip
    simp at h; subst h
    cases hx
    cases hy <;> simp [Op.equalIn, run_underlying ht]
  · cases d <;> first | exact hk.elim | skip
    simp at h; subst h
    cases hy
    cases hx <;> simp [Op.equalIn, run_underlying ht]
  · cases d <;> first | exact hk.elim | skip
    simp at h; subst h
    cases hx
    cases hy <;> simp [Op.equalIn, run_underlying ht]
  · cases d <;> first | exact hk.elim | skip
    simp at h; subst h
    cases hx
    cases hy
    simp [Op.equalIn, run_underlying ht]
  · cases d <;> first | exact hk.elim | skip
    simp at h; subst h
    cases hx <;> cases hy <;> simp [Op.equalIn, run_underlying ht]
  · cases d <;> first | exact hk.elim | skip
    simp at h; subst h
    cases hx <;> cases hy <;> simp [Op.equalIn, run_underlying ht]
  · cases d <;> first | exact hk.elim | skip
    simp at h; subst h
    cases hx <;> cases hy <;> simp [Op.equalIn, run_underlying ht]
  · cases d <;> first | exact hk.elim | skip
    simp at h; subst h
    cases hx <;> cases hy <;> simp [Op.equalIn, run_underlying ht]
  · cases d <;> first | exact hk.elim | skip
    simp at h; subst h
    cases hx <;> cases hy <;> simp [Op.equalIn, run_underlying ht]
  · simp at h

theorem eq_ok (hE : E.Ok P) : ∀ (d : Nat),
    (∀ (t : TypeId) (x x' y y' : Value) (b : Bool) (D : Nat), d ≤ D → VR M x x' → VR M y y' → eqV E d t x y = some b → ∀ w, (Op.equalIn D t x' y').run P w = .ok b w) ∧
    (∀ (fs : List (Nat × TypeId)) (gs : List Field) (xs xs' ys ys' : List Value) (b : Bool) (D : Nat), d ≤ D + 1 → fs = gs.map (fun f => (f.offset, f.type)) → (∀ f ∈ gs, f.name ≠ "_") → VL M xs xs' → VL M ys ys' → eqFields E d fs xs ys = some b →
      ∀ w, (Op.eqFields D xs'.toArray ys'.toArray gs).run P w = .ok b w) ∧
    (∀ (e : TypeId) (size n i : Nat) (xs xs' ys ys' : List Value) (b : Bool) (D : Nat), d ≤ D + 1 → VL M xs xs' → VL M ys ys' → eqElems E d e size n i xs ys = some b →
      ∀ w, (eqArr D e size xs'.toArray ys'.toArray (List.range' i n)).run P w = .ok b w) := by
  intro d
  induction d with
  | zero =>
    refine ⟨?_, ?_, ?_⟩
    · intro t x x' y y' b D _ _ _ h; simp [eqV] at h
    · intro fs gs xs xs' ys ys' b D _ _ _ _ _ h; simp [eqFields] at h
    · intro e size n i xs xs' ys ys' b D _ _ _ h; simp [eqElems] at h
  | succ d ih =>
    obtain ⟨ih1, ih2, ih3⟩ := ih
    refine ⟨?_, ?_, ?_⟩
    · intro t x x' y y' b D hD hx hy h w
      obtain ⟨D, rfl⟩ : ∃ q, D = q + 1 := ⟨D - 1, by omega⟩
      unfold eqV at h
      obtain ⟨ti, ht, h2⟩ := some_bind h
      clear h
      obtain ⟨i, dd, z, T⟩ := hE.ty _ _ ht
      have hk := T.k
      split at h2
      · rename_i fs xs ys hkd
        rw [hkd] at hk
        obtain ⟨us, rfl, hu⟩ := hx.of_agg
        obtain ⟨vs, rfl, hv⟩ := hy.of_agg
        cases dd with
        | struct gs =>
          obtain ⟨hg, hn, hst, _⟩ := hk
          have hf : P.underlying t = some (.struct (P.fieldsOf t)) := by unfold Program.fieldsOf; rw [T.und]
          have hfe : P.fieldsOf t = gs := by unfold Program.fieldsOf; rw [T.und]
          rw [run_equalIn_struct w D t us vs hf hst, hfe]
          have := ih2 fs gs.toList xs.toList us.toList ys.toList vs.toList b D (by omega) hg hn hu hv h2 w
          simpa using this
        | _ => exact hk.elim
      · rename_i n e xs ys hkd
        rw [hkd] at hk
        obtain ⟨te, hte, h3⟩ := some_bind h2
        obtain ⟨i2, d2, z2, T2⟩ := hE.ty _ _ hte
        obtain ⟨us, rfl, hu⟩ := hx.of_agg
        obtain ⟨vs, rfl, hv⟩ := hy.of_agg
        cases dd with
        | array n' e' =>
          obtain ⟨rfl, rfl, _⟩ := hk
          rw [run_equalIn_array w D t e n te.size us vs T.und (fun w => T2.run_size w)]
          have := ih3 e te.size n 0 xs.toList us.toList ys.toList vs.toList b D (by omega) hu hv h3 w
          simpa using this
        | _ => exact hk.elim
      · exact eq1_ok hk T.und hx hy h2 w
    · intro fs gs xs xs' ys ys' b D hD hfs hn hx hy h w
      cases gs with
      | nil =>
        subst hfs
        simp [eqFields] at h; subst h
        simp [Op.eqFields]
      | cons f gs =>
        subst hfs
        simp only [List.map_cons, eqFields] at h
        obtain ⟨a, ha, h2⟩ := some_bind h
        obtain ⟨c, hc, h3⟩ := some_bind h2
        obtain ⟨r, hr, h4⟩ := some_bind h3
        obtain ⟨a', g1, g2⟩ := part_ok hE hx ha
        obtain ⟨c', g3, g4⟩ := part_ok hE hy hc
        have hn0 := hn f (by simp)
        have e1 := ih1 f.type a a' c c' r D (by omega) g2 g4 hr w
        simp only [Op.eqFields, if_pos hn0, Sem.run_bind, g1, g3, Result.andThen_ok, e1, Sem.run_ite]
        cases r with
        | false => simp at h4; subst h4; simp
        | true =>
          simp only [if_true] at h4
          simp only [Bool.not_true, Bool.false_eq_true, if_false]
          exact ih2 _ gs xs xs' ys ys' b D (by omega) rfl (fun g hg => hn g (by simp [hg])) hx hy h4 w
    · intro e size n i xs xs' ys ys' b D hD hx hy h w
      cases n with
      | zero =>
        simp [eqElems] at h; subst h
        simp [eqArr]
      | succ n =>
        simp only [eqElems] at h
        obtain ⟨a, ha, h2⟩ := some_bind h
        obtain ⟨c, hc, h3⟩ := some_bind h2
        obtain ⟨r, hr, h4⟩ := some_bind h3
        obtain ⟨a', g1, g2⟩ := part_ok hE hx ha
        obtain ⟨c', g3, g4⟩ := part_ok hE hy hc
        have e1 := ih1 e a a' c c' r D (by omega) g2 g4 hr w
        rw [List.range'_succ]
        simp only [eqArr, Sem.run_bind, g1, g3, Result.andThen_ok, e1, Sem.run_ite]
        cases r with
        | false => simp at h4; subst h4; simp
        | true =>
          simp only [if_true] at h4
          simp only [Bool.not_true, Bool.false_eq_true, if_false]
          exact ih3 e size n (i + 1) xs xs' ys ys' b D (by omega) hx hy h4 w
end

section
/- The operations one by one, ninth part: the operators of two operands. -/
variable {P : Program} {E : Env} {M : Mp} {H H' : Heap} {w : World}

def apartV : Value → Value → Bool
  | .int _ _, .int _ _ | .float _ _, .float _ _ | .complex _ _ _, .complex _ _ _ | .string _, .string _ => false
  | _, _ => true

theorem binOp_eql' (t : TypeId) (a b : Value) (h : apartV a b = true) : binOp .eql t a b = (do pure (.bool (← Op.equal t a b))) := by
  unfold binOp
  split <;> simp_all [apartV]
theorem binOp_neq' (t : TypeId) (a b : Value) (h : apartV a b = true) : binOp .neq t a b = (do pure (.bool (!(← Op.equal t a b)))) := by
  unfold binOp
  split <;> simp_all [apartV]

theorem apart_of {x x' y y' : Value} (hx : VR M x x') (hy : VR M y y') (h1 : ∀ k a k' b, x = .int k a → y = .int k' b → False) (h2 : ∀ a b, x = .string a → y = .string b → False) (h3 : ∀ k a, x ≠ .float k a) : apartV x' y' = true := by
  cases hx <;> cases hy <;> first | rfl | exact (h1 _ _ _ _ rfl rfl).elim | exact (h2 _ _ rfl rfl).elim | exact absurd rfl (h3 _ _)

theorem guard_ok (hE : E.Ok P) {op : BinOp} {t : TypeId} {d : Nat} {ox oy : Operand} {x x' y y' : Value} {b : Bool} (hx : VR M x x') (hy : VR M y y') (h : eqV E d t x y = some b) (w : World) :
    (eqGuard op t ox oy x' y').run P w = .ok () w := by
  cases d with
  | zero => simp [eqV] at h
  | succ d =>
    cases hx with
    | agg hs gx =>
      cases hy with
      | agg hs' gx' =>
        unfold eqV at h
        obtain ⟨ti, ht, h2⟩ := some_bind h
        obtain ⟨i, dd, z, T⟩ := hE.ty _ _ ht
        have hk := T.k
        split at h2
        · rename_i fs xs ys hkd _ _
          rw [hkd] at hk
          cases dd with
          | struct gs => exact run_eqGuard_agg w op t ox oy _ _ hk.2.2.2.1
          | _ => exact hk.elim
        · rename_i n e xs ys hkd _ _
          rw [hkd] at hk
          cases dd with
          | array n' e' => exact run_eqGuard_agg w op t ox oy _ _ hk.2.2
          | _ => exact hk.elim
        · exact absurd h2 (by unfold eq1; split <;> simp_all)
      | _ => cases op <;> simp [eqGuard]
    | nilIface =>
      cases hy with
      | nilIface =>
        exfalso
        unfold eqV at h
        obtain ⟨ti, ht, h2⟩ := some_bind h
        split at h2
        · simp_all
        · simp_all
        · exact absurd h2 (by unfold eq1; split <;> simp_all)
      | _ => cases op <;> simp [eqGuard]
    | _ => cases op <;> simp [eqGuard]

theorem bin_ok (hE : E.Ok P) (h : HR M H w) {op : BinOp} {t : TypeId} {ox oy : Operand} {x x' y y' v : Value} (hx : VR M x x') (hy : VR M y y') (hb : aBin E op t x y = some v) :
    Gives P M H w (do eqGuard op t ox oy x' y'; binOp op t x' y') v H := by
  unfold aBin at hb
  split at hb
  · rename_i k a k' b
    have := hx.of_int; subst this
    have := hy.of_int; subst this
    refine Gives.pure h ?_ (v' := v) ?_
    · simp only [eqGuard_at_int, Sem.run_bind, Sem.run_pure, Result.andThen_ok]
      split at hb
      · split at hb
        · rename_i h0
          simp at hb; subst hb
          have : ¬ b < 0 := by omega
          simp [binOp, Op.shift, this]
        · simp at hb
      · split at hb
        · rename_i h0
          simp at hb; subst hb
          have : ¬ b < 0 := by omega
          simp [binOp, Op.shift, this]
        · simp at hb
      · split at hb
        · rename_i hk
          subst hk
          split at hb <;> (try split at hb) <;> simp at hb <;> (try subst hb) <;> simp_all [binOp, Op.intArith, Op.intDiv, Op.intBits, Op.intCmp]
        · simp at hb
    · split at hb <;> (try split at hb) <;> (try split at hb) <;> (try split at hb) <;> simp at hb <;> subst hb <;> constructor
  · rename_i a b
    have := hx.of_string; subst this
    have := hy.of_string; subst this
    refine Gives.pure h ?_ (v' := v) ?_
    · simp only [eqGuard_at_string, Sem.run_bind, Sem.run_pure, Result.andThen_ok]
      split at hb <;> (try split at hb) <;> simp at hb <;> subst hb <;> simp [binOp, Op.stringOp]
      all_goals omega
    · split at hb <;> (try split at hb) <;> simp at hb <;> subst hb <;> constructor
  · rename_i hni hns
    split at hb
    · obtain ⟨b, hq, hb2⟩ := some_bind hb
      simp at hb2; subst hb2
      have hf : ∀ k a, x ≠ .float k a := by
        intro k a e; subst e
        unfold eqV at hq
        obtain ⟨ti, ht, h2⟩ := some_bind hq
        split at h2
        · simp_all
        · simp_all
        · exact absurd h2 (by unfold eq1; split <;> simp_all)
      have hap := apart_of hx hy (fun k a k' b e1 e2 => hni k a k' b e1 e2) (fun a b e1 e2 => hns a b e1 e2) hf
      have he := (eq_ok (M := M) hE 100).1 t x x' y y' b 10000 (by omega) hx hy hq
      refine Gives.pure h ?_ (.bool _)
      simp [guard_ok hE hx hy hq, binOp_eql' t _ _ hap, Op.equal, Op.maxDepth, he]
    · obtain ⟨b, hq, hb2⟩ := some_bind hb
      simp at hb2; subst hb2
      have hf : ∀ k a, x ≠ .float k a := by
        intro k a e; subst e
        unfold eqV at hq
        obtain ⟨ti, ht, h2⟩ := some_bind hq
        split at h2
        · simp_all
        · simp_all
        · exact absurd h2 (by unfold eq1; split <;> simp_all)
      have hap := apart_of hx hy (fun k a k' b e1 e2 => hni k a k' b e1 e2) (fun a b e1 e2 => hns a b e1 e2) hf
      have he := (eq_ok (M := M) hE 100).1 t x x' y y' b 10000 (by omega) hx hy hq
      refine Gives.pure h ?_ (.bool _)
      simp [guard_ok hE hx hy hq, binOp_neq' t _ _ hap, Op.equal, Op.maxDepth, he]
    · simp at hb
end
end Go.Proofs.YthgfjbafhjkhnaaGreat.Zq
