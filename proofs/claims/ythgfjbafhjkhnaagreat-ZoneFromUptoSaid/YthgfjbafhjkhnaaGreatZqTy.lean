/- What the evaluator is told of types holds of the program; reading and writing cells. -/
import Derived.Test.YthgfjbafhjkhnaaGreatZqRel
import Derived.Laws.Entries
namespace Go.Proofs.YthgfjbafhjkhnaaGreat.Zq

def KOk (P : Program) (t : TypeId) : TK → TypeDesc → Prop
  | .bool, .bool => True
  | .int k, .int k' => k = k'
  | .string, .string => True
  | .pointer e, .pointer e' => e = e'
  | .slice e, .slice e' => e = e'
  | .array n e, .array n' e' => n = n' ∧ e = e' ∧ P.eqGuardType P.depth t = false
  | .map k e, .map k' e' => k = k' ∧ e = e'
  | .struct fs, .struct gs => fs = gs.toList.map (fun f => (f.offset, f.type)) ∧ (∀ f ∈ gs.toList, f.name ≠ "_") ∧ P.stoodInHeld t = false ∧ P.eqGuardType P.depth t = false ∧ (gs.toList.mapM (fun f => (P.info? f.type).map fun i => (f.offset, i.size))).isSome = true
  | .func, .func _ _ _ => True
  | .iface, .interface _ => True
  | _, _ => False

structure TyOk (P : Program) (t : TypeId) (ti : TI) (i : TypeInfo) (d : TypeDesc) (z : Value) : Prop where
  info : P.info? t = some i
  und : P.underlying t = some d
  size : i.size = ti.size
  bytes : i.bytes = ti.bytes
  zero : i.zero = some z
  cells : z.cells.toList = ti.zero
  flat : ti.zero.all flat1 = true
  len : ti.zero.length = ti.size
  agg : isAggK ti.k = true ↔ ∃ cs, z = .agg cs
  k : KOk P t ti.k d

structure Env.Ok (E : Env) (P : Program) : Prop where
  ty : ∀ t ti, E.ty t = some ti → ∃ i d z, TyOk P t ti i d z
  fn : ∀ f fn, E.fn f = some fn → P.funcs[f]? = some fn ∧ (fn.name == "runtime.NumGoroutine") = false
  ord : P.follows .mixedOrders = true

section
variable {P : Program} {t : TypeId} {ti : TI} {i : TypeInfo} {d : TypeDesc} {z : Value}
theorem TyOk.run_info (h : TyOk P t ti i d z) (w : World) : (typeInfo t).run P w = .ok i w := by
  simp [typeInfo, h.info]
theorem TyOk.run_und (h : TyOk P t ti i d z) (w : World) : (underlying t).run P w = .ok d w := run_underlying h.und w
theorem TyOk.run_size (h : TyOk P t ti i d z) (w : World) : (sizeOf t).run P w = .ok ti.size w := by
  simp [sizeOf, h.run_info, h.size]
theorem TyOk.run_zero (h : TyOk P t ti i d z) (w : World) : (zeroValue t).run P w = .ok z w := by
  simp [zeroValue, h.run_info, h.zero]
theorem TyOk.run_isAgg (h : TyOk P t ti i d z) (w : World) : (isAgg t).run P w = .ok (isAggK ti.k) w := by
  have hk := h.k
  simp only [isAgg, Sem.run_bind, h.run_und, Result.andThen_ok]
  cases hd : d <;> cases hq : ti.k <;> rw [hd, hq] at hk <;> simp_all [KOk, isAggK]
theorem TyOk.vl (h : TyOk P t ti i d z) (M : Mp) : VL M ti.zero z.cells.toList := by
  rw [h.cells]
  refine ⟨rfl, fun j x u hx hu => ?_⟩
  rw [hx] at hu; simp at hu; subst hu
  exact VR.flat1 (List.all_eq_true.1 h.flat x (List.mem_of_getElem? hx))
end

/-- A computation gives a value, and turns heap and world alike. -/
def Gives (P : Program) (M : Mp) (H : Heap) (w : World) (s : Sem Value) (v : Value) (H' : Heap) : Prop :=
  ∃ v' M' w', s.run P w = .ok v' w' ∧ Stp M H w M' H' w' ∧ VR M' v v'

theorem Gives.pure {P : Program} {M : Mp} {H : Heap} {w : World} {s : Sem Value} {v v' : Value} (h : HR M H w) (hr : s.run P w = .ok v' w) (hv : VR M v v') : Gives P M H w s v H :=
  ⟨v', M, w, hr, .refl h, hv⟩

/-! ### Cells -/

theorem row_cells {M : Mp} {H : Heap} {w : World} (h : HR M H w) {b : Nat} {cells : List Value} {sz : Nat} {opn ro : Bool} {e : Ent} (hk : H[b]? = some (.row cells sz opn ro true)) (he : M[b]? = some (some e)) :
    ∃ c t fz, w.heap[e.blk]? = some (.cells c t fz) ∧ c.size = e.csz ∧ e.base + cells.length ≤ c.size ∧ VL M cells ((c.toList.drop e.base).take cells.length) ∧ (ro = false → fz = (0, 0)) := by
  obtain ⟨_, _, _, h4⟩ := h.blk b e _ he hk
  exact h4 rfl

theorem add_none (b o n : Nat) : (⟨b, o, none⟩ : Addr).add n = ⟨b, o + n, none⟩ := Addr.add_lit b o n

/-- READING CELLS. -/
theorem rd_ok {M : Mp} {H : Heap} {w : World} (P : Program) (h : HR M H w) {b off n : Nat} {cs : List Value} {e : Ent} (hr : rd H b off n = some cs) (he : M[b]? = some (some e)) :
    ∃ us : List Value, (∀ w' : World, w'.heap = w.heap → (loadCells ⟨e.blk, e.base + off, none⟩ n).run P w' = .ok us.toArray w') ∧ VL M cs us ∧ us.length = n ∧ (∀ j u, us[j]? = some u → w.cell? ⟨e.blk, e.base + off + j, none⟩ = some u) := by
  unfold rd at hr
  split at hr
  · rename_i c sz opn ro hk
    split at hr
    · rename_i hle
      simp at hr; subst hr
      obtain ⟨c', t, fz, hw, hsz, hb, hv, _⟩ := row_cells h hk he
      have hget : ∀ (j : Nat) (u : Value), (((c'.toList.drop e.base).take c.length).drop off |>.take n)[j]? = some u → w.cell? ⟨e.blk, e.base + off + j, none⟩ = some u := by
        intro j v hv
        simp only [List.getElem?_take, List.getElem?_drop] at hv
        split at hv
        · split at hv
          · simp only [World.cell?, hw]
            simp only [Array.getElem?_toList] at hv
            simpa [Nat.add_assoc] using hv
          · simp at hv
        · simp at hv
      have hl : (((c'.toList.drop e.base).take c.length).drop off |>.take n).length = n := by
        simp; omega
      refine ⟨((c'.toList.drop e.base).take c.length).drop off |>.take n, fun w' hw' => ?_, (hv.drop off).take n, hl, hget⟩
      have := run_loadCells_list (P := P) w' ⟨e.blk, e.base + off, none⟩ (((c'.toList.drop e.base).take c.length).drop off |>.take n) ?_
      · rw [hl] at this; exact this
      · intro j v hv
        rw [add_none]
        have := hget j v hv
        unfold World.cell? at this ⊢
        rw [hw']; exact this
    · simp at hr
  · simp at hr

theorem ofCells_ok {M : Mp} {k : TK} {cs us : List Value} {v : Value} (h : VL M cs us) (hv : ofCells k cs = some v) :
    ∃ u, VR M v u ∧ (isAggK k = true → u = .agg us.toArray) ∧ (isAggK k = false → us = [u]) := by
  unfold ofCells at hv
  split at hv
  · rename_i hk
    simp at hv; subst hv
    exact ⟨_, h.agg, fun _ => rfl, fun hf => by simp [hk] at hf⟩
  · rename_i hk
    split at hv
    · rename_i x
      simp at hv; subst hv
      obtain ⟨u, us', rfl, hu, ht⟩ := h.of_cons
      have := ht.of_nil; subst this
      exact ⟨u, hu, fun hf => by simp [hk] at hf, fun _ => rfl⟩
    · simp at hv

theorem take_drop_patch (l us : List Value) (b off n : Nat) (h1 : off + us.length ≤ n) (h2 : b + n ≤ l.length) :
    ((l.take (b + off) ++ us ++ l.drop (b + off + us.length)).drop b).take n = patch ((l.drop b).take n) off us := by
  apply List.ext_getElem?
  intro q
  unfold patch
  simp only [List.getElem?_take, List.getElem?_drop, List.getElem?_append, List.length_take, List.length_append, List.length_drop]
  have e1 : min (b + off) l.length = b + off := by omega
  have e2 : min off (min n (l.length - b)) = off := by omega
  rw [e1, e2]
  by_cases hq : q < n
  · by_cases ha : q < off
    · have c1 : b + q < b + off := by omega
      have c2 : b + q < b + off + us.length := by omega
      have c3 : q < off + us.length := by omega
      simp [hq, ha, c1, c2, c3]
    · by_cases hb : q < off + us.length
      · have c1 : ¬ b + q < b + off := by omega
        have c2 : b + q < b + off + us.length := by omega
        simp [hq, ha, hb, c1, c2]
        congr 1; omega
      · have c2 : ¬ b + q < b + off + us.length := by omega
        have c4 : off + us.length + (q - (off + us.length)) < n := by omega
        simp [hq, hb, c2, c4]
        congr 1; omega
  · have c3 : ¬ q < off + us.length := by omega
    have c4 : ¬ off + us.length + (q - (off + us.length)) < n := by omega
    simp [hq, c3, c4]

/-- WRITING CELLS. -/
theorem wr_ok {M : Mp} {H H' : Heap} {w : World} (P : Program) (h : HR M H w) {b off : Nat} {vs us : List Value} {e : Ent} (hr : wr H b off vs = some H') (he : M[b]? = some (some e)) (hv : VL M vs us) :
    ∃ w', (storeCells ⟨e.blk, e.base + off, none⟩ us).run P w = .ok () w' ∧ Stp M H w M H' w' := by
  unfold wr at hr
  split at hr
  · rename_i c sz opn hk
    split at hr
    · rename_i hle
      split at hr
      · rename_i hc1
        simp at hr; subst hr
        obtain ⟨c', t, fz, hw, hsz, hb, hvl, hfz⟩ := row_cells h hk he
        have hfz := hfz rfl; subst hfz
        have hone : ∀ u ∈ us, u.oneCell' = true := by
          intro u hu
          obtain ⟨j, hj⟩ := List.mem_iff_getElem?.1 hu
          have hjl : j < vs.length := by rw [hv.1]; exact (List.getElem?_eq_some_iff.1 hj).1
          have hx : vs[j]? = some vs[j] := List.getElem?_eq_getElem hjl
          rw [← (hv.2 j _ _ hx hj).cell1]
          exact List.all_eq_true.1 hc1 _ (List.mem_of_getElem? hx)
        have hlen : e.base + off + 0 + us.length ≤ c'.size := by have := hv.1; omega
        have hst := run_storeCells_at P e.blk (e.base + off) t us 0 c' w hw hlen hone
        have hblt : e.blk < w.heap.size := (Array.getElem?_eq_some_iff.1 hw).1
        refine ⟨_, hst, ?_⟩
        generalize hW : w.setRow e.blk (c'.toList.take (e.base + off + 0) ++ us ++ c'.toList.drop (e.base + off + 0 + us.length)).toArray = W
        have hWe : W.heap[e.blk]? = some (.cells (c'.toList.take (e.base + off) ++ us ++ c'.toList.drop (e.base + off + us.length)).toArray t (0, 0)) := by
          rw [← hW]; simpa using setRow_heap w e.blk c' _ t (0, 0) hw
        have hWo : ∀ k, k ≠ e.blk → W.heap[k]? = w.heap[k]? := by
          intro k hne
          rw [← hW]; unfold World.setRow; simp only [Array.getElem?_modify]; rw [if_neg (Ne.symm hne)]
        have hWs : W.heap.size = w.heap.size := by rw [← hW]; simp [World.setRow]
        have hWos : W.os = w.os := by rw [← hW]; rfl
        have hWout : W.output = w.output := by rw [← hW]; rfl
        have hWt : W.tape = w.tape := by rw [← hW]; rfl
        have hWd : w.drawn ≤ W.drawn := by rw [← hW]; exact Nat.le_refl _
        have hblen : b < H.length := (List.getElem?_eq_some_iff.1 hk).1
        have hset : ∀ (j : Nat), j ≠ b → (H.set b (.row (patch c off vs) sz opn false true))[j]? = H[j]? := fun j hj => by rw [List.getElem?_set_ne (Ne.symm hj)]
        have hsetb : (H.set b (.row (patch c off vs) sz opn false true))[b]? = some (.row (patch c off vs) sz opn false true) := by rw [List.getElem?_set_self hblen]
        have hlive : ∀ j : Nat, liveB (H.set b (.row (patch c off vs) sz opn false true)) j ↔ liveB H j := by
          intro j; by_cases hj : j = b
          · subst hj; unfold liveB; rw [hsetb, hk]
          · unfold liveB; rw [hset j hj]
        have hwrit : ∀ j : Nat, writB (H.set b (.row (patch c off vs) sz opn false true)) j ↔ writB H j := by
          intro j; by_cases hj : j = b
          · subst hj; unfold writB; rw [hsetb, hk]
          · unfold writB; rw [hset j hj]
        have hwb : writB H b := by unfold writB; rw [hk]; exact ⟨rfl, rfl⟩
        have hpl : (patch c off vs).length = c.length := by unfold patch; simp; omega
        refine ⟨.refl M, ⟨by simpa using h.len, ?_, ?_⟩, hWos, hWout, hWt, by omega, hWd, ?_, ?_, fun j hj => ⟨hj, hset j fun e0 => by subst e0; rw [he] at hj; simp at hj⟩, fun j ej hj hl _ => ⟨j, ej, hj, (hlive j).1 hl, rfl⟩⟩
        · intro j ej kj hj hkj
          by_cases hjb : j = b
          · subst hjb
            rw [he] at hj; simp at hj; subst hj
            rw [hsetb] at hkj; simp at hkj; subst hkj
            obtain ⟨q1, q2, q3, _⟩ := h.blk _ _ _ he hk
            refine ⟨q1, by rw [hpl]; exact q2, q3, fun _ => ⟨_, t, (0, 0), hWe, by simp; have := hv.1; omega, by rw [hpl]; simp; have := hv.1; omega, ?_, fun _ => rfl⟩⟩
            rw [hpl]
            have e2 := take_drop_patch c'.toList us e.base off c.length (by have := hv.1; omega) (by simpa using hb)
            have e3 : (c'.toList.take (e.base + off) ++ us ++ c'.toList.drop (e.base + off + us.length)).toArray.toList = (c'.toList.take (e.base + off) ++ us ++ c'.toList.drop (e.base + off + us.length)) := rfl
            rw [e3, e2]
            exact hvl.patch hv off
          · rw [hset j hjb] at hkj
            refine (h.blk j ej kj hj hkj).same fun hlv => hWo _ ?_
            have : liveB H j := by unfold liveB; rw [hkj]; cases kj <;> exact hlv
            exact (h.sep b j e ej (Ne.symm hjb) he hj hwb this).symm
        · intro j j' ej ej' hne hj hj' hw' hl'
          exact h.sep j j' ej ej' hne hj hj' ((hwrit j).1 hw') ((hlive j').1 hl')
        · intro k hk' hn
          exact hWo k fun hke => hn b e he hwb hke.symm
        · intro j ej hj hw' _
          exact ⟨j, ej, hj, (hwrit j).1 hw', rfl⟩
      · simp at hr
    · simp at hr
  · simp at hr

end Go.Proofs.YthgfjbafhjkhnaaGreat.Zq
