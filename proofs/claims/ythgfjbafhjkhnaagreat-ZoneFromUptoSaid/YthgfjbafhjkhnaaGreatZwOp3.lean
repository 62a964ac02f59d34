/- One operation, all kinds. -/
import Derived.Test.YthgfjbafhjkhnaaGreatZwOp2
namespace Go.Proofs.YthgfjbafhjkhnaaGreat.Zq
variable {C : CEnv} {M M' : Mp} {H H' : Heap} {w w' : World} {L : Loc} {ML : Ml} {fr : CFr} {a : Act} {ro : Option Nat} {n : Nat} {Q : Exit → Act → World → Prop} {Kw : Act → World → Prop} {loc : List Nat}
  {dst : Option Nat} {ty : TypeId} {pos : String} {after : Array Edge} {guard : Option (Nat × Bool)} {k : Sv → Loc → Heap → Prop}

theorem newLocal_ok (h : HR M H w) (l : LR M H L ML w) (f : FS M ML fr a.tmps) {P : Program} {o : Oper} {s : Sem Value} {u : Value} {cs : List Value} {c : Array Value} {t : TypeId} {sv : Sv} (sz : Nat) (hd : ∀ c, o.op ≠ .defer c) (hs : execOp a.eval o = (do pure (.value (← s))))
    (hr : s.run P w = .ok u (w.alloc (.cells c t (0, 0)))) (hn : cs.length ≤ c.size) (hv : VL M cs (c.toList.take cs.length)) (hk : k sv (L ++ [(0, cs)]) H)
    (hu : SvR M (ML ++ [some ⟨w.heap.size, 0, false, cs.length, sz, c.size⟩]) sv u) (hK : Cont M H L ML w fr a o.dst k Kw) : o.wpIn (Fw ro) n P a w Kw Q := by
  obtain ⟨q1, q2⟩ := LR.new h l t sz hn hv
  exact wp_of_run hd hs hr (hK sv _ H M _ _ u hk ⟨q1, q2, f.app, .app L _, ⟨_, rfl⟩, fun j hj => by
    have : j < L.length := by rw [← l.len]; exact (List.getElem?_eq_some_iff.1 hj).1
    rw [List.getElem?_append_left this]⟩ hu)

theorem cOp_ok (hE : C.E.Ok C.P) (h : HR M H w) (l : LR M H L ML w) (f : FS M ML fr a.tmps) {op : Op} (ho : cOp C loc dst ty op fr L H k)
    (hK : Cont M H L ML w fr a dst k Kw) : (Oper.mk dst op ty pos after guard).wpIn (Fw ro) n C.P a w Kw Q := by
  cases op with
  | move x =>
    simp only [cOp] at ho
    split at ho
    · rename_i s hs
      exact wp_of_run (s := pure (a.eval x)) (fun c => by simp) (by simp [execOp]) rfl (hK s L H M ML w _ ho (aft_refl h l f) (flat_ok f hs))
    · exact ho.elim
  | assign x =>
    simp only [cOp] at ho
    split at ho
    · rename_i s hs
      exact wp_of_run (s := pure (a.eval x)) (fun c => by simp) (by simp [execOp]) rfl (hK s L H M ML w _ ho (aft_refl h l f) (flat_ok f hs))
    · exact ho.elim
  | pick c x y =>
    simp only [cOp] at ho
    split at ho
    · rename_i g hg
      have hc := (cV_ok f hg).of_bool
      cases g with
      | true =>
        simp only [ifB] at ho
        split at ho
        · rename_i s hs
          exact wp_of_run (s := pure (a.eval x)) (fun c => by simp) (by simp [execOp, hc, asBool]) rfl (hK s L H M ML w _ ho (aft_refl h l f) (flat_ok f hs))
        · exact ho.elim
      | false =>
        simp only [ifB] at ho
        split at ho
        · rename_i s hs
          exact wp_of_run (s := pure (a.eval y)) (fun c => by simp) (by simp [execOp, hc, asBool]) rfl (hK s L H M ML w _ ho (aft_refl h l f) (flat_ok f hs))
        · exact ho.elim
    · exact ho.elim
  | alloc t =>
    simp only [cOp] at ho
    split at ho
    · rename_i ti ht
      split at ho
      · obtain ⟨c, q1, q2, q3⟩ := alloc_run (M := M) (w := w) hE ht
        refine newLocal_ok (s := Instr.alloc t true (.tuple #[])) h l f ti.size (fun c => by simp) rfl q1 q2 q3 ho ?_ hK
        exact ⟨_, by rw [← l.len]; exact List.getElem?_concat_length, rfl⟩
      · exact val_ok (s := Instr.alloc t true (.tuple #[])) l f (fun c => by simp) rfl (alloc_ok hE h (by simp [aAlloc, ht])) ho hK
    · exact ho.elim
  | box t x =>
    simp only [cOp] at ho
    split at ho
    · rename_i v hv
      split at ho
      · obtain ⟨q1, q2, q3⟩ := box_run (P := C.P) (w := w) (t := t) (cV_ok f hv)
        refine newLocal_ok (s := Instr.box t (a.eval x)) h l f v.cells.toList.length (fun c => by simp) rfl q1 q2 q3 ho ?_ hK
        exact ⟨_, by rw [← l.len]; exact List.getElem?_concat_length, rfl⟩
      · exact val_ok (s := Instr.box t (a.eval x)) l f (fun c => by simp) rfl (box_ok h (cV_ok f hv) rfl) ho hK
    · exact ho.elim
  | build t ps =>
    simp only [cOp] at ho
    split at ho
    · rename_i qs hqs
      split at ho
      · rename_i v hv
        exact val_ok (s := Instr.build t (ps.map fun (i, x) => (i, a.eval x))) l f (fun c => by simp) rfl (build_ok hE h (qs := ps.map fun (i, x) => (i, a.eval x)) (by simpa using cPs_ok f hqs) hv) ho hK
      · exact ho.elim
    · exact ho.elim
  | buildSlice t m ps =>
    simp only [cOp] at ho
    split at ho
    · rename_i qs hqs
      have hp : PL M qs (ps.map fun (i, x) => (i, a.eval x)).toList := by simpa using cPs_ok f hqs
      have he : execOp a.eval ⟨dst, .buildSlice t m ps, ty, pos, after, guard⟩ = (do pure (.value (← Instr.buildSlice t m (ps.map fun (i, x) => (i, a.eval x))))) := rfl
      split at ho
      · rename_i v cs sz hb
        split at ho
        · obtain ⟨cs', sz', c, ct, q0, q1, q2, q3, q4⟩ := buildSlice_run (M := M) (w := w) hE hp hb
          simp [mk] at q1
          obtain ⟨rfl, rfl⟩ := q1
          refine newLocal_ok h l f sz (fun c => by simp) he q2 q3 q4 ho ?_ hK
          exact ⟨_, by rw [← l.len]; exact List.getElem?_concat_length, rfl⟩
        · exact val_ok l f (fun c => by simp) he (buildSlice_ok hE h hp (buildSlice_at hb)) ho hK
      · exact ho.elim
    · exact ho.elim
  | load t x =>
    simp only [cOp] at ho
    split at ho
    · rename_i i off hx
      obtain ⟨e, e1, e2⟩ := flat_ok f hx
      split at ho
      · rename_i m cs ti hL ht
        split at ho
        · rename_i hlen
          split at ho
          · rename_i v hv
            obtain ⟨u, g1, g2⟩ := locLoad_ok hE l e1 hL ht hlen hv
            exact wp_of_run (s := Instr.loadAt t (a.eval x)) (fun c => by simp) rfl (by rw [e2]; simp [Instr.loadAt, Instr.sureAddr, g1]) (hK (.v v) L H M ML w u ho (aft_refl h l f) g2)
          · exact ho.elim
        · exact ho.elim
      · exact ho.elim
    · rename_i b off hx
      split at ho
      · rename_i ti ht
        split at ho
        · rename_i hc
          obtain ⟨hc1, hc2, hc3⟩ := hc
          obtain ⟨y, g1, g2⟩ := ho
          rw [← hc1] at g1
          refine val_ok (s := Instr.loadAt t (a.eval x)) l f (fun c => by simp) rfl (load_ok hE h (flat_ok (s := .v (.pointer (some ⟨b, off, none⟩))) f hx) ?_) g2 hK
          simp only [aLoad, ht, Option.bind_some, g1]
          refine ofCells_enc hc2 ?_
          rcases hc3 with h3 | h3
          · exact .inl h3
          · exact .inr (by rw [rd_len g1]; exact h3)
        · exact ho.elim
      · exact ho.elim
    · exact ho.elim
  | store t x y =>
    simp only [cOp] at ho
    split at ho
    · rename_i v ti hv ht
      split at ho
      · rename_i hlen
        split at ho
        · rename_i i off hx
          obtain ⟨e, e1, e2⟩ := flat_ok f hx
          split at ho
          · rename_i m cs hL
            split at ho
            · rename_i hc
              obtain ⟨w', g1, g2, g3⟩ := locStore_ok hE h l e1 hL ht hlen hc.1 hc.2 (cV_ok f hv)
              exact wp_of_unit (s := Instr.storeAt t (a.eval x) (a.eval y)) (fun c => by simp) rfl (by rw [e2]; exact g1) (hK (.v undef) _ H M ML w' undef ho ⟨g2, g3, f, .set hL, ⟨[], by simp⟩, fun j hj => by
                have : i ≠ j := fun e0 => by subst e0; rw [e1] at hj; simp at hj
                rw [List.getElem?_set_ne this]⟩ (.undef M))
            · exact ho.elim
          · exact ho.elim
        · rename_i b off hx
          obtain ⟨H', g1, g2⟩ := ho
          exact unit_ok (s := Instr.storeAt t (a.eval x) (a.eval y)) l f (fun c => by simp) rfl (store_ok hE h (flat_ok (s := .v (.pointer (some ⟨b, off, none⟩))) f hx) (cV_ok f hv) (by simp only [aStore, ht, Option.bind_some, if_pos hlen]; exact g1)) g2 hK
        · exact ho.elim
      · exact ho.elim
    · exact ho.elim
  | nilCheck x =>
    simp only [cOp] at ho
    split at ho
    · rename_i i off hx
      obtain ⟨e, e1, e2⟩ := flat_ok f hx
      exact wp_of_run (s := pure (a.eval x)) (fun c => by simp) (by simp [execOp, e2]) rfl (hK (.lp i off) L H M ML w _ ho (aft_refl h l f) ⟨e, e1, e2⟩)
    · rename_i p hx
      have hp := flat_ok (s := .v (.pointer p)) f hx
      unfold NIL at ho
      split at ho
      · rename_i b off
        refine val_ok (s := pure (a.eval x)) l f (fun c => by simp) ?_ (Gives.pure h rfl hp) ho hK
        obtain ⟨e, _, e2⟩ := VR.of_ptr hp
        simp [execOp, e2]
      · exact ho.elim
    · rename_i g xs ys hx
      have hp := flat_ok (s := .v (.func (.func g) xs ys)) f hx
      refine val_ok (s := pure (a.eval x)) l f (fun c => by simp) ?_ (Gives.pure h rfl hp) ho hK
      obtain ⟨g', us, vs, hb'⟩ : ∃ f us vs, a.eval x = .func (.func f) us vs := by
        generalize hq : a.eval x = q at hp
        cases hp; exact ⟨_, _, _, rfl⟩
      simp [execOp, hb']
    · rename_i ll hx
      have hp := flat_ok (s := .v (.func (.yield ll) #[] #[])) f hx
      refine val_ok (s := pure (a.eval x)) l f (fun c => by simp) ?_ (Gives.pure h rfl hp) ho hK
      obtain ⟨l', hb'⟩ : ∃ l, a.eval x = .func (.yield l) #[] #[] := by
        generalize hq : a.eval x = q at hp
        cases hp; exact ⟨_, rfl⟩
      simp [execOp, hb']
    · exact ho.elim
  | binOp op t x y t2 =>
    simp only [cOp] at ho
    split at ho
    · rename_i u v hu hv
      obtain ⟨r, g1, g2⟩ := cBin_ok ho
      exact val_ok (s := do eqGuard op t x y (a.eval x) (a.eval y); binOp op t (a.eval x) (a.eval y)) l f (fun c => by simp) rfl (bin_ok hE h (cV_ok f hu) (cV_ok f hv) g1) g2 hK
    · exact ho.elim
  | unOp op t x =>
    simp only [cOp] at ho
    split at ho
    · rename_i u hu
      split at ho
      · rename_i v hv
        exact val_ok (s := Op.unary op (a.eval x)) l f (fun c => by simp) rfl (unary_ok h (cV_ok f hu) hv) ho hK
      · exact ho.elim
    · exact ho.elim
  | convert s d x =>
    simp only [cOp] at ho
    split at ho
    · rename_i u hu
      split at ho
      · rename_i v hv
        exact val_ok (s := convert s d (a.eval x)) l f (fun c => by simp) rfl (convert_ok hE h (cV_ok f hu) hv) ho hK
      · exact ho.elim
    · exact ho.elim
  | makeFunc g first caps =>
    cases g with
    | func g =>
      simp only [cOp] at ho
      split at ho
      · rename_i xs ys h1 h2
        have g1 := cVs_ok f h1
        have g2 := cVs_ok f h2
        refine val_ok l f (fun c => by simp) rfl (Gives.pure h rfl ?_) ho hK
        refine .func (by simpa using g1.1) (by simpa using g2.1) ?_ ?_
        · intro i x u hx hu
          exact g1.2 i x u (by simpa using hx) (by simpa using hu)
        · intro i x u hx hu
          exact g2.2 i x u (by simpa using hx) (by simpa using hu)
      · exact ho.elim
    | _ => simp [cOp] at ho
  | fieldAddr t x i =>
    simp only [cOp] at ho
    split at ho
    · rename_i j off hx
      obtain ⟨e, e1, e2⟩ := flat_ok f hx
      split at ho
      · rename_i fs b1 b2 b3 ht
        split at ho
        · rename_i o ft hi
          split at ho
          · rename_i te hte
            split at ho
            · exact ho.elim
            · rename_i h0
              have := fieldAt_run (w := w) (b := e.blk) (off := e.base + off) hE ht rfl hi hte h0
              exact wp_of_run (s := Instr.fieldAt t (a.eval x) i) (fun c => by simp) rfl (by rw [e2]; exact this) (hK (.lp j (off + o)) L H M ML w _ ho (aft_refl h l f) ⟨e, e1, by rw [Nat.add_assoc]⟩)
          · exact ho.elim
        · exact ho.elim
      · exact ho.elim
    · rename_i v hx
      split at ho
      · rename_i v2 hv
        exact val_ok (s := Instr.fieldAt t (a.eval x) i) l f (fun c => by simp) rfl (fieldAt_ok hE h (flat_ok (s := .v v) f hx) hv) ho hK
      · exact ho.elim
    · exact ho.elim
  | field t x i =>
    simp only [cOp] at ho
    split at ho
    · rename_i v hx
      split at ho
      · rename_i v2 hv
        exact val_ok (s := Instr.field t (a.eval x) i) l f (fun c => by simp) rfl (field_ok hE h (cV_ok f hx) hv) ho hK
      · exact ho.elim
    · exact ho.elim
  | indexAddr t x i =>
    simp only [cOp] at ho
    split at ho
    · rename_i j off kk m hx hi
      obtain ⟨e, e1, e2⟩ := flat_ok f hx
      have hiv := (cV_ok f hi).of_int
      split at ho
      · rename_i len el b1 b2 b3 ht
        split at ho
        · rename_i te hte
          split at ho
          · rename_i hb
            have := indexAt_run (w := w) (b := e.blk) (off := e.base + off) (kk := kk) hE ht rfl hte hb
            exact wp_of_run (s := Instr.indexAt t (a.eval x) (a.eval i)) (fun c => by simp) rfl (by rw [e2, hiv]; exact this) (hK (.lp j (off + m.toNat * te.size)) L H M ML w _ ho (aft_refl h l f) ⟨e, e1, by rw [Nat.add_assoc]⟩)
          · exact ho.elim
        · exact ho.elim
      · exact ho.elim
    · rename_i p len cap kk m hx hi
      split at ho
      · rename_i el b1 b2 b3 ht
        split at ho
        · rename_i te hte
          unfold IDX NIL at ho
          split at ho
          · rename_i b off
            obtain ⟨hb, ho⟩ := ho
            exact val_ok (s := Instr.indexAt t (a.eval x) (a.eval i)) l f (fun c => by simp) rfl (indexAt_ok hE h (flat_ok (s := .v (.slice (some ⟨b, off, none⟩) len cap)) f hx) (cV_ok f hi) (by simp [aIndexAddr, ht, hte, hb])) ho hK
          · exact ho.elim
        · exact ho.elim
      · exact ho.elim
    · rename_i b off kk m hx hi
      split at ho
      · rename_i len el b1 b2 b3 ht
        split at ho
        · rename_i te hte
          obtain ⟨hb, ho⟩ := ho
          exact val_ok (s := Instr.indexAt t (a.eval x) (a.eval i)) l f (fun c => by simp) rfl (indexAt_ok hE h (flat_ok (s := .v (.pointer (some ⟨b, off, none⟩))) f hx) (cV_ok f hi) (by simp [aIndexAddr, ht, hte, hb])) ho hK
        · exact ho.elim
      · exact ho.elim
    · exact ho.elim
  | extract x i =>
    simp only [cOp] at ho
    split at ho
    · rename_i v hx
      split at ho
      · rename_i v2 hv
        exact val_ok (s := Instr.extract (a.eval x) i) l f (fun c => by simp) rfl (extract_ok h (cV_ok f hx) hv) ho hK
      · exact ho.elim
    · exact ho.elim
  | call c =>
    simp only [cOp] at ho
    exact cCall_ok hE h l f ho hK
  | mapUpdate t m i x =>
    simp only [cOp] at ho
    split at ho
    · rename_i mv iv xv h1 h2 h3
      obtain ⟨H', g1, g2⟩ := ho
      exact unit_ok l f (fun c => by simp) rfl (mapUpdate_ok hE h (cV_ok f h1) (cV_ok f h2) (cV_ok f h3) g1) g2 hK
    · exact ho.elim
  | index t x i =>
    simp only [cOp] at ho
    split at ho
    · rename_i xv iv h1 h2
      obtain ⟨y, g1, g2⟩ := ho
      exact val_ok (s := Instr.index t (a.eval x) (a.eval i)) l f (fun c => by simp) rfl (index_ok hE h (cV_ok f h1) (cV_ok f h2) g1) g2 hK
    · exact ho.elim
  | slice t x lo hi mx =>
    simp only [cOp] at ho
    split at ho
    · rename_i v lov hiv mxv h1 h2 h3 h4
      obtain ⟨y, g1, g2⟩ := ho
      exact val_ok (s := Instr.sliceAt t (a.eval x) (lo.map a.eval) (hi.map a.eval) (mx.map a.eval)) l f (fun c => by simp) rfl (sliceAt_ok hE h (cV_ok f h1) (cVo_ok f h2) (cVo_ok f h3) (cVo_ok f h4) g1) g2 hK
    · exact ho.elim
  | makeSlice t ln cp =>
    simp only [cOp] at ho
    split at ho
    · rename_i lv cv h1 h2
      obtain ⟨y, H', g1, g2⟩ := ho
      exact val_ok (s := Instr.makeSlice t (a.eval ln) (a.eval cp)) l f (fun c => by simp) rfl (makeSlice_ok hE h (cV_ok f h1) (cV_ok f h2) g1) g2 hK
    · exact ho.elim
  | makeMap t r =>
    cases r with
    | none =>
      simp only [cOp] at ho
      exact val_ok (s := Instr.makeMap t none) l f (fun c => by simp) rfl (makeMap_ok h) ho hK
    | some r => simp [cOp] at ho
  | lookup t x i ok =>
    simp only [cOp] at ho
    split at ho
    · rename_i xv iv h1 h2
      cases ok with
      | true =>
        simp only [if_true] at ho
        split at ho
        · rename_i T hT
          obtain ⟨y, b, g1, g2⟩ := ho
          exact val_ok (s := Instr.lookup t (a.eval x) (a.eval i) true) l f (fun c => by simp) rfl (lookup_ok hE h (cV_ok f h1) (cV_ok f h2) g1) g2 hK
        · exact ho.elim
      | false =>
        simp only [Bool.false_eq_true, if_false] at ho
        obtain ⟨y, g1, g2⟩ := ho
        exact val_ok (s := Instr.lookup t (a.eval x) (a.eval i) false) l f (fun c => by simp) rfl (lookup_ok hE h (cV_ok f h1) (cV_ok f h2) g1) g2 hK
    · exact ho.elim
  | _ => simp [cOp] at ho

end Go.Proofs.YthgfjbafhjkhnaaGreat.Zq
