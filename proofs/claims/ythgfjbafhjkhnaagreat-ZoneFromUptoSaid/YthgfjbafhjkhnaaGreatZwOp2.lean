/- One operation, all kinds: what its proposition says, the machine does. -/
import Derived.Test.YthgfjbafhjkhnaaGreatZwOp
import Derived.Test.YthgfjbafhjkhnaaGreatZwApp
namespace Go.Proofs.YthgfjbafhjkhnaaGreat.Zq
variable {C : CEnv} {M M' : Mp} {H H' : Heap} {w w' : World} {L : Loc} {ML : Ml} {fr : CFr} {a : Act} {ro : Option Nat} {n : Nat} {Q : Exit → Act → World → Prop} {Kw : Act → World → Prop} {loc : List Nat}
  {dst : Option Nat} {ty : TypeId} {pos : String} {after : Array Edge} {guard : Option (Nat × Bool)} {k : Sv → Loc → Heap → Prop}

/-- What is asked behind an operation. -/
def Cont (M : Mp) (H : Heap) (L : Loc) (ML : Ml) (w : World) (fr : CFr) (a : Act) (dst : Option Nat) (k : Sv → Loc → Heap → Prop) (Kw : Act → World → Prop) : Prop :=
  ∀ s L' H' M' ML' w' u, k s L' H' → Aft M H L ML w fr a M' H' L' ML' w' → SvR M' ML' s u → Kw (a.put dst u) w'

theorem aft_stp (l : LR M H L ML w) (f : FS M ML fr a.tmps) (st : Stp M H w M' H' w') : Aft M H L ML w fr a M' H' L ML w' := ⟨st.toLSt ML, l.step st, f.step st.ext, .refl L, ⟨[], by simp⟩, fun _ _ => rfl⟩
theorem aft_refl (h : HR M H w) (l : LR M H L ML w) (f : FS M ML fr a.tmps) : Aft M H L ML w fr a M H L ML w := aft_stp l f (.refl h)

theorem val_ok {P : Program} {o : Oper} {s : Sem Value} {v : Value} (l : LR M H L ML w) (f : FS M ML fr a.tmps) (hd : ∀ c, o.op ≠ .defer c) (hs : execOp a.eval o = (do pure (.value (← s)))) (hg : Gives P M H w s v H') (hk : k (.v v) L H')
    (hK : Cont M H L ML w fr a o.dst k Kw) : o.wpIn (Fw ro) n P a w Kw Q :=
  wp_of_gives hd hs hg fun v' M' w' st hv => hK (.v v) L H' M' ML w' v' hk (aft_stp l f st) hv
theorem unit_ok {P : Program} {o : Oper} {s : Sem Unit} (l : LR M H L ML w) (f : FS M ML fr a.tmps) (hd : ∀ c, o.op ≠ .defer c) (hs : execOp a.eval o = (do s; pure .skip)) (hr : ∃ w', s.run P w = .ok () w' ∧ Stp M H w M H' w') (hk : k (.v undef) L H')
    (hK : Cont M H L ML w fr a o.dst k Kw) : o.wpIn (Fw ro) n P a w Kw Q := by
  obtain ⟨w', g1, g2⟩ := hr
  exact wp_of_unit hd hs g1 (hK (.v undef) L H' M ML w' undef hk (aft_stp l f g2) (.undef _))

theorem buildSlice_at {E : Env} {t : TypeId} {m : Nat} {ps : List (Nat × Value)} {v : Value} {cs : List Value} {sz : Nat} (h : aBuildSlice E t m ps [] = some (v, [.row cs sz false false true])) :
    aBuildSlice E t m ps H = some (.slice (some ⟨H.length, 0, none⟩) m m, mk H cs sz false) := by
  unfold aBuildSlice at h ⊢
  obtain ⟨ti, ht, h2⟩ := some_bind h
  rw [ht]; simp only [Option.bind_some]
  split at h2
  · rename_i e he
    obtain ⟨te, hte, h3⟩ := some_bind h2
    simp only [hte, Option.bind_some]
    split at h3
    · rename_i hb
      rw [if_pos hb]
      obtain ⟨cs', hf, h4⟩ := some_bind h3
      simp [mk] at h4
      rw [hf]
      obtain ⟨_, rfl, rfl⟩ := h4
      rfl
    · simp at h3
  · simp at h2

theorem ofCells_enc {T : Tag} {tk : TK} {x : T.α} (hk : isAggK tk = T.agg) (h1 : T.agg = true ∨ (T.cells x).length = 1) : ofCells tk (T.cells x) = some (T.enc x) := by
  unfold ofCells Tag.enc encC
  rw [hk]
  cases ha : T.agg with
  | true => simp
  | false =>
    simp only [Bool.false_eq_true, if_false]
    rcases h1 with h | h
    · rw [ha] at h; simp at h
    · obtain ⟨v, hv⟩ := List.length_eq_one_iff.1 h
      rw [hv]

theorem fieldAt_run {P : Program} {E : Env} (hE : E.Ok P) {t ft : TypeId} {fs : List (Nat × TypeId)} {ti te : TI} {i o b off : Nat} (ht : E.ty t = some ti) (hf : ti.k = .struct fs) (hi : fs[i]? = some (o, ft)) (hte : E.ty ft = some te) (h0 : te.size ≠ 0) :
    (Instr.fieldAt t (.pointer (some ⟨b, off, none⟩)) i).run P w = .ok (.pointer (some ⟨b, off + o, none⟩)) w := by
  obtain ⟨ii, d, z, T⟩ := hE.ty t ti ht
  have hk := T.k
  rw [hf] at hk
  cases d with
  | struct gs =>
    obtain ⟨hg, _⟩ := hk
    obtain ⟨i2, d2, z2, T2⟩ := hE.ty ft te hte
    rw [hg] at hi
    simp only [List.getElem?_map, Option.map_eq_some_iff] at hi
    obtain ⟨f, hf, hfe⟩ := hi
    simp at hfe; obtain ⟨rfl, rfl⟩ := hfe
    have hf' : gs[i]? = some f := by simpa using hf
    simp only [Instr.fieldAt, Sem.run_bind, T.run_und, Result.andThen_ok, hf', Instr.sureAddr, Sem.run_pure, fieldPlace, T2.run_size, h0, if_false, add_none]
  | _ => exact hk.elim
theorem indexAt_run {P : Program} {E : Env} (hE : E.Ok P) {t e : TypeId} {ti te : TI} {len b off : Nat} {kk : IntKind} {i : Int} (ht : E.ty t = some ti) (hf : ti.k = .array len e) (hte : E.ty e = some te) (hb : 0 ≤ i ∧ i < len) :
    (Instr.indexAt t (.pointer (some ⟨b, off, none⟩)) (.int kk i)).run P w = .ok (.pointer (some ⟨b, off + i.toNat * te.size, none⟩)) w := by
  obtain ⟨ii, d, z, T⟩ := hE.ty t ti ht
  have hk := T.k
  rw [hf] at hk
  cases d with
  | array n' e' =>
    obtain ⟨rfl, rfl, _⟩ := hk
    obtain ⟨i2, d2, z2, T2⟩ := hE.ty _ te hte
    simp [Instr.indexAt, asIntOf, T.run_und, Instr.sureAddr, hb, T2.run_size, add_none]
  | _ => exact hk.elim

theorem tup_nil {f : CFr} : opVs f [] = some [] := rfl

/-- A function's call. -/
theorem ev_ok {o : Oper} {c : Call} {f : Operand} {g : FuncId} {xs ys : List Value} {args : List Value} {rs : List Tag} {kk : Tup rs → Heap → Prop} (h : HR M H w) (l : LR M H L ML w) (fs : FS M ML fr a.tmps) (hop : o.op = .call c) (hce : c.callee = .value f)
    (hf : VR M (.func (.func g) xs.toArray ys.toArray) (a.eval f)) (hvs : opVs fr c.args.toList = some args) (ho : CALL C.P rs g (xs ++ args ++ ys) H kk)
    (hK : ∀ x H' M' w' u, kk x H' → Aft M H L ML w fr a M' H' L ML w' → VR M' (tupleOf (encs rs x)) u → Kw (a.put o.dst u) w') : o.wpIn (Fw ro) n C.P a w Kw Q := by
  obtain ⟨dst, op, ty, pos, after, guard⟩ := o
  obtain ⟨callee, cargs, argTypes⟩ := c
  simp only at hop hce hvs
  subst hop; subst hce
  have hv := cVs_ok fs hvs
  obtain ⟨⟨fn, q1, q2, q3⟩, q4⟩ := ho
  obtain ⟨us, ws, hfe, hu, hw⟩ : ∃ us ws, a.eval f = .func (.func g) us ws ∧ VL M xs us.toList ∧ VL M ys ws.toList := by
    generalize hq : a.eval f = q at hf
    cases hf with
    | func hx hy gx gy =>
      exact ⟨_, _, rfl, ⟨by simpa using hx, fun i x u hx hu => gx i x u (by simpa using hx) (by simpa using hu)⟩, ⟨by simpa using hy, fun i x u hx hu => gy i x u (by simpa using hx) (by simpa using hu)⟩⟩
  have hl := (hu.append hv).append hw
  have hcall := q4 (n - 1) M w _ h hl
  refine ⟨fun _ _ => trivial, ?_⟩
  rw [Oper.semAt_eq _ _ _ (fun c => by simp)]
  have hb : fn.body.isNone = false := by cases hb : fn.body <;> simp_all
  have he : (us.toList ++ List.map a.eval cargs.toList ++ ws.toList).toArray = us ++ cargs.map a.eval ++ ws := by
    apply Array.ext'; simp
  rw [he] at hcall
  simp only [execOp, Sem.run_bind, resolve, hfe, Deferred.ofValue, Sem.run_pure, Result.andThen_ok, invoke, callFunc, run_program, q1, q3, Bool.false_eq_true, if_false, hb]
  refine ⟨by simp [Fw, Fence.wide], (callsIn_round hcall).mono ?_⟩
  rintro e w' ⟨v, v', M', H', rfl, hs, hv', x, rfl, hkx⟩
  exact hK x H' M' w' v' hkx (aft_stp l fs hs) hv'

/-- A round, asked for. -/
theorem evy_ok {o : Oper} {c : Call} {f : Operand} {b : Nat} {args : List Value} {rs : List Tag} {kk : Tup rs → Heap → Prop} (h : HR M H w) (l : LR M H L ML w) (fs : FS M ML fr a.tmps) (hop : o.op = .call c) (hce : c.callee = .value f)
    (hf : VR M (.func (.yield b) #[] #[]) (a.eval f)) (hvs : opVs fr c.args.toList = some args) (ho : EVY C.P b args H fun v H' => ∃ x : Tup rs, v = tupleOf (encs rs x) ∧ kk x H')
    (hK : ∀ x H' M' w' u, kk x H' → Aft M H L ML w fr a M' H' L ML w' → VR M' (tupleOf (encs rs x)) u → Kw (a.put o.dst u) w') : o.wpIn (Fw ro) n C.P a w Kw Q := by
  obtain ⟨dst, op, ty, pos, after, guard⟩ := o
  obtain ⟨callee, cargs, argTypes⟩ := c
  simp only at hop hce hvs
  subst hop; subst hce
  have hv := cVs_ok fs hvs
  obtain ⟨en, hen, hfe⟩ : ∃ en, M[b]? = some (some en) ∧ a.eval f = .func (.yield en.blk) #[] #[] := by
    generalize hq : a.eval f = q at hf
    cases hf with
    | yield h => exact ⟨_, h, rfl⟩
  obtain ⟨L1, k1, k2, k3⟩ := ho (n - 1) M w _ en h hv hen
  refine ⟨fun _ _ => trivial, ?_⟩
  rw [Oper.semAt_eq _ _ _ (fun c => by simp)]
  have he : (#[] : Array Value) ++ cargs.map a.eval = (List.map a.eval cargs.toList).toArray := by apply Array.ext'; simp
  have hgl : (Instr.getLoop en.blk).run C.P w = .ok L1 w := by simp [Instr.getLoop, getObj, Sem.run, k1]
  have hsz : ¬ ((List.map a.eval cargs.toList).toArray.size ≠ L1.params.size) := by simp at k2 ⊢; exact k2
  simp only [execOp, Sem.run_bind, resolve, hfe, Deferred.ofValue, Sem.run_pure, Result.andThen_ok, invoke, Instr.yield, he, hgl, Sem.run_ite, if_neg hsz]
  refine ⟨by simp [Fw, Fence.wide], RoundIn.mono k3 ?_⟩
  rintro e w' ⟨v, v', M', H', rfl, hs, hv', x, rfl, hkx⟩
  exact hK x H' M' w' v' hkx (aft_stp l fs hs) hv'

theorem hd2 {l : List Operand} {x y : Operand} (h : l = [x, y]) (arr : Array Operand) (ha : arr.toList = l) : arr.map a.eval = #[a.eval x, a.eval y] := by
  apply Array.ext'; simp [ha, h]

theorem cCall_ok (hE : C.E.Ok C.P) (h : HR M H w) (l : LR M H L ML w) (f : FS M ML fr a.tmps) {c : Call} (ho : cCall C fr c ty L H k)
    (hK : Cont M H L ML w fr a dst k Kw) : (Oper.mk dst (.call c) ty pos after guard).wpIn (Fw ro) n C.P a w Kw Q := by
  obtain ⟨callee, args, argTypes⟩ := c
  unfold cCall at ho
  simp only at ho
  split at ho
  · rename_i g
    split at ho
    · rename_i vs hvs
      exact ev_ok (c := ⟨.value (.func g), args, argTypes⟩) (xs := []) (ys := []) h l f rfl rfl (flat_ok (s := .v (.func (.func g) #[] #[])) f rfl) hvs (by simpa using ho) fun x H' M' w' u hkx ha hu => hK (.v _) L H' M' ML w' u hkx ha hu
    · exact ho.elim
  · rename_i fo hnot
    split at ho
    · rename_i fv vs hf hvs
      rcases ho with ⟨g, xs, ys, rfl, hc⟩ | ⟨l0, rfl, hc⟩
      rotate_left
      · exact evy_ok (c := ⟨.value fo, args, argTypes⟩) h l f rfl rfl (cV_ok f hf) hvs hc fun x H' M' w' u hkx ha hu => hK (.v _) L H' M' ML w' u hkx ha hu
      exact ev_ok (c := ⟨.value fo, args, argTypes⟩) (xs := xs.toList) (ys := ys.toList) h l f rfl rfl (by simpa using cV_ok f hf) hvs hc fun x H' M' w' u hkx ha hu => hK (.v _) L H' M' ML w' u hkx ha hu
    · exact ho.elim
  · -- len
    split at ho
    · rename_i x t hx ht
      have hargs : args.map a.eval = #[a.eval x] := by apply Array.ext'; simp [hx]
      have hex : ∀ {v r}, opV fr x = some v → aLen C.E t v H = some r → k (.v r) L H → (Oper.mk dst (.call ⟨.builtin .len, args, argTypes⟩) ty pos after guard).wpIn (Fw ro) n C.P a w Kw Q := fun {v r} h1 h2 h3 => by
        refine val_ok (s := Builtin.len_ #[t] ty #[a.eval x]) l f (fun c => by simp) ?_ (len_ok hE h (cV_ok f h1) h2) h3 hK
        simp [execOp, resolve, invoke, builtin, hargs, toArray_one ht]
      split at ho
      · rename_i p m cc ee b1 b2 b3 h1 h2
        exact hex h1 (by simp [aLen, h2]) ho
      · rename_i v ti h3 h1 h2
        obtain ⟨y, g1, g2⟩ := ho
        exact hex h1 g1 g2
      · exact ho.elim
    · exact ho.elim
  · -- cap
    split at ho
    · rename_i x t hx ht
      have hargs : args.map a.eval = #[a.eval x] := by apply Array.ext'; simp [hx]
      split at ho
      · rename_i v h1
        obtain ⟨y, g1, g2⟩ := ho
        refine val_ok (s := Builtin.cap_ #[t] ty #[a.eval x]) l f (fun c => by simp) ?_ (cap_ok hE h (cV_ok f h1) g1) g2 hK
        simp [execOp, resolve, invoke, builtin, hargs, toArray_one ht]
      · exact ho.elim
    · exact ho.elim
  · -- append
    split at ho
    · rename_i s x hx
      have hargs := hd2 (a := a) hx args rfl
      split at ho
      · rename_i sv i m h1 h2
        split at ho
        · rename_i q cs hL
          obtain ⟨e, e1, e2⟩ := flat_ok f h2
          obtain ⟨v, H', g1, g2⟩ := appE_ok (ty := ty) (K := fun v H' => k (.v v) L H') hE h (x' := a.eval x) (cV_ok f h1) (n := m) (xs := cs) (fun w => by rw [e2]; simp [Builtin.lenOf]) (fun t ti e' te _ _ _ _ hlen => by
            obtain ⟨c, ct, d1, d2, d3, d4⟩ := loc_cells l e1 hL
            refine ⟨(c.toList.drop e.base).take cs.length, fun w' hw' => ?_, d4⟩
            have hl : ((c.toList.drop e.base).take cs.length).length = m * te.size := by rw [← hlen]; simp; omega
            have := run_loadCells_list (P := C.P) w' ⟨e.blk, e.base, none⟩ ((c.toList.drop e.base).take cs.length) (fun j v hv => by
              rw [add_none]
              simp only [List.getElem?_take, List.getElem?_drop] at hv
              split at hv
              · simp only [Array.getElem?_toList] at hv
                simp only [World.cell?, hw', d1]; exact hv
              · simp at hv)
            rw [hl] at this
            rw [e2]; simp only [Builtin.firstCells]; exact this) (fun x hx => by
            obtain ⟨y, H', g1, g2⟩ := ho x hx
            exact ⟨_, H', g1, g2⟩)
          refine val_ok (s := Builtin.append_ argTypes ty #[a.eval s, a.eval x]) l f (fun c => by simp) ?_ (by simpa using g2) g1 hK
          simp [execOp, resolve, invoke, builtin, hargs]
        · exact ho.elim
      · rename_i sv xv h1 h2
        obtain ⟨v, H', g1, g2⟩ := appendE_ok (ty := ty) (K := fun v H' => k (.v v) L H') hE h (cV_ok f h1) (flat_ok (s := .v xv) f h2) (fun x hx => by
          obtain ⟨y, H', g1, g2⟩ := ho x hx
          exact ⟨_, H', g1, g2⟩)
        refine val_ok (s := Builtin.append_ argTypes ty #[a.eval s, a.eval x]) l f (fun c => by simp) ?_ (by simpa using g2) g1 hK
        simp [execOp, resolve, invoke, builtin, hargs]
      · exact ho.elim
    · exact ho.elim
  · -- copy
    split at ho
    · rename_i d x hx
      obtain ⟨y, H', g1, g2⟩ := ho
      have hvs := cVs_ok f hx
      obtain ⟨s', us, e1, hs, ht⟩ := hvs.of_cons
      obtain ⟨x', us', e2, hx', ht'⟩ := ht.of_cons
      have := ht'.of_nil; subst this; subst e2
      refine val_ok (s := Builtin.copy_ argTypes ty #[s', x']) l f (fun c => by simp) ?_ (copy_ok hE h (ty := ty) hs hx' g1) g2 hK
      have : args.map a.eval = #[s', x'] := by apply Array.ext'; simpa using e1
      simp [execOp, resolve, invoke, builtin, this]
    · exact ho.elim
  · -- min
    split at ho
    · rename_i x r hx
      split at ho
      · rename_i v hv
        have hvs := cVs_ok f hx
        obtain ⟨x', us, e1, hx', ht⟩ := hvs.of_cons
        refine val_ok (s := Builtin.min_ argTypes ty (x' :: us).toArray) l f (fun c => by simp) ?_ (min_ok (mx := false) (ts := argTypes) (ty := ty) h hx' ht hv) ho hK
        have : args.map a.eval = (x' :: us).toArray := by apply Array.ext'; simpa using e1
        simp only [execOp, resolve, invoke, builtin, this, pure_bind]
      · exact ho.elim
    · exact ho.elim
  · split at ho
    · rename_i x r hx
      split at ho
      · rename_i v hv
        have hvs := cVs_ok f hx
        obtain ⟨x', us, e1, hx', ht⟩ := hvs.of_cons
        refine val_ok (s := Builtin.max_ argTypes ty (x' :: us).toArray) l f (fun c => by simp) ?_ (min_ok (mx := true) (ts := argTypes) (ty := ty) h hx' ht hv) ho hK
        have : args.map a.eval = (x' :: us).toArray := by apply Array.ext'; simpa using e1
        simp only [execOp, resolve, invoke, builtin, this, pure_bind]
      · exact ho.elim
    · exact ho.elim
  · exact ho.elim

end Go.Proofs.YthgfjbafhjkhnaaGreat.Zq
