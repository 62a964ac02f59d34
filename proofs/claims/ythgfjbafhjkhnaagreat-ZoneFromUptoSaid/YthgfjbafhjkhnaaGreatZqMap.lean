/- The operations on maps with plain keys. -/
import Derived.Test.YthgfjbafhjkhnaaGreatZqOps
namespace Go.Proofs.YthgfjbafhjkhnaaGreat.Zq
variable {P : Program} {E : Env} {M : Mp} {H H' : Heap} {w : World}

theorem keyOk_eq {t : TypeId} {k : TK} {d : TypeDesc} {v u : Value} (_hk : KOk P t k d) (h : keyOk k v = true) (hv : VR M v u) : u = v := by
  unfold keyOk at h
  split at h
  · exact hv.of_int
  · exact hv.of_string
  · exact hv.of_bool
  · simp at h

theorem bytes_eq (s t : ByteArray) : (s == t) = (s.data.toList == t.data.toList) := by
  obtain ⟨⟨x⟩⟩ := s
  obtain ⟨⟨y⟩⟩ := t
  show ((⟨x⟩ : Array UInt8) == ⟨y⟩) = (x == y)
  simp
theorem bytes_ext {s t : ByteArray} (h : s.data.toList = t.data.toList) : s = t := by
  obtain ⟨⟨x⟩⟩ := s
  obtain ⟨⟨y⟩⟩ := t
  simp at h
  rw [h]

theorem sameKey_eq {t : TypeId} {k : TK} {d : TypeDesc} {v a b : Value} {q : Bool} (hk : KOk P t k d) (h : keyOk k v = true) (hab : VR M a b) (hq : sameKey v a = some q) : Instr.sameNow d v b = some q ∧ (q = true → b = v ∧ a = v) := by
  unfold keyOk at h
  split at h
  · cases d <;> first | exact hk.elim | skip
    cases hab <;> simp [sameKey] at hq
    obtain ⟨rfl, hq⟩ := hq
    refine ⟨by simp [Instr.sameNow, hq], fun hqt => ?_⟩
    rw [hqt] at hq; simp at hq; rw [hq]; exact ⟨rfl, rfl⟩
  · cases d <;> first | exact hk.elim | skip
    cases hab <;> simp only [sameKey, reduceCtorEq, Option.some.injEq] at hq
    refine ⟨by simp only [Instr.sameNow, bytes_eq, hq], fun hqt => ?_⟩
    rw [hqt] at hq
    have := bytes_ext (by simpa using hq)
    rw [this]; exact ⟨rfl, rfl⟩
  · cases d <;> first | exact hk.elim | skip
    cases hab <;> simp [sameKey] at hq
    refine ⟨by simp [Instr.sameNow, hq], fun hqt => ?_⟩
    rw [hqt] at hq; simp at hq; rw [hq]; exact ⟨rfl, rfl⟩
  · simp at h

/-- Entries, one by one. -/
def EL (M : Mp) (es es' : List MapEntry) : Prop := es.length = es'.length ∧ ∀ (i : Nat) (a b : MapEntry), es[i]? = some a → es'[i]? = some b → ER M a b

theorem findK_ok {t : TypeId} {k : TK} {d : TypeDesc} {v : Value} (hk : KOk P t k d) (h : keyOk k v = true) : ∀ {es es' : List MapEntry} {i : Nat} {r : Option (Nat × Value)}, EL M es es' → findK v es i = some r →
    ∃ r', Instr.findNow d v es' i = some r' ∧ (match r, r' with
      | none, none => True
      | some (j, x), some (j', x') => j = j' ∧ VR M x x' ∧ ∃ a b, es[j - i]? = some a ∧ es'[j - i]? = some b ∧ i ≤ j ∧ a.key = v ∧ b.key = v
      | _, _ => False) := by
  intro es
  induction es with
  | nil =>
    intro es' i r hl hr
    have : es' = [] := by have := hl.1; simp at this; exact List.length_eq_zero_iff.1 this.symm
    subst this
    simp [findK] at hr; subst hr
    exact ⟨none, rfl, trivial⟩
  | cons e es ih =>
    intro es' i r hl hr
    cases es' with
    | nil => have := hl.1; simp at this
    | cons e' es' =>
      have her := hl.2 0 e e' rfl rfl
      have htl : EL M es es' := ⟨by have := hl.1; simpa using this, fun j a b ha hb => hl.2 (j + 1) a b (by simpa using ha) (by simpa using hb)⟩
      unfold findK at hr
      split at hr
      · rename_i hs
        simp at hr; subst hr
        obtain ⟨h1, h2⟩ := sameKey_eq hk h her.1 hs
        obtain ⟨h3, h4⟩ := h2 rfl
        refine ⟨some (i, e'.val), by simp [Instr.findNow, h1], rfl, her.2.1, e, e', by simp, by simp, Nat.le_refl _, h4, h3⟩
      · rename_i hs
        obtain ⟨h1, _⟩ := sameKey_eq hk h her.1 hs
        obtain ⟨r', g1, g2⟩ := ih htl hr
        refine ⟨r', by simp [Instr.findNow, h1, g1], ?_⟩
        cases r with
        | none => cases r' <;> exact g2
        | some p =>
          obtain ⟨j, x⟩ := p
          cases r' with
          | none => exact g2
          | some p' =>
            obtain ⟨j', x'⟩ := p'
            obtain ⟨g3, g4, a, b, g5, g6, g7, g8⟩ := g2
            refine ⟨g3, g4, a, b, ?_, ?_, by omega, g8⟩
            · rw [show j - i = (j - (i + 1)) + 1 by omega]; simpa using g5
            · rw [show j - i = (j - (i + 1)) + 1 by omega]; simpa using g6
      · simp at hr

theorem checkKey_ok {t : TypeId} {k : TK} {i : TypeInfo} {d : TypeDesc} {z : Value} {ti : TI} {v : Value} (T : TyOk P t ti i d z) (hk : ti.k = k) (h : keyOk k v = true) (emp : Bool) (n : Nat) (w : World) : (Instr.checkKey emp (n + 1) t v).run P w = .ok () w := by
  have hkk := T.k
  rw [hk] at hkk
  unfold keyOk at h
  split at h
  · cases d <;> first | exact hkk.elim | (simp [Instr.checkKey, T.run_und])
  · cases d <;> first | exact hkk.elim | (simp [Instr.checkKey, T.run_und])
  · cases d <;> first | exact hkk.elim | (simp [Instr.checkKey, T.run_und])
  · simp at h

theorem zero_ok {t : TypeId} {ti : TI} {i : TypeInfo} {d : TypeDesc} {z zv : Value} (T : TyOk P t ti i d z) (h : ofCells ti.k ti.zero = some zv) : VR M zv z := by
  obtain ⟨u, g1, g2, g3⟩ := ofCells_ok (T.vl M) h
  have : u = z := by
    cases hk : isAggK ti.k with
    | true =>
      obtain ⟨cs, rfl⟩ := T.agg.1 hk
      rw [g2 hk]; rfl
    | false =>
      have hn : ¬ ∃ cs, z = .agg cs := fun hc => by have := T.agg.2 hc; rw [hk] at this; simp at this
      have hz : z.cells = #[z] := by cases z <;> first | rfl | exact absurd ⟨_, rfl⟩ hn
      have := g3 hk
      rw [hz] at this
      simpa using this.symm
  rw [← this]; exact g1

theorem map_get (h : HR M H w) {r : Nat} {es : List MapEntry} {clock : Nat} (hk : H[r]? = some (.map es clock)) {e : Ent} (he : M[r]? = some (some e)) : ∃ es' : Array MapEntry, w.heap[e.blk]? = some (.map es' clock) ∧ EL M es es'.toList := by
  obtain ⟨es', g1, g2, g3⟩ := h.blk _ _ _ he hk
  exact ⟨es', g1, by simpa using g2, fun i a b ha hb => g3 i a b ha (by simpa using hb)⟩

theorem lookup_ok (hE : E.Ok P) (h : HR M H w) {t : TypeId} {x x' i i' v : Value} {ok : Bool} (hx : VR M x x') (hi : VR M i i') (hl : aLookup E t x i ok H = some v) : Gives P M H w (Instr.lookup t x' i' ok) v H := by
  unfold aLookup at hl
  obtain ⟨ti, ht, hl2⟩ := some_bind hl
  clear hl
  obtain ⟨ii, d, z, T⟩ := hE.ty _ _ ht
  have hk := T.k
  split at hl2
  · rename_i kt et hkd
    rw [hkd] at hk
    obtain ⟨tk, htk, hl3⟩ := some_bind hl2
    obtain ⟨te, hte, hl4⟩ := some_bind hl3
    obtain ⟨es, hes, hl5⟩ := some_bind hl4
    clear hl2 hl3 hl4
    obtain ⟨i2, d2, z2, T2⟩ := hE.ty _ _ htk
    obtain ⟨i3, d3, z3, T3⟩ := hE.ty _ _ hte
    cases d with
    | map kt' et' =>
      obtain ⟨rfl, rfl⟩ := hk
      split at hl5
      · rename_i hko
        obtain ⟨r, hr, hl6⟩ := some_bind hl5
        obtain ⟨zv, hz, hl7⟩ := some_bind hl6
        have := keyOk_eq T2.k hko hi; subst this
        have hes' : (x' = .map none ∧ es = []) ∨ ∃ r' clock, ∃ es' : Array MapEntry, x' = .map (some r') ∧ w.heap[r']? = some (.map es' clock) ∧ EL M es es'.toList := by
          unfold entriesOf at hes
          split at hes
          · simp at hes; subst hes
            cases hx
            exact .inl ⟨rfl, rfl⟩
          · split at hes
            · rename_i hrr
              simp at hes; subst hes
              cases hx with
              | map he =>
                obtain ⟨es', g1, g2⟩ := map_get h hrr he
                exact .inr ⟨_, _, es', rfl, g1, g2⟩
            · simp at hes
          · simp at hes
        have hck := fun emp w => checkKey_ok T2 rfl hko emp 9999 w
        have hz' := zero_ok (M := M) T3 hz
        have fin : ∀ es' : Array MapEntry, EL M es es'.toList → ∃ v' r', Instr.findNow d2 i' es'.toList 0 = some r' ∧ VR M v v' ∧ v' = (match r' with | some (_, u) => (if ok then .tuple #[u, .bool true] else u) | none => (if ok then .tuple #[z3, .bool false] else z3)) := by
          intro es' hel
          obtain ⟨r', g1, g2⟩ := findK_ok T2.k hko hel hr
          refine ⟨_, r', g1, ?_, rfl⟩
          cases r with
          | none =>
            cases r' with
            | none =>
              simp only at hl7 ⊢
              cases ok
              · simp at hl7; subst hl7; simpa using hz'
              · simp at hl7; subst hl7
                exact VL.tuple (.cons hz' (.cons (.bool false) (.nil M)))
            | some p => exact g2.elim
          | some p =>
            obtain ⟨j, u⟩ := p
            cases r' with
            | none => exact g2.elim
            | some p' =>
              obtain ⟨j', u'⟩ := p'
              obtain ⟨_, g3, _⟩ := g2
              simp only at hl7 ⊢
              cases ok
              · simp at hl7; subst hl7; simpa using g3
              · simp at hl7; subst hl7
                exact VL.tuple (.cons g3 (.cons (.bool true) (.nil M)))
        rcases hes' with ⟨rfl, rfl⟩ | ⟨r', clock, es', rfl, g1, hel⟩
        · obtain ⟨v', r', g1, g2, g3⟩ := fin #[] ⟨rfl, fun i a b ha _ => by simp at ha⟩
          refine Gives.pure h ?_ g2
          have : r' = none := by simpa [Instr.findNow] using g1.symm
          subst this
          simp only [Instr.lookup, Sem.run_bind, T.run_und, Result.andThen_ok, Sem.run_pure, hck, Instr.findKey, T2.run_und, g1, T3.run_zero, g3]
        · obtain ⟨v', q, g2, g3, g4⟩ := fin es' hel
          refine Gives.pure h ?_ g3
          have hg : (getObj r').run P w = .ok (.map es' clock) w := by simp [getObj, Sem.run, g1]
          simp only [Instr.lookup, Sem.run_bind, T.run_und, Result.andThen_ok, Sem.run_pure, hg, hck, Instr.findKey, T2.run_und, g2]
          cases q with
          | none => simp only [Sem.run_bind, T3.run_zero, Result.andThen_ok, Sem.run_pure, g4]
          | some p => simp only [Sem.run_bind, Sem.run_pure, Result.andThen_ok, g4]
      · simp at hl5
    | _ => exact hk.elim
  · simp at hl2

theorem makeMap_ok (h : HR M H w) {t : TypeId} : Gives P M H w (Instr.makeMap t none) (.map (some H.length)) (H ++ [.map [] 0]) := by
  have hs := Stp.newBlk (o := .map #[] 0) (k := .map [] 0) h ⟨w.heap.size, 0, false, 0, 0, 0⟩ rfl ⟨#[], by show (w.heap.push _)[w.heap.size]? = _; rw [Array.getElem?_push, if_pos rfl], rfl, fun i a b ha _ => by simp at ha⟩
  refine ⟨.map (some w.heap.size), _, _, by simp [Instr.makeMap], hs, ?_⟩
  exact VR.map (get_new h ⟨w.heap.size, 0, false, 0, 0, 0⟩)

/-- A range over a string. -/
theorem rangeStr_ok (hE : E.Ok P) (h : HR M H w) {t : TypeId} {v v' r : Value} (hv : VR M v v') (hl : aRange E t v H = some (r, H')) : Gives P M H w (Instr.range t v') r H' := by
  unfold aRange at hl
  split at hl
  · rename_i s
    obtain ⟨ti, ht, hl2⟩ := some_bind hl
    obtain ⟨ii, d, z, T⟩ := hE.ty _ _ ht
    have hkk := T.k
    split at hl2
    · rename_i hkd
      rw [hkd] at hkk
      cases d with
      | string =>
        cases hv
        cases hl2
        have hs := Stp.newBlk (o := .stringIter s 0) (k := .iter s 0) h ⟨w.heap.size, 0, false, 0, 0, 0⟩ rfl ⟨rfl, by show (w.heap.push _)[w.heap.size]? = _; rw [Array.getElem?_push, if_pos rfl]⟩
        refine ⟨.pointer (some ⟨w.heap.size, 0, none⟩), _, _, ?_, hs, ?_⟩
        · simp only [Instr.range, Sem.run_bind, T.run_und, Result.andThen_ok, Sem.run_pure, run_newObj]
          rfl
        · exact VR.ptr (off := 0) (get_new h ⟨w.heap.size, 0, false, 0, 0, 0⟩)
      | _ => exact hkk.elim
    · cases hl2
  · cases hl
theorem nextStr_ok (h : HR M H w) {t : TypeId} {v v' r : Value} (hv : VR M v v') (hl : aNext v H = some (r, H')) : Gives P M H w (Instr.next v' true t) r H' := by
  unfold aNext at hl
  split at hl
  · rename_i b
    split at hl
    · rename_i s pos hb
      cases hv with
      | ptr he =>
        rename_i e
        obtain ⟨hz, g1⟩ := h.blk _ _ _ he hb
        have hg : (getObj e.blk).run P w = .ok (.stringIter s pos) w := by simp [getObj, Sem.run, g1]
        have hset : ∀ o, (setObj e.blk o).run P w = .ok () { w with heap := w.heap.setIfInBounds e.blk o } := fun o => by simp [setObj, Sem.run, g1]
        have hlt : e.blk < w.heap.size := (Array.getElem?_eq_some_iff.1 g1).1
        have hwb : writB H b := by unfold writB; rw [hb]; trivial
        have hrl : b < H.length := (List.getElem?_eq_some_iff.1 hb).1
        rw [hz]
        unfold nextOf at hl
        by_cases hp : pos < s.size
        · rw [if_pos hp] at hl
          cases hl
          refine ⟨_, _, _, ?_, Stp.setBlk (o' := .stringIter s (pos + (Utf8.decode s pos).2)) h hb he hwb (by unfold writB; rw [List.getElem?_set_self hrl]; trivial) ⟨hz, by simp [hlt]⟩, VR.flat (by rfl)⟩
          simp only [Instr.next, Sem.run_bind, hg, Result.andThen_ok, if_pos hp, hset, Sem.run_pure, goInt]
        · rw [if_neg hp] at hl
          cases hl
          refine Gives.pure h ?_ (VR.flat (by rfl))
          simp only [Instr.next, Sem.run_bind, hg, Result.andThen_ok, if_neg hp, Sem.run_pure]
    · cases hl
  · cases hl

theorem sameBits_self {k : TK} {v : Value} (h : keyOk k v = true) : Instr.sameBits 10000 v v = true := by
  unfold keyOk at h
  split at h
  · simp [Instr.sameBits]
  · show (_ == _) = true
    rw [bytes_eq]; simp
  · simp [Instr.sameBits]
  · simp at h

theorem mapUpdate_ok (hE : E.Ok P) (h : HR M H w) {t : TypeId} {m m' k k' x x' : Value} (hm : VR M m m') (hk : VR M k k') (hx : VR M x x') (hl : aMapUpdate E t m k x H = some H') :
    ∃ w', (Instr.mapUpdate t m' k' x').run P w = .ok () w' ∧ Stp M H w M H' w' := by
  unfold aMapUpdate at hl
  split at hl
  · split at hl
    · rename_i r _ es clock hr
      obtain ⟨ti, ht, hl2⟩ := some_bind hl
      clear hl
      obtain ⟨ii, d, z, T⟩ := hE.ty _ _ ht
      have hkk := T.k
      split at hl2
      · rename_i kt et hkd
        rw [hkd] at hkk
        obtain ⟨tk, htk, hl3⟩ := some_bind hl2
        obtain ⟨i2, d2, z2, T2⟩ := hE.ty _ _ htk
        cases d with
        | map kt' et' =>
          obtain ⟨rfl, rfl⟩ := hkk
          split at hl3
          · rename_i hko
            obtain ⟨q, hq, hl4⟩ := some_bind hl3
            have := keyOk_eq T2.k hko hk; subst this
            cases hm with
            | map he =>
              rename_i e
              obtain ⟨es', g1, hel⟩ := map_get h hr he
              obtain ⟨q', g2, g3⟩ := findK_ok T2.k hko hel hq
              have hck := fun emp w => checkKey_ok T2 rfl hko emp 9999 w
              have hg : (getObj e.blk).run P w = .ok (.map es' clock) w := by simp [getObj, Sem.run, g1]
              have hset : ∀ o, (setObj e.blk o).run P w = .ok () { w with heap := w.heap.setIfInBounds e.blk o } := fun o => by simp [setObj, Sem.run, g1]
              have hlt : e.blk < w.heap.size := (Array.getElem?_eq_some_iff.1 g1).1
              have hwb : writB H r := by unfold writB; rw [hr]; trivial
              have hrl : r < H.length := (List.getElem?_eq_some_iff.1 hr).1
              cases q with
              | none =>
                simp at hl4; subst hl4
                cases q' with
                | some p => exact g3.elim
                | none =>
                  refine ⟨_, ?_, Stp.setBlk (o' := .map (es'.push { key := k', val := x', born := clock }) (clock + 1)) h hr he hwb (by unfold writB; rw [List.getElem?_set_self hrl]; trivial) ?_⟩
                  · simp only [Instr.mapUpdate, Sem.run_bind, T.run_und, Result.andThen_ok, hg, hck, Instr.findKey, T2.run_und, g2, Sem.run_pure]
                    exact hset _
                  · refine ⟨es'.push { key := k', val := x', born := clock }, by simp [hlt], by simp [hel.1], fun i a b ha hb => ?_⟩
                    by_cases hi : i < es.length
                    · rw [List.getElem?_append_left hi] at ha
                      have hi' : i < es'.size := by have := hel.1; simp at this; omega
                      rw [Array.getElem?_push, if_neg (by omega)] at hb
                      exact hel.2 i a b ha (by simpa using hb)
                    · by_cases hi2 : i = es.length
                      · subst hi2
                        have hi' : es.length = es'.size := by have := hel.1; simpa using this
                        rw [List.getElem?_append_right (Nat.le_refl _)] at ha
                        rw [hi', Array.getElem?_push, if_pos rfl] at hb
                        simp at ha hb; subst ha; subst hb
                        exact ⟨hk, hx, rfl⟩
                      · rw [List.getElem?_append_right (by omega)] at ha
                        have : i - es.length ≠ 0 := by omega
                        cases hq2 : i - es.length with
                        | zero => omega
                        | succ j => rw [hq2] at ha; simp at ha
              | some p =>
                obtain ⟨j, u⟩ := p
                simp at hl4; subst hl4
                cases q' with
                | none => exact g3.elim
                | some p' =>
                  obtain ⟨j', u'⟩ := p'
                  obtain ⟨rfl, _, ea, eb, ga, gb, _, gk, gk'⟩ := g3
                  simp only [Nat.sub_zero] at ga gb
                  have gb' : es'[j]? = some eb := by simpa using gb
                  refine ⟨_, ?_, Stp.setBlk (o' := .map (es'.modify j fun e => { e with key := k', val := x' }) clock) h hr he hwb (by unfold writB; rw [List.getElem?_set_self hrl]; trivial) ?_⟩
                  · simp only [Instr.mapUpdate, Sem.run_bind, T.run_und, Result.andThen_ok, hg, hck, Instr.findKey, T2.run_und, g2, Sem.run_pure, gb', Option.map_some, Option.getD_some, gk', Instr.keyThatStays, sameBits_self hko, if_true]
                    exact hset _
                  · refine ⟨es'.modify j fun e => { e with key := k', val := x' }, by simp [hlt], by simp [hel.1], fun i a b ha hb => ?_⟩
                    rw [List.getElem?_modify] at ha
                    rw [Array.getElem?_modify] at hb
                    by_cases hi : j = i
                    · subst hi
                      rw [ga] at ha
                      simp [gb'] at ha hb
                      subst ha; subst hb
                      exact ⟨hk, hx, (hel.2 j ea eb ga gb).2.2⟩
                    · rw [if_neg hi] at hb
                      simp [hi] at ha
                      exact hel.2 i a b ha (by simpa using hb)
          · simp at hl3
        | _ => exact hkk.elim
      · simp at hl2
    · simp at hl
  · simp at hl

end Go.Proofs.YthgfjbafhjkhnaaGreat.Zq
