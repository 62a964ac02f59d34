/- Operations in the text's order. -/
import Derived.Test.YthgfjbafhjkhnaaGreatZwOp3
namespace Go.Proofs.YthgfjbafhjkhnaaGreat.Zq
variable {C : CEnv} {M M' : Mp} {H H' : Heap} {w w' : World} {L L' : Loc} {ML ML' : Ml} {fr fr' : CFr} {a a' : Act} {ro : Option Nat} {n : Nat} {Q : Exit → Act → World → Prop} {Kw : Act → World → Prop} {loc : List Nat}

/-- A frame that has come of another: slots were laid down. -/
def Suf (fr fr' : CFr) : Prop := fr'.n = fr.n ∧ ∃ news, fr'.l = news ++ fr.l
theorem Suf.refl (fr : CFr) : Suf fr fr := ⟨rfl, [], rfl⟩
theorem Suf.trans {fr'' : CFr} (h : Suf fr fr') (k : Suf fr' fr'') : Suf fr fr'' := by
  obtain ⟨h1, x, h2⟩ := h
  obtain ⟨k1, y, k2⟩ := k
  exact ⟨k1.trans h1, y ++ x, by rw [k2, h2, List.append_assoc]⟩
theorem Suf.put (fr : CFr) (d : Nat) (s : Sv) : Suf fr (fr.put d s) := ⟨rfl, [(d, some s)], rfl⟩
theorem Suf.put? (fr : CFr) (d : Option Nat) (s : Sv) : Suf fr (fr.put? d s) := by
  cases d with
  | none => exact .refl fr
  | some d => exact .put fr d s

theorem deferred_keptL (hr : HR M H w) (l : LR M H L ML w) (hs : StpL M H ML w M' H' w') {r : Nat} {ds : Option (List Deferred)} (h : w.heap[r]? = some (.deferred ds)) : w'.heap[r]? = some (.deferred ds) := by
  rw [hs.frame r (Array.getElem?_eq_some_iff.1 h).1 ?_ ?_]
  · exact h
  · intro b e hb hw he
    exact hr.not_deferred hb hw.live h he
  · intro i e hi he
    have hiL : i < L.length := by rw [← l.len]; exact (List.getElem?_eq_some_iff.1 hi).1
    obtain ⟨_, _, _, _, h4⟩ := l.loc i e _ _ hi (List.getElem?_eq_getElem hiL)
    obtain ⟨c, t, fz, g, _⟩ := h4 rfl
    rw [he, h] at g; simp at g
theorem Marks.transL {M2 : Mp} {H2 : Heap} {w2 : World} {ds ds1 ds2 : List Deferred} (h : Marks w w' ds ds1) (hr : HR M' H' w') (l : LR M' H' L' ML' w') (hs : StpL M' H' ML' w' M2 H2 w2) (h0 : w.heap.size ≤ w'.heap.size) (k : Marks w' w2 ds1 ds2) : Marks w w2 ds ds2 := by
  obtain ⟨rs, e1, n1, a1⟩ := h
  obtain ⟨qs, e2, n2, a2⟩ := k
  refine ⟨qs ++ rs, by rw [e2, e1]; simp, ?_, ?_⟩
  · rw [List.nodup_append]
    refine ⟨n2, n1, fun a ha b hb hab => ?_⟩
    subst hab
    have := (a2 a ha).1
    have := (Array.getElem?_eq_some_iff.1 (a1 a hb).2).1
    omega
  · intro r hr'
    rcases List.mem_append.1 hr' with h | h
    · exact ⟨by have := (a2 r h).1; omega, (a2 r h).2⟩
    · exact ⟨(a1 r h).1, deferred_keptL hr l hs (a1 r h).2⟩

/-- All that stands behind some operations, seen from ahead of them. -/
structure Behind (M : Mp) (H : Heap) (L : Loc) (ML : Ml) (w : World) (fr : CFr) (a : Act) (M' : Mp) (H' : Heap) (L' : Loc) (ML' : Ml) (w' : World) (fr' : CFr) (a' : Act) : Prop where
  st : LSt M H ML w M' H' ML' w'
  lr : LR M' H' L' ML' w'
  fs : FS M' ML' fr' a'.tmps
  rel : LRel L L'
  suf : Suf fr fr'
  mlx : ∃ N, ML' = ML ++ N
  defers : Marks w w' a.defers a'.defers

theorem Behind.refl (h : HR M H w) (l : LR M H L ML w) (f : FS M ML fr a.tmps) : Behind M H L ML w fr a M H L ML w fr a := ⟨.refl h ML, l, f, .refl L, .refl fr, ⟨[], by simp⟩, .refl _ _ _⟩
theorem Behind.trans {M'' : Mp} {H'' : Heap} {L'' : Loc} {ML'' : Ml} {w'' : World} {fr'' : CFr} {a'' : Act} (h : Behind M H L ML w fr a M' H' L' ML' w' fr' a') (k : Behind M' H' L' ML' w' fr' a' M'' H'' L'' ML'' w'' fr'' a'') :
    Behind M H L ML w fr a M'' H'' L'' ML'' w'' fr'' a'' := ⟨h.st.trans k.st, k.lr, k.fs, h.rel.trans k.rel, h.suf.trans k.suf, by
    obtain ⟨N, e1⟩ := h.mlx
    obtain ⟨N', e2⟩ := k.mlx
    exact ⟨N ++ N', by rw [e2, e1, List.append_assoc]⟩, h.defers.transL h.st.st.hr h.lr k.st.st h.st.st.size k.defers⟩

/-- Is a guard's value the wanted one? -/
def wantB (v : Value) (want : Bool) : Bool :=
  match v with
  | .bool b => b == want
  | _ => false
theorem cWanted {ops : Array Oper} {o : Oper} {j d : Nat} {want : Bool} {v : Value} (hg : o.guard = some (j, want)) (hd : (ops[j]?).bind (·.dst) = some d) (hv : VR M v (a.tmps.getD d undef)) :
    Region.wanted o (yielded ops a.tmps) = wantB v want := by
  have hf : FR M ⟨a.tmps.size, [(d, some v)]⟩ a.tmps := ⟨rfl, fun t u hu => by
    simp only [AFr.get, look] at hu
    split at hu
    · rename_i e; subst e; simp at hu; subst hu; exact hv
    · simp at hu⟩
  refine wanted_ok (M := M) (fr := ⟨a.tmps.size, [(d, some v)]⟩) hf ?_
  simp only [aWanted, hg, hd, AFr.get, look, if_true, Option.bind_some]
  cases v <;> rfl
theorem cWanted0 {ops : Array Oper} {o : Oper} (hg : o.guard = none) : Region.wanted o (yielded ops a.tmps) = true := by unfold Region.wanted; rw [hg]
theorem cWantedN {ops : Array Oper} {o : Oper} {j : Nat} {want : Bool} (hg : o.guard = some (j, want)) (hd : (ops[j]?).bind (·.dst) = none) : Region.wanted o (yielded ops a.tmps) = false := by
  unfold Region.wanted; rw [hg]; simp [yielded, hd]

theorem oper_eta (o : Oper) : o = ⟨o.dst, o.op, o.type, o.pos, o.after, o.guard⟩ := rfl

/-- One operation: wanted or not. -/
theorem cOper_ok (hE : C.E.Ok C.P) (h : HR M H w) (l : LR M H L ML w) (f : FS M ML fr a.tmps) {ops : Array Oper} {o : Oper} {i : Nat} {K : CFr → Loc → Heap → Prop} (hi : ops[i]? = some o) (ho : cOper C loc ops o fr L H K)
    (hK : ∀ fr' L' H' M' ML' a' w', K fr' L' H' → Behind M H L ML w fr a M' H' L' ML' w' fr' a' → Kw a' w') : wpOpIn (Fw ro) n C.P ops Q i Kw a w := by
  unfold cOper at ho
  split at ho
  · rename_i hp
    unfold wpOpIn
    rw [hi]
    simp only
    -- the operation itself, in a frame that is as the one ahead
    have done : ∀ fr1 : CFr, Suf fr fr1 → FS M ML fr1 a.tmps → (cOp C loc o.dst o.type o.op fr1 L H fun s L H => K (fr1.put? o.dst s) L H) → o.wpIn (Fw ro) n C.P a w Kw Q := by
      intro fr1 hs1 f1 hop
      have hp1 : cPutOk fr1 o.dst = true := by
        unfold cPutOk at hp ⊢
        rw [hs1.1]; exact hp
      have := cOp_ok (ro := ro) (n := n) (Q := Q) (Kw := Kw) (pos := o.pos) (after := o.after) (guard := o.guard) hE h l f1 hop
      exact this fun s L' H' M' ML' w' u hk ha hu => hK _ _ _ M' ML' _ w' hk ⟨ha.1, ha.2.1, ha.2.2.1.put? hp1 hu, ha.2.2.2.1, hs1.trans (.put? _ _ _), ha.2.2.2.2.1, .of_eq (put_defers _ _ _)⟩
    have skip : ∀ fr1 : CFr, Suf fr fr1 → FS M ML fr1 a.tmps → K (fr1.put? o.dst (.v undef)) L H → Kw (a.put o.dst undef) w := by
      intro fr1 hs1 f1 hk
      have hp1 : cPutOk fr1 o.dst = true := by
        unfold cPutOk at hp ⊢
        rw [hs1.1]; exact hp
      exact hK _ _ _ M ML _ w hk ⟨.refl h ML, l, f1.put? hp1 (VR.undef M), .refl L, hs1.trans (.put? _ _ _), ⟨[], by simp⟩, .of_eq (put_defers _ _ _)⟩
    split at ho
    · rename_i hg
      rw [cWanted0 hg]
      exact done fr (.refl fr) f ho
    · rename_i j want hg
      split at ho
      · rename_i hd
        rw [cWantedN hg hd]
        exact ⟨fun _ _ => trivial, skip fr (.refl fr) f ho⟩
      · rename_i d hd
        split at ho
        · rename_i g hgd
          have hv : VR M (.bool g) (a.tmps.getD d undef) := f.get d _ hgd
          rw [cWanted hg hd hv]; unfold wantB
          have f1 : FS M ML (fr.put d (.v (.bool g))) a.tmps := f.again hv
          cases g with
          | true =>
            simp only [ifB] at ho
            cases want with
            | true =>
              simp only [if_true] at ho
              exact done _ (.put _ _ _) f1 ho
            | false =>
              simp at ho
              exact ⟨fun _ _ => trivial, skip _ (.put _ _ _) f1 ho⟩
          | false =>
            simp only [ifB] at ho
            cases want with
            | true =>
              simp at ho
              exact ⟨fun _ _ => trivial, skip _ (.put _ _ _) f1 ho⟩
            | false =>
              simp only [if_true] at ho
              exact done _ (.put _ _ _) f1 ho
        · rename_i xs hgd
          have hv : VR M (.tuple xs) (a.tmps.getD d undef) := f.get d _ hgd
          rw [cWanted hg hd hv]; unfold wantB
          exact ⟨fun _ _ => trivial, skip fr (.refl fr) f ho⟩
        · exact ho.elim
  · exact ho.elim

theorem cOps_ok (hE : C.E.Ok C.P) {ops : Array Oper} {K : CFr → Loc → Heap → Prop} : ∀ (os : List Oper) (j : Nat) (fr : CFr) (L : Loc) (H : Heap) (M : Mp) (ML : Ml) (a : Act) (w : World), ops.toList.drop j = os → cOps C loc ops os fr L H K → HR M H w → LR M H L ML w → FS M ML fr a.tmps →
    (∀ fr' L' H' M' ML' a' w', K fr' L' H' → Behind M H L ML w fr a M' H' L' ML' w' fr' a' → Q .normal a' w') → wpOpsIn (Fw ro) n C.P ops Q (List.range' j os.length) a w
  | [], j, fr, L, H, M, ML, a, w, _, ho, h, l, f, hQ => hQ fr L H M ML a w ho (.refl h l f)
  | o :: os, j, fr, L, H, M, ML, a, w, hd, ho, h, l, f, hQ => by
    have hi : ops[j]? = some o := by
      have := congrArg (·[0]?) hd
      simpa using this
    have hd' : ops.toList.drop (j + 1) = os := by
      rw [← List.drop_drop, hd]; rfl
    simp only [List.length_cons, List.range'_succ]
    rw [wpOpsIn_cons]
    refine cOper_ok hE h l f hi ho fun fr1 L1 H1 M1 ML1 a1 w1 hk b1 => ?_
    exact cOps_ok hE os (j + 1) fr1 L1 H1 M1 ML1 a1 w1 hd' hk b1.st.st.hr b1.lr b1.fs fun fr' L' H' M' ML' a' w' hk' b' => hQ fr' L' H' M' ML' a' w' hk' (b1.trans b')

theorem text_ok (hE : C.E.Ok C.P) {ops : Array Oper} {id : Nat} {K : CFr → Loc → Heap → Prop} (ho : cOps C loc ops ops.toList fr L H K) (h : HR M H w) (l : LR M H L ML w) (f : FS M ML fr a.tmps)
    (hQ : ∀ fr' L' H' M' ML' a' w', K fr' L' H' → Behind M H L ML w fr a M' H' L' ML' w' fr' a' → Q .normal a' w') : (Code.region id ops false).wpIn (Fw ro) n C.P Q a w := by
  refine wpIn_region ?_
  have := cOps_ok (ro := ro) (n := n) (Q := Q) hE ops.toList 0 fr L H M ML a w (by simp) ho h l f hQ
  rw [List.range_eq_range']
  simpa using this

end Go.Proofs.YthgfjbafhjkhnaaGreat.Zq
