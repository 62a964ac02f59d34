/- The operations one by one, sixth part: append, copy, the smallest and the greatest. -/
import Derived.Test.YtmjonmhpfngkaaaZqOps5
namespace Go.Proofs.Ytmjonmhpfngkaaa.Zq
variable {P : Program} {E : Env} {M : Mp} {H H' : Heap} {w : World}

theorem HR.heap_eq {w' : World} (h : HR M H w) (e : w'.heap = w.heap) : HR M H w' :=
  ⟨h.len, fun b en k hb hk => (h.blk b en k hb hk).same fun _ => by rw [e], h.sep⟩

theorem one_of_all {xs us : List Value} (hv : VL M xs us) (h : xs.all cell1 = true) : ∀ u ∈ us, u.oneCell' = true := by
  intro u hu
  obtain ⟨j, hj⟩ := List.mem_iff_getElem?.1 hu
  have hjl : j < xs.length := by rw [hv.1]; exact (List.getElem?_eq_some_iff.1 hj).1
  rw [← (hv.2 j _ _ (List.getElem?_eq_getElem hjl) hj).cell1]
  exact List.all_eq_true.1 h _ (List.getElem_mem hjl)

/-- What a growing append leaves. -/
theorem grown_gives {s : Sem Value} {xs us : List Value} {z : Value} {size need newCap : Nat} {e : TypeId} (h : HR M H w) (hv : VL M xs us) (hl : xs.length = need * size) (hz : z.cells.size = size) (hc : need ≤ newCap)
    (hr : s.run P w = .ok (.slice (some ⟨w.heap.size, 0, none⟩) need newCap) (w.drew.alloc (.cells (us.toArray ++ Builtin.zeroCells z.cells (newCap - need)) e (0, 0)))) :
    Gives P M H w s (.slice (some ⟨H.length, 0, none⟩) need need) (mk H xs size true) := by
  have hzc : (Builtin.zeroCells z.cells (newCap - need)).size = (newCap - need) * size := by simp [Builtin.zeroCells, hz]
  have hus := hv.1
  have hsz : (us.toArray ++ Builtin.zeroCells z.cells (newCap - need)).size = newCap * size := by
    simp only [Array.size_append, List.size_toArray, hzc]
    have : newCap * size = need * size + (newCap - need) * size := by rw [← Nat.add_mul]; congr 1; omega
    omega
  have st := Stp.newRow (M := M) (H := H) (w := w.drew) h.drew (cells := xs) (c := us.toArray ++ Builtin.zeroCells z.cells (newCap - need)) e size true (by simp; omega) (by
    simp only [Array.toList_append]
    rw [List.take_append_of_le_length (by omega), List.take_of_length_le (by omega)]
    exact hv)
  refine ⟨_, _, _, hr, (Stp.drew h).trans st, newSlice h rfl rfl (.inr ⟨rfl, by simp; omega, hc, ?_⟩)⟩
  simp only [Nat.zero_add]
  rw [hsz]; exact Nat.le_refl _

theorem rd_len {b off n : Nat} {cs : List Value} (h : rd H b off n = some cs) : cs.length = n := by
  unfold rd at h
  split at h
  · split at h
    · simp at h; subst h; simp; omega
    · simp at h
  · simp at h

theorem HR.killed (h : HR M H w) {cells : List Value} {sz b : Nat} {opn : Bool} (hk : H[b]? = some (.row cells sz opn false true)) : HR M (kill H b) w := by
  have hblen : b < H.length := (List.getElem?_eq_some_iff.1 hk).1
  have hkb : (kill H b)[b]? = some (.row cells sz opn false false) := by unfold kill; rw [hk]; simp [hblen]
  have hko : ∀ j : Nat, j ≠ b → (kill H b)[j]? = H[j]? := fun j hj => by unfold kill; rw [hk]; simp only; rw [List.getElem?_set_ne (Ne.symm hj)]
  have hkl : (kill H b).length = H.length := by unfold kill; rw [hk]; simp
  have hl : ∀ j : Nat, liveB (kill H b) j → liveB H j := by
    intro j hj
    by_cases e : j = b
    · subst e; unfold liveB at hj; rw [hkb] at hj; simp at hj
    · unfold liveB at hj ⊢; rw [hko j e] at hj; exact hj
  have hw : ∀ j : Nat, writB (kill H b) j → writB H j := by
    intro j hj
    by_cases e : j = b
    · subst e; unfold writB at hj; rw [hkb] at hj; simp at hj
    · unfold writB at hj ⊢; rw [hko j e] at hj; exact hj
  refine ⟨by rw [hkl]; exact h.len, fun j e k hj hkj => ?_, fun j j' e e' hne hj hj' h1 h2 => h.sep j j' e e' hne hj hj' (hw j h1) (hl j' h2)⟩
  by_cases ej : j = b
  · subst ej
    rw [hkb] at hkj; simp at hkj; subst hkj
    obtain ⟨q1, q2, q3, _⟩ := h.blk _ _ _ hj hk
    exact ⟨q1, q2, q3, fun hf => by simp at hf⟩
  · rw [hko j ej] at hkj; exact h.blk j e k hj hkj

theorem writB.killed {cells : List Value} {sz b : Nat} {opn : Bool} (hk : H[b]? = some (.row cells sz opn false true)) {j : Nat} (hj : writB (kill H b) j) : writB H j := by
  have hblen : b < H.length := (List.getElem?_eq_some_iff.1 hk).1
  by_cases e : j = b
  · subst e
    have hkb : (kill H j)[j]? = some (.row cells sz opn false false) := by unfold kill; rw [hk]; simp [hblen]
    unfold writB at hj; rw [hkb] at hj; simp at hj
  · have hko : (kill H b)[j]? = H[j]? := by unfold kill; rw [hk]; simp only; rw [List.getElem?_set_ne (Ne.symm e)]
    unfold writB at hj ⊢; rw [hko] at hj; exact hj

theorem liveB.killed {cells : List Value} {sz b : Nat} {opn : Bool} (hk : H[b]? = some (.row cells sz opn false true)) {j : Nat} (hj : liveB (kill H b) j) : liveB H j := by
  by_cases e : j = b
  · subst e
    unfold liveB; rw [hk]
  · have hko : (kill H b)[j]? = H[j]? := by unfold kill; rw [hk]; simp only; rw [List.getElem?_set_ne (Ne.symm e)]
    unfold liveB at hj ⊢; rw [hko] at hj; exact hj

/-- Killing a block is a step. -/
theorem Stp.killed (h : HR M H w) {cells : List Value} {sz b : Nat} {opn : Bool} (hk : H[b]? = some (.row cells sz opn false true)) {e : Ent} (he : M[b]? = some (some e)) : Stp M H w M (kill H b) w :=
  ⟨.refl M, h.killed hk, rfl, rfl, rfl, Nat.le_refl _, fun _ _ _ => rfl, fun b' e hb hw _ => ⟨b', e, hb, hw.killed hk, rfl⟩, fun j hj => ⟨hj, by
    have hjb : j ≠ b := fun e0 => by subst e0; rw [he] at hj; simp at hj
    unfold kill; rw [hk]; simp only; rw [List.getElem?_set_ne (Ne.symm hjb)]⟩, fun b' e hb hw _ => ⟨b', e, hb, hw.killed hk, rfl⟩⟩

theorem appX_ok (hE : E.Ok P) (h : HR M H w) {ts : List TypeId} {ty : TypeId} {s s' x' v : Value} {n : Nat} {xs : List Value} (hs : VR M s s')
    (hle : ∀ w, (Builtin.lenOf x').run P w = .ok n w)
    (hfs : ∀ t ti e te, ts.head? = some t → E.ty t = some ti → ti.k = .slice e → E.ty e = some te → xs.length = n * te.size →
      ∃ us : List Value, (∀ w' : World, w'.heap = w.heap → (Builtin.firstCells te.size n x').run P w' = .ok us.toArray w') ∧ VL M xs us)
    (ha : aAppX E ts s n xs H = some (v, H')) : Gives P M H w (Builtin.append_ ts.toArray ty #[s', x']) v H' := by
  unfold aAppX at ha
  split at ha
  · rename_i ts tx
    obtain ⟨ti, ht, ha2⟩ := some_bind ha
    obtain ⟨tj, htj, ha3⟩ := some_bind ha2
    clear ha ha2
    obtain ⟨i1, d1, z1, T1⟩ := hE.ty _ _ ht
    obtain ⟨i2, d2, z2, T2⟩ := hE.ty _ _ htj
    split at ha3
    · simp at ha3
    · rename_i e hke hnot
      have hd2 : isIntD d2 = false := not_int T2.k (fun j hj => hnot j hj)
      obtain ⟨te, hte, ha6⟩ := some_bind ha3
      clear ha3
      obtain ⟨i3, d3, z3, T3⟩ := hE.ty _ _ hte
      have hk := T1.k
      rw [hke] at hk
      have hund : P.underlying ts = some (.slice e) := by
        cases hd : d1 <;> rw [hd] at hk <;> first | exact hk.elim | (have hk : e = _ := hk; subst hk; rw [T1.und, hd])
      split at ha6
      · simp at ha6
      rename_i hsz0
      obtain ⟨us, hfr, hvl⟩ := hfs ts ti e te rfl ht hke hte (by omega)
      have hxl : xs.length = n * te.size := by omega
      have hzc : z3.cells.size = te.size := by rw [← T3.len, ← T3.cells]; simp
      split at ha6
      · -- nil
        have := hs.of_slice0; subst this
        split at ha6
        · rename_i hn0
          simp at ha6; obtain ⟨rfl, rfl⟩ := ha6
          subst hn0
          have := append_in0 (ty := ty) (sLen := 0) (sCap := 0) hund T2.und hd2 (fun w => T3.run_size w) hle (hfr w rfl) (Nat.le_refl _)
          exact Gives.pure h this .slice0
        · split at ha6
          · rename_i hn0 hb
            obtain ⟨hb1, hb2, _⟩ := hb
            simp at ha6; obtain ⟨rfl, rfl⟩ := ha6
            obtain ⟨nc, q1, q2⟩ := append_grow (ty := ty) hund T2.und hd2 T3 (s' := .slice none 0 0) rfl hle hfr (us0 := []) (fun _ _ => by simp [Builtin.firstCells]) (by omega) (by simpa using hb1) hb2
            simp only [Nat.zero_add] at q1 q2
            have q3 : ([] : List Value).toArray ++ us.toArray = us.toArray := by simp
            rw [q3] at q2
            exact grown_gives h hvl hxl hzc q1 q2
          · simp at ha6
      · rename_i b off len cap
        obtain ⟨en, c, he, hc, rfl⟩ := hs.of_slice
        have hcc : cap ≤ c := by rcases hc with hq | ⟨_, _, hq, _⟩ <;> omega
        split at ha6
        · rename_i hn0
          subst hn0
          split at ha6
          · rename_i hlc
            simp at ha6; obtain ⟨rfl, rfl⟩ := ha6
            have hlc : len + 0 ≤ c := by omega
            have := append_in (ty := ty) hund T2.und hd2 (fun w => T3.run_size w) (a := ⟨en.blk, en.base + off, none⟩) (sLen := len) (sCap := c) hle (hfr w rfl) hlc
            have hus : us = [] := by have := hvl.1; rw [hxl] at this; simp at this; exact List.length_eq_zero_iff.1 this.symm
            subst hus
            rw [wrNil] at this
            exact Gives.pure h this (.slice he hc)
          · simp at ha6
        · rename_i hn0
          split at ha6
          · rename_i hle2
            obtain ⟨H2, hw, ha7⟩ := some_bind ha6
            simp at ha7; obtain ⟨rfl, rfl⟩ := ha7
            obtain ⟨w', g1, g2⟩ := wr_ok P h hw he hvl
            have := append_in (ty := ty) hund T2.und hd2 (fun w => T3.run_size w) (a := ⟨en.blk, en.base + off, none⟩) (sLen := len) (sCap := c) hle (hfr w rfl) (by omega)
            rw [add_none] at this
            simp only [Nat.add_assoc] at g1 this
            rw [g1] at this
            exact ⟨_, _, _, this, g2, .slice he hc⟩
          · split at ha6
            · rename_i hle2 hb
              obtain ⟨hb1, hb2, hb3⟩ := hb
              obtain ⟨old, ho, ha7⟩ := some_bind ha6
              obtain ⟨us0, g1, g2, g3, _⟩ := rd_ok P h ho he
              have hol : old.length = len * te.size := by rw [g2.1, g3]
              have hlen : (old ++ xs).length = (len + n) * te.size := by simp [hol, hxl, Nat.add_mul]
              have grow : c < len + n → Gives P M H w (Builtin.append_ [ts, tx].toArray ty #[.slice (some ⟨en.blk, en.base + off, none⟩) len c, x']) (.slice (some ⟨H.length, 0, none⟩) (len + n) (len + n)) (mk H (old ++ xs) te.size true) := by
                intro hlt
                obtain ⟨nc, q1, q2⟩ := append_grow (ty := ty) hund T2.und hd2 T3 (s' := .slice (some ⟨en.blk, en.base + off, none⟩) len c) rfl hle hfr (us0 := us0) (fun w' hw' => by simp [Builtin.firstCells, g1 w' hw']) hlt hb1 hb2
                refine grown_gives (e := e) h (g2.append hvl) hlen hzc q1 ?_
                rw [← List.append_toArray] ; exact q2
              split at ha7
              · rename_i hex
                simp at ha7; obtain ⟨rfl, rfl⟩ := ha7
                have := exact_ok h hex he hc; subst this
                exact grow (by omega)
              · split at ha7
                · rename_i cells sz opn hkb
                  split at ha7
                  · rename_i hszq
                    subst hszq
                    simp at ha7; obtain ⟨rfl, rfl⟩ := ha7
                    by_cases hroom : len + n ≤ c
                    · have hroom2 : en.base + off + (len + n) * te.size ≤ en.csz := by
                        rcases hc with hq | ⟨_, _, _, hq⟩
                        · omega
                        · obtain ⟨_, _, q3, _⟩ := h.blk _ _ _ he hkb
                          rw [q3] at hq
                          have : (len + n) * te.size ≤ c * te.size := Nat.mul_le_mul_right _ hroom
                          omega
                      obtain ⟨w', k1, k2⟩ := Stp.inPlace (P := P) h hkb he ho hvl (by rw [← hvl.1]; exact hxl) (one_of_all hvl hb3) hroom2
                      have := append_in (ty := ty) hund T2.und hd2 (fun w => T3.run_size w) (a := ⟨en.blk, en.base + off, none⟩) (sLen := len) (sCap := c) hle (hfr w rfl) hroom
                      rw [add_none] at this
                      rw [k1] at this
                      refine ⟨_, _, _, this, k2, ?_⟩
                      have := VR.slice (M := M ++ [some (⟨en.blk, en.base + off, true, (old ++ xs).length, te.size, en.csz⟩ : Ent)]) (off := 0) (len := len + n) (cap := len + n) (c := c) (get_new h _) (.inr ⟨rfl, by simp only [hlen]; omega, hroom, ?_⟩)
                      · simpa using this
                      · rcases hc with hq | ⟨_, _, _, hq⟩
                        · omega
                        · obtain ⟨_, _, q3, _⟩ := h.blk _ _ _ he hkb
                          rw [q3] at hq
                          simpa using hq
                    · have hlt : c < len + n := by omega
                      obtain ⟨nc, q1, q2⟩ := append_grow (ty := ty) hund T2.und hd2 T3 (s' := .slice (some ⟨en.blk, en.base + off, none⟩) len c) rfl hle hfr (us0 := us0) (fun w' hw' => by simp [Builtin.firstCells, g1 w' hw']) hlt hb1 hb2
                      obtain ⟨v', M', w', r1, r2, r3⟩ := grown_gives (e := e) (h.killed hkb) (g2.append hvl) hlen hzc q1 (by rw [← List.append_toArray]; exact q2)
                      have hkl : (kill H b).length = H.length := by unfold kill; rw [hkb]; simp
                      rw [hkl] at r3
                      exact ⟨v', M', w', r1, (Stp.killed h hkb he).trans r2, r3⟩
                  · simp at ha7
                · simp at ha7
            · simp at ha6
      · rename_i b off
        obtain ⟨a', c, rfl⟩ := hs.of_sliceE
        split at ha6
        · rename_i hn0
          simp at ha6; obtain ⟨rfl, rfl⟩ := ha6
          subst hn0
          have := append_in (ty := ty) hund T2.und hd2 (fun w => T3.run_size w) (a := a') (sLen := 0) (sCap := c) hle (hfr w rfl) (by omega)
          have hus : us = [] := by have := hvl.1; rw [hxl] at this; simp at this; exact List.length_eq_zero_iff.1 this.symm
          subst hus
          rw [wrNil] at this
          exact Gives.pure h this .sliceE
        · simp at ha6
      · simp at ha6
    · simp at ha3
  · simp at ha


theorem append_ok (hE : E.Ok P) (h : HR M H w) {ts : List TypeId} {ty : TypeId} {s s' x x' v : Value} (hs : VR M s s') (hx : VR M x x') (ha : aAppend E ts s x H = some (v, H')) :
    Gives P M H w (Builtin.append_ ts.toArray ty #[s', x']) v H' := by
  unfold aAppend at ha
  split at ha
  · rename_i t1 t2
    obtain ⟨ti, ht, ha2⟩ := some_bind ha
    split at ha2
    · rename_i e hke
      obtain ⟨te, hte, ha4⟩ := some_bind ha2
      obtain ⟨n, hn, ha5⟩ := some_bind ha4
      obtain ⟨xs, hf, ha6⟩ := some_bind ha5
      refine appX_ok hE h hs (fun w => lenX_ok hx hn) (fun t ti' e' te' q1 q2 q3 q4 _ => ?_) ha6
      simp at q1; subst q1
      rw [ht] at q2; simp at q2; subst q2
      rw [hke] at q3; simp at q3; subst q3
      rw [hte] at q4; simp at q4; subst q4
      exact firstOf_ok (P := P) h hx hf
    · simp at ha2
  · simp at ha

end Go.Proofs.Ytmjonmhpfngkaaa.Zq
