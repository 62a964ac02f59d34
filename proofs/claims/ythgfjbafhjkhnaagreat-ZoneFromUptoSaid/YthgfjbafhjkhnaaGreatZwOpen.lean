/- The arguments of a law: what is read as data is a heap of rows that nobody may write. -/
import Derived.Test.YthgfjbafhjkhnaaGreatZwTags
import Derived.ChangeArms
import Derived.OpenShut
namespace Go.Proofs.YthgfjbafhjkhnaaGreat.Zq
variable {P : Program} {M : Mp} {H : Heap} {w : World}

/-- Cells, of a type. -/
def WTc (P : Program) (H : Heap) : Nat → TypeId → List Value → Prop
  | 0, _, _ => False
  | d + 1, t, cs => cs.length = P.cellsOf t ∧
    match P.underlying t with
    | some .bool => ∃ b, cs = [.bool b]
    | some (.int k) => ∃ n, cs = [.int k n] ∧ (Lit.int k n).wf = true
    | some .string => ∃ s : ByteArray, cs = [.string s] ∧ s.size ≤ maxLen
    | some (.slice e) => cs = [.slice none 0 0] ∨ (∃ b off, cs = [.slice (some ⟨b, off, some 0⟩) 0 0]) ∨
        ∃ b len cap, ∃ acss : List (List Value), cs = [.slice (some ⟨b, 0, none⟩) len cap] ∧ len ≤ cap ∧ cap ≤ maxLen ∧ acss.length = cap ∧ 0 < cap ∧ H[b]? = some (.row acss.flatten (P.cellsOf e) false true true) ∧ ∀ a ∈ acss, WTc P H d e a
    | some (.struct fs) => ∃ acss : List (List Value), acss.length = fs.size ∧ cs = acss.flatten ∧ ∀ (i : Nat) (f : Field) (a : List Value), fs[i]? = some f → acss[i]? = some a → WTc P H d f.type a
    | some (.array n e) => ∃ acss : List (List Value), acss.length = n ∧ cs = acss.flatten ∧ ∀ a ∈ acss, WTc P H d e a
    | _ => False

theorem WTc.len {d : Nat} {t : TypeId} {cs : List Value} (h : WTc P H d t cs) : cs.length = P.cellsOf t := by
  cases d with
  | zero => exact h.elim
  | succ d => exact h.1

theorem WTc.app {K : Heap} : ∀ {d : Nat} {t : TypeId} {cs : List Value}, WTc P H d t cs → WTc P (H ++ K) d t cs
  | 0, _, _, h => h.elim
  | d + 1, t, cs, h => by
    simp only [WTc] at h ⊢
    refine ⟨h.1, ?_⟩
    have h := h.2
    split at h
    · exact h
    · exact h
    · exact h
    · rcases h with h | h | ⟨b, len, cap, acss, h1, h2, h3, h4, h5, h6, h7⟩
      · exact .inl h
      · exact .inr (.inl h)
      · exact .inr (.inr ⟨b, len, cap, acss, h1, h2, h3, h4, h5, by rw [List.getElem?_append_left (List.getElem?_eq_some_iff.1 h6).1]; exact h6, fun a ha => (h7 a ha).app⟩)
    · obtain ⟨acss, h1, h2, h3⟩ := h
      exact ⟨acss, h1, h2, fun i f a hf ha => (h3 i f a hf ha).app⟩
    · obtain ⟨acss, h1, h2, h3⟩ := h
      exact ⟨acss, h1, h2, fun a ha => (h3 a ha).app⟩
    · exact h

def contig (P : Program) : List Field → Nat → Nat → Bool
  | [], o, n => o == n
  | f :: r, o, n => f.offset == o && contig P r (o + P.cellsOf f.type) n
/-- Types that hold plain data and slices of such. -/
def okD (P : Program) : Nat → TypeId → Bool
  | 0, _ => false
  | d + 1, t =>
    match P.underlying t with
    | some .bool | some (.int _) | some .string => P.cellsOf t == 1
    | some (.slice e) => P.cellsOf t == 1 && decide (0 < P.cellsOf e) && okD P d e
    | some (.struct fs) => contig P fs.toList 0 (P.cellsOf t) && fs.toList.all fun f => okD P d f.type
    | some (.array n e) => n * P.cellsOf e == P.cellsOf t && okD P d e
    | _ => false

/-- Nothing may be written. -/
def RoH (H : Heap) : Prop := ∀ b, ¬ writB H b
theorem RoH.app {H K : Heap} (h : RoH H) (k : ∀ x ∈ K, ∃ c sz l, x = .row c sz false true l) : RoH (H ++ K) := by
  intro b hb
  unfold writB at hb
  by_cases hl : b < H.length
  · rw [List.getElem?_append_left hl] at hb
    exact h b (by unfold writB; exact hb)
  · rw [List.getElem?_append_right (by omega)] at hb
    cases hq : K[b - H.length]? with
    | none => rw [hq] at hb; exact hb
    | some x =>
      obtain ⟨c, sz, l, rfl⟩ := k x (List.mem_of_getElem? hq)
      rw [hq] at hb; simp at hb

/-- Rows added to what is known. -/
structure Adds (M : Mp) (H : Heap) (w : World) (N : Mp) (K : Heap) : Prop where
  hr : HR (M ++ N) (H ++ K) w
  ro : ∀ x ∈ K, ∃ c sz l, x = .row c sz false true l
theorem Adds.refl (h : HR M H w) : Adds M H w [] [] := ⟨by simpa using h, fun x hx => by simp at hx⟩
theorem Adds.trans {N N' : Mp} {K K' : Heap} (h : Adds M H w N K) (k : Adds (M ++ N) (H ++ K) w N' K') : Adds M H w (N ++ N') (K ++ K') :=
  ⟨by simpa [List.append_assoc] using k.hr, fun x hx => by rcases List.mem_append.1 hx with h1 | h1; exact h.ro x h1; exact k.ro x h1⟩

/-- A row that is there, for reading alone. -/
theorem addRow (h : HR M H w) (hro : RoH H) {cells us : List Value} {sz b o : Nat} (hc : ∃ c t fz, w.heap[b]? = some (.cells c t fz) ∧ o + us.length ≤ c.size ∧ (c.toList.drop o).take us.length = us) (hv : VL M cells us) :
    ∃ e : Ent, e.blk = b ∧ e.base = o ∧ e.opn = false ∧ Adds M H w [some e] [.row cells sz false true true] := by
  obtain ⟨c, t, fz, hw, hle, htk⟩ := hc
  refine ⟨⟨b, o, false, cells.length, sz, c.size⟩, rfl, rfl, rfl, ⟨?_, fun x hx => by simp at hx; exact ⟨_, _, _, hx⟩⟩⟩
  have hx := Ext.app M [some (⟨b, o, false, cells.length, sz, c.size⟩ : Ent)]
  have hlen := h.len
  have hro' : RoH (H ++ [.row cells sz false true true]) := hro.app fun x hx => by simp at hx; exact ⟨_, _, _, hx⟩
  refine ⟨by simp [hlen], fun q e k hq hk => ?_, fun q q' e e' _ _ _ hwr _ => absurd hwr (hro' q)⟩
  by_cases hl : q < M.length
  · rw [List.getElem?_append_left hl] at hq
    rw [List.getElem?_append_left (by omega)] at hk
    exact (h.blk q e k hq hk).mono hx
  · have e0 : q = M.length := by
      have := (List.getElem?_eq_some_iff.1 hq).1
      simp at this; omega
    subst e0
    rw [List.getElem?_append_right (Nat.le_refl _)] at hq
    rw [hlen, List.getElem?_append_right (Nat.le_refl _)] at hk
    simp at hq hk; subst hq; subst hk
    exact ⟨rfl, rfl, rfl, fun _ => ⟨c, t, fz, hw, rfl, by have := hv.1; simp; omega, by
      have e : (c.toList.drop o).take cells.length = us := by rw [hv.1]; exact htk
      simp only
      rw [e]; exact hv.mono hx, fun hf => by simp at hf⟩⟩

theorem pieces {P : Program} : ∀ {l : List Field} {o n : Nat} {cs : List Value}, contig P l o n = true → cs.length = n → o ≤ n ∧ ((l.map fun f => (cs.drop f.offset).take (P.cellsOf f.type)).flatten = cs.drop o)
  | [], o, n, cs, h, hl => by
    simp [contig] at h; subst h
    exact ⟨Nat.le_refl _, by simp [hl]⟩
  | f :: r, o, n, cs, h, hl => by
    simp only [contig, Bool.and_eq_true, beq_iff_eq] at h
    obtain ⟨h1, h2⟩ := h
    obtain ⟨h3, h4⟩ := pieces h2 hl
    refine ⟨by omega, ?_⟩
    simp only [List.map_cons, List.flatten_cons, h4, h1]
    rw [← List.drop_drop]
    exact List.take_append_drop _ _
theorem piecesN : ∀ (n sz : Nat) (cs : List Value), cs.length = n * sz → ((List.range n).map fun i => (cs.drop (i * sz)).take sz).flatten = cs
  | 0, sz, cs, h => by simp at h; simp [h]
  | n + 1, sz, cs, h => by
    rw [List.range_succ, List.map_append, List.flatten_append]
    have hl : (cs.take (n * sz)).length = n * sz := by simp; rw [h, Nat.add_mul]; omega
    have := piecesN n sz (cs.take (n * sz)) hl
    have e : ((List.range n).map fun i => (cs.drop (i * sz)).take sz) = (List.range n).map fun i => ((cs.take (n * sz)).drop (i * sz)).take sz := by
      apply List.map_congr_left
      intro i hi
      have hi : i < n := by simpa using hi
      rw [List.drop_take, List.take_take]
      congr 1
      have : (i + 1) * sz ≤ n * sz := Nat.mul_le_mul_right _ hi
      rw [Nat.add_mul] at this
      omega
    rw [e, this]
    simp only [List.map_cons, List.map_nil, List.flatten_cons, List.flatten_nil, List.append_nil]
    rw [List.take_of_length_le (l := cs.drop (n * sz)) (by simp; rw [h, Nat.add_mul]; omega)]
    exact List.take_append_drop _ _

section
variable {HH : Type} {enc : TypeId × Value → HH} {base : Nat} {spare : Nat → Bool} {held : Bool}

/-- One type's statement. -/
def OpenT (P : Program) (w : World) (enc : TypeId × Value → HH) (base : Nat) (spare : Nat → Bool) (held : Bool) (d : Nat) (t : TypeId) : Prop :=
  ∀ (fuel : Nat) (cs : List Value) (x : DataW HH × List MemPlace) (M : Mp) (H : Heap), DataW.trod enc P w base spare held fuel t cs = some x → HR M H w → RoH H →
    ∃ N K acs, Adds M H w N K ∧ VL (M ++ N) acs cs ∧ WTc P (H ++ K) d t acs

theorem openL {d : Nat} : ∀ (l : List (TypeId × List Value)) (M : Mp) (H : Heap), (∀ p ∈ l, OpenT P w enc base spare held d p.1) → (∀ p ∈ l, ∃ fuel x, DataW.trod enc P w base spare held fuel p.1 p.2 = some x) → HR M H w → RoH H →
    ∃ N K acss, Adds M H w N K ∧ acss.length = l.length ∧ VL (M ++ N) (List.flatten acss) (l.map (·.2)).flatten ∧ ∀ (i : Nat) (p : TypeId × List Value) (a : List Value), l[i]? = some p → acss[i]? = some a → WTc P (H ++ K) d p.1 a
  | [], M, H, _, _, h, _ => ⟨[], [], [], .refl h, rfl, by simpa using VL.nil _, fun i p a hi => by simp at hi⟩
  | p :: l, M, H, ho, hr, h, hro => by
    obtain ⟨fuel, x, hx⟩ := hr p (by simp)
    obtain ⟨N, K, acs, h1, h2, h3⟩ := ho p (by simp) fuel p.2 x M H hx h hro
    obtain ⟨N', K', acss, g1, g2, g3, g4⟩ := openL l (M ++ N) (H ++ K) (fun q hq => ho q (by simp [hq])) (fun q hq => hr q (by simp [hq])) h1.hr (hro.app h1.ro)
    refine ⟨N ++ N', K ++ K', acs :: acss, h1.trans g1, by simp [g2], ?_, fun i q a hi ha => ?_⟩
    · simp only [List.map_cons, List.flatten_cons]
      rw [← List.append_assoc]
      exact (h2.mono (Ext.app _ _)).append g3
    · cases i with
      | zero => simp at hi ha; subst hi; subst ha; rw [← List.append_assoc]; exact h3.app
      | succ i => rw [← List.append_assoc]; exact g4 i q a (by simpa using hi) (by simpa using ha)

theorem flat_vl (M : Mp) {v : Value} (h : flat1 v = true) : VL M [v] [v] := VL.cons (VR.flat1 h) (VL.nil M)

theorem openT : ∀ (d : Nat) (t : TypeId), okD P d t = true → OpenT P w enc base (fun _ => true) held d t
  | 0, t, h => by simp [okD] at h
  | d + 1, t, h => by
    intro fuel cs x M H hx hr hro
    unfold okD at h
    split at h
    · rename_i ht
      obtain ⟨b, rfl, _⟩ := DataW.trod_bool ht hx
      exact ⟨[], [], _, .refl hr, flat_vl _ rfl, by simp only [WTc, ht]; exact ⟨by simpa using (by simpa using h : P.cellsOf t = 1).symm, b, rfl⟩⟩
    · rename_i k ht
      obtain ⟨n, rfl, _, hw⟩ := DataW.trod_int ht hx
      exact ⟨[], [], _, .refl hr, flat_vl _ rfl, by simp only [WTc, ht]; exact ⟨by simpa using (by simpa using h : P.cellsOf t = 1).symm, n, rfl, hw⟩⟩
    · rename_i ht
      obtain ⟨s, rfl, _, hs⟩ := DataW.trod_string ht hx
      exact ⟨[], [], _, .refl hr, flat_vl _ rfl, by simp only [WTc, ht]; exact ⟨by simpa using (by simpa using h : P.cellsOf t = 1).symm, s, rfl, hs⟩⟩
    · rename_i e ht
      simp only [Bool.and_eq_true, beq_iff_eq, decide_eq_true_eq] at h
      obtain ⟨⟨hc1, hc0⟩, hok⟩ := h
      rcases DataW.trod_slice ht hx with ⟨rfl, _⟩ | ⟨a, len, cap, elems, rest, n, _, rfl, _, hb, hl, hm, hlen, hel, hsp, _⟩
      · exact ⟨[], [], _, .refl hr, flat_vl _ rfl, by simp [WTc, ht, hc1]⟩
      · obtain ⟨hrl, hre⟩ := hsp rfl
        by_cases hcap : cap = 0
        · subst hcap
          have : len = 0 := by omega
          subst this
          exact ⟨[], [], [.slice (some ⟨0, 0, some 0⟩) 0 0], .refl hr, VL.cons .sliceE (VL.nil _), by simp only [WTc, ht]; exact ⟨by simp [hc1], .inr (.inl ⟨0, 0, rfl⟩)⟩⟩
        · have hall : ∀ i, i < cap → ∃ ci y, w.cells? base (a.add (i * P.cellsOf e)) (P.cellsOf e) = some ci ∧ DataW.trod enc P w base (fun _ => true) held n e ci = some y := by
            intro i hi
            by_cases h' : i < len
            · have := hel i h'
              rw [List.getElem?_eq_getElem (by omega), Option.bind_eq_some_iff] at this
              obtain ⟨ci, q1, q2⟩ := this
              exact ⟨ci, _, q1, q2⟩
            · have := hre (i - len) (by omega)
              rw [show len + (i - len) = i by omega, List.getElem?_eq_getElem (by omega), Option.bind_eq_some_iff] at this
              obtain ⟨ci, q1, q2⟩ := this
              exact ⟨ci, _, q1, q2⟩
          have hspot : a.spot = none := by
            obtain ⟨ci, y, q1, _⟩ := hall 0 (by omega)
            obtain ⟨_, q3, q4⟩ := World.cells?_some q1
            have := q4 0 hc0
            rw [List.getElem?_eq_getElem (by omega)] at this
            simp only [Nat.zero_mul] at this
            unfold World.cell? at this
            simp only [Addr.add, if_true] at this
            split at this
            · split at this
              · simp at this
              · rename_i hns; simpa using hns
            · simp at this
          obtain ⟨bl, of, sp⟩ := a
          simp only at hspot; subst hspot
          obtain ⟨c, ct, fz, hw⟩ : ∃ c ct fz, w.heap[bl]? = some (.cells c ct fz) := by
            obtain ⟨ci, y, q1, _⟩ := hall 0 (by omega)
            obtain ⟨_, q3, q4⟩ := World.cells?_some q1
            have := q4 0 hc0
            rw [List.getElem?_eq_getElem (by omega)] at this
            simp only [Nat.zero_mul] at this
            unfold World.cell? at this
            simp only [Addr.add, if_true] at this
            split at this
            · rename_i c ct fz hw; exact ⟨c, ct, fz, hw⟩
            · simp at this
          have hci : ∀ i, i < cap → w.cells? base ((⟨bl, of, none⟩ : Addr).add (i * P.cellsOf e)) (P.cellsOf e) = some ((c.toList.drop (of + i * P.cellsOf e)).take (P.cellsOf e)) ∧ of + i * P.cellsOf e + P.cellsOf e ≤ c.size := by
            intro i hi
            obtain ⟨ci, y, q1, _⟩ := hall i hi
            obtain ⟨_, q3, q4⟩ := World.cells?_some q1
            have hj : ∀ j, j < P.cellsOf e → c.toList[of + i * P.cellsOf e + j]? = ci[j]? := by
              intro j hj
              have := q4 j hj
              rw [Addr.add_lit, Addr.add_lit] at this
              unfold World.cell? at this
              simp only [hw] at this
              simpa using this
            have hsz : of + i * P.cellsOf e + P.cellsOf e ≤ c.size := by
              have := hj (P.cellsOf e - 1) (by omega)
              rw [List.getElem?_eq_getElem (l := ci) (by omega)] at this
              have := (List.getElem?_eq_some_iff.1 this).1
              simp at this; omega
            refine ⟨?_, hsz⟩
            rw [q1]; congr 1
            apply List.ext_getElem?
            intro j
            rw [List.getElem?_take, List.getElem?_drop]
            by_cases hjl : j < P.cellsOf e
            · rw [if_pos hjl, hj j hjl]
            · rw [if_neg hjl, List.getElem?_eq_none (by omega)]
          let us := (c.toList.drop of).take (cap * P.cellsOf e)
          have hul : us.length = cap * P.cellsOf e := by
            have := (hci (cap - 1) (by omega)).2
            have h2 : (cap - 1) * P.cellsOf e + P.cellsOf e = cap * P.cellsOf e := by rw [← Nat.succ_mul]; congr 1; omega
            simp [us]; omega
          let l := (List.range cap).map fun i => (e, (us.drop (i * P.cellsOf e)).take (P.cellsOf e))
          have hpc : ∀ i, i < cap → (us.drop (i * P.cellsOf e)).take (P.cellsOf e) = (c.toList.drop (of + i * P.cellsOf e)).take (P.cellsOf e) := by
            intro i hi
            simp only [us]
            rw [List.drop_take, List.take_take, List.drop_drop]
            congr 1
            have : (i + 1) * P.cellsOf e ≤ cap * P.cellsOf e := Nat.mul_le_mul_right _ hi
            rw [Nat.add_mul] at this
            omega
          obtain ⟨N, K, acss, g1, g2, g3, g4⟩ := openL (d := d) l M H (fun p hp => by
              obtain ⟨i, _, rfl⟩ := List.mem_map.1 hp
              exact openT d e hok) (fun p hp => by
              obtain ⟨i, hi, rfl⟩ := List.mem_map.1 hp
              have hi : i < cap := by simpa using hi
              obtain ⟨ci, y, q1, q2⟩ := hall i hi
              rw [(hci i hi).1] at q1
              have q1 := Option.some.inj q1
              refine ⟨n, y, ?_⟩
              simp only
              rw [hpc i hi, q1]; exact q2) hr hro
          have hfl : (l.map (·.2)).flatten = us := by
            simp only [l, List.map_map]
            exact piecesN cap _ us hul
          rw [hfl] at g3
          obtain ⟨en, k1, k2, k3, k4⟩ := addRow (sz := P.cellsOf e) (b := bl) (o := of) g1.hr (hro.app g1.ro) ⟨c, ct, fz, hw, by
            have := (hci (cap - 1) (by omega)).2
            have h2 : (cap - 1) * P.cellsOf e + P.cellsOf e = cap * P.cellsOf e := by rw [← Nat.succ_mul]; congr 1; omega
            rw [hul]; omega, by rw [hul]⟩ g3
          refine ⟨N ++ [some en], K ++ [.row acss.flatten (P.cellsOf e) false true true], [.slice (some ⟨(H ++ K).length, 0, none⟩) len cap], g1.trans k4, ?_, ?_⟩
          · refine VL.cons ?_ (VL.nil _)
            have hget : (M ++ (N ++ [some en]))[(H ++ K).length]? = some (some en) := by
              have := g1.hr.len
              rw [← List.append_assoc, ← this]; simp
            have := VR.slice (M := M ++ (N ++ [some en])) (off := 0) (len := len) (cap := cap) (c := cap) hget (.inl rfl)
            rw [k1, k2] at this
            exact this
          · simp only [WTc, ht]
            refine ⟨by simp [hc1], .inr (.inr ⟨_, len, cap, acss, rfl, hl, hm, by rw [g2]; simp [l], by omega, ?_, fun x hxm => ?_⟩)⟩
            · rw [← List.append_assoc]; simp
            · obtain ⟨i, hi⟩ := List.mem_iff_getElem?.1 hxm
              have hil : i < cap := by have := (List.getElem?_eq_some_iff.1 hi).1; rw [g2] at this; simpa [l] using this
              have := g4 i (e, (us.drop (i * P.cellsOf e)).take (P.cellsOf e)) x (by simp [l, hil]) hi
              rw [← List.append_assoc]; exact this.app
    · rename_i fs ht
      simp only [Bool.and_eq_true, List.all_eq_true] at h
      obtain ⟨hct, hok⟩ := h
      obtain ⟨xs, n, _, _, hl, hxl, hxs⟩ := DataW.trod_struct ht hx
      obtain ⟨_, hfl⟩ := pieces hct hl
      obtain ⟨N, K, acss, g1, g2, g3, g4⟩ := openL (d := d) (fs.toList.map fun f => (f.type, (cs.drop f.offset).take (P.cellsOf f.type))) M H (fun p hp => by
          obtain ⟨f, hf, rfl⟩ := List.mem_map.1 hp
          exact openT d f.type (hok f hf)) (fun p hp => by
          obtain ⟨f, hf, rfl⟩ := List.mem_map.1 hp
          obtain ⟨i, hi⟩ := List.mem_iff_getElem?.1 hf
          have hi' : fs[i]? = some f := by simpa using hi
          have hil : i < xs.length := by rw [hxl]; exact (Array.getElem?_eq_some_iff.1 hi').1
          exact ⟨n, xs[i], by rw [hxs i f hi', List.getElem?_eq_getElem hil]⟩) hr hro
      refine ⟨N, K, acss.flatten, g1, ?_, ?_⟩
      · have e : ((fs.toList.map fun f => (f.type, (cs.drop f.offset).take (P.cellsOf f.type))).map (·.2)).flatten = cs := by
          rw [List.map_map]
          have := hfl
          rw [List.drop_zero] at this
          exact this
        rw [e] at g3; exact g3
      · simp only [WTc, ht]
        refine ⟨?_, acss, by rw [g2]; simp, rfl, fun i f a hf ha => g4 i _ a (by simp only [List.getElem?_map]; rw [show fs.toList[i]? = some f by simpa using hf]; rfl) ha⟩
        have := g3.1
        rw [this, List.map_map, ← hl]
        have e := hfl
        rw [List.drop_zero] at e
        exact congrArg List.length e
    · rename_i m e ht
      simp only [Bool.and_eq_true, beq_iff_eq] at h
      obtain ⟨hct, hok⟩ := h
      obtain ⟨xs, n, _, _, hl, hxl, hxs⟩ := DataW.trod_array ht hx
      have hfl := piecesN m (P.cellsOf e) cs (by rw [hl, hct])
      obtain ⟨N, K, acss, g1, g2, g3, g4⟩ := openL (d := d) ((List.range m).map fun i => (e, (cs.drop (i * P.cellsOf e)).take (P.cellsOf e))) M H (fun p hp => by
          obtain ⟨i, hi, rfl⟩ := List.mem_map.1 hp
          exact openT d e hok) (fun p hp => by
          obtain ⟨i, hi, rfl⟩ := List.mem_map.1 hp
          have hi : i < m := by simpa using hi
          exact ⟨n, xs[i]'(by omega), by simp only; rw [hxs i hi, List.getElem?_eq_getElem (by omega)]⟩) hr hro
      have e1 : (((List.range m).map fun i => (e, (cs.drop (i * P.cellsOf e)).take (P.cellsOf e))).map (·.2)).flatten = cs := by rw [List.map_map]; exact hfl
      rw [e1] at g3
      refine ⟨N, K, acss.flatten, g1, g3, ?_⟩
      simp only [WTc, ht]
      refine ⟨by rw [g3.1, hl], acss, by rw [g2]; simp, rfl, fun a ha => ?_⟩
      obtain ⟨i, hi⟩ := List.mem_iff_getElem?.1 ha
      have him : i < m := by have := (List.getElem?_eq_some_iff.1 hi).1; rw [g2] at this; simpa using this
      exact g4 i (e, (cs.drop (i * P.cellsOf e)).take (P.cellsOf e)) a (by simp [him]) hi
    · simp at h
end

/-- What an argument's cells make of it. -/
def valOf (P : Program) (t : TypeId) (cs : List Value) : Value :=
  match P.underlying t, cs with
  | some (.struct _), cs | some (.array _ _), cs => .agg cs.toArray
  | _, [v] => v
  | _, _ => undef

end Go.Proofs.YthgfjbafhjkhnaaGreat.Zq
