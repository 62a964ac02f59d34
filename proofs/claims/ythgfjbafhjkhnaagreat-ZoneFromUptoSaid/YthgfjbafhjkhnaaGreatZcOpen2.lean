/- A law's arguments: slices of structs that hold slices. -/
import Derived.Test.YthgfjbafhjkhnaaGreatZcOpen
import Derived.Test.YthgfjbafhjkhnaaGreatZcSl
namespace Go.Proofs.YthgfjbafhjkhnaaGreat.Zq
section
/- A law's arguments: slices of structs that hold slices. -/
section
variable {Pr : Program} {H : Heap}
theorem flatten_at : ∀ (acss : List (List Value)) (i : Nat) (a : List Value), acss[i]? = some a → (acss.flatten.drop ((acss.take i).map List.length).sum).take a.length = a
  | [], i, a, h => by simp at h
  | x :: r, 0, a, h => by simp at h; subst h; simp
  | x :: r, i + 1, a, h => by
    have := flatten_at r i a (by simpa using h)
    simp only [List.flatten_cons, List.take_succ_cons, List.map_cons, List.sum_cons]
    rw [← List.drop_drop, List.drop_left]; exact this
theorem lens_eq {d : Nat} {fs : List Field} : ∀ {acss : List (List Value)} (i : Nat), (∀ (j : Nat) (f : Field) (a : List Value), fs[j]? = some f → acss[j]? = some a → WTc Pr H d f.type a) → acss.length = fs.length → ((acss.take i).map List.length).sum = ((fs.take i).map fun f => Pr.cellsOf f.type).sum := by
  induction fs with
  | nil => intro acss i _ hl; have : acss = [] := List.length_eq_zero_iff.1 hl; subst this; simp
  | cons f r ih =>
    intro acss i hp hl
    cases acss with
    | nil => simp at hl
    | cons a q =>
      cases i with
      | zero => rfl
      | succ i =>
        simp only [List.take_succ_cons, List.map_cons, List.sum_cons]
        rw [(hp 0 f a rfl rfl).len, ih i (fun j g b h1 h2 => hp (j + 1) g b (by simpa using h1) (by simpa using h2)) (by simpa using hl)]
/-- A struct's field. -/
theorem WTc.fld {d : Nat} {t : TypeId} {cs : List Value} {fs : Array Field} (ht : Pr.underlying t = some (.struct fs)) {i off : Nat} {f : Field} (hf : fs[i]? = some f) (hoff : ((fs.toList.take i).map fun f => Pr.cellsOf f.type).sum = off) (h : WTc Pr H (d + 1) t cs) :
    WTc Pr H d f.type ((cs.drop off).take (Pr.cellsOf f.type)) := by
  simp only [WTc, ht] at h
  obtain ⟨_, acss, hl, rfl, hp⟩ := h
  have hi : i < fs.size := (Array.getElem?_eq_some_iff.1 hf).1
  have ha : acss[i]? = some acss[i] := List.getElem?_eq_getElem (by omega)
  have hw := hp i f _ hf ha
  have := flatten_at acss i _ ha
  rw [lens_eq (Pr := Pr) (H := H) (d := d) (fs := fs.toList) i (fun j f a h1 h2 => hp j f a (by simpa using h1) h2) (by simpa using hl), hoff, hw.len] at this
  rw [this]; exact hw

/-- A slice: what it holds, and what is known of each. -/
theorem WTc.sliceR {T : Tag} {R : T.α → Prop} {d : Nat} {t e : TypeId} {cs : List Value} (ht : Pr.underlying t = some (.slice e)) (he : ∀ a, WTc Pr H d e a → ∃ x : T.α, a = T.cells x ∧ R x) (h : WTc Pr H (d + 1) t cs) :
    ∃ (s : Sl) (l : List T.α), cs = [s.v] ∧ SlF T H s l ∧ ∀ x ∈ l, R x := by
  simp only [WTc, ht] at h
  rcases h.2 with rfl | ⟨b, off, rfl⟩ | ⟨b, len, cap, acss, rfl, h1, h2, h3, h4, h5, h6⟩
  · exact ⟨⟨none, 0, 0⟩, [], rfl, ⟨rfl, .inl ⟨rfl, rfl, rfl⟩⟩, by simp⟩
  · exact ⟨⟨some ⟨b, off, some 0⟩, 0, 0⟩, [], rfl, ⟨rfl, .inr (.inl ⟨b, off, rfl, rfl, rfl⟩)⟩, by simp⟩
  · have : ∃ l : List T.α, l.length = acss.length ∧ acss.flatten = fl T l ∧ ∀ x ∈ l, R x := by
      clear h5 h3
      induction acss with
      | nil => exact ⟨[], rfl, rfl, by simp⟩
      | cons a r ih =>
        obtain ⟨x, hx, hr⟩ := he a (h6 a (by simp))
        obtain ⟨l, q1, q2, q3⟩ := ih fun y hy => h6 y (by simp [hy])
        exact ⟨x :: l, by simp [q1], by simp [fl, hx, q2], fun y hy => by rcases List.mem_cons.1 hy with rfl | hy; exact hr; exact q3 y hy⟩
    obtain ⟨l, q1, q2, q3⟩ := this
    refine ⟨⟨some ⟨b, 0, none⟩, len, cap⟩, l.take len, rfl, ⟨by simp; omega, .inr (.inr ⟨b, [], fl T (l.drop len), Pr.cellsOf e, false, true, rfl, ?_⟩)⟩, fun x hx => q3 x (List.mem_of_mem_take hx)⟩
    rw [h5, q2, List.nil_append, ← fl_app, List.take_append_drop]
theorem Sl.v_inj {s u : Sl} (h : s.v = u.v) : s = u := by
  cases s; cases u
  simp only [Sl.v, Value.slice.injEq] at h
  obtain ⟨rfl, rfl, rfl⟩ := h; rfl
end
end

section
/- A law's arguments, opened, with a bound on how long their slices are. -/
variable {B : Nat} {P : Program} {M : Mp} {H : Heap} {w : World}

/-- Cells, of a type. -/
def WTcB (B : Nat) (P : Program) (H : Heap) : Nat → TypeId → List Value → Prop
  | 0, _, _ => False
  | d + 1, t, cs => cs.length = P.cellsOf t ∧
    match P.underlying t with
    | some .bool => ∃ b, cs = [.bool b]
    | some (.int k) => ∃ n, cs = [.int k n] ∧ (Lit.int k n).wf = true
    | some .string => ∃ s : ByteArray, cs = [.string s] ∧ s.size ≤ maxLen
    | some (.slice e) => cs = [.slice none 0 0] ∨ (∃ b off, cs = [.slice (some ⟨b, off, some 0⟩) 0 0]) ∨
        ∃ b len cap, ∃ acss : List (List Value), cs = [.slice (some ⟨b, 0, none⟩) len cap] ∧ len ≤ cap ∧ cap ≤ maxLen ∧ len ≤ B ∧ acss.length = cap ∧ 0 < cap ∧ H[b]? = some (.row acss.flatten (P.cellsOf e) false true true) ∧ ∀ a ∈ acss, WTcB B P H d e a
    | some (.struct fs) => ∃ acss : List (List Value), acss.length = fs.size ∧ cs = acss.flatten ∧ ∀ (i : Nat) (f : Field) (a : List Value), fs[i]? = some f → acss[i]? = some a → WTcB B P H d f.type a
    | some (.array n e) => ∃ acss : List (List Value), acss.length = n ∧ cs = acss.flatten ∧ ∀ a ∈ acss, WTcB B P H d e a
    | _ => False

theorem WTcB.len {d : Nat} {t : TypeId} {cs : List Value} (h : WTcB B P H d t cs) : cs.length = P.cellsOf t := by
  cases d with
  | zero => exact h.elim
  | succ d => exact h.1

theorem WTcB.app {K : Heap} : ∀ {d : Nat} {t : TypeId} {cs : List Value}, WTcB B P H d t cs → WTcB B P (H ++ K) d t cs
  | 0, _, _, h => h.elim
  | d + 1, t, cs, h => by
    simp only [WTcB] at h ⊢
    refine ⟨h.1, ?_⟩
    have h := h.2
    split at h
    · exact h
    · exact h
    · exact h
    · rcases h with h | h | ⟨b, len, cap, acss, h1, h2, h3, hB, h4, h5, h6, h7⟩
      · exact .inl h
      · exact .inr (.inl h)
      · exact .inr (.inr ⟨b, len, cap, acss, h1, h2, h3, hB, h4, h5, by rw [List.getElem?_append_left (List.getElem?_eq_some_iff.1 h6).1]; exact h6, fun a ha => (h7 a ha).app⟩)
    · obtain ⟨acss, h1, h2, h3⟩ := h
      exact ⟨acss, h1, h2, fun i f a hf ha => (h3 i f a hf ha).app⟩
    · obtain ⟨acss, h1, h2, h3⟩ := h
      exact ⟨acss, h1, h2, fun a ha => (h3 a ha).app⟩
    · exact h

section
variable {HH : Type} {S : DataW HH → Prop} {enc : TypeId × Value → HH} {base : Nat} {spare : Nat → Bool} {held : Bool}

/-- One type's statement. -/
def OpenB (B : Nat) (S : DataW HH → Prop) (P : Program) (w : World) (enc : TypeId × Value → HH) (base : Nat) (spare : Nat → Bool) (held : Bool) (d : Nat) (t : TypeId) : Prop :=
  ∀ (fuel : Nat) (cs : List Value) (x : DataW HH × List MemPlace) (M : Mp) (H : Heap), DataW.trod enc P w base spare held fuel t cs = some x → S x.1 → HR M H w → RoH H →
    ∃ N K acs, Adds M H w N K ∧ VL (M ++ N) acs cs ∧ WTcB B P (H ++ K) d t acs

theorem openLB {d : Nat} : ∀ (l : List (TypeId × List Value)) (M : Mp) (H : Heap), (∀ p ∈ l, OpenB B S P w enc base spare held d p.1) → (∀ p ∈ l, ∃ fuel x, DataW.trod enc P w base spare held fuel p.1 p.2 = some x ∧ S x.1) → HR M H w → RoH H →
    ∃ N K acss, Adds M H w N K ∧ acss.length = l.length ∧ VL (M ++ N) (List.flatten acss) (l.map (·.2)).flatten ∧ ∀ (i : Nat) (p : TypeId × List Value) (a : List Value), l[i]? = some p → acss[i]? = some a → WTcB B P (H ++ K) d p.1 a
  | [], M, H, _, _, h, _ => ⟨[], [], [], .refl h, rfl, by simpa using VL.nil _, fun i p a hi => by simp at hi⟩
  | p :: l, M, H, ho, hr, h, hro => by
    obtain ⟨fuel, x, hx, hs⟩ := hr p (by simp)
    obtain ⟨N, K, acs, h1, h2, h3⟩ := ho p (by simp) fuel p.2 x M H hx hs h hro
    obtain ⟨N', K', acss, g1, g2, g3, g4⟩ := openLB l (M ++ N) (H ++ K) (fun q hq => ho q (by simp [hq])) (fun q hq => hr q (by simp [hq])) h1.hr (hro.app h1.ro)
    refine ⟨N ++ N', K ++ K', acs :: acss, h1.trans g1, by simp [g2], ?_, fun i q a hi ha => ?_⟩
    · simp only [List.map_cons, List.flatten_cons]
      rw [← List.append_assoc]
      exact (h2.mono (Ext.app _ _)).append g3
    · cases i with
      | zero => simp at hi ha; subst hi; subst ha; rw [← List.append_assoc]; exact h3.app
      | succ i => rw [← List.append_assoc]; exact g4 i q a (by simpa using hi) (by simpa using ha)

theorem openB (hS1 : ∀ e r, S (.slice e r) → e.length ≤ B ∧ ∀ d ∈ e ++ r, S d) (hS2 : ∀ l, S (.agg l) → ∀ d ∈ l, S d) : ∀ (d : Nat) (t : TypeId), okD P d t = true → OpenB B S P w enc base (fun _ => true) held d t
  | 0, t, h => by simp [okD] at h
  | d + 1, t, h => by
    intro fuel cs x M H hx hs hr hro
    unfold okD at h
    split at h
    · rename_i ht
      obtain ⟨b, rfl, _⟩ := DataW.trod_bool ht hx
      exact ⟨[], [], _, .refl hr, flat_vl _ rfl, by simp only [WTcB, ht]; exact ⟨by simpa using (by simpa using h : P.cellsOf t = 1).symm, b, rfl⟩⟩
    · rename_i k ht
      obtain ⟨n, rfl, _, hw⟩ := DataW.trod_int ht hx
      exact ⟨[], [], _, .refl hr, flat_vl _ rfl, by simp only [WTcB, ht]; exact ⟨by simpa using (by simpa using h : P.cellsOf t = 1).symm, n, rfl, hw⟩⟩
    · rename_i ht
      obtain ⟨s, rfl, _, hs⟩ := DataW.trod_string ht hx
      exact ⟨[], [], _, .refl hr, flat_vl _ rfl, by simp only [WTcB, ht]; exact ⟨by simpa using (by simpa using h : P.cellsOf t = 1).symm, s, rfl, hs⟩⟩
    · rename_i e ht
      simp only [Bool.and_eq_true, beq_iff_eq, decide_eq_true_eq] at h
      obtain ⟨⟨hc1, hc0⟩, hok⟩ := h
      rcases DataW.trod_slice ht hx with ⟨rfl, _⟩ | ⟨a, len, cap, elems, rest, n, _, rfl, hxe, hb, hl, hm, hlen, hel, hsp, _⟩
      · exact ⟨[], [], _, .refl hr, flat_vl _ rfl, by simp [WTcB, ht, hc1]⟩
      · obtain ⟨hrl, hre⟩ := hsp rfl
        rw [hxe] at hs
        obtain ⟨hsl, hsm⟩ := hS1 _ _ hs
        rw [List.length_map, hlen] at hsl
        by_cases hcap : cap = 0
        · subst hcap
          have : len = 0 := by omega
          subst this
          exact ⟨[], [], [.slice (some ⟨0, 0, some 0⟩) 0 0], .refl hr, VL.cons .sliceE (VL.nil _), by simp only [WTcB, ht]; exact ⟨by simp [hc1], .inr (.inl ⟨0, 0, rfl⟩)⟩⟩
        · have hall : ∀ i, i < cap → ∃ ci y, w.cells? base (a.add (i * P.cellsOf e)) (P.cellsOf e) = some ci ∧ DataW.trod enc P w base (fun _ => true) held n e ci = some y ∧ S y.1 := by
            intro i hi
            by_cases h' : i < len
            · have := hel i h'
              rw [List.getElem?_eq_getElem (by omega), Option.bind_eq_some_iff] at this
              obtain ⟨ci, q1, q2⟩ := this
              exact ⟨ci, _, q1, q2, hsm _ (List.mem_append_left _ (List.mem_map.2 ⟨_, List.getElem_mem _, rfl⟩))⟩
            · have := hre (i - len) (by omega)
              rw [show len + (i - len) = i by omega, List.getElem?_eq_getElem (by omega), Option.bind_eq_some_iff] at this
              obtain ⟨ci, q1, q2⟩ := this
              exact ⟨ci, _, q1, q2, hsm _ (List.mem_append_right _ (List.mem_map.2 ⟨_, List.getElem_mem _, rfl⟩))⟩
          have hspot : a.spot = none := by
            obtain ⟨ci, y, q1, _⟩ := hall 0 (by omega)
            obtain ⟨_, q3, q4⟩ := World.cells?_some q1
            have := q4 0 hc0
            rw [List.getElem?_eq_getElem (by omega)] at this
            simp only [Nat.zero_mul] at this
            unfold World.cell? at this
            simp only [Addr.add, if_true] at this
            split at this
            · split at this
              · simp at this
              · rename_i hns; simpa using hns
            · simp at this
          obtain ⟨bl, of, sp⟩ := a
          simp only at hspot; subst hspot
          obtain ⟨c, ct, fz, hw⟩ : ∃ c ct fz, w.heap[bl]? = some (.cells c ct fz) := by
            obtain ⟨ci, y, q1, _⟩ := hall 0 (by omega)
            obtain ⟨_, q3, q4⟩ := World.cells?_some q1
            have := q4 0 hc0
            rw [List.getElem?_eq_getElem (by omega)] at this
            simp only [Nat.zero_mul] at this
            unfold World.cell? at this
            simp only [Addr.add, if_true] at this
            split at this
            · rename_i c ct fz hw; exact ⟨c, ct, fz, hw⟩
            · simp at this
          have hci : ∀ i, i < cap → w.cells? base ((⟨bl, of, none⟩ : Addr).add (i * P.cellsOf e)) (P.cellsOf e) = some ((c.toList.drop (of + i * P.cellsOf e)).take (P.cellsOf e)) ∧ of + i * P.cellsOf e + P.cellsOf e ≤ c.size := by
            intro i hi
            obtain ⟨ci, y, q1, _⟩ := hall i hi
            obtain ⟨_, q3, q4⟩ := World.cells?_some q1
            have hj : ∀ j, j < P.cellsOf e → c.toList[of + i * P.cellsOf e + j]? = ci[j]? := by
              intro j hj
              have := q4 j hj
              rw [Addr.add_lit, Addr.add_lit] at this
              unfold World.cell? at this
              simp only [hw] at this
              simpa using this
            have hsz : of + i * P.cellsOf e + P.cellsOf e ≤ c.size := by
              have := hj (P.cellsOf e - 1) (by omega)
              rw [List.getElem?_eq_getElem (l := ci) (by omega)] at this
              have := (List.getElem?_eq_some_iff.1 this).1
              simp at this; omega
            refine ⟨?_, hsz⟩
            rw [q1]; congr 1
            apply List.ext_getElem?
            intro j
            rw [List.getElem?_take, List.getElem?_drop]
            by_cases hjl : j < P.cellsOf e
            · rw [if_pos hjl, hj j hjl]
            · rw [if_neg hjl, List.getElem?_eq_none (by omega)]
          let us := (c.toList.drop of).take (cap * P.cellsOf e)
          have hul : us.length = cap * P.cellsOf e := by
            have := (hci (cap - 1) (by omega)).2
            have h2 : (cap - 1) * P.cellsOf e + P.cellsOf e = cap * P.cellsOf e := by rw [← Nat.succ_mul]; congr 1; omega
            simp [us]; omega
          let l := (List.range cap).map fun i => (e, (us.drop (i * P.cellsOf e)).take (P.cellsOf e))
          have hpc : ∀ i, i < cap → (us.drop (i * P.cellsOf e)).take (P.cellsOf e) = (c.toList.drop (of + i * P.cellsOf e)).take (P.cellsOf e) := by
            intro i hi
            simp only [us]
            rw [List.drop_take, List.take_take, List.drop_drop]
            congr 1
            have : (i + 1) * P.cellsOf e ≤ cap * P.cellsOf e := Nat.mul_le_mul_right _ hi
            rw [Nat.add_mul] at this
            omega
          obtain ⟨N, K, acss, g1, g2, g3, g4⟩ := openLB (d := d) l M H (fun p hp => by
              obtain ⟨i, _, rfl⟩ := List.mem_map.1 hp
              exact openB hS1 hS2 d e hok) (fun p hp => by
              obtain ⟨i, hi, rfl⟩ := List.mem_map.1 hp
              have hi : i < cap := by simpa using hi
              obtain ⟨ci, y, q1, q2, q3⟩ := hall i hi
              rw [(hci i hi).1] at q1
              have q1 := Option.some.inj q1
              refine ⟨n, y, ?_, q3⟩
              simp only
              rw [hpc i hi, q1]; exact q2) hr hro
          have hfl : (l.map (·.2)).flatten = us := by
            simp only [l, List.map_map]
            exact piecesN cap _ us hul
          rw [hfl] at g3
          obtain ⟨en, k1, k2, k3, k4⟩ := addRow (sz := P.cellsOf e) (b := bl) (o := of) g1.hr (hro.app g1.ro) ⟨c, ct, fz, hw, by
            have := (hci (cap - 1) (by omega)).2
            have h2 : (cap - 1) * P.cellsOf e + P.cellsOf e = cap * P.cellsOf e := by rw [← Nat.succ_mul]; congr 1; omega
            rw [hul]; omega, by rw [hul]⟩ g3
          refine ⟨N ++ [some en], K ++ [.row acss.flatten (P.cellsOf e) false true true], [.slice (some ⟨(H ++ K).length, 0, none⟩) len cap], g1.trans k4, ?_, ?_⟩
          · refine VL.cons ?_ (VL.nil _)
            have hget : (M ++ (N ++ [some en]))[(H ++ K).length]? = some (some en) := by
              have := g1.hr.len
              rw [← List.append_assoc, ← this]; simp
            have := VR.slice (M := M ++ (N ++ [some en])) (off := 0) (len := len) (cap := cap) (c := cap) hget (.inl rfl)
            rw [k1, k2] at this
            exact this
          · simp only [WTcB, ht]
            refine ⟨by simp [hc1], .inr (.inr ⟨_, len, cap, acss, rfl, hl, hm, hsl, by rw [g2]; simp [l], by omega, ?_, fun x hxm => ?_⟩)⟩
            · rw [← List.append_assoc]; simp
            · obtain ⟨i, hi⟩ := List.mem_iff_getElem?.1 hxm
              have hil : i < cap := by have := (List.getElem?_eq_some_iff.1 hi).1; rw [g2] at this; simpa [l] using this
              have := g4 i (e, (us.drop (i * P.cellsOf e)).take (P.cellsOf e)) x (by simp [l, hil]) hi
              rw [← List.append_assoc]; exact this.app
    · rename_i fs ht
      simp only [Bool.and_eq_true, List.all_eq_true] at h
      obtain ⟨hct, hok⟩ := h
      obtain ⟨xs, n, _, hxe, hl, hxl, hxs⟩ := DataW.trod_struct ht hx
      rw [hxe] at hs
      have hsm := hS2 _ hs
      obtain ⟨_, hfl⟩ := pieces hct hl
      obtain ⟨N, K, acss, g1, g2, g3, g4⟩ := openLB (d := d) (fs.toList.map fun f => (f.type, (cs.drop f.offset).take (P.cellsOf f.type))) M H (fun p hp => by
          obtain ⟨f, hf, rfl⟩ := List.mem_map.1 hp
          exact openB hS1 hS2 d f.type (hok f hf)) (fun p hp => by
          obtain ⟨f, hf, rfl⟩ := List.mem_map.1 hp
          obtain ⟨i, hi⟩ := List.mem_iff_getElem?.1 hf
          have hi' : fs[i]? = some f := by simpa using hi
          have hil : i < xs.length := by rw [hxl]; exact (Array.getElem?_eq_some_iff.1 hi').1
          exact ⟨n, xs[i], by rw [hxs i f hi', List.getElem?_eq_getElem hil], hsm _ (List.mem_map.2 ⟨_, List.getElem_mem _, rfl⟩)⟩) hr hro
      refine ⟨N, K, acss.flatten, g1, ?_, ?_⟩
      · have e : ((fs.toList.map fun f => (f.type, (cs.drop f.offset).take (P.cellsOf f.type))).map (·.2)).flatten = cs := by
          rw [List.map_map]
          have := hfl
          rw [List.drop_zero] at this
          exact this
        rw [e] at g3; exact g3
      · simp only [WTcB, ht]
        refine ⟨?_, acss, by rw [g2]; simp, rfl, fun i f a hf ha => g4 i _ a (by simp only [List.getElem?_map]; rw [show fs.toList[i]? = some f by simpa using hf]; rfl) ha⟩
        have := g3.1
        rw [this, List.map_map, ← hl]
        have e := hfl
        rw [List.drop_zero] at e
        exact congrArg List.length e
    · rename_i m e ht
      simp only [Bool.and_eq_true, beq_iff_eq] at h
      obtain ⟨hct, hok⟩ := h
      obtain ⟨xs, n, _, hxe, hl, hxl, hxs⟩ := DataW.trod_array ht hx
      rw [hxe] at hs
      have hsm := hS2 _ hs
      have hfl := piecesN m (P.cellsOf e) cs (by rw [hl, hct])
      obtain ⟨N, K, acss, g1, g2, g3, g4⟩ := openLB (d := d) ((List.range m).map fun i => (e, (cs.drop (i * P.cellsOf e)).take (P.cellsOf e))) M H (fun p hp => by
          obtain ⟨i, hi, rfl⟩ := List.mem_map.1 hp
          exact openB hS1 hS2 d e hok) (fun p hp => by
          obtain ⟨i, hi, rfl⟩ := List.mem_map.1 hp
          have hi : i < m := by simpa using hi
          exact ⟨n, xs[i]'(by omega), by simp only; rw [hxs i hi, List.getElem?_eq_getElem (by omega)], hsm _ (List.mem_map.2 ⟨_, List.getElem_mem _, rfl⟩)⟩) hr hro
      have e1 : (((List.range m).map fun i => (e, (cs.drop (i * P.cellsOf e)).take (P.cellsOf e))).map (·.2)).flatten = cs := by rw [List.map_map]; exact hfl
      rw [e1] at g3
      refine ⟨N, K, acss.flatten, g1, g3, ?_⟩
      simp only [WTcB, ht]
      refine ⟨by rw [g3.1, hl], acss, by rw [g2]; simp, rfl, fun a ha => ?_⟩
      obtain ⟨i, hi⟩ := List.mem_iff_getElem?.1 ha
      have him : i < m := by have := (List.getElem?_eq_some_iff.1 hi).1; rw [g2] at this; simpa using this
      exact g4 i (e, (cs.drop (i * P.cellsOf e)).take (P.cellsOf e)) a (by simp [him]) hi
    · simp at h
end

theorem WTcB.wt : ∀ {d : Nat} {t : TypeId} {cs : List Value}, WTcB B P H d t cs → WTc P H d t cs
  | 0, _, _, h => h.elim
  | d + 1, t, cs, h => by
    simp only [WTcB] at h
    simp only [WTc]
    refine ⟨h.1, ?_⟩
    have h := h.2
    split at h
    · rename_i ht; simp only [ht]; exact h
    · rename_i ht; simp only [ht]; exact h
    · rename_i ht; simp only [ht]; exact h
    · rename_i ht
      simp only [ht]
      rcases h with h | h | ⟨b, len, cap, acss, h1, h2, h3, hB, h4, h5, h6, h7⟩
      · exact .inl h
      · exact .inr (.inl h)
      · exact .inr (.inr ⟨b, len, cap, acss, h1, h2, h3, h4, h5, h6, fun a ha => (h7 a ha).wt⟩)
    · rename_i ht
      simp only [ht]
      obtain ⟨acss, h1, h2, h3⟩ := h
      exact ⟨acss, h1, h2, fun i f a hf ha => (h3 i f a hf ha).wt⟩
    · rename_i ht
      simp only [ht]
      obtain ⟨acss, h1, h2, h3⟩ := h
      exact ⟨acss, h1, h2, fun a ha => (h3 a ha).wt⟩
    · exact h.elim
theorem lens_eqB {d : Nat} {fs : List Field} : ∀ {acss : List (List Value)} (i : Nat), (∀ (j : Nat) (f : Field) (a : List Value), fs[j]? = some f → acss[j]? = some a → WTcB B P H d f.type a) → acss.length = fs.length → ((acss.take i).map List.length).sum = ((fs.take i).map fun f => P.cellsOf f.type).sum :=
  fun i h hl => lens_eq i (fun j f a h1 h2 => (h j f a h1 h2).wt) hl
/-- A struct's field. -/
theorem WTcB.fld {d : Nat} {t : TypeId} {cs : List Value} {fs : Array Field} (ht : P.underlying t = some (.struct fs)) {i off : Nat} {f : Field} (hf : fs[i]? = some f) (hoff : ((fs.toList.take i).map fun f => P.cellsOf f.type).sum = off) (h : WTcB B P H (d + 1) t cs) :
    WTcB B P H d f.type ((cs.drop off).take (P.cellsOf f.type)) := by
  simp only [WTcB, ht] at h
  obtain ⟨_, acss, hl, rfl, hp⟩ := h
  have hi : i < fs.size := (Array.getElem?_eq_some_iff.1 hf).1
  have ha : acss[i]? = some acss[i] := List.getElem?_eq_getElem (by omega)
  have hw := hp i f _ hf ha
  have := flatten_at acss i _ ha
  rw [lens_eqB (P := P) (H := H) (d := d) (fs := fs.toList) i (fun j f a h1 h2 => hp j f a (by simpa using h1) h2) (by simpa using hl), hoff, hw.len] at this
  rw [this]; exact hw
/-- A slice: what it holds, what is known of each, how long it is. -/
theorem WTcB.sliceR {T : Tag} {R : T.α → Prop} {d : Nat} {t e : TypeId} {cs : List Value} (ht : P.underlying t = some (.slice e)) (he : ∀ a, WTcB B P H d e a → ∃ x : T.α, a = T.cells x ∧ R x) (h : WTcB B P H (d + 1) t cs) :
    ∃ (s : Sl) (l : List T.α), cs = [s.v] ∧ SlF T H s l ∧ (∀ x ∈ l, R x) ∧ l.length ≤ B := by
  simp only [WTcB, ht] at h
  rcases h.2 with rfl | ⟨b, off, rfl⟩ | ⟨b, len, cap, acss, rfl, h1, h2, hB, h3, h4, h5, h6⟩
  · exact ⟨⟨none, 0, 0⟩, [], rfl, ⟨rfl, .inl ⟨rfl, rfl, rfl⟩⟩, by simp, by simp⟩
  · exact ⟨⟨some ⟨b, off, some 0⟩, 0, 0⟩, [], rfl, ⟨rfl, .inr (.inl ⟨b, off, rfl, rfl, rfl⟩)⟩, by simp, by simp⟩
  · have : ∃ l : List T.α, l.length = acss.length ∧ acss.flatten = fl T l ∧ ∀ x ∈ l, R x := by
      clear h5 h3
      induction acss with
      | nil => exact ⟨[], rfl, rfl, by simp⟩
      | cons a r ih =>
        obtain ⟨x, hx, hr⟩ := he a (h6 a (by simp))
        obtain ⟨l, q1, q2, q3⟩ := ih fun y hy => h6 y (by simp [hy])
        exact ⟨x :: l, by simp [q1], by simp [fl, hx, q2], fun y hy => by rcases List.mem_cons.1 hy with rfl | hy; exact hr; exact q3 y hy⟩
    obtain ⟨l, q1, q2, q3⟩ := this
    refine ⟨⟨some ⟨b, 0, none⟩, len, cap⟩, l.take len, rfl, ⟨by simp; omega, .inr (.inr ⟨b, [], fl T (l.drop len), P.cellsOf e, false, true, rfl, ?_⟩)⟩, fun x hx => q3 x (List.mem_of_mem_take hx), by simp; omega⟩
    rw [h5, q2, List.nil_append, ← fl_app, List.take_append_drop]
theorem sum_same {k : Nat} : ∀ (l : List (List Value)), (∀ a ∈ l, a.length = k) → (l.map List.length).sum = l.length * k
  | [], _ => by simp
  | a :: r, h => by
    have := sum_same r fun b hb => h b (by simp [hb])
    simp only [List.map_cons, List.sum_cons, List.length_cons]
    rw [this, h a (by simp), Nat.add_mul]; omega
/-- An array's element. -/
theorem WTcB.elt {d n : Nat} {t e : TypeId} {cs : List Value} (ht : P.underlying t = some (.array n e)) {i : Nat} (hi : i < n) (h : WTcB B P H (d + 1) t cs) : WTcB B P H d e ((cs.drop (i * P.cellsOf e)).take (P.cellsOf e)) := by
  simp only [WTcB, ht] at h
  obtain ⟨_, acss, hl, rfl, hp⟩ := h
  have ha : acss[i]? = some acss[i] := List.getElem?_eq_getElem (by omega)
  have hw := hp _ (List.getElem_mem (by omega : i < acss.length))
  have := flatten_at acss i _ ha
  rw [sum_same (k := P.cellsOf e) (acss.take i) (fun a ha => (hp a (List.mem_of_mem_take ha)).len), List.length_take, Nat.min_eq_left (by omega), hw.len] at this
  rw [this]; exact hw
theorem WTcB.eltN {d n k : Nat} {t e : TypeId} {cs : List Value} (ht : P.underlying t = some (.array n e)) (hk : P.cellsOf e = k) {i : Nat} (hi : i < n) (h : WTcB B P H (d + 1) t cs) : WTcB B P H d e ((cs.drop (i * k)).take k) := by
  subst hk; exact h.elt ht hi
end
end Go.Proofs.YthgfjbafhjkhnaaGreat.Zq
