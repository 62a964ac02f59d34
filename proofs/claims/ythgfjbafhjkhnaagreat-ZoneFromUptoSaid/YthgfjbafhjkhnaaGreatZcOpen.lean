/- A law's arguments: what their cells are; how long slices may be. -/
import Derived.Test.YthgfjbafhjkhnaaGreatZwOpen
import Derived.Test.YthgfjbafhjkhnaaGreatZwHeap
import Derived.SizedLaws
namespace Go.Proofs.YthgfjbafhjkhnaaGreat.Zq
section
variable {Pr : Program} {H : Heap}

/-- The kinds of cells. -/
inductive Sh where
  | b
  | i (k : IntKind)
  | s
  | sl
def ShL : List Sh → List Value → Prop
  | [], cs => cs = []
  | .b :: r, cs => ∃ x t, cs = .bool x :: t ∧ ShL r t
  | .i k :: r, cs => ∃ x t, cs = .int k x :: t ∧ ShL r t
  | .s :: r, cs => ∃ x t, cs = .string x :: t ∧ ShL r t
  | .sl :: r, cs => ∃ (x : Sl) (t : List Value), cs = x.v :: t ∧ ShL r t
theorem ShL.app : ∀ {a b : List Sh} {x y : List Value}, ShL a x → ShL b y → ShL (a ++ b) (x ++ y)
  | [], b, x, y, h, k => by
    have h : x = [] := h
    subst h; exact k
  | .b :: r, b, x, y, h, k => by obtain ⟨q, t, rfl, h⟩ := h; exact ⟨q, t ++ y, rfl, ShL.app h k⟩
  | .i _ :: r, b, x, y, h, k => by obtain ⟨q, t, rfl, h⟩ := h; exact ⟨q, t ++ y, rfl, ShL.app h k⟩
  | .s :: r, b, x, y, h, k => by obtain ⟨q, t, rfl, h⟩ := h; exact ⟨q, t ++ y, rfl, ShL.app h k⟩
  | .sl :: r, b, x, y, h, k => by obtain ⟨q, t, rfl, h⟩ := h; exact ⟨q, t ++ y, rfl, ShL.app h k⟩

def catO : List (Option (List Sh)) → Option (List Sh)
  | [] => some []
  | x :: r => match x, catO r with | some a, some b => some (a ++ b) | _, _ => none
/-- The cells of a type. -/
def shp (P : Program) : Nat → TypeId → Option (List Sh)
  | 0, _ => none
  | d + 1, t =>
    match P.underlying t with
    | some .bool => some [.b]
    | some (.int k) => some [.i k]
    | some .string => some [.s]
    | some (.slice _) => some [.sl]
    | some (.struct fs) => catO (fs.toList.map fun f => shp P d f.type)
    | some (.array n e) => catO ((List.range n).map fun _ => shp P d e)
    | _ => none

theorem catO_ok : ∀ (l : List (Option (List Sh))) (acss : List (List Value)) (ss : List Sh), acss.length = l.length → (∀ (i : Nat) o a, l[i]? = some o → acss[i]? = some a → ∀ s, o = some s → ShL s a) → catO l = some ss → ShL ss acss.flatten
  | [], [], ss, _, _, h => by simp [catO] at h; subst h; rfl
  | o :: l, a :: acss, ss, hl, hp, h => by
    simp only [catO] at h
    split at h
    · rename_i x y hy
      cases h
      rw [List.flatten_cons]
      exact ShL.app (hp 0 _ a rfl rfl x rfl) (catO_ok l acss y (by simpa using hl) (fun i o a h1 h2 => hp (i + 1) o a (by simpa using h1) (by simpa using h2)) hy)
    · cases h
  | [], _ :: _, _, h, _, _ => by simp at h
  | _ :: _, [], _, h, _, _ => by simp at h

theorem WTc.shp : ∀ {d : Nat} {t : TypeId} {cs : List Value} {ss : List Sh}, WTc Pr H d t cs → Zq.shp Pr d t = some ss → ShL ss cs
  | 0, _, _, _, h, _ => h.elim
  | d + 1, t, cs, ss, h, hs => by
    simp only [WTc] at h
    simp only [Zq.shp] at hs
    obtain ⟨_, h⟩ := h
    split at h
    · rename_i ht
      rw [ht] at hs; cases hs
      obtain ⟨b, rfl⟩ := h
      exact ⟨b, [], rfl, rfl⟩
    · rename_i ht
      rw [ht] at hs; cases hs
      obtain ⟨b, rfl, _⟩ := h
      exact ⟨b, [], rfl, rfl⟩
    · rename_i ht
      rw [ht] at hs; cases hs
      obtain ⟨b, rfl, _⟩ := h
      exact ⟨b, [], rfl, rfl⟩
    · rename_i ht
      rw [ht] at hs; cases hs
      rcases h with rfl | ⟨b, off, rfl⟩ | ⟨b, len, cap, acss, rfl, _⟩
      · exact ⟨⟨none, 0, 0⟩, [], rfl, rfl⟩
      · exact ⟨⟨some ⟨b, off, some 0⟩, 0, 0⟩, [], rfl, rfl⟩
      · exact ⟨⟨some ⟨b, 0, none⟩, len, cap⟩, [], rfl, rfl⟩
    · rename_i fs ht
      rw [ht] at hs
      obtain ⟨acss, hl, rfl, hp⟩ := h
      refine catO_ok _ acss ss (by simp [hl]) (fun i o a h1 h2 s hs => ?_) hs
      simp only [List.getElem?_map, Option.map_eq_some_iff] at h1
      obtain ⟨f, h3, h4⟩ := h1
      exact WTc.shp (hp i f a (by simpa using h3) h2) (h4.trans hs)
    · rename_i n e ht
      rw [ht] at hs
      obtain ⟨acss, hl, rfl, hp⟩ := h
      refine catO_ok _ acss ss (by simp [hl]) (fun i o a h1 h2 s hs => ?_) hs
      simp only [List.getElem?_map, Option.map_eq_some_iff] at h1
      obtain ⟨f, h3, h4⟩ := h1
      exact WTc.shp (hp a (List.mem_of_getElem? h2)) (h4.trans hs)
    · exact h.elim

/-- A slice: what it holds. -/
theorem WTc.sliceD {T : Tag} {d : Nat} {t e : TypeId} {cs : List Value} (ht : Pr.underlying t = some (.slice e)) (he : ∀ a, WTc Pr H d e a → ∃ x : T.α, a = T.cells x) (h : WTc Pr H (d + 1) t cs) :
    ∃ (s : Sl) (l : List T.α), cs = [s.v] ∧ SlR T H s l ∧ l.length ≤ maxLen ∧ ∀ d, s.p = some ⟨d, 0, none⟩ → d < H.length := by
  simp only [WTc, ht] at h
  rcases h.2 with rfl | ⟨b, off, rfl⟩ | ⟨b, len, cap, acss, rfl, h1, h2, h3, h4, h5, h6⟩
  · exact ⟨⟨none, 0, 0⟩, [], rfl, ⟨rfl, .inl rfl⟩, by simp, by simp⟩
  · exact ⟨⟨some ⟨b, off, some 0⟩, 0, 0⟩, [], rfl, ⟨rfl, .inl rfl⟩, by simp, by simp⟩
  · have : ∃ l : List T.α, l.length = acss.length ∧ acss.flatten = fl T l := by
      clear h5 h3
      induction acss with
      | nil => exact ⟨[], rfl, rfl⟩
      | cons a r ih =>
        obtain ⟨x, hx⟩ := he a (h6 a (by simp))
        obtain ⟨l, q1, q2⟩ := ih fun y hy => h6 y (by simp [hy])
        exact ⟨x :: l, by simp [q1], by simp [fl, hx, q2]⟩
    obtain ⟨l, q1, q2⟩ := this
    refine ⟨⟨some ⟨b, 0, none⟩, len, cap⟩, l.take len, rfl, ⟨by simp; omega, .inr ⟨b, fl T (l.drop len), Pr.cellsOf e, false, true, rfl, ?_⟩⟩, by simp; omega, ?_⟩
    · rw [h5, q2, ← fl_app, List.take_append_drop]
    · intro c hc
      simp at hc; subst hc
      exact get_lt h5

theorem sl_bound0 {HH : Type} {enc : TypeId × Value → HH} {W : World} {base : Nat} {spare : Nat → Bool} {held : Bool} {f : Nat} {t e : TypeId} {v : Value} {d : DataW HH} {p : List MemPlace} {M : Mp} {s : Sl}
    (ht : Pr.underlying t = some (.slice e)) (h : DataW.trod enc Pr W base spare held f t [v] = some (d, p)) (hw : ∀ n ∈ d.weights Pr t, n ≤ reachBytes) (hv : VR M s.v v) :
    s.len * Pr.bytesOf e ≤ reachBytes := by
  rcases DataW.trod_slice ht h with ⟨h1, _⟩ | ⟨a, len, cap, elems, rest, n, _, h1, h2, _, _, _, h3, _⟩
  · cases h1
    have : s.len = 0 := by cases s; unfold Sl.v at hv; cases hv; rfl
    rw [this]; omega
  · cases h1
    cases h2
    have : s.len = len := by
      cases s with
      | mk q sl sc =>
        unfold Sl.v at hv
        cases hv <;> rfl
    have hb := hw (((elems.map (·.1)).length + (rest.map (·.1)).length) * Pr.bytesOf e) (by simp [DataW.weights, ht])
    rw [this, ← h3]
    refine Nat.le_trans (Nat.mul_le_mul_right _ ?_) hb
    simp
/-- How long a slice may be, out of the reach. -/
theorem sl_bound {HH : Type} {enc : TypeId × Value → HH} {W : World} {base : Nat} {spare : Nat → Bool} {held : Bool} {t e : TypeId} {v : Value} {d : DataW HH} {p : List MemPlace} {ts : List TypeId} {ds : List (DataW HH)} {j : Nat} {M : Mp} {s : Sl}
    (ht : Pr.underlying t = some (.slice e)) (c0 : v.cells.toList = [v]) (h : DataW.Trod enc Pr W base spare held t v d p) (hz : (DataW.weightsEach Pr ts ds).all (· ≤ reachBytes) = true) (hj : ts[j]? = some t) (hd : ds[j]? = some d) (hv : VR M s.v v) :
    s.len * Pr.bytesOf e ≤ reachBytes := by
  obtain ⟨f, h⟩ := h
  rw [c0] at h
  exact sl_bound0 ht h (fun n hn => by have := List.all_eq_true.1 hz _ (DataW.weights_mem_each hj hd n hn); simpa using this) hv
/-- How long a slice in a struct may be. -/
theorem st_bound {HH : Type} {enc : TypeId × Value → HH} {W : World} {base : Nat} {spare : Nat → Bool} {held : Bool} {t e : TypeId} {fs : Array Field} {i off : Nat} {t' : TypeId} {us : Array Value} {u : Value} {d : DataW HH} {p : List MemPlace} {ts : List TypeId} {ds : List (DataW HH)} {j : Nat} {M : Mp} {s : Sl}
    (ht : Pr.underlying t = some (.struct fs)) (hf : (fs[i]?).map (fun f => (f.offset, f.type)) = some (off, t')) (hc : Pr.cellsOf t' = 1) (hft : Pr.underlying t' = some (.slice e)) (h : DataW.Trod enc Pr W base spare held t (.agg us) d p) (hz : (DataW.weightsEach Pr ts ds).all (· ≤ reachBytes) = true) (hj : ts[j]? = some t) (hd : ds[j]? = some d)
    (hu : us[off]? = some u) (hv : VR M s.v u) : s.len * Pr.bytesOf e ≤ reachBytes := by
  obtain ⟨f, hf', hq⟩ := Option.map_eq_some_iff.1 hf
  cases hq
  obtain ⟨g, h⟩ := h
  have hw : ∀ n ∈ d.weights Pr t, n ≤ reachBytes := fun n hn => by have := List.all_eq_true.1 hz _ (DataW.weights_mem_each hj hd n hn); simpa using this
  obtain ⟨xs, n, _, hx, _, hl, hp⟩ := DataW.trod_struct ht h
  cases hx
  have h1 := hp i f hf'
  have hcell : ((Value.agg us).cells.toList.drop f.offset).take (Pr.cellsOf f.type) = [u] := by
    rw [hc]
    show (us.toList.drop f.offset).take 1 = [u]
    have hlt := (Array.getElem?_eq_some_iff.1 hu).1
    rw [List.drop_eq_getElem_cons (by simpa using hlt)]
    simp only [List.take_succ_cons, List.take_zero]
    have : us[f.offset] = u := (Array.getElem?_eq_some_iff.1 hu).2
    simpa using this
  rw [hcell] at h1
  have hi : i < fs.size := (Array.getElem?_eq_some_iff.1 hf').1
  have hx : xs[i]? = some xs[i] := List.getElem?_eq_getElem (by omega)
  rw [hx] at h1
  refine sl_bound0 hft h1 (fun n hn => hw n ?_) hv
  simp only [DataW.weights, ht]
  refine DataW.weights_mem_each (j := i) (t := f.type) (d := xs[i].1) ?_ ?_ n hn
  · simp [hf']
  · simp [hx]
end

/-! ### A law's call, out of its contract -/
section
variable {P : Program}
theorem RoH.nil : RoH [] := fun b hb => by unfold writB at hb; simp at hb

theorem CALL.law {M : Mp} {H : Heap} {w : World} {g : FuncId} {args args' : List Value} (h : CALL P [T_bool] g args H fun x _ => x.1 = true) (hr : HR M H w) (hv : VL M args args') (hn : RoH H) :
    Calls P g args'.toArray w fun e w' => e = .returned (.bool true) ∧ RowKit.Below w.heap.size w w' := by
  refine EV.law (EV.mono h ?_) hr hv hn
  rintro v H' ⟨x, rfl, hx⟩
  show Value.bool x.1 = _
  rw [hx]
theorem RoH.adds {M N : Mp} {H K : Heap} {w : World} (h : RoH H) (a : Adds M H w N K) : RoH (H ++ K) := h.app a.ro
end
end Go.Proofs.YthgfjbafhjkhnaaGreat.Zq
