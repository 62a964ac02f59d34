/- slices.SortFunc, at elements of one number: the kit's contract, as a proposition of ours. -/
import Derived.Test.YthgfjbafhjkhnaaGreatZcSl
import Derived.Shelf.SlSortCmp.NoneTotal
import Derived.Deep.Draws
import Derived.Test.YthgfjbafhjkhnaaGreatZcShelf
import Derived.Test.YthgfjbafhjkhnaaGreatZcOwJ
import Derived.Test.YthgfjbafhjkhnaaGreatZT
namespace Go.Proofs.YthgfjbafhjkhnaaGreat.Zq
section
/- slices.SortFunc, at elements of one number: the kit's contract, as a proposition of ours. -/
open Go.Sort Go.RowKit

/-- A row's cells are others. -/
theorem Stp.rowSet {M : Mp} {H : Heap} {w W : World} (h : HR M H w) {b : Nat} {e : Ent} {c c2 : List Value} {sz : Nat} {opn : Bool} (hk : H[b]? = some (.row c sz opn false true)) (he : M[b]? = some (some e)) (hl : c2.length = c.length)
    {a a2 : Array Value} {t : TypeId} (_hw : w.heap[e.blk]? = some (.cells a t (0, 0))) (hsz : a2.size = a.size) (hle : e.base + c2.length ≤ a2.size) (hcs : a.size = e.csz) (hv : VL M c2 ((a2.toList.drop e.base).take c2.length))
    (hWe : W.heap[e.blk]? = some (.cells a2 t (0, 0))) (hWo : ∀ k, k ≠ e.blk → W.heap[k]? = w.heap[k]?) (hWs : W.heap.size = w.heap.size) (hWos : W.os = w.os) (hWout : W.output = w.output) (hWt : W.tape = w.tape) (hWd : w.drawn ≤ W.drawn) :
    Stp M H w M (H.set b (.row c2 sz opn false true)) W := by
  have hblen : b < H.length := (List.getElem?_eq_some_iff.1 hk).1
  have hset : ∀ (j : Nat), j ≠ b → (H.set b (.row c2 sz opn false true))[j]? = H[j]? := fun j hj => by rw [List.getElem?_set_ne (Ne.symm hj)]
  have hsetb : (H.set b (.row c2 sz opn false true))[b]? = some (.row c2 sz opn false true) := by rw [List.getElem?_set_self hblen]
  have hlive : ∀ j : Nat, liveB (H.set b (.row c2 sz opn false true)) j ↔ liveB H j := by
    intro j; by_cases hj : j = b
    · subst hj; unfold liveB; rw [hsetb, hk]
    · unfold liveB; rw [hset j hj]
  have hwrit : ∀ j : Nat, writB (H.set b (.row c2 sz opn false true)) j ↔ writB H j := by
    intro j; by_cases hj : j = b
    · subst hj; unfold writB; rw [hsetb, hk]
    · unfold writB; rw [hset j hj]
  have hwb : writB H b := by unfold writB; rw [hk]; exact ⟨rfl, rfl⟩
  obtain ⟨q1, q2, q3, _⟩ := h.blk b e _ he hk
  refine ⟨.refl M, ⟨by simpa using h.len, ?_, ?_⟩, hWos, hWout, hWt, by omega, hWd, ?_, ?_, fun j hj => ⟨hj, hset j fun e0 => by subst e0; rw [he] at hj; simp at hj⟩, fun j ej hj hl _ => ⟨j, ej, hj, (hlive j).1 hl, rfl⟩⟩
  · intro j ej kj hj hkj
    by_cases hjb : j = b
    · subst hjb
      rw [he] at hj; simp at hj; subst hj
      rw [hsetb] at hkj; simp at hkj; subst hkj
      exact ⟨q1, by rw [q2, hl], q3, fun _ => ⟨a2, t, (0, 0), hWe, by rw [hsz, hcs], hle, hv, fun _ => rfl⟩⟩
    · rw [hset j hjb] at hkj
      refine (h.blk j ej kj hj hkj).same fun hlv => hWo _ ?_
      have hlj : liveB H j := by unfold liveB; rw [hkj]; cases kj <;> first | exact hlv | trivial
      exact (h.sep b j e ej (Ne.symm hjb) he hj hwb hlj).symm
  · intro j j' ej ej' hne hj hj' h1 h2
    exact h.sep j j' ej ej' hne hj hj' ((hwrit j).1 h1) ((hlive j').1 h2)
  · intro k hk2 hn
    exact hWo k fun e0 => hn b e he hwb e0.symm
  · intro j ej hj h1 _
    exact ⟨j, ej, hj, (hwrit j).1 h1, rfl⟩

theorem Stp.grown {M : Mp} {H : Heap} {w : World} (h : HR M H w) (os : Array Obj) : Stp M H w M H (grow w os) := by
  have hh : ∀ j, j < w.heap.size → (grow w os).heap[j]? = w.heap[j]? := fun j hj => by
    show (w.heap ++ os)[j]? = _
    rw [Array.getElem?_append_left hj]
  refine ⟨.refl M, ⟨h.len, fun b e k hb hk => (h.blk b e k hb hk).same fun hlv => hh _ (h.blk_lt hb ?_), h.sep⟩, rfl, rfl, rfl, by show w.heap.size ≤ (w.heap ++ os).size; simp, Nat.le_refl _, fun c hc _ => hh c hc, fun b e hb hw _ => ⟨b, e, hb, hw, rfl⟩, fun _ h => ⟨h, rfl⟩, fun b e hb hw _ => ⟨b, e, hb, hw, rfl⟩⟩
  unfold liveB; rw [hk]; cases k <;> first | exact hlv | trivial

/-! ### A heap of which nothing is written, and of which some rows alone are known -/
def frzB : ABlk → ABlk
  | .row c sz o _ l => .row c sz o true l
  | k => k
def frz (H : Heap) : Heap := H.map frzB
theorem frz_get {H : Heap} {b : Nat} {c : List Value} {sz : Nat} {o r l : Bool} (h : H[b]? = some (.row c sz o r l)) : (frz H)[b]? = some (.row c sz o true l) := by
  unfold frz; rw [List.getElem?_map, h]; rfl
theorem SlF.frz {T : Tag} {H : Heap} {s : Sl} {l : List T.α} (h : SlF T H s l) : SlF T (Zq.frz H) s l := by
  obtain ⟨h1, h2 | h2 | ⟨b, A, B, sz, o, ro, h3, h4⟩⟩ := h
  · exact ⟨h1, .inl h2⟩
  · exact ⟨h1, .inr (.inl h2)⟩
  · exact ⟨h1, .inr (.inr ⟨b, A, B, sz, o, true, h3, frz_get h4⟩)⟩
/-- A value that hangs on these blocks alone. -/
def inS (S : List Nat) : Value → Prop
  | .bool _ | .int _ _ | .string _ | .pointer none | .slice none 0 0 | .slice (some ⟨_, _, some 0⟩) 0 0 => True
  | .pointer (some a) => a.block ∈ S ∧ a.spot = none
  | .slice (some a) _ _ => a.block ∈ S ∧ a.spot = none
  | _ => False
/-- Rows that hang on one another alone. -/
def Clo (S : List Nat) (H : Heap) : Prop := ∀ b ∈ S, ∃ c sz o r l, H[b]? = some (.row c sz o r l) ∧ ∀ v ∈ c, inS S v
def msk (S : List Nat) (M : Mp) : Mp := M.zipIdx.map fun p => if p.2 ∈ S then p.1 else none
theorem msk_at {S : List Nat} {M : Mp} {b : Nat} : (msk S M)[b]? = if b ∈ S then M[b]? else M[b]?.map fun _ => none := by
  unfold msk
  rw [List.getElem?_map, List.getElem?_zipIdx]
  cases M[b]? with
  | none => simp
  | some x => simp only [Option.map_some, Nat.zero_add]; split <;> rfl
theorem msk_get {S : List Nat} {M : Mp} {b : Nat} {e : Ent} (h : (msk S M)[b]? = some (some e)) : M[b]? = some (some e) ∧ b ∈ S := by
  rw [msk_at] at h
  split at h
  · rename_i hb; exact ⟨h, hb⟩
  · cases hm : M[b]? with
    | none => rw [hm] at h; simp at h
    | some x => rw [hm] at h; simp at h
theorem msk_of {S : List Nat} {M : Mp} {b : Nat} {e : Ent} (h : M[b]? = some (some e)) (hb : b ∈ S) : (msk S M)[b]? = some (some e) := by rw [msk_at, if_pos hb]; exact h
theorem msk_vr {S : List Nat} {M : Mp} {v u : Value} (h : VR M v u) (hv : inS S v) : VR (msk S M) v u := by
  cases h with
  | bool b => exact .bool b
  | int k n => exact .int k n
  | float k n => exact .float k n
  | string s => exact .string s
  | ptr0 => exact .ptr0
  | ptr h => exact .ptr (msk_of h hv.1)
  | slice0 => exact .slice0
  | slice h hc => exact .slice (msk_of h hv.1) hc
  | sliceE => exact .sliceE
  | map0 => exact .map0
  | nilFunc => exact .nilFunc
  | nilIface => exact .nilIface
  | _ => exact hv.elim
theorem frz_hr {S : List Nat} {M : Mp} {H : Heap} {w : World} (h : HR M H w) (hc : Clo S H) : HR (msk S M) (frz H) w := by
  refine ⟨by simp [msk, frz, h.len], fun b e k hb hk => ?_, fun b b' e e' _ hb _ hw _ => ?_⟩
  · obtain ⟨h1, hS⟩ := msk_get hb
    obtain ⟨c, sz, o, r, l, h2, h3⟩ := hc b hS
    rw [frz_get h2] at hk
    simp at hk; subst hk
    obtain ⟨q1, q2, q3, q4⟩ := h.blk b e _ h1 h2
    refine ⟨q1, q2, q3, fun hl => ?_⟩
    obtain ⟨c', t, fz, g1, g2, g3, g4, _⟩ := q4 hl
    exact ⟨c', t, fz, g1, g2, g3, ⟨g4.1, fun i x u hx hu => msk_vr (g4.2 i x u hx hu) (h3 x (List.mem_of_getElem? hx))⟩, fun h => by cases h⟩
  · obtain ⟨_, hS⟩ := msk_get hb
    obtain ⟨c, sz, o, r, l, h2, _⟩ := hc b hS
    unfold writB at hw
    rw [frz_get h2] at hw
    simp at hw
theorem frz_nw {S : List Nat} {M : Mp} {H : Heap} (hc : Clo S H) : ∀ (b : Nat) (e : Ent), (msk S M)[b]? = some (some e) → ¬ writB (frz H) b := fun b e hb hw => by
  obtain ⟨_, hS⟩ := msk_get hb
  obtain ⟨c, sz, o, r, l, h2, _⟩ := hc b hS
  unfold writB at hw
  rw [frz_get h2] at hw
  simp at hw

/-- A world behind which nothing that was there has turned is that world, drawn further and grown. -/
theorem world_grown {w w' : World} (h1 : w'.os = w.os) (h2 : w'.output = w.output) (h3 : w'.tape = w.tape) (h4 : w.heap.size ≤ w'.heap.size) (h5 : w.drawn ≤ w'.drawn) (h6 : ∀ c : Nat, c < w.heap.size → w'.heap[c]? = w.heap[c]?) : ∃ q os, w' = grow (w.drewN q) os := by
  refine ⟨w'.drawn - w.drawn, w'.heap.extract w.heap.size w'.heap.size, ?_⟩
  have hh : w'.heap = w.heap ++ w'.heap.extract w.heap.size w'.heap.size := by
    apply Array.ext_getElem?
    intro i
    by_cases hi : i < w.heap.size
    · rw [h6 i hi, Array.getElem?_append_left hi]
    · rw [Array.getElem?_append_right (by omega), Array.getElem?_extract]
      by_cases hj : i < w'.heap.size
      · rw [if_pos (by omega)]; congr 1; omega
      · rw [if_neg (by omega), Array.getElem?_eq_none (by omega)]
  cases w; cases w'
  simp only at h1 h2 h3 h5 hh ⊢
  subst h1; subst h2; subst h3
  unfold grow World.drewN
  simp only [World.mk.injEq, and_true, true_and]
  exact ⟨hh, by omega⟩

section
variable {P : Program} {ρ : Go.Shelf.Ren} {α : Type} [Inhabited α]
abbrev TI1 : Tag := T_int .i64
def rowI (l : List Int) : ABlk := .row (fl TI1 l) 1 false false true
theorem flI_map (l : List Int) : fl TI1 l = l.map (Value.int .i64) := by
  induction l with
  | nil => rfl
  | cons x r ih => simp only [fl, List.flatMap_cons, List.map_cons] at ih ⊢; rw [ih]; rfl

/-- The worlds that the sort passes through. -/
theorem sort_stp {M : Mp} {H : Heap} {w : World} (h : HR M H w) (enc : α → Int) {b : Nat} {d : List α} {sp : List Int} (hk : H[b]? = some (rowI (d.map enc ++ sp))) {e : Ent} (he : M[b]? = some (some e)) (m : Nat) (os : Array Obj) (dk : Array α) (hd : dk.size = d.length) :
    Stp M H w M (H.set b (rowI (dk.toList.map enc ++ sp))) (Go.Proofs.sortWorld (fun x => Value.int .i64 (enc x)) w e.blk (e.base + 0) m dk os) := by
  obtain ⟨q1, q2, q3, q4⟩ := h.blk b e _ he hk
  obtain ⟨a, t, fz, g1, g2, g3, g4, g5⟩ := q4 rfl
  have hfz := g5 rfl; subst hfz
  have hlt : e.blk < w.heap.size := (Array.getElem?_eq_some_iff.1 g1).1
  have hlen : ∀ l : List Int, (fl TI1 l).length = l.length := fun l => by rw [flI_map]; simp
  have hL : (fl TI1 (dk.toList.map enc ++ sp)).length = (fl TI1 (d.map enc ++ sp)).length := by rw [hlen, hlen]; simp [hd]
  have hps : (putCells (fun x => Value.int .i64 (enc x)) (e.base + 0) dk a).size = a.size := by simp [putCells]
  have hpl : (putCells (fun x => Value.int .i64 (enc x)) (e.base + 0) dk a).toList.length = a.size := by rw [Array.length_toList, hps]
  have hvl : VL M (fl TI1 (dk.toList.map enc ++ sp)) (((putCells (fun x => Value.int .i64 (enc x)) (e.base + 0) dk a).toList.drop e.base).take (fl TI1 (dk.toList.map enc ++ sp)).length) := by
    refine ⟨by rw [List.length_take, List.length_drop, hpl, hL]; omega, fun i x u hx hu => ?_⟩
    have hi : i < (fl TI1 (dk.toList.map enc ++ sp)).length := (List.getElem?_eq_some_iff.1 hx).1
    rw [List.getElem?_take, if_pos hi, List.getElem?_drop, Array.getElem?_toList] at hu
    unfold putCells at hu
    rw [Array.getElem?_mapIdx, Option.map_eq_some_iff] at hu
    obtain ⟨y, hy, hu⟩ := hu
    rw [flI_map, List.getElem?_map, Option.map_eq_some_iff] at hx
    obtain ⟨z, hz, rfl⟩ := hx
    by_cases hik : i < dk.size
    · rw [if_pos (by omega)] at hu
      rw [List.getElem?_append_left (by simpa using hik), List.getElem?_map, Option.map_eq_some_iff] at hz
      obtain ⟨v, hv, rfl⟩ := hz
      have : dk[e.base + i - (e.base + 0)]! = v := by
        rw [show e.base + i - (e.base + 0) = i by omega]
        rw [Array.getElem?_toList] at hv
        rw [getElem!_def, hv]
      rw [this] at hu; subst hu
      exact .int _ _
    · rw [if_neg (by omega)] at hu
      subst hu
      refine g4.2 i _ _ ?_ ?_
      · rw [flI_map, List.getElem?_map, Option.map_eq_some_iff]
        refine ⟨z, ?_, rfl⟩
        rw [List.getElem?_append_right (by simp; omega)] at hz ⊢
        simp only [List.length_map, Array.length_toList] at hz ⊢
        rw [← hd]; exact hz
      · rw [hL] at hi
        rw [List.getElem?_take, if_pos hi, List.getElem?_drop, Array.getElem?_toList]; exact hy
  have S1 : Stp M H w M (H.set b (rowI (dk.toList.map enc ++ sp))) (putRow (fun x => Value.int .i64 (enc x)) (Go.Sort.ahead w m) e.blk (e.base + 0) dk) := by
    refine Stp.rowSet h hk he hL g1 hps (by rw [hps, hL]; exact g3) g2 hvl ?_ (fun k hne => ?_) ?_ rfl rfl rfl ?_
    · show (w.heap.modify e.blk _)[e.blk]? = _
      rw [Array.getElem?_modify, if_pos rfl, g1]; rfl
    · show (w.heap.modify e.blk _)[k]? = _
      rw [Array.getElem?_modify, if_neg (Ne.symm hne)]
    · show (w.heap.modify e.blk _).size = _
      simp
    · show w.drawn ≤ w.drawn + m; omega
  exact S1.trans (Stp.grown S1.hr os)

theorem sortFunc_ev (L : Go.Proofs.SlLaysF.n6 P ρ) (hfn : ∃ fn, P.funcs[ρ.f 6]? = some fn ∧ fn.body.isSome = true ∧ (fn.name == "runtime.NumGoroutine") = false) (enc : α → Int) (cf : α → α → Int) (hO : SWO (Go.Proofs.ltOf cf))
    {H : Heap} {b cap : Nat} {d : List α} {sp : List Int} (hk : H[b]? = some (rowI (d.map enc ++ sp))) (hsz : d.length < 4611686018427387904) {g : FuncId} {cv : List Value} (eg : ∀ args w, (callFunc g args).run P w = .ok (.enter g args) w) {S : List Nat} (hS : ∀ dk : List α, dk.length = d.length → Clo S (H.set b (rowI (dk.map enc ++ sp))))
    (hcv : ∀ v ∈ cv, inS S v) (hcmp : ∀ dk : List α, dk.length = d.length → ∀ x y, EV P g ([.int .i64 (enc x), .int .i64 (enc y)] ++ cv) (frz (H.set b (rowI (dk.map enc ++ sp)))) fun v _ => v = .int .i64 (cf x y))
    {Q : Heap → Prop} (hq : ∀ d' : List α, d'.Perm d → (∀ i j : Nat, i < j → ∀ x y, d'[i]? = some x → d'[j]? = some y → Go.Proofs.ltOf cf y x = false) → Q (H.set b (rowI (d'.map enc ++ sp)))) :
    CALL P [] (ρ.f 6) [.slice (some ⟨b, 0, none⟩) d.length cap, .func (.func g) #[] cv.toArray] H fun _ H' => Q H' := by
  refine ⟨hfn, fun n M w args' hr hv => ?_⟩
  obtain ⟨v1, vs1, rfl, h1, hv1⟩ := hv.of_cons
  obtain ⟨v2, vs2, rfl, h2, hv2⟩ := hv1.of_cons
  have := hv2.of_nil; subst this
  obtain ⟨e, c, he, hc, rfl⟩ := h1.of_slice
  obtain ⟨cb, rfl, hcb⟩ : ∃ cb : Array Value, v2 = .func (.func g) #[] cb ∧ VL M cv cb.toList := by
    cases h2 with
    | func hx hy gx gy =>
      rename_i us vs
      have : us = #[] := Array.eq_empty_of_size_eq_zero (by simpa using hx.symm)
      subst this
      exact ⟨vs, rfl, by simpa using hy, fun i x u hx hu => gy i x u (by simpa using hx) (by simpa using hu)⟩
  obtain ⟨q1, q2, q3, q4⟩ := hr.blk b e _ he hk
  obtain ⟨a, t, fz, g1, g2, g3, g4, g5⟩ := q4 rfl
  have hfz := g5 rfl; subst hfz
  have hlt : e.blk < w.heap.size := (Array.getElem?_eq_some_iff.1 g1).1
  have hH : Holds (fun x => Value.int .i64 (enc x)) w e.blk (e.base + 0) d.toArray := fun j hj => by
    have hj' : j < d.length := by simpa using hj
    have hx : (fl TI1 (d.map enc ++ sp))[j]? = some (.int .i64 (enc d[j])) := by
      rw [flI_map, List.getElem?_map, List.getElem?_append_left (by simpa using hj'), List.getElem?_map, List.getElem?_eq_getElem hj']; rfl
    have hjl := (List.getElem?_eq_some_iff.1 hx).1
    have hu : ((a.toList.drop e.base).take (fl TI1 (d.map enc ++ sp)).length)[j]? = a[e.base + j]? := by
      rw [List.getElem?_take, if_pos hjl, List.getElem?_drop, Array.getElem?_toList]
    have hin : e.base + j < a.size := by omega
    have := g4.2 j _ a[e.base + j] hx (by rw [hu]; exact Array.getElem?_eq_getElem hin)
    have := this.of_int
    refine ⟨?_, ?_⟩
    · simp only [World.cell?, g1]
      rw [if_neg (by simp), show e.base + 0 + j = e.base + j by omega, Array.getElem?_eq_getElem hin, this]
      congr 3
      simp [hj']
    · simp only [World.frozen?, g1]; simp
  have hl : Go.Proofs.CmpLays1 P g cb (fun x => Value.int .i64 (enc x)) cf e.blk (e.base + 0) d.toArray.size w := fun m os dk hs x y => by
    have hs' : dk.size = d.length := by simpa using hs
    have st := sort_stp hr enc hk he m os dk hs'
    have hclo := hS dk.toList (by simpa using hs')
    have hev := (hcmp dk.toList (by simpa using hs') x y).2 0 (msk S M) _ ([.int .i64 (enc x), .int .i64 (enc y)] ++ cb.toList) (frz_hr st.hr hclo) (by
      refine VL.cons (.int _ _) (VL.cons (.int _ _) ⟨hcb.1, fun i p q hp hq => msk_vr (hcb.2 i p q hp hq) (hcv p (List.mem_of_getElem? hp))⟩))
    have hca := callsIn_wide.1 hev
    have eargs : ([Value.int .i64 (enc x), Value.int .i64 (enc y)] ++ cb.toList).toArray = #[Value.int .i64 (enc x), Value.int .i64 (enc y)] ++ cb := by apply Array.ext'; simp
    rw [eargs] at hca
    refine hca.mono ?_
    rintro en w' ⟨v, v', M', H', rfl, s2, hvr, rfl⟩
    have := hvr.of_int; subst this
    exact ⟨rfl, world_grown s2.os s2.output s2.tape s2.size s2.dr fun c hc2 => s2.frame c hc2 fun b' e' hb' hw' _ => frz_nw hclo b' e' hb' hw'⟩
  have hsf := Go.Proofs.Any.slices_SortFunc L (fun x => Value.int .i64 (enc x)) (fun x => rfl) cf hO g cb e.blk (e.base + 0) c d.toArray w eg hl hH hlt (by simpa using hsz)
  have hsz2 : d.toArray.size = d.length := by simp
  rw [hsz2] at hsf
  refine callsIn_wide.2 (hsf.mono ?_)
  rintro en w' ⟨rfl, d', m, os, hp, hso, rfl⟩
  obtain ⟨p1, p2, p3⟩ := hp
  have hd's : d'.size = d.length := by simpa using p1
  have hperm : d'.toList.Perm d := by
    have e1 : d'.extract 0 d.length = d' := by rw [← hd's]; simp
    have e2 : d.toArray.extract 0 d.length = d.toArray := by simp
    rw [e1, e2] at p3
    simpa using p3
  refine ⟨_, _, M, _, rfl, sort_stp hr enc hk he m os d' hd's, VR.tuple rfl (fun i x u h _ => by simp at h), (), rfl, hq d'.toList hperm fun i j hij x y hx hy => ?_⟩
  rw [Array.getElem?_toList] at hx hy
  have hj : j < d'.size := (Array.getElem?_eq_some_iff.1 hy).1
  have := hso i j (Nat.zero_le _) hij (by omega)
  rw [getElem!_def, getElem!_def, hx, hy] at this
  exact this
end
end

section
/- slices.Sort and slices.SortFunc of []int: the kit's contracts, as propositions of ours. -/
open Go.Sort Go.RowKit Zv
/-- A sort of nothing. -/
theorem none_ev {P : Program} {f : FuncId} (hfn : ∃ fn, P.funcs[f]? = some fn ∧ fn.body.isSome = true ∧ (fn.name == "runtime.NumGoroutine") = false) {H : Heap} {p : Option Addr} {cap : Nat} {us : List Value}
    (hs : ∀ (p : Option Addr) (cap : Nat) (vs : List Value) (w : World), vs.length = us.length → Calls P f (.slice p 0 cap :: vs).toArray w fun e w' => e = .returned (.tuple #[]) ∧ w' = w) {Q : Unit → Heap → Prop} (hq : Q () H) : CALL P [] f (.slice p 0 cap :: us) H Q := by
  refine ⟨hfn, fun n M w args' hr hv => ?_⟩
  obtain ⟨v1, vs1, rfl, h1, hv1⟩ := hv.of_cons
  obtain ⟨q, c, rfl⟩ : ∃ q c, v1 = .slice q 0 c := by cases h1 <;> exact ⟨_, _, rfl⟩
  refine callsIn_wide.2 ((hs q c vs1 w (by have := hv1.1; exact this.symm)).mono ?_)
  rintro en w' ⟨rfl, rfl⟩
  exact ⟨.tuple #[], _, M, H, rfl, .refl hr, VR.tuple rfl (fun i x u h _ => by simp at h), (), rfl, hq⟩

/-- slices.Sort of []int. -/
theorem sortI_ev {P : Program} {f : FuncId} (hfn : ∃ fn, P.funcs[f]? = some fn ∧ fn.body.isSome = true ∧ (fn.name == "runtime.NumGoroutine") = false)
    (hs : ∀ (blk off cap : Nat) (zs : List Int) (w : World), Holds (Value.int .i64) w blk off zs.toArray → blk < w.heap.size → zs.length < 4611686018427387904 → Calls P f #[.slice (some ⟨blk, off, none⟩) zs.length cap] w fun e w' => e = .returned (.tuple #[]) ∧ ∃ n os, w' = grow (putRow (Value.int .i64) (Go.Sort.ahead w n) blk off (zs.mergeSort fun x y => decide (x ≤ y)).toArray) os)
    {H : Heap} {b cap : Nat} {d sp : List Int} (hk : H[b]? = some (rowI (d ++ sp))) (hsz : d.length < 4611686018427387904) {Q : Unit → Heap → Prop} (hq : Q () (H.set b (rowI ((d.mergeSort fun x y => decide (x ≤ y)) ++ sp)))) :
    CALL P [] f [.slice (some ⟨b, 0, none⟩) d.length cap] H Q := by
  refine ⟨hfn, fun n M w args' hr hv => ?_⟩
  obtain ⟨v1, vs1, rfl, h1, hv1⟩ := hv.of_cons
  have := hv1.of_nil; subst this
  obtain ⟨e, c, he, hc, rfl⟩ := h1.of_slice
  have hk' : H[b]? = some (rowI (d.map (fun x => x) ++ sp)) := by rw [List.map_id']; exact hk
  obtain ⟨q1, q2, q3, q4⟩ := hr.blk b e _ he hk
  obtain ⟨a, t, fz, g1, g2, g3, g4, g5⟩ := q4 rfl
  have hfz := g5 rfl; subst hfz
  have hlt : e.blk < w.heap.size := (Array.getElem?_eq_some_iff.1 g1).1
  have hH : Holds (Value.int .i64) w e.blk (e.base + 0) d.toArray := fun j hj => by
    have hj' : j < d.length := by simpa using hj
    have hx : (fl TI1 (d ++ sp))[j]? = some (.int .i64 d[j]) := by
      rw [flI_map, List.getElem?_map, List.getElem?_append_left hj', List.getElem?_eq_getElem hj']; rfl
    have hjl := (List.getElem?_eq_some_iff.1 hx).1
    have hu : ((a.toList.drop e.base).take (fl TI1 (d ++ sp)).length)[j]? = a[e.base + j]? := by
      rw [List.getElem?_take, if_pos hjl, List.getElem?_drop, Array.getElem?_toList]
    have hin : e.base + j < a.size := by omega
    have := g4.2 j _ a[e.base + j] hx (by rw [hu]; exact Array.getElem?_eq_getElem hin)
    have := this.of_int
    refine ⟨?_, ?_⟩
    · simp only [World.cell?, g1]
      rw [if_neg (by simp), show e.base + 0 + j = e.base + j by omega, Array.getElem?_eq_getElem hin, this]
      congr 3
      simp [hj']
    · simp only [World.frozen?, g1]; simp
  refine callsIn_wide.2 ((hs e.blk (e.base + 0) c d w hH hlt hsz).mono ?_)
  rintro en w' ⟨rfl, m, os, rfl⟩
  have st := sort_stp hr (fun x : Int => x) (d := d) hk' he m os (d.mergeSort fun x y => decide (x ≤ y)).toArray (by simp)
  simp only [List.map_id'] at st
  exact ⟨.tuple #[], _, M, _, rfl, st, VR.tuple rfl (fun i x u h _ => by simp at h), (), rfl, hq⟩

abbrev TNs : Tag := T_int .i64
/-- slices.Sort of what is owned. -/
theorem sort_c {H : Heap} {s : Sl} {l sp : List Int} (h : Ow TNs H s l sp) (hl : l.length ≤ 4611686018427387) {Q : Unit → Heap → Prop} (hq : ∀ H', Ow TNs H' s (l.mergeSort fun x y => decide (x ≤ y)) sp → After s H H' → Q () H') : CALL P [] n_slices_Sort_int_int [s.v] H Q := by
  have hfn : ∃ fn, P.funcs[n_slices_Sort_int_int]? = some fn ∧ fn.body.isSome = true ∧ (fn.name == "runtime.NumGoroutine") = false := ⟨_, lays189.f189, by kernel_rfl, by kernel_rfl⟩
  obtain ⟨h1, h2, h0, ⟨h3, h4, h5⟩ | ⟨c, h3, h4⟩⟩ := id h
  · obtain ⟨p, n, cp⟩ := s
    simp only at h1; subst h1; subst h4
    refine none_ev hfn (us := []) (fun p cap vs w hv => ?_) (hq H (by simpa using h) (.refl _ _))
    have : vs = [] := List.length_eq_zero_iff.1 hv
    subst this
    exact slices_Sort_int_none p cap w
  · obtain ⟨p, n, cp⟩ := s
    simp only at h1 h2 h3; subst h1; subst h3
    refine sortI_ev hfn slices_Sort_int h4 (by omega) (hq _ ⟨by simp, by simpa using h2, h0, .inr ⟨c, rfl, ?_⟩⟩ ⟨by simp, fun d _ hd => by rw [List.getElem?_set_ne (by rintro rfl; exact hd rfl)]⟩)
    rw [set_get (get_lt h4)]; rfl
end
end Go.Proofs.YthgfjbafhjkhnaaGreat.Zq
