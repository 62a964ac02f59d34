/- Part 6 of the proof of TargetLone: what its row stands on (lemmas about the model, the evaluator, contracts of functions), put together and cut to what is used. -/
import Derived.Test.YtolekmhhkopooaaGreatDoorKTargetLone5
import Derived.Shelf.SlSortCmp.NoneTotal
import Derived.Deep.Draws
section
namespace Go.Proofs.YtolekmhhkopooaaGreatDoor.Zq
section
open Go.Sort Go.RowKit
theorem Stp.rowSet {M : Mp} {H : Heap} {w W : World} (h : HR M H w) {b : Nat} {e : Ent} {c c2 : List Value} {sz : Nat} {opn : Bool} (hk : H[b]? = some (.row c sz opn false true)) (he : M[b]? = some (some e)) (hl : c2.length = c.length)
  {a a2 : Array Value} {t : TypeId} (_hw : w.heap[e.blk]? = some (.cells a t (0, 0))) (hsz : a2.size = a.size) (hle : e.base + c2.length ≤ a2.size) (hcs : a.size = e.csz) (hv : VL M c2 ((a2.toList.drop e.base).take c2.length))
  (hWe : W.heap[e.blk]? = some (.cells a2 t (0, 0))) (hWo : ∀ k, k ≠ e.blk -> W.heap[k]? = w.heap[k]?) (hWs : W.heap.size = w.heap.size) (hWos : W.os = w.os) (hWout : W.output = w.output) (hWt : W.tape = w.tape) (hWd : w.drawn ≤ W.drawn) :
  Stp M H w M (H.set b (.row c2 sz opn false true)) W := by
 have hblen : b < H.length := (List.getElem?_eq_some_iff.1 hk).1
 have hset : ∀ (j : Nat), j ≠ b -> (H.set b (.row c2 sz opn false true))[j]? = H[j]? := fun j hj => by rw [List.getElem?_set_ne (Ne.symm hj)]
 have hsetb : (H.set b (.row c2 sz opn false true))[b]? = some (.row c2 sz opn false true) := by rw [List.getElem?_set_self hblen]
 have hlive : ∀ j : Nat, liveB (H.set b (.row c2 sz opn false true)) j ↔ liveB H j := by
  intro j; by_cases hj : j = b
  ·subst hj; unfold liveB; rw [hsetb, hk]
  ·unfold liveB; rw [hset j hj]
 have hwrit : ∀ j : Nat, writB (H.set b (.row c2 sz opn false true)) j ↔ writB H j := by
  intro j; by_cases hj : j = b
  ·subst hj; unfold writB; rw [hsetb, hk]
  ·unfold writB; rw [hset j hj]
 have hwb : writB H b := by unfold writB; rw [hk]; exact ⟨rfl, rfl⟩
 obtain ⟨q1, q2, q3, _⟩ := h.blk b e _ he hk
 refine ⟨.refl M, ⟨by simpa using h.len, ?_, ?_⟩, hWos, hWout, hWt, by omega, hWd, ?_, ?_, fun j hj => ⟨hj, hset j fun e0 => by subst e0; rw [he] at hj; simp at hj⟩, fun j ej hj hl _ => ⟨j, ej, hj, (hlive j).1 hl, rfl⟩⟩
 ·intro j ej kj hj hkj
  by_cases hjb : j = b
  ·subst hjb
   rw [he] at hj; simp at hj; subst hj
   rw [hsetb] at hkj; simp at hkj; subst hkj
   exact ⟨q1, by rw [q2, hl], q3, fun _ => ⟨a2, t, (0, 0), hWe, by rw [hsz, hcs], hle, hv, fun _ => rfl⟩⟩
  ·rw [hset j hjb] at hkj
   refine (h.blk j ej kj hj hkj).same fun hlv => hWo _ ?_
   have hlj : liveB H j := by unfold liveB; rw [hkj]; cases kj <;> first | exact hlv | trivial
   exact (h.sep b j e ej (Ne.symm hjb) he hj hwb hlj).symm
 ·intro j j' ej ej' hne hj hj' h1 h2
  exact h.sep j j' ej ej' hne hj hj' ((hwrit j).1 h1) ((hlive j').1 h2)
 ·intro k hk2 hn
  exact hWo k fun e0 => hn b e he hwb e0.symm
 ·intro j ej hj h1 _
  exact ⟨j, ej, hj, (hwrit j).1 h1, rfl⟩
theorem Stp.grown {M : Mp} {H : Heap} {w : World} (h : HR M H w) (os : Array Obj) : Stp M H w M H (grow w os) := by
 have hh : ∀ j, j < w.heap.size -> (grow w os).heap[j]? = w.heap[j]? := fun j hj => by
  show (w.heap ++ os)[j]? = _
  rw [Array.getElem?_append_left hj]
 refine ⟨.refl M, ⟨h.len, fun b e k hb hk => (h.blk b e k hb hk).same fun hlv => hh _ (h.blk_lt hb ?_), h.sep⟩, rfl, rfl, rfl, by show w.heap.size ≤ (w.heap ++ os).size; simp, Nat.le_refl _, fun c hc _ => hh c hc, fun b e hb hw _ => ⟨b, e, hb, hw, rfl⟩, fun _ h => ⟨h, rfl⟩, fun b e hb hw _ => ⟨b, e, hb, hw, rfl⟩⟩
 unfold liveB; rw [hk]; cases k <;> first | exact hlv | trivial
def frzB : ABlk -> ABlk
 | .row c sz o _ l => .row c sz o true l
 | k => k
def frz (H : Heap) : Heap := H.map frzB
theorem frz_get {H : Heap} {b : Nat} {c : List Value} {sz : Nat} {o r l : Bool} (h : H[b]? = some (.row c sz o r l)) : (frz H)[b]? = some (.row c sz o true l) := by
 unfold frz; rw [List.getElem?_map, h]; rfl
theorem SlF.frz {T : Tag} {H : Heap} {s : Sl} {l : List T.α} (h : SlF T H s l) : SlF T (Zq.frz H) s l := by
 obtain ⟨h1, h2 | h2 | ⟨b, A, B, sz, o, ro, h3, h4⟩⟩ := h
 ·exact ⟨h1, .inl h2⟩
 ·exact ⟨h1, .inr (.inl h2)⟩
 ·exact ⟨h1, .inr (.inr ⟨b, A, B, sz, o, true, h3, frz_get h4⟩)⟩
def inS (S : List Nat) : Value -> Prop
 | .bool _ | .int _ _ | .string _ | .pointer none | .slice none 0 0 | .slice (some ⟨_, _, some 0⟩) 0 0 => True
 | .pointer (some a) => a.block ∈ S ∧ a.spot = none
 | .slice (some a) _ _ => a.block ∈ S ∧ a.spot = none
 | _ => False
def Clo (S : List Nat) (H : Heap) : Prop := ∀ b ∈ S, ∃ c sz o r l, H[b]? = some (.row c sz o r l) ∧ ∀ v ∈ c, inS S v
def msk (S : List Nat) (M : Mp) : Mp := M.zipIdx.map fun p => if p.2 ∈ S then p.1 else none
theorem msk_at {S : List Nat} {M : Mp} {b : Nat} : (msk S M)[b]? = if b ∈ S then M[b]? else M[b]?.map fun _ => none := by
 unfold msk
 rw [List.getElem?_map, List.getElem?_zipIdx]
 cases M[b]? with
 | none => simp
 | some x => simp only [Option.map_some, Nat.zero_add]; split <;> rfl
theorem msk_get {S : List Nat} {M : Mp} {b : Nat} {e : Ent} (h : (msk S M)[b]? = some (some e)) : M[b]? = some (some e) ∧ b ∈ S := by
 rw [msk_at] at h
 split at h
 ·rename_i hb; exact ⟨h, hb⟩
 ·cases hm : M[b]? with
  | none => rw [hm] at h; simp at h
  | some x => rw [hm] at h; simp at h
theorem msk_of {S : List Nat} {M : Mp} {b : Nat} {e : Ent} (h : M[b]? = some (some e)) (hb : b ∈ S) : (msk S M)[b]? = some (some e) := by rw [msk_at, if_pos hb]; exact h
theorem msk_vr {S : List Nat} {M : Mp} {v u : Value} (h : VR M v u) (hv : inS S v) : VR (msk S M) v u := by
 cases h with
 | bool b => exact .bool b
 | int k n => exact .int k n
 | float k n => exact .float k n
 | string s => exact .string s
 | ptr0 => exact .ptr0
 | ptr h => exact .ptr (msk_of h hv.1)
 | slice0 => exact .slice0
 | slice h hc => exact .slice (msk_of h hv.1) hc
 | sliceE => exact .sliceE
 | map0 => exact .map0
 | nilFunc => exact .nilFunc
 | nilIface => exact .nilIface
 | _ => exact hv.elim
theorem frz_hr {S : List Nat} {M : Mp} {H : Heap} {w : World} (h : HR M H w) (hc : Clo S H) : HR (msk S M) (frz H) w := by
 refine ⟨by simp [msk, frz, h.len], fun b e k hb hk => ?_, fun b b' e e' _ hb _ hw _ => ?_⟩
 ·obtain ⟨h1, hS⟩ := msk_get hb
  obtain ⟨c, sz, o, r, l, h2, h3⟩ := hc b hS
  rw [frz_get h2] at hk
  simp at hk; subst hk
  obtain ⟨q1, q2, q3, q4⟩ := h.blk b e _ h1 h2
  refine ⟨q1, q2, q3, fun hl => ?_⟩
  obtain ⟨c', t, fz, g1, g2, g3, g4, _⟩ := q4 hl
  exact ⟨c', t, fz, g1, g2, g3, ⟨g4.1, fun i x u hx hu => msk_vr (g4.2 i x u hx hu) (h3 x (List.mem_of_getElem? hx))⟩, fun h => by cases h⟩
 ·obtain ⟨_, hS⟩ := msk_get hb
  obtain ⟨c, sz, o, r, l, h2, _⟩ := hc b hS
  unfold writB at hw
  rw [frz_get h2] at hw
  simp at hw
theorem frz_nw {S : List Nat} {M : Mp} {H : Heap} (hc : Clo S H) : ∀ (b : Nat) (e : Ent), (msk S M)[b]? = some (some e) -> ¬ writB (frz H) b := fun b e hb hw => by
 obtain ⟨_, hS⟩ := msk_get hb
 obtain ⟨c, sz, o, r, l, h2, _⟩ := hc b hS
 unfold writB at hw
 rw [frz_get h2] at hw
 simp at hw
theorem world_grown {w w' : World} (h1 : w'.os = w.os) (h2 : w'.output = w.output) (h3 : w'.tape = w.tape) (h4 : w.heap.size ≤ w'.heap.size) (h5 : w.drawn ≤ w'.drawn) (h6 : ∀ c : Nat, c < w.heap.size -> w'.heap[c]? = w.heap[c]?) : ∃ q os, w' = grow (w.drewN q) os := by
 refine ⟨w'.drawn - w.drawn, w'.heap.extract w.heap.size w'.heap.size, ?_⟩
 have hh : w'.heap = w.heap ++ w'.heap.extract w.heap.size w'.heap.size := by
  apply Array.ext_getElem?
  intro i
  by_cases hi : i < w.heap.size
  ·rw [h6 i hi, Array.getElem?_append_left hi]
  ·rw [Array.getElem?_append_right (by omega), Array.getElem?_extract]
   by_cases hj : i < w'.heap.size
   ·rw [if_pos (by omega)]; congr 1; omega
   ·rw [if_neg (by omega), Array.getElem?_eq_none (by omega)]
 cases w; cases w'
 simp only at h1 h2 h3 h5 hh ⊢
 subst h1; subst h2; subst h3
 unfold grow World.drewN
 simp only [World.mk.injEq, and_true, true_and]
 exact ⟨hh, by omega⟩
section
variable {P : Program} {ρ : Go.Shelf.Ren} {α : Type} [Inhabited α]
abbrev TI1 : Tag := T_int .i64
def rowI (l : List Int) : ABlk := .row (fl TI1 l) 1 false false true
theorem flI_map (l : List Int) : fl TI1 l = l.map (Value.int .i64) := by
 induction l with
 | nil => rfl
 | cons x r ih => simp only [fl, List.flatMap_cons, List.map_cons] at ih ⊢; rw [ih]; rfl
theorem sort_stp {M : Mp} {H : Heap} {w : World} (h : HR M H w) (enc : α -> Int) {b : Nat} {d : List α} {sp : List Int} (hk : H[b]? = some (rowI (d.map enc ++ sp))) {e : Ent} (he : M[b]? = some (some e)) (m : Nat) (os : Array Obj) (dk : Array α) (hd : dk.size = d.length) :
  Stp M H w M (H.set b (rowI (dk.toList.map enc ++ sp))) (Go.Proofs.sortWorld (fun x => Value.int .i64 (enc x)) w e.blk (e.base + 0) m dk os) := by
 obtain ⟨q1, q2, q3, q4⟩ := h.blk b e _ he hk
 obtain ⟨a, t, fz, g1, g2, g3, g4, g5⟩ := q4 rfl
 have hfz := g5 rfl; subst hfz
 have hlt : e.blk < w.heap.size := (Array.getElem?_eq_some_iff.1 g1).1
 have hlen : ∀ l : List Int, (fl TI1 l).length = l.length := fun l => by rw [flI_map]; simp
 have hL : (fl TI1 (dk.toList.map enc ++ sp)).length = (fl TI1 (d.map enc ++ sp)).length := by rw [hlen, hlen]; simp [hd]
 have hps : (putCells (fun x => Value.int .i64 (enc x)) (e.base + 0) dk a).size = a.size := by simp [putCells]
 have hpl : (putCells (fun x => Value.int .i64 (enc x)) (e.base + 0) dk a).toList.length = a.size := by rw [Array.length_toList, hps]
 have hvl : VL M (fl TI1 (dk.toList.map enc ++ sp)) (((putCells (fun x => Value.int .i64 (enc x)) (e.base + 0) dk a).toList.drop e.base).take (fl TI1 (dk.toList.map enc ++ sp)).length) := by
  refine ⟨by rw [List.length_take, List.length_drop, hpl, hL]; omega, fun i x u hx hu => ?_⟩
  have hi : i < (fl TI1 (dk.toList.map enc ++ sp)).length := (List.getElem?_eq_some_iff.1 hx).1
  rw [List.getElem?_take, if_pos hi, List.getElem?_drop, Array.getElem?_toList] at hu
  unfold putCells at hu
  rw [Array.getElem?_mapIdx, Option.map_eq_some_iff] at hu
  obtain ⟨y, hy, hu⟩ := hu
  rw [flI_map, List.getElem?_map, Option.map_eq_some_iff] at hx
  obtain ⟨z, hz, rfl⟩ := hx
  by_cases hik : i < dk.size
  ·rw [if_pos (by omega)] at hu
   rw [List.getElem?_append_left (by simpa using hik), List.getElem?_map, Option.map_eq_some_iff] at hz
   obtain ⟨v, hv, rfl⟩ := hz
   have : dk[e.base + i - (e.base + 0)]! = v := by
    rw [show e.base + i - (e.base + 0) = i by omega]
    rw [Array.getElem?_toList] at hv
    rw [getElem!_def, hv]
   rw [this] at hu; subst hu
   exact .int _ _
  ·rw [if_neg (by omega)] at hu
   subst hu
   refine g4.2 i _ _ ?_ ?_
   ·rw [flI_map, List.getElem?_map, Option.map_eq_some_iff]
    refine ⟨z, ?_, rfl⟩
    rw [List.getElem?_append_right (by simp; omega)] at hz ⊢
    simp only [List.length_map, Array.length_toList] at hz ⊢
    rw [← hd]; exact hz
   ·rw [hL] at hi
    rw [List.getElem?_take, if_pos hi, List.getElem?_drop, Array.getElem?_toList]; exact hy
 have S1 : Stp M H w M (H.set b (rowI (dk.toList.map enc ++ sp))) (putRow (fun x => Value.int .i64 (enc x)) (Go.Sort.ahead w m) e.blk (e.base + 0) dk) := by
  refine Stp.rowSet h hk he hL g1 hps (by rw [hps, hL]; exact g3) g2 hvl ?_ (fun k hne => ?_) ?_ rfl rfl rfl ?_
  ·show (w.heap.modify e.blk _)[e.blk]? = _
   rw [Array.getElem?_modify, if_pos rfl, g1]; rfl
  ·show (w.heap.modify e.blk _)[k]? = _
   rw [Array.getElem?_modify, if_neg (Ne.symm hne)]
  ·show (w.heap.modify e.blk _).size = _
   simp
  ·show w.drawn ≤ w.drawn + m; omega
 exact S1.trans (Stp.grown S1.hr os)
theorem sortFunc_ev (L : Go.Proofs.SlLaysF.n6 P ρ) (hfn : ∃ fn, P.funcs[ρ.f 6]? = some fn ∧ fn.body.isSome = true ∧ (fn.name == "runtime.NumGoroutine") = false) (enc : α -> Int) (cf : α -> α -> Int) (hO : SWO (Go.Proofs.ltOf cf))
  {H : Heap} {b cap : Nat} {d : List α} {sp : List Int} (hk : H[b]? = some (rowI (d.map enc ++ sp))) (hsz : d.length < 4611686018427387904) {g : FuncId} {cv : List Value} (eg : ∀ args w, (callFunc g args).run P w = .ok (.enter g args) w) {S : List Nat} (hS : ∀ dk : List α, dk.length = d.length -> Clo S (H.set b (rowI (dk.map enc ++ sp))))
  (hcv : ∀ v ∈ cv, inS S v) (hcmp : ∀ dk : List α, dk.length = d.length -> ∀ x y, EV P g ([.int .i64 (enc x), .int .i64 (enc y)] ++ cv) (frz (H.set b (rowI (dk.map enc ++ sp)))) fun v _ => v = .int .i64 (cf x y))
  {Q : Heap -> Prop} (hq : ∀ d' : List α, d'.Perm d -> (∀ i j : Nat, i < j -> ∀ x y, d'[i]? = some x -> d'[j]? = some y -> Go.Proofs.ltOf cf y x = false) -> Q (H.set b (rowI (d'.map enc ++ sp)))) :
  CALL P [] (ρ.f 6) [.slice (some ⟨b, 0, none⟩) d.length cap, .func (.func g) #[] cv.toArray] H fun _ H' => Q H' := by
 refine ⟨hfn, fun n M w args' hr hv => ?_⟩
 obtain ⟨v1, vs1, rfl, h1, hv1⟩ := hv.of_cons
 obtain ⟨v2, vs2, rfl, h2, hv2⟩ := hv1.of_cons
 have := hv2.of_nil; subst this
 obtain ⟨e, c, he, hc, rfl⟩ := h1.of_slice
 obtain ⟨cb, rfl, hcb⟩ : ∃ cb : Array Value, v2 = .func (.func g) #[] cb ∧ VL M cv cb.toList := by
  cases h2 with
  | func hx hy gx gy =>
   rename_i us vs
   have : us = #[] := Array.eq_empty_of_size_eq_zero (by simpa using hx.symm)
   subst this
   exact ⟨vs, rfl, by simpa using hy, fun i x u hx hu => gy i x u (by simpa using hx) (by simpa using hu)⟩
 obtain ⟨q1, q2, q3, q4⟩ := hr.blk b e _ he hk
 obtain ⟨a, t, fz, g1, g2, g3, g4, g5⟩ := q4 rfl
 have hfz := g5 rfl; subst hfz
 have hlt : e.blk < w.heap.size := (Array.getElem?_eq_some_iff.1 g1).1
 have hH : Holds (fun x => Value.int .i64 (enc x)) w e.blk (e.base + 0) d.toArray := fun j hj => by
  have hj' : j < d.length := by simpa using hj
  have hx : (fl TI1 (d.map enc ++ sp))[j]? = some (.int .i64 (enc d[j])) := by
   rw [flI_map, List.getElem?_map, List.getElem?_append_left (by simpa using hj'), List.getElem?_map, List.getElem?_eq_getElem hj']; rfl
  have hjl := (List.getElem?_eq_some_iff.1 hx).1
  have hu : ((a.toList.drop e.base).take (fl TI1 (d.map enc ++ sp)).length)[j]? = a[e.base + j]? := by
   rw [List.getElem?_take, if_pos hjl, List.getElem?_drop, Array.getElem?_toList]
  have hin : e.base + j < a.size := by omega
  have := g4.2 j _ a[e.base + j] hx (by rw [hu]; exact Array.getElem?_eq_getElem hin)
  have := this.of_int
  refine ⟨?_, ?_⟩
  ·simp only [World.cell?, g1]
   rw [if_neg (by simp), show e.base + 0 + j = e.base + j by omega, Array.getElem?_eq_getElem hin, this]
   congr 3
   simp [hj']
  ·simp only [World.frozen?, g1]; simp
 have hl : Go.Proofs.CmpLays1 P g cb (fun x => Value.int .i64 (enc x)) cf e.blk (e.base + 0) d.toArray.size w := fun m os dk hs x y => by
  have hs' : dk.size = d.length := by simpa using hs
  have st := sort_stp hr enc hk he m os dk hs'
  have hclo := hS dk.toList (by simpa using hs')
  have hev := (hcmp dk.toList (by simpa using hs') x y).2 0 (msk S M) _ ([.int .i64 (enc x), .int .i64 (enc y)] ++ cb.toList) (frz_hr st.hr hclo) (by
   refine VL.cons (.int _ _) (VL.cons (.int _ _) ⟨hcb.1, fun i p q hp hq => msk_vr (hcb.2 i p q hp hq) (hcv p (List.mem_of_getElem? hp))⟩))
  have hca := callsIn_wide.1 hev
  have eargs : ([Value.int .i64 (enc x), Value.int .i64 (enc y)] ++ cb.toList).toArray = #[Value.int .i64 (enc x), Value.int .i64 (enc y)] ++ cb := by apply Array.ext'; simp
  rw [eargs] at hca
  refine hca.mono ?_
  rintro en w' ⟨v, v', M', H', rfl, s2, hvr, rfl⟩
  have := hvr.of_int; subst this
  exact ⟨rfl, world_grown s2.os s2.output s2.tape s2.size s2.dr fun c hc2 => s2.frame c hc2 fun b' e' hb' hw' _ => frz_nw hclo b' e' hb' hw'⟩
 have hsf := Go.Proofs.Any.slices_SortFunc L (fun x => Value.int .i64 (enc x)) (fun x => rfl) cf hO g cb e.blk (e.base + 0) c d.toArray w eg hl hH hlt (by simpa using hsz)
 have hsz2 : d.toArray.size = d.length := by simp
 rw [hsz2] at hsf
 refine callsIn_wide.2 (hsf.mono ?_)
 rintro en w' ⟨rfl, d', m, os, hp, hso, rfl⟩
 obtain ⟨p1, p2, p3⟩ := hp
 have hd's : d'.size = d.length := by simpa using p1
 have hperm : d'.toList.Perm d := by
  have e1 : d'.extract 0 d.length = d' := by rw [← hd's]; simp
  have e2 : d.toArray.extract 0 d.length = d.toArray := by simp
  rw [e1, e2] at p3
  simpa using p3
 refine ⟨_, _, M, _, rfl, sort_stp hr enc hk he m os d' hd's, VR.tuple rfl (fun i x u h _ => by simp at h), (), rfl, hq d'.toList hperm fun i j hij x y hx hy => ?_⟩
 rw [Array.getElem?_toList] at hx hy
 have hj : j < d'.size := (Array.getElem?_eq_some_iff.1 hy).1
 have := hso i j (Nat.zero_le _) hij (by omega)
 rw [getElem!_def, getElem!_def, hx, hy] at this
 exact this
end
end
section
open Go.Sort Go.RowKit Zv
theorem none_ev {P : Program} {f : FuncId} (hfn : ∃ fn, P.funcs[f]? = some fn ∧ fn.body.isSome = true ∧ (fn.name == "runtime.NumGoroutine") = false) {H : Heap} {p : Option Addr} {cap : Nat} {us : List Value}
  (hs : ∀ (p : Option Addr) (cap : Nat) (vs : List Value) (w : World), vs.length = us.length -> Calls P f (.slice p 0 cap :: vs).toArray w fun e w' => e = .returned (.tuple #[]) ∧ w' = w) {Q : Unit -> Heap -> Prop} (hq : Q () H) : CALL P [] f (.slice p 0 cap :: us) H Q := by
 refine ⟨hfn, fun n M w args' hr hv => ?_⟩
 obtain ⟨v1, vs1, rfl, h1, hv1⟩ := hv.of_cons
 obtain ⟨q, c, rfl⟩ : ∃ q c, v1 = .slice q 0 c := by cases h1 <;> exact ⟨_, _, rfl⟩
 refine callsIn_wide.2 ((hs q c vs1 w (by have := hv1.1; exact this.symm)).mono ?_)
 rintro en w' ⟨rfl, rfl⟩
 exact ⟨.tuple #[], _, M, H, rfl, .refl hr, VR.tuple rfl (fun i x u h _ => by simp at h), (), rfl, hq⟩
end
end Go.Proofs.YtolekmhhkopooaaGreatDoor.Zq
end
section
namespace Go.Proofs.YtolekmhhkopooaaGreatDoor.Zq
open Zv
section
open Go.Proofs Go.RowKit
abbrev Tg := G_api_Thing
abbrev TT' : Tag := T_G_api_Thing
abbrev TF : Tag := T_G_api_Feature
abbrev TN' : Tag := T_int .i64
theorem hTT' (x : Tg) : (TT'.cells x).length = TT'.n := rfl
theorem hTF (x : G_api_Feature) : (TF.cells x).length = TF.n := rfl
theorem hTN' (x : Int) : (TN'.cells x).length = TN'.n := rfl
variable {H : Heap}
def flatV : Value -> Prop
 | .bool _ | .int _ _ | .string _ => True
 | _ => False
theorem flatV.inS {S : List Nat} {v : Value} (h : flatV v) : inS S v := by
 cases v <;> first | trivial | exact h.elim
theorem idx_stamp' {s : Sl} {l : List Tg} (h : SlF TT' H s l) {i : Int} {n : Nat} {x : Tg} (hi : i = n) (hx : l[n]? = some x) {K : Int -> Prop} (hK : K x.Stamp) : IDX s.p s.len i 11 fun b o => LD TN' H b (o + 3) K := by
 have hl := (List.getElem?_eq_some_iff.1 hx).1
 obtain ⟨h1, ⟨_, h2, _⟩ | ⟨_, _, _, h2, _⟩ | ⟨b, A, B, z, o, ro, h3, h4⟩⟩ := h
 ·subst h2; simp at hl
 ·subst h2; simp at hl
 ·subst hi
  unfold IDX NIL
  rw [h3]
  refine ⟨⟨by omega, by omega⟩, ?_⟩
  refine LD_of (T := TN') x.Stamp (A ++ (fl TT' (l.take n) ++ (TT'.cells x).take 3)) ((TT'.cells x).drop 4 ++ (fl TT' (l.drop (n + 1)) ++ B)) h4 ?_ ?_ rfl hK
  ·rw [fl_cut (T := TT') l n x hx]; simp [List.append_assoc]
  ·rw [List.length_append, List.length_append, fl_len hTT', List.length_take, Nat.min_eq_left (by omega), Int.toNat_natCast]
   show A.length + n * 11 + 3 = A.length + (n * 11 + 3); omega
theorem ord1_c {cb : Nat} {s : Sl} {ts : List Tg} (hc : ∃ sz o ro, H[cb]? = some (.row [s.v] sz o ro true)) (hs : SlF TT' H s ts) {i j : Nat} {x y : Tg} (hi : ts[i]? = some x) (hj : ts[j]? = some y)
  (hx : 1 ≤ x.Stamp ∧ x.Stamp ≤ 9223372036854775807) (hy : 1 ≤ y.Stamp ∧ y.Stamp ≤ 9223372036854775807) {Q : Int × Unit -> Heap -> Prop} (hq : Q (x.Stamp - y.Stamp, ()) H) : CALL P [TN'] n_layer_setup_1 [.int .i64 (i : Int), .int .i64 (j : Int), .pointer (some ⟨cb, 0, none⟩)] H Q := by
 apply c_layer_setup_1 (c0 := (cb, 0))
 unfold S_layer_setup_1
 obtain ⟨sz, o, ro, hc⟩ := hc
 have ld : ∀ k : Sl -> Prop, k s -> LD T_sl H cb 0 k := fun k hk => LD_of (T := T_sl) s [] [] hc rfl rfl rfl hk
 refine ld _ (idx_stamp' hs rfl hi (ld _ (idx_stamp' hs rfl hj ?_)))
 rw [i64w (by omega) (by omega)]
 exact hq
theorem exists_map' {α : Type} {enc : α -> Int} : ∀ l : List Int, (∀ m ∈ l, ∃ x, enc x = m) -> ∃ d : List α, d.map enc = l
 | [], _ => ⟨[], rfl⟩
 | m :: r, h => by
  obtain ⟨x, hx⟩ := h m (by simp)
  obtain ⟨d, hd⟩ := exists_map' r fun m hm => h m (by simp [hm])
  exact ⟨x :: d, by simp [hx, hd]⟩
def stampAt (ts : List Tg) (k : Nat) : Int := ((ts[k]?).map (·.Stamp)).getD 0
def Flat (H : Heap) (s : Sl) : Prop := ∀ d off, s.p = some ⟨d, off, none⟩ -> ∃ c sz o r l, H[d]? = some (.row c sz o r l) ∧ ∀ v ∈ c, flatV v
def sblk (s : Sl) : List Nat := match s.p with | some ⟨d, _, none⟩ => [d] | _ => []
theorem osort_c {H0 H3 : Heap} {vb : Nat} {a1 so : Sl} {ts : List Tg} {l sp : List Int} (n1 : NewO TN' H0 so H3 l sp) (hv : ∃ sz, H3[vb]? = some (.row [a1.v] sz false false true)) (hs : SlF TT' H3 a1 ts) (hf : Flat H3 a1) (hvb : vb < H0.length) (htb : ∀ d off, a1.p = some ⟨d, off, none⟩ -> d < H0.length)
  (hl : ∀ m ∈ l, ∃ (k : Nat) (t : Tg), m = k ∧ ts[k]? = some t ∧ 1 ≤ t.Stamp ∧ t.Stamp ≤ 9223372036854775807) (hll : l.length ≤ 100) {Q : Unit -> Heap -> Prop}
  (hq : ∀ H' l', l'.Perm l -> (∀ (i j : Nat) a b, i < j -> l'[i]? = some a -> l'[j]? = some b -> stampAt ts a.toNat ≤ stampAt ts b.toNat) -> NewO TN' H0 so H' l' sp -> After so H3 H' -> Q () H') :
  CALL P [] n_slices_SortFunc_int_int [so.v, .func (.func n_layer_setup_1) #[] #[.pointer (some ⟨vb, 0, none⟩)]] H3 Q := by
 have hfn : ∃ fn, P.funcs[n_slices_SortFunc_int_int]? = some fn ∧ fn.body.isSome = true ∧ (fn.name == "runtime.NumGoroutine") = false := by
  obtain ⟨nm, hnm, hf⟩ := laysF.f6
  exact ⟨_, hf, by kernel_rfl, hnm⟩
 by_cases hne : l = []
 ·subst hne
  obtain ⟨o1, o2, o0, o3⟩ := id n1.1
  obtain ⟨p, n, cp⟩ := so
  simp only at o1; simp at o1; subst o1
  refine none_ev hfn (us := [_]) (fun p cap vs w hv => ?_) (hq H3 [] (List.Perm.refl _) (fun i j a b _ h => by simp at h) n1 (.refl _ _))
  obtain ⟨v, rfl⟩ := List.length_eq_one_iff.1 hv
  exact slices_SortFunc_none (α := Int) p cap v w
 obtain ⟨o1, o2, o0, ⟨o3, o4, o5⟩ | ⟨c, o3, o4⟩⟩ := id n1.1
 ·exact absurd o4 hne
 have hcl := get_lt o4
 have hc1 : H0.length ≤ c := n1.2.1 c o3
 let A := { k : Nat // ∃ t, ts[k]? = some t ∧ 1 ≤ t.Stamp ∧ t.Stamp ≤ 9223372036854775807 }
 let enc : A -> Int := fun k => (k.1 : Int)
 let cf : A -> A -> Int := fun x y => stampAt ts x.1 - stampAt ts y.1
 obtain ⟨d, hd⟩ : ∃ d : List A, d.map enc = l := exists_map' l fun m hm => by
  obtain ⟨k, t, rfl, h1, h2⟩ := hl m hm
  exact ⟨⟨k, t, h1, h2⟩, rfl⟩
 have hdl : d.length = l.length := by rw [← hd]; simp
 have inst : Inhabited A := ⟨d.head (fun e => hne (by rw [← hd, e]; rfl))⟩
 obtain ⟨p, n, cp⟩ := so
 simp only at o1 o2 o3; subst o3
 rw [← hdl] at o1; subst o1
 rw [← hd] at o4
 have hO : Go.Sort.SWO (ltOf cf) := by
  have e : ∀ x y, ltOf cf x y = decide (stampAt ts x.1 < stampAt ts y.1) := fun x y => by
   simp only [ltOf, cf]; congr 1; rw [eq_iff_iff]; omega
  refine ⟨fun x => by rw [e]; simp, fun x y w => ?_, fun x y w => ?_⟩
  ·simp only [e, decide_eq_true_eq]; omega
  ·simp only [e, decide_eq_false_iff_not]; omega
 have hsb : ∀ e ∈ sblk a1, ∃ off, a1.p = some ⟨e, off, none⟩ := fun e he => by
  unfold sblk at he
  split at he
  ·rename_i d off hp; simp at he; subst he; exact ⟨off, hp⟩
  ·cases he
 have hcS : c ∉ vb :: sblk a1 := fun hm => by
  rcases List.mem_cons.1 hm with e | hm
  ·omega
  ·obtain ⟨off, hp⟩ := hsb c hm
   have := htb c off hp; omega
 have hav : inS (vb :: sblk a1) a1.v := by
  obtain ⟨q, n', cp'⟩ := a1
  obtain ⟨g1, ⟨g2, g3, g4⟩ | ⟨b', off', g2, g3, g4⟩ | ⟨b', A', B', z', o', ro', g2, _⟩⟩ := id hs
  ·simp only at g1 g2 g4; subst g2; subst g3; subst g4; simp at g1; subst g1; exact trivial
  ·simp only at g1 g2 g4; subst g2; subst g3; subst g4; simp at g1; subst g1; exact trivial
  ·simp only at g2; subst g2
   exact ⟨List.mem_cons_of_mem _ (by simp [sblk]), rfl⟩
 obtain ⟨vsz, hv⟩ := hv
 have hS : ∀ r : ABlk, Clo (vb :: sblk a1) (H3.set c r) := fun r d hd => by
  have hdc : d ≠ c := fun e => hcS (e ▸ hd)
  rw [List.getElem?_set_ne (Ne.symm hdc)]
  rcases List.mem_cons.1 hd with rfl | hm
  ·refine ⟨_, _, _, _, _, hv, fun v hv => ?_⟩
   simp at hv; subst hv
   exact hav
  ·obtain ⟨off, hp⟩ := hsb d hm
   obtain ⟨c', sz, o, r', l', h1, h2⟩ := hf d off hp
   exact ⟨c', sz, o, r', l', h1, fun v hv => (h2 v hv).inS⟩
 have hcmp : ∀ dk : List A, dk.length = d.length -> ∀ x y, EV P n_layer_setup_1 ([.int .i64 (enc x), .int .i64 (enc y)] ++ [.pointer (some ⟨vb, 0, none⟩)]) (frz (H3.set c (rowI (dk.map enc ++ sp)))) fun v _ => v = .int .i64 (cf x y) := fun dk _ x y => by
  have hget : ∀ e : Nat, e ≠ c -> (H3.set c (rowI (dk.map enc ++ sp)))[e]? = H3[e]? := fun e he => List.getElem?_set_ne (Ne.symm he)
  obtain ⟨kx, tx, hx1, hx2⟩ := x
  obtain ⟨ky, ty, hy1, hy2⟩ := y
  have ex : cf ⟨kx, tx, hx1, hx2⟩ ⟨ky, ty, hy1, hy2⟩ = tx.Stamp - ty.Stamp := by simp [cf, stampAt, hx1, hy1]
  refine EV.mono (ord1_c (cb := vb) (s := a1) (ts := ts) ⟨_, _, _, frz_get (by rw [hget _ (by omega)]; exact hv)⟩ ?_ hx1 hy1 hx2 hy2 (Q := fun r _ => r.1 = tx.Stamp - ty.Stamp) rfl) ?_
  ·have hfr : Frs [c] H3 (H3.set c (rowI (dk.map enc ++ sp))) := Frs.set _ _ (by simp)
   exact (hs.frs hfr (fun e he off hp => by
    simp at he; subst he
    have := htb e off hp; omega)).frz
  ·rintro v H' ⟨r, rfl, hr⟩
   obtain ⟨r, _⟩ := r
   simp only at hr; subst hr
   rw [ex]; rfl
 have eg : ∀ args w, (callFunc n_layer_setup_1 args).run P w = .ok (.enter n_layer_setup_1 args) w := by
  obtain ⟨fn, hf, hb, hn⟩ := (hcmp d rfl default default).1
  obtain ⟨c, hc⟩ := Option.isSome_iff_exists.1 hb
  exact enters_of hf hn hc
 exact sortFunc_ev (P := P) (ρ := laysF_ren) laysF hfn (α := A) enc cf hO (H := H3) (b := c) (cap := cp) (d := d) (sp := sp) o4 (by omega) (g := n_layer_setup_1) (cv := [.pointer (some ⟨vb, 0, none⟩)]) eg (S := vb :: sblk a1) (fun dk _ => hS _)
  (fun v hv => by simp at hv; subst hv; exact ⟨List.mem_cons_self, rfl⟩) hcmp (Q := fun H' => Q () H')
  (fun d' hp hso => by
   refine hq _ (d'.map enc) (by rw [← hd]; exact hp.map enc) (fun i j a b hij ha hb => ?_) ⟨⟨by simp [hp.length_eq], by simp only; rw [List.length_map, hp.length_eq, hdl]; exact o2, o0, .inr ⟨c, rfl, by rw [set_get hcl]; rfl⟩⟩, fun e he => by simp at he; subst he; omega, n1.2.2.then (Frs.set (B := [c]) _ _ (by simp)) fun e he => by simp at he; subst he; exact .inr hc1⟩ ⟨by simp, fun e _ he => by rw [List.getElem?_set_ne (by rintro rfl; exact he rfl)]⟩
   rw [List.getElem?_map, Option.map_eq_some_iff] at ha hb
   obtain ⟨x, hx, rfl⟩ := ha
   obtain ⟨y, hy, rfl⟩ := hb
   have := hso i j hij x y hx hy
   simp only [ltOf, cf, decide_eq_false_iff_not] at this
   show stampAt ts ((x.1 : Int)).toNat ≤ stampAt ts ((y.1 : Int)).toNat
   rw [Int.toNat_natCast, Int.toNat_natCast]
   omega)
end
end Go.Proofs.YtolekmhhkopooaaGreatDoor.Zq
end
section
namespace Go.Proofs.YtolekmhhkopooaaGreatDoor.Zq
open Zv
section
variable {H : Heap} {b m : Nat} {se : Bool} {B : List Cd} {ms : List G_api_MarkInfo}
theorem pfind_c (h : BP m H b se B ms) {t : ByteArray} {Q : Int × Int × Unit -> Heap -> Prop} (hq : ∀ i e : Int, e ≠ 1 -> Q (i, e, ()) H) : CALL P [TN', TN'] n_book_Book_Find [.pointer (some ⟨b, 0, none⟩), .string t] H Q := by
 apply c_book_Book_Find
 unfold S_book_Book_Find
 refine pnone_c h (ifB_f rfl (pplace_c h ?_))
 obtain ⟨⟨cs, ns, w, hc⟩, _⟩ := h
 refine JOIN_inv (fun _ H' => H' = H) (fun j hj => w.ld_se rfl (ifB_of (fun _ => hj _ _ rfl) (fun _ => hj _ _ rfl))) ?_
 rintro _ _ rfl
 exact ifB_of (fun _ => hq _ _ (by decide)) (fun _ => hq _ _ (by decide))
theorem pat_c (h : BP m H b se B ms) (okB : OkB B) {n : Int} {Q : G_api_Card × Int × Unit -> Heap -> Prop} (q6 : (se = false ∨ n < 1 ∨ (B.length : Int) < n) -> Q (zC, 6, ()) H)
  (q0 : ∀ c g H', se = true -> 1 ≤ n -> B[(n - 1).toNat]? = some c -> CR H.length H' g c -> Frs [] H H' -> Q (g, 0, ()) H') : CALL P [TC, TN'] n_book_Book_At [.pointer (some ⟨b, 0, none⟩), .int .i64 n] H Q := by
 apply c_book_Book_At
 unfold S_book_Book_At
 refine pnone_c h (ifB_f rfl ?_)
 have few := h.few
 obtain ⟨⟨cs, ns, w, hc⟩, _, lt, ml⟩ := id h
 refine hJ (se = false ∨ n < 1 ∨ (B.length : Int) < n) (fun j hj => w.ld_se rfl (ifB_of (fun e => hj _ ?_) (fun e => ifD (fun h1 => hj _ ?_) (fun h1 => w.ld_n rfl (hj _ ?_))))) q6 (fun hN => ?_)
 ·simp only [true_iff]; exact .inl (by simpa using e)
 ·simp only [true_iff]; exact .inr (.inl h1)
 ·have : ¬ se = false := by simpa using e
  simp only [decide_eq_true_eq]; constructor
  ·exact fun q => .inr (.inr q)
  ·rintro (q | q | q)
   ·exact absurd q this
   ·exact absurd q h1
   ·exact q
 ·have hse : se = true := by cases hs : se with | true => rfl | false => exact absurd (.inl hs) hN
  have h1 : ¬ n < 1 := fun q => hN (.inr (.inl q))
  have h2 : ¬ (B.length : Int) < n := fun q => hN (.inr (.inr q))
  have hx : B[(n - 1).toNat]? = some (B[(n - 1).toNat]'(by omega)) := List.getElem?_eq_getElem (by omega)
  generalize (B[(n - 1).toNat]'(by omega)) = c at hx
  obtain ⟨g, hg, cr⟩ := hc _ c hx
  have hp4 : c.ps.length ≤ 4 := by
   have := okB.ok c (List.mem_of_getElem? hx)
   unfold chkC at this
   by_cases hf : chkF c = 0
   ·exact chkF_len hf
   ·rw [if_neg hf] at this; exact absurd this hf
  rw [i64w (x := n - 1) (by omega) (by omega)]
  refine ⟨⟨by omega, by omega⟩, w.ld_card hg (by simp) (ccopy_c cr.p (by omega) fun s H' hs lo f => q0 c _ H' hse (by omega) hx ⟨by rw [← cr.e]; rfl, hs, lo⟩ f)⟩
theorem tcard_c (h : BP m H b se B ms) (okB : OkB B) {t : Tg} {Q : G_api_Card × Int × Unit -> Heap -> Prop} (q6 : (se = false ∨ t.Card < 1 ∨ (B.length : Int) < t.Card) -> Q (zC, 6, ()) H)
  (q0 : ∀ c g H', se = true -> 1 ≤ t.Card -> B[(t.Card - 1).toNat]? = some c -> CR H.length H' g c -> Frs [] H H' -> Q (g, 0, ()) H') : CALL P [TC, TN'] n_thing_Card [.pointer (some ⟨b, 0, none⟩), TT'.enc t] H Q := by
 apply c_thing_Card
 unfold S_thing_Card
 exact pat_c h okB q6 q0
def okTh (B : List Cd) (t : Tg) (f : G_api_Feature) : Prop :=
 ∃ c, 1 ≤ t.Card ∧ B[(t.Card - 1).toNat]? = some c ∧ (t.Owner = 0 ∨ t.Owner = 1) ∧ 1 ≤ t.Place ∧ t.Place ≤ 5 ∧ (t.Place = 4 -> c.g.Kind ≠ 2 ∧ 1 ≤ t.Stamp ∧ (f.Holder = 0 ∨ f.Holder = 1) ∧ f.Traits < 256)
def tabI (ts : List Tg) : Nat -> List Int
 | 0 => []
 | n + 1 => tabI ts n ++ if (ts[n]?.map (·.Place)) = some 4 then [(n : Int)] else []
theorem mem_tabI {ts : List Tg} {x : Int} : ∀ {n : Nat}, x ∈ tabI ts n ↔ ∃ (k : Nat) (t : Tg), k < n ∧ x = k ∧ ts[k]? = some t ∧ t.Place = 4
 | 0 => by simp [tabI]
 | n + 1 => by
  simp only [tabI, List.mem_append, mem_tabI (n := n)]
  constructor
  ·rintro (⟨k, t, h1, h2⟩ | h)
   ·exact ⟨k, t, by omega, h2⟩
   ·split at h
    ·rename_i e
     simp at h; subst h
     obtain ⟨t, ht, hp⟩ := Option.map_eq_some_iff.1 e
     exact ⟨n, t, by omega, rfl, ht, hp⟩
    ·cases h
  ·rintro ⟨k, t, h1, h2, h3, h4⟩
   by_cases e : k = n
   ·subst e; right
    rw [if_pos (by rw [h3]; simp [h4])]; simp [h2]
   ·exact .inl ⟨k, t, by omega, h2, h3, h4⟩
theorem tabI_nodup {ts : List Tg} : ∀ n : Nat, (tabI ts n).Nodup
 | 0 => List.nodup_nil
 | n + 1 => by
  simp only [tabI]
  rw [List.nodup_append]
  refine ⟨tabI_nodup n, by split <;> simp, fun a ha b hb => ?_⟩
  obtain ⟨k, t, h1, h2, _⟩ := mem_tabI.1 ha
  split at hb
  ·simp at hb; omega
  ·cases hb
theorem tabI_mono {ts : List Tg} {n k : Nat} : (tabI ts n).length ≤ (tabI ts (n + k)).length := by
 induction k with
 | zero => exact Nat.le_refl _
 | succ k ih =>
  rw [← Nat.add_assoc]
  simp only [tabI, List.length_append]; omega
theorem tabI_le {ts : List Tg} : ∀ n : Nat, (tabI ts n).length ≤ n
 | 0 => Nat.le_refl _
 | n + 1 => by
  have := tabI_le (ts := ts) n
  simp only [tabI, List.length_append]
  split <;> simp <;> omega
structure Tog (B : List Cd) (ts : List Tg) (fs : List G_api_Feature) : Prop where
 all : ∀ (i : Nat) t f, ts[i]? = some t -> fs[i]? = some f -> okTh B t f
 few : (tabI ts ts.length).length ≤ 16
 dst : ∀ (i j : Nat) t u, i ≠ j -> ts[i]? = some t -> ts[j]? = some u -> t.Place = 4 -> u.Place = 4 -> t.Stamp ≠ u.Stamp
open Classical in
noncomputable def setE (se : Bool) (B : List Cd) (ts : List Tg) (fs : List G_api_Feature) : Int :=
 if 2048 < ts.length then 3 else if se = false ∨ fs.length ≠ ts.length then 2 else if Tog B ts fs then 0 else 2
def IsOrd (ts : List Tg) (l : List Int) : Prop := l.Perm (tabI ts ts.length) ∧ ∀ (i j : Nat) a b, i < j -> l[i]? = some a -> l[j]? = some b -> stampAt ts a.toNat ≤ stampAt ts b.toNat
structure Pl (H0 H : Heap) (cs so : Sl) (B : List Cd) (ts : List Tg) (cl : List G_api_Card) (ol : List Int) : Prop where
 c : SlF TC H cs cl
 len : cl.length = ts.length
 card : ∀ (i : Nat) t c, ts[i]? = some t -> t.Place = 4 -> 1 ≤ t.Card -> B[(t.Card - 1).toNat]? = some c -> ∃ g, cl[i]? = some g ∧ CR H0.length H g c
 o : SlF TN' H so ol
 ord : IsOrd ts ol
 f : Frs [] H0 H
theorem Ow.put {T : Tag} (hT : ∀ x, (T.cells x).length = T.n) (h1 : ∀ x, (T.cells x).all cell1 = true) {s : Sl} {l sp : List T.α} (h : Ow T H s l sp) {i : Int} {n : Nat} (hi : i = n) (hn : n < l.length) (x : T.α) {sz : Nat} (hz : sz = T.n) {K : Heap -> Prop}
  (hK : ∀ c H', s.p = some ⟨c, 0, none⟩ -> Ow T H' s (l.set n x) sp -> Frs [c] H H' -> H'.length = H.length -> K H') : IDX s.p s.len i sz fun b o => ST H b o (T.cells x) K := by
 obtain ⟨g1, g2, g0, ⟨_, g3, _⟩ | ⟨c, g3, g4⟩⟩ := id h
 ·subst g3; simp at hn
 ·subst hi; subst hz
  have hx : (l ++ sp)[n]? = some l[n] := by rw [List.getElem?_append_left hn, List.getElem?_eq_getElem hn]
  unfold IDX NIL
  rw [g3]
  refine ⟨⟨by omega, by omega⟩, ?_⟩
  refine ST_of (fl T ((l ++ sp).take n)) (T.cells l[n]) (fl T ((l ++ sp).drop (n + 1))) g4 (fl_cut _ _ _ hx) ?_ (by rw [hT, hT]) (h1 x) ?_
  ·rw [fl_len hT, List.length_take, Nat.min_eq_left (by rw [List.length_append]; omega), Int.toNat_natCast]; simp
  ·refine hK c _ g3 ⟨by simpa using g1, by simpa using g2, g0, .inr ⟨c, g3, ?_⟩⟩ (Frs.set _ _ (by simp)) (by simp)
   rw [set_get (get_lt g4)]
   have hx2 : (l.set n x ++ sp)[n]? = some x := by rw [List.getElem?_append_left (by simpa using hn), List.getElem?_set_self hn]
   rw [fl_cut _ _ _ hx2]
   have e1 : (l.set n x ++ sp).take n = (l ++ sp).take n := by
    rw [List.take_append_of_le_length (by simp; omega), List.take_append_of_le_length (by omega), List.take_set_of_le (Nat.le_refl _)]
   have e2 : (l.set n x ++ sp).drop (n + 1) = (l ++ sp).drop (n + 1) := by
    rw [← List.set_append_left n x hn, List.drop_set_of_lt (by omega)]
   rw [e1, e2]
theorem idx_holder {s : Sl} {l : List G_api_Feature} (h : SlF TF H s l) {n : Nat} {x : G_api_Feature} (hx : l[n]? = some x) {K : Int -> Prop} (hK : K x.Holder) : IDX s.p s.len (n : Int) 5 fun b o => LD TN' H b (o + 0) K := by
 have hl := (List.getElem?_eq_some_iff.1 hx).1
 obtain ⟨h1, ⟨_, h2, _⟩ | ⟨_, _, _, h2, _⟩ | ⟨b, A, B, z, o, ro, h3, h4⟩⟩ := h
 ·subst h2; simp at hl
 ·subst h2; simp at hl
 ·unfold IDX NIL
  rw [h3]
  refine ⟨⟨by omega, by omega⟩, ?_⟩
  refine LD_of (T := TN') x.Holder (A ++ fl TF (l.take n)) ((TF.cells x).drop 1 ++ (fl TF (l.drop (n + 1)) ++ B)) h4 ?_ ?_ rfl hK
  ·rw [fl_cut (T := TF) l n x hx]; simp [List.append_assoc]
  ·rw [List.length_append, fl_len hTF, List.length_take, Nat.min_eq_left (by omega), Int.toNat_natCast]; rfl
theorem idx_traits {s : Sl} {l : List G_api_Feature} (h : SlF TF H s l) {i : Int} {n : Nat} (hi : i = n) {x : G_api_Feature} (hx : l[n]? = some x) {K : Int -> Prop} (hK : K x.Traits) : IDX s.p s.len i 5 fun b o => LD (T_int .u16) H b (o + 2) K := by
 subst hi
 have hl := (List.getElem?_eq_some_iff.1 hx).1
 obtain ⟨h1, ⟨_, h2, _⟩ | ⟨_, _, _, h2, _⟩ | ⟨b, A, B, z, o, ro, h3, h4⟩⟩ := h
 ·subst h2; simp at hl
 ·subst h2; simp at hl
 ·unfold IDX NIL
  rw [h3]
  refine ⟨⟨by omega, by omega⟩, ?_⟩
  refine LD_of (T := T_int .u16) x.Traits (A ++ (fl TF (l.take n) ++ (TF.cells x).take 2)) ((TF.cells x).drop 3 ++ (fl TF (l.drop (n + 1)) ++ B)) h4 ?_ ?_ rfl hK
  ·rw [fl_cut (T := TF) l n x hx]; simp [List.append_assoc]
  ·rw [List.length_append, List.length_append, fl_len hTF, List.length_take, Nat.min_eq_left (by omega), Int.toNat_natCast]
   show A.length + n * 5 + 2 = A.length + (n * 5 + 2); omega
end
end Go.Proofs.YtolekmhhkopooaaGreatDoor.Zq
end
section
namespace Go.Proofs.YtolekmhhkopooaaGreatDoor.Zq
open Zv
section
variable {H : Heap} {b m : Nat} {se : Bool} {B : List Cd} {ms : List G_api_MarkInfo}
theorem setE_0 {ts : List Tg} {fs : List G_api_Feature} (h1 : ¬ 2048 < ts.length) (h2 : ¬ (se = false ∨ fs.length ≠ ts.length)) : (Tog B ts fs -> setE se B ts fs = 0) ∧ (¬ Tog B ts fs -> setE se B ts fs = 2) := by
 unfold setE
 rw [if_neg h1, if_neg h2]
 exact ⟨fun h => if_pos h, fun h => if_neg h⟩
structure Sc (m : Nat) (H : Heap) (B : List Cd) (ts : List Tg) (n : Nat) (cl : List G_api_Card) (so : Sl) : Prop where
 len : cl.length = ts.length
 c : ∀ (i : Nat) t c, i < n -> ts[i]? = some t -> t.Place = 4 -> B[(t.Card - 1).toNat]? = some c -> ∃ g, cl[i]? = some g ∧ CR m H g c ∧ ∀ x off, g.Parts.p = some ⟨x, off, none⟩ -> so.p ≠ some ⟨x, 0, none⟩
theorem Ow.after {T : Tag} {H1 H2 : Heap} {out s : Sl} {l sp : List T.α} (h : Ow T H1 s l sp) (a : After out H1 H2) (ap : ∀ d, s.p = some ⟨d, 0, none⟩ -> out.p ≠ some ⟨d, 0, none⟩) : Ow T H2 s l sp := by
 by_cases hq : ∃ d, out.p = some ⟨d, 0, none⟩
 ·obtain ⟨d0, hd0⟩ := hq
  exact h.frs (a.frs (B := [d0]) fun d hd => by rw [hd0] at hd; cases hd; simp) fun x hx e => by simp at hx; subst hx; exact ap _ e hd0
 ·exact h.frs (a.frs (B := []) fun d hd => absurd ⟨d, hd⟩ hq) (by simp [Sl.off])
theorem Flat.frs {H' : Heap} {s : Sl} (h : Flat H s) (f : Frs [] H H') : Flat H' s := fun d off e => by
 obtain ⟨c, sz, o, r, l, h1, h2⟩ := h d off e
 exact ⟨c, sz, o, r, l, f.get (by simp) h1, h2⟩
theorem tyI : TyS E TN' 35 (0 : Int) := ⟨⟨_, _, _, rfl, rfl, rfl, rfl, by decide, by decide, rfl⟩, by decide, hTN', fun _ => rfl⟩
theorem setup_c (h : BP m H b se B ms) (okB : OkB B) {a1 a2 : Sl} {ts : List Tg} {fs : List G_api_Feature} (hs : SlF TT' H a1 ts) (hf : SlF TF H a2 fs) (fla : Flat H a1) (okt : ∀ t ∈ ts, t.Stamp ≤ 9223372036854775807) (okf : ∀ f ∈ fs, 0 ≤ f.Traits) (bts : ts.length ≤ 1048600) {Q : G_layer_place × Int × Unit -> Heap -> Prop}
  (q1 : ∀ p H', setE se B ts fs ≠ 0 -> Frs [] H H' -> Q (p, setE se B ts fs, ()) H') (q0 : ∀ cs so cl ol H', setE se B ts fs = 0 -> Tog B ts fs -> Pl H H' cs so B ts cl ol -> Q (⟨some ⟨b, 0, none⟩, a1, cs, so⟩, 0, ()) H') :
  CALL P [T_G_layer_place, TN'] n_layer_setup [.pointer (some ⟨b, 0, none⟩), a1.v, a2.v] H Q := by
 apply c_layer_setup
 unfold S_layer_setup
 have hsl := hs.1
 have hfl := hf.1
 unfold NEW
 have r1 : (mk H [(.slice a1.p a1.len a1.cap)] 1 false)[H.length]? = some (.row [a1.v] 1 false false true) := by simp [mk, Sl.v]
 have f1 : Frs [] H (mk H [(.slice a1.p a1.len a1.cap)] 1 false) := Frs.app _ _ _
 have l1 : (mk H [(.slice a1.p a1.len a1.cap)] 1 false).length = H.length + 1 := by simp [mk]
 generalize mk H [(.slice a1.p a1.len a1.cap)] 1 false = H1 at r1 f1 l1
 have ldv : ∀ {H' : Heap} {k : Sl -> Prop}, Frs [] H1 H' -> k a1 -> LD T_sl H' H.length 0 k := fun f hk => LD_of (T := T_sl) a1 [] [] (f.get (by simp) r1) rfl rfl rfl hk
 refine ldv (.refl _ _) (ldv (.refl _ _) ?_)
 rw [hsl]
 refine make_c tyC (n := ts.length) (m := ts.length) rfl rfl (Nat.le_refl _) (by omega) fun s3 e3 n3 => ?_
 have l2 : (mk H1 (fl TC (List.replicate ts.length zC)) TC.n false).length = H1.length + 1 := by simp [mk]
 generalize mk H1 (fl TC (List.replicate ts.length zC)) TC.n false = H2 at n3 l2
 have f2 := n3.2.2
 have f02 : Frs [] H H2 := f1.trans f2
 have h2 := h.new f02
 have o3 : Ow TC H2 s3 (List.replicate ts.length zC) [] := by simpa using n3.1
 have p3 : s3.p = some ⟨H1.length, 0, none⟩ := by rw [e3]
 refine ldv f2 ⟨rfl, pfind_c h2 fun i e he => ?_⟩
 refine ifB_f (by simpa using he) (ldv f2 (ifD (fun hlong => ?_) (fun hlong => ?_)))
 ·have e : setE se B ts fs = 3 := by unfold setE; rw [if_pos (by omega)]
  have := q1 ⟨some ⟨b, 0, none⟩, a1, s3, ⟨none, 0, 0⟩⟩ H2 (by rw [e]; decide) f02
  rwa [e] at this
 have hlong : ¬ 2048 < ts.length := by omega
 refine hJ (se = false ∨ fs.length ≠ ts.length) (fun j hj => psealed_c h2 (ifB_of (fun e => hj _ ?_) (fun e => ldv f2 (hj _ ?_)))) (fun hbad => ?_) (fun hgood => ?_)
 ·simp only [true_iff]; exact .inl (by simpa using e)
 ·have : ¬ se = false := by simpa using e
  simp only [bne_iff_ne, ne_eq]
  constructor
  ·intro q; exact .inr (by omega)
  ·rintro (q | q)
   ·exact absurd q this
   ·omega
 ·have e : setE se B ts fs = 2 := by unfold setE; rw [if_neg hlong, if_pos hbad]
  have := q1 ⟨some ⟨b, 0, none⟩, a1, s3, ⟨none, 0, 0⟩⟩ H2 (by rw [e]; decide) f02
  rwa [e] at this
 have hse : se = true := by cases hs : se with | true => rfl | false => exact absurd (.inl hs) hgood
 have hfe : fs.length = ts.length := Classical.byContradiction fun q => hgood (.inr q)
 obtain ⟨eT, eF⟩ := setE_0 (B := B) hlong hgood
 have bad : ∀ p H', ¬ Tog B ts fs -> Frs [] H H' -> Q (p, 2, ()) H' := fun p H' hn f => by
  have e := eF hn
  have := q1 p H' (by rw [e]; decide) f
  rwa [e] at this
 refine ldv f2 ?_
 refine JOIN_inv (fun (y : Unit × (G_layer_place × G_layer_place × Unit)) H' => ∃ (so : Sl) (cl : List G_api_Card) (sp : List Int), y.2.2.1 = ⟨some ⟨b, 0, none⟩, a1, s3, so⟩ ∧ NewO TN' H1 so H' (tabI ts ts.length) sp ∧ (∀ d, so.p = some ⟨d, 0, none⟩ -> H2.length ≤ d) ∧ Ow TC H' s3 cl [] ∧ Sc H2.length H' B ts ts.length cl so ∧ (∀ (i : Nat) t f, ts[i]? = some t -> fs[i]? = some f -> okTh B t f) ∧ (tabI ts ts.length).length ≤ 16) (fun j hj => ?_) ?_
 ·refine loop_of (fun (y : (Int × Unit) × (G_layer_place × G_layer_place × Unit)) H' => ∃ (n : Nat) (so : Sl) (cl : List G_api_Card) (sp : List Int), y.1.1 = n ∧ n ≤ ts.length ∧ y.2.2.1 = ⟨some ⟨b, 0, none⟩, a1, s3, so⟩ ∧ NewO TN' H1 so H' (tabI ts n) sp ∧ (∀ d, so.p = some ⟨d, 0, none⟩ -> H2.length ≤ d) ∧ Ow TC H' s3 cl [] ∧ Sc H2.length H' B ts n cl so ∧ (∀ (i : Nat) t f, i < n -> ts[i]? = some t -> fs[i]? = some f -> okTh B t f) ∧ (tabI ts n).length ≤ 16) (fun y => ts.length - y.1.1.toNat) ?_
   ⟨0, ⟨none, 0, 0⟩, _, [], rfl, Nat.zero_le _, rfl, ⟨Ow.nil TN' H2, by simp, f2⟩, by simp, o3, ⟨by simp, fun i t c hi => by omega⟩, fun i t f hi => by omega, by simp [tabI]⟩
  rintro G ⟨⟨i, _⟩, p1, p2, _⟩ H' ⟨n, so, cl, sp, hi, hn, hp2, no, hso, oc, sc, hok, hfew⟩ hG
  simp only at hi hp2; subst hi; subst hp2
  dsimp only at hG ⊢
  have fb := no.2.2
  have f0' : Frs [] H H' := f1.trans fb
  have h' := h.new f0'
  have h2l : H2.length ≤ H'.length := by have := oc.lt p3; omega
  refine ifD (fun hlt => JOIN_of ?_) (fun hge => hj _ _ ?_)
  ·have hlt : n < ts.length := by omega
   have hx : ts[n]? = some ts[n] := List.getElem?_eq_getElem hlt
   have hy : fs[n]? = some (fs[n]'(by omega)) := List.getElem?_eq_getElem (by omega)
   have tbs : tabI ts (n + 1) = tabI ts n ++ if (ts[n]).Place = 4 then [(n : Int)] else [] := by
    simp only [tabI, hx, Option.map_some, Option.some.injEq]
   have hmt : ts[n] ∈ ts := List.getElem_mem hlt
   have hmf : fs[n]'(by omega) ∈ fs := List.getElem_mem (by omega)
   generalize ts[n] = t at hx tbs hmt
   generalize (fs[n]'(by omega)) = f at hy hmf
   have notog : ¬ okTh B t f -> ¬ Tog B ts fs := fun q k => q (k.all n t f hx hy)
   refine idx_ldF (T := TT') hTT' (hs.frs f0' (by simp)) rfl hx rfl (tcard_c h' okB (fun q => ?_) (fun c g H9 _ hc1 hcx cr f9 => ?_))
   ·refine JOIN_of (ifB_t rfl (ifB_t rfl (bad _ _ (notog ?_) f0')))
    rintro ⟨c, k1, k2, _⟩
    have := (List.getElem?_eq_some_iff.1 k2).1
    rcases q with q | q | q
    ·rw [hse] at q; cases q
    ·omega
    ·omega
   have okiff : okTh B t f ↔ (t.Owner = 0 ∨ t.Owner = 1) ∧ 1 ≤ t.Place ∧ t.Place ≤ 5 ∧ (t.Place = 4 -> c.g.Kind ≠ 2 ∧ 1 ≤ t.Stamp ∧ (f.Holder = 0 ∨ f.Holder = 1) ∧ f.Traits < 256) := by
    constructor
    ·rintro ⟨c', k1, k2, k3⟩
     rw [hcx] at k2; cases k2; exact k3
    ·exact fun q => ⟨c, hc1, hcx, q⟩
   have f09 : Frs [] H H9 := f0'.trans f9
   refine hJ (¬ (t.Owner = 0 ∨ t.Owner = 1) ∨ t.Place < 1 ∨ 5 < t.Place) (fun j2 hj2 => ifB_f rfl (ifN (fun e1 => ifN (fun e2 => hj2 _ (by simp; omega)) (fun e2 => ifD (fun e3 => hj2 _ (by simp; omega)) (fun e3 => hj2 _ (by simp; omega)))) (fun e1 => ifD (fun e3 => hj2 _ (by simp; omega)) (fun e3 => hj2 _ (by simp; omega))))) (fun q => bad _ _ (notog fun k => ?_) f09) (fun hA => ?_)
   ·have := okiff.1 k; omega
   have no9 : NewO TN' H1 so H9 (tabI ts n) sp := ⟨no.1.frs f9 (by simp [Sl.off]), no.2.1, fb.trans f9⟩
   have oc9 : Ow TC H9 s3 cl [] := oc.frs f9 (by simp [Sl.off])
   have sc9 : ∀ (i : Nat) t c, i < n -> ts[i]? = some t -> t.Place = 4 -> B[(t.Card - 1).toNat]? = some c -> ∃ g, cl[i]? = some g ∧ CR H2.length H9 g c ∧ ∀ x off, g.Parts.p = some ⟨x, off, none⟩ -> so.p ≠ some ⟨x, 0, none⟩ := fun i t c k1 k2 k3 k4 => by
    obtain ⟨g', w1, w2, w3⟩ := sc.c i t c k1 k2 k3 k4
    exact ⟨g', w1, w2.frs f9 (by simp), w3⟩
   refine ifN (fun hp4 => ?_) (fun hp4 => ?_)
   ·rw [if_neg hp4, List.append_nil] at tbs
    rw [i64w (by omega) (by omega)]
    refine hG _ _ ⟨n + 1, so, cl, sp, by simp, hlt, rfl, by rw [tbs]; exact no9, hso, oc9, ⟨sc.len, fun i t' c' k1 k2 k3 k4 => ?_⟩, fun i t' f' k1 k2 k3 => ?_, by rw [tbs]; exact hfew⟩ (by simp; omega)
    ·by_cases e : i = n
     ·subst e; rw [hx] at k2; cases k2; exact absurd k3 hp4
     ·exact sc9 i t' c' (by omega) k2 k3 k4
    ·by_cases e : i = n
     ·subst e; rw [hx] at k2; cases k2; rw [hy] at k3; cases k3
      exact okiff.2 ⟨by omega, by omega, by omega, fun q => absurd q hp4⟩
     ·exact hok i t' f' (by omega) k2 k3
   ·rw [if_pos hp4] at tbs
    have hkd : g.Kind = c.g.Kind := by rw [← cr.e]; rfl
    have hf9 := hf.frs f09 (by simp)
    have hy0 := okf f hmf
    refine hJ (c.g.Kind = 2 ∨ t.Stamp < 1 ∨ ¬ (f.Holder = 0 ∨ f.Holder = 1) ∨ ¬ f.Traits < 256) (fun j2 hj2 => ?_) (fun q => bad _ _ (notog fun k => ?_) f09) (fun hB => ?_)
    ·rw [hkd]
     refine ifE (fun e => hj2 _ (by simp; omega)) (fun e => ifD (fun e1 => hj2 _ (by simp; omega)) (fun e1 => idx_holder hf9 hy (ifN (fun e2 => idx_holder hf9 hy (ifN (fun e3 => hj2 _ (by simp; omega)) (fun e3 => idx_traits hf9 rfl hy (traits_c hy0 (hj2 _ (by simp; omega)))))) (fun e2 => idx_traits hf9 rfl hy (traits_c hy0 (hj2 _ (by simp; omega)))))))
    ·have := (okiff.1 k).2.2.2 hp4; omega
    have okn : okTh B t f := okiff.2 ⟨by omega, by omega, by omega, fun _ => ⟨by omega, by omega, by omega, by omega⟩⟩
    have hcl := sc.len
    have hl9 := f9.1
    refine oc9.put (n := n) hTC (fun x => tyC.one x) rfl (by omega) g rfl fun c0 H14 hc0 oc14 f14 l14 => ?_
    rw [p3] at hc0; cases hc0
    have cgn : CR H2.length H14 g c := by
     have : CR H2.length H9 g c := ⟨cr.e, cr.p, fun d hd => by have := cr.lo d hd; omega⟩
     exact this.frs f14 fun d hd => by simp at hd; omega
    have no14 : NewO TN' H1 so H14 (tabI ts n) sp := by
     refine ⟨no9.1.frs f14 fun d hd e => ?_, no9.2.1, no9.2.2.then f14 fun d hd => ?_⟩
     ·simp at hd; subst hd
      have := hso _ e; omega
     ·simp at hd; subst hd; exact .inr (Nat.le_refl _)
    have htl := tabI_le (ts := ts) n
    refine app_c tyI rfl (fun _ => by simp) (m := 1) [(n : Int)] rfl rfl (by show 2 * ((tabI ts n).length + 1) * 4096 ≤ _; omega) no14.1 fun s42 H15 sp15 k1 k2 k3 => ?_
    have no15 : NewO TN' H1 s42 H15 (tabI ts n ++ [(n : Int)]) sp15 := no14.app k1 k2 k3
    have hlen42 : s42.len = (tabI ts (n + 1)).length := by rw [tbs]; exact k1.1
    refine ifD (fun hbig => bad _ _ (fun k => ?_) (f1.trans no15.2.2)) (fun hsm => ?_)
    ·have := k.few
     have := tabI_mono (ts := ts) (n := n + 1) (k := ts.length - (n + 1))
     rw [show n + 1 + (ts.length - (n + 1)) = ts.length by omega] at this
     omega
    have l14' : H9.length ≤ H14.length := by omega
    have hso' : ∀ d, s42.p = some ⟨d, 0, none⟩ -> H2.length ≤ d := fun d hd => by
     rcases k2 with q | ⟨q, _⟩
     ·exact hso d (by rw [← q]; exact hd)
     ·rw [q] at hd; cases hd; omega
    have ap42 : ∀ (g' : G_api_Card) d', CR H2.length H14 g' d' -> (∀ x off, g'.Parts.p = some ⟨x, off, none⟩ -> so.p ≠ some ⟨x, 0, none⟩) -> ∀ x off, g'.Parts.p = some ⟨x, off, none⟩ -> s42.p ≠ some ⟨x, 0, none⟩ := fun g' d' cr' a' x off e e2 => by
     rcases k2 with q | ⟨q, _⟩
     ·exact a' x off e (by rw [← q]; exact e2)
     ·rw [q] at e2
      have := slF_lt cr'.p e
      cases e2; omega
    have gap : ∀ x off, g.Parts.p = some ⟨x, off, none⟩ -> so.p ≠ some ⟨x, 0, none⟩ := fun x off e e2 => by
     have := cr.lo x (by rw [e]; simp [bl])
     have := no.1.lt e2; omega
    rw [i64w (by omega) (by omega)]
    refine hG _ _ ⟨n + 1, s42, cl.set n g, sp15, by simp, hlt, rfl, by rw [tbs]; exact no15, hso', oc14.after k3 (fun d hd e => by rw [p3] at hd; cases hd; have := hso _ e; omega), ⟨by simpa using sc.len, fun i t' c' w1 w2 w3 w4 => ?_⟩, fun i t' f' w1 w2 w3 => ?_, by omega⟩ (by simp; omega)
    ·by_cases e : i = n
     ·subst e; rw [hx] at w2; cases w2
      rw [hcx] at w4; cases w4
      exact ⟨g, List.getElem?_set_self (by omega), cgn.after k3 gap, ap42 g c cgn gap⟩
     ·obtain ⟨g', v1, v2, v3⟩ := sc9 i t' c' (by omega) w2 w3 w4
      have v2' : CR H2.length H14 g' c' := v2.frs f14 fun d hd => by simp at hd; omega
      exact ⟨g', by rw [List.getElem?_set_ne (by omega)]; exact v1, v2'.after k3 v3, ap42 g' c' v2' v3⟩
    ·by_cases e : i = n
     ·subst e; rw [hx] at w2; cases w2; rw [hy] at w3; cases w3; exact okn
     ·exact hok i t' f' (by omega) w2 w3
  ·have hge : n = ts.length := by omega
   subst hge
   exact ⟨so, cl, sp, rfl, no, hso, oc, sc, fun i t f w1 w2 => hok i t f (List.getElem?_eq_some_iff.1 w1).1 w1 w2, hfew⟩
 ·rintro ⟨_, p1, p2, _⟩ H6 ⟨so, cl, sp, hp2, no, hso, oc, sc, hok, hfew⟩
  simp only at hp2; subst hp2
  dsimp only
  have fb := no.2.2
  have f06 : Frs [] H H6 := f1.trans fb
  have onT : ∀ x ∈ tabI ts ts.length, ∃ (k : Nat) (t : Tg), x = k ∧ ts[k]? = some t ∧ t.Place = 4 ∧ 1 ≤ t.Stamp ∧ t.Stamp ≤ 9223372036854775807 := fun x hx => by
   obtain ⟨k, t, h1, rfl, h3, h4⟩ := mem_tabI.1 hx
   have hk : k < fs.length := by rw [hfe]; exact h1
   obtain ⟨c, _, _, _, _, _, w⟩ := hok k t _ h3 (List.getElem?_eq_getElem hk)
   exact ⟨k, t, rfl, h3, h4, (w h4).2.1, okt t (List.mem_of_getElem? h3)⟩
  refine osort_c (vb := H.length) no ⟨1, fb.get (by simp) r1⟩ (hs.frs f06 (by simp)) (fla.frs f06) (by omega) (fun d off e => by have := slF_lt hs e; omega) (fun x hx => by obtain ⟨k, t, e, w1, w2, w3⟩ := onT x hx; exact ⟨k, t, e, w1, w3⟩) (by omega) fun H16 l' hperm hsort no16 aft => ?_
  have f016 : Frs [] H H16 := f1.trans no16.2.2
  have hl' : l'.length = (tabI ts ts.length).length := hperm.length_eq
  have hso16 := no16.1.slf
  have hsol := hso16.1
  have hs16 := hs.frs f016 (by simp)
  have nd : l'.Nodup := hperm.symm.nodup (tabI_nodup _)
  have at' : ∀ (k : Nat) x, l'[k]? = some x -> ∃ (j : Nat) (t : Tg), x = j ∧ ts[j]? = some t ∧ t.Place = 4 ∧ stampAt ts x.toNat = t.Stamp := fun k x hx => by
   obtain ⟨j, t, rfl, w1, w2, _⟩ := onT x (hperm.mem_iff.1 (List.mem_of_getElem? hx))
   exact ⟨j, t, rfl, w1, w2, by simp [stampAt, w1]⟩
  refine JOIN_inv (fun _ H' => H' = H16 ∧ ∀ (j : Nat) x y, 1 ≤ j -> l'[j - 1]? = some x -> l'[j]? = some y -> stampAt ts x.toNat < stampAt ts y.toNat) (fun j hj => ?_) ?_
  ·refine loop_of (fun (t : (Int × Unit) × (G_layer_place × Unit)) H' => H' = H16 ∧ ∃ k : Nat, t.1.1 = k ∧ 1 ≤ k ∧ ∀ (j : Nat) x y, 1 ≤ j -> j < k -> l'[j - 1]? = some x -> l'[j]? = some y -> stampAt ts x.toNat < stampAt ts y.toNat) (fun t => l'.length + 1 - t.1.1.toNat) ?_ ⟨rfl, 1, rfl, Nat.le_refl _, fun j x y w1 w2 => by omega⟩
   rintro G ⟨⟨i, _⟩, p3', _⟩ H' ⟨rfl, k, hk, hk1, hno⟩ hG
   simp only at hk; subst hk
   dsimp only at hG ⊢
   refine ifD (fun hlt => ?_) (fun hge => hj _ _ ⟨rfl, fun j x y w1 w2 w3 => hno j x y w1 (by have := (List.getElem?_eq_some_iff.1 w3).1; omega) w2 w3⟩)
   have hkl : k < l'.length := by omega
   have hxk : l'[k - 1]? = some (l'[k - 1]'(by omega)) := List.getElem?_eq_getElem (by omega)
   have hyk : l'[k]? = some l'[k] := List.getElem?_eq_getElem hkl
   have hne := List.pairwise_iff_getElem.1 nd (k - 1) k (by omega) hkl (by omega)
   generalize (l'[k - 1]'(by omega)) = x at hxk hne
   generalize l'[k] = y at hyk hne
   obtain ⟨jx, tx, ex, hjx, px, sx⟩ := at' _ x hxk
   obtain ⟨jy, ty, ey, hjy, py, sy⟩ := at' _ y hyk
   rw [i64w (x := (k : Int) - 1) (by omega) (by omega)]
   refine ldv no16.2.2 (idx_ldF (T := TN') hTN' hso16 (n := k - 1) (by omega) hxk rfl (idx_stamp' hs16 ex hjx (ldv no16.2.2 (idx_ldF (T := TN') hTN' hso16 (n := k) rfl hyk rfl (idx_stamp' hs16 ey hjy (ifE (fun e => bad _ _ (fun w => ?_) f016) (fun e => ?_)))))))
   ·exact w.dst jx jy tx ty (fun q => hne (by rw [ex, ey, q])) hjx hjy px py e
   ·rw [i64w (by omega) (by omega)]
    refine hG _ _ ⟨rfl, k + 1, by simp, by omega, fun j a b w1 w2 w3 w4 => ?_⟩ (by simp; omega)
    by_cases ej : j = k
    ·subst ej; rw [hxk] at w3; cases w3; rw [hyk] at w4; cases w4
     have := hsort (j - 1) j x y (by omega) hxk hyk
     rw [sx, sy] at this ⊢
     omega
    ·exact hno j a b w1 (by omega) w3 w4
  ·rintro ⟨_, p4, _⟩ H17 ⟨rfl, hstr⟩
   have lt2 : ∀ (p q : Nat) x y, p < q -> l'[p]? = some x -> l'[q]? = some y -> stampAt ts x.toNat < stampAt ts y.toNat := fun p q x y hpq hx hy => by
    have hql := (List.getElem?_eq_some_iff.1 hy).1
    have hz : l'[p + 1]? = some (l'[p + 1]'(by omega)) := List.getElem?_eq_getElem (by omega)
    have h1 := hstr (p + 1) x _ (by omega) (by simpa using hx) hz
    by_cases e : p + 1 = q
    ·subst e; rw [hy] at hz; cases hz; exact h1
    ·have h2 := hsort (p + 1) q _ y (by omega) hz hy
     omega
   have tog : Tog B ts fs := ⟨hok, hfew, fun i j t u hij hi hj pt pu => by
    have mi : (i : Int) ∈ l' := hperm.mem_iff.2 (mem_tabI.2 ⟨i, t, (List.getElem?_eq_some_iff.1 hi).1, rfl, hi, pt⟩)
    have mj : (j : Int) ∈ l' := hperm.mem_iff.2 (mem_tabI.2 ⟨j, u, (List.getElem?_eq_some_iff.1 hj).1, rfl, hj, pu⟩)
    obtain ⟨p, hp⟩ := List.mem_iff_getElem?.1 mi
    obtain ⟨q, hq⟩ := List.mem_iff_getElem?.1 mj
    have si : stampAt ts (i : Int).toNat = t.Stamp := by simp [stampAt, hi]
    have sj : stampAt ts (j : Int).toNat = u.Stamp := by simp [stampAt, hj]
    rcases Nat.lt_trichotomy p q with w | w | w
    ·have := lt2 p q _ _ w hp hq; omega
    ·subst w; rw [hp] at hq; simp at hq; exact absurd (by omega) hij
    ·have := lt2 q p _ _ w hq hp; omega⟩
   refine q0 s3 so cl l' H17 (eT tog) tog ⟨(oc.after aft (fun d hd e => by rw [p3] at hd; cases hd; have := hso _ e; omega)).slf, sc.len, fun i t c w1 w2 w3 w4 => ?_, hso16, ⟨hperm, hsort⟩, f016⟩
   obtain ⟨g', v1, v2, v3⟩ := sc.c i t c (List.getElem?_eq_some_iff.1 w1).1 w1 w2 w4
   have := v2.after aft v3
   exact ⟨g', v1, this.e, this.p, fun d hd => by have := this.lo d hd; omega⟩
end
end Go.Proofs.YtolekmhhkopooaaGreatDoor.Zq
end
section
namespace Go.Proofs.YtolekmhhkopooaaGreatDoor.Zq
open Zv
section
variable {H : Heap}
def bitI (t : Int) : Int := if 1 ≤ t ∧ t ≤ 8 then IntKind.wrap .u16 (1 * 2 ^ (min (IntKind.wrap .u8 (t - 1)).toNat (IntKind.bits .u16))) else 0
def hasT (s t : Int) : Bool := (IntKind.wrap .u16 (((BitVec.ofInt (IntKind.bits .u16) s &&& BitVec.ofInt (IntKind.bits .u16) (bitI t)).toNat : Int))) != 0
def withT (s t : Int) : Int := IntKind.wrap .u16 (((BitVec.ofInt (IntKind.bits .u16) s ||| BitVec.ofInt (IntKind.bits .u16) (bitI t)).toNat : Int))
def woutT (s t : Int) : Int := IntKind.wrap .u16 (((BitVec.ofInt (IntKind.bits .u16) s &&& ~~~BitVec.ofInt (IntKind.bits .u16) (bitI t)).toNat : Int))
def layV (v : Int) : Int := if v = 10 then 1 else if v = 11 then 2 else if v = 12 ∨ v = 13 then 3 else if v = 14 then 4 else if v = 15 then 5 else 0
theorem u8nn (x : Int) : 0 ≤ IntKind.wrap .u8 x := by
 show 0 ≤ x % 256
 omega
theorem u16nn (x : Int) : 0 ≤ IntKind.wrap .u16 x := by
 show 0 ≤ x % 65536
 omega
theorem pbit_c {t : Int} {Q : Int × Unit -> Heap -> Prop} (hq : Q (bitI t, ()) H) : CALL P [T_int .u16] n_trait_bit [.int .u8 t] H Q := by
 apply c_trait_bit
 unfold S_trait_bit
 apply c_trait_is
 unfold S_trait_is
 refine JD (1 ≤ t ∧ t ≤ 8) (fun j hj => ifD (fun h => hj _ (by simp; omega)) (fun h => hj _ (by simp; omega))) ?_
 refine ifQ (fun h => ?_) (fun h => ?_)
 ·unfold bitI at hq; rw [if_neg h] at hq; exact hq
 ·unfold bitI at hq; rw [if_pos h] at hq; exact ⟨u8nn _, hq⟩
theorem rbit_c {t : Int} {Q : Int × Unit -> Heap -> Prop} (hq : Q (bitI t, ()) H) : CALL P [T_int .u16] n_ref04_bit [.int .u8 t] H Q := by
 apply c_ref04_bit
 unfold S_ref04_bit
 refine hJ (t < 1 ∨ 8 < t) (fun j hj => ifD (fun h => hj _ (by simp; omega)) (fun h => hj _ (by simp; omega))) (fun h => ?_) (fun h => ?_)
 ·unfold bitI at hq; rw [if_neg (by omega)] at hq; exact hq
 ·unfold bitI at hq; rw [if_pos (by omega)] at hq; exact ⟨u8nn _, hq⟩
theorem phas_c {s t : Int} {Q : Bool × Unit -> Heap -> Prop} (hq : Q (hasT s t, ()) H) : CALL P [T_bool] n_trait_Has [.int .u16 s, .int .u8 t] H Q := by
 apply c_trait_Has
 unfold S_trait_Has
 exact pbit_c hq
theorem rhas_c {s t : Int} {Q : Bool × Unit -> Heap -> Prop} (hq : Q (hasT s t, ()) H) : CALL P [T_bool] n_ref04_Has [.int .u16 s, .int .u8 t] H Q := by
 apply c_ref04_Has
 unfold S_ref04_Has
 exact rbit_c hq
theorem rwith_c {s t : Int} {Q : Int × Unit -> Heap -> Prop} (hq : Q (withT s t, ()) H) : CALL P [T_int .u16] n_ref04_With [.int .u16 s, .int .u8 t] H Q := by
 apply c_ref04_With
 unfold S_ref04_With
 exact rbit_c hq
theorem rwout_c {s t : Int} {Q : Int × Unit -> Heap -> Prop} (hq : Q (woutT s t, ()) H) : CALL P [T_int .u16] n_ref04_Without [.int .u16 s, .int .u8 t] H Q := by
 apply c_ref04_Without
 unfold S_ref04_Without
 exact rbit_c hq
theorem play_c {v : Int} {Q : Int × Unit -> Heap -> Prop} (hq : Q (layV v, ()) H) : CALL P [T_int .i64] n_effect_Layer [.int .u8 v] H Q := by
 apply c_effect_Layer
 unfold S_effect_Layer
 unfold layV at hq
 refine ifE (fun h => by rwa [if_pos h] at hq) (fun h1 => ifE (fun h => by rwa [if_neg h1, if_pos h] at hq) (fun h2 => hJ (v = 12 ∨ v = 13) (fun j hj => ifE (fun h => hj _ (by simp; omega)) (fun h => hj _ (by simp; omega))) (fun h3 => by rwa [if_neg h1, if_neg h2, if_pos h3] at hq) (fun h3 => ?_)))
 rw [if_neg h1, if_neg h2, if_neg h3] at hq
 exact ifE (fun h => by rwa [if_pos h] at hq) (fun h4 => ifE (fun h => by rwa [if_neg h4, if_pos h] at hq) (fun h5 => by rwa [if_neg h4, if_neg h5] at hq))
theorem rlay_c {v : Int} {Q : Int × Unit -> Heap -> Prop} (hq : Q (layV v, ()) H) : CALL P [T_int .i64] n_ref05_Layer [.int .u8 v] H Q := by
 apply c_ref05_Layer
 unfold S_ref05_Layer
 unfold layV at hq
 refine ifE (fun h => by rwa [if_pos h] at hq) (fun h1 => ifE (fun h => by rwa [if_neg h1, if_pos h] at hq) (fun h2 => hJ (v = 12 ∨ v = 13) (fun j hj => ifE (fun h => hj _ (by simp; omega)) (fun h => hj _ (by simp; omega))) (fun h3 => by rwa [if_neg h1, if_neg h2, if_pos h3] at hq) (fun h3 => ?_)))
 rw [if_neg h1, if_neg h2, if_neg h3] at hq
 exact ifE (fun h => by rwa [if_pos h] at hq) (fun h4 => ifE (fun h => by rwa [if_neg h4, if_pos h] at hq) (fun h5 => by rwa [if_neg h4, if_neg h5] at hq))
theorem NewO.older {T : Tag} {H H1 H' : Heap} {s : Sl} {l sp : List T.α} (h : NewO T H1 s H' l sp) (f : Frs [] H H1) : NewO T H s H' l sp :=
 ⟨h.1, fun d hd => Nat.le_trans f.1 (h.2.1 d hd), f.trans h.2.2⟩
theorem NewO.new {T : Tag} {H H1 H' : Heap} {s : Sl} {l sp : List T.α} (h : NewO T H s H1 l sp) (f : Frs [] H1 H') : NewO T H s H' l sp :=
 ⟨h.1.frs f (by simp [Sl.off]), h.2.1, h.2.2.trans f⟩
theorem NewO.nil' (T : Tag) (H : Heap) : NewO T H ⟨none, 0, 0⟩ H [] [] := ⟨Ow.nil T H, by simp, .refl _ _⟩
end
end Go.Proofs.YtolekmhhkopooaaGreatDoor.Zq
end
section
namespace Go.Proofs.YtolekmhhkopooaaGreatDoor.Zq
open Zv
section
abbrev TSt : Tag := T_G_api_Standing
abbrev Sg := G_api_Standing
abbrev Ft := G_api_Feature
theorem hTSt (x : Sg) : (TSt.cells x).length = TSt.n := rfl
theorem tySt : TyS E TSt 66 (⟨0, 0, ⟨0, 0, 0, 0, 0, 0, 0, ByteArray.mk #[]⟩⟩ : Sg) := ⟨⟨_, _, _, rfl, rfl, rfl, rfl, by decide, by decide, rfl⟩, by decide, hTSt, fun _ => rfl⟩
theorem tyF : TyS E TF 27 (⟨0, 0, 0, 0, 0⟩ : Ft) := ⟨⟨_, _, _, rfl, rfl, rfl, rfl, by decide, by decide, rfl⟩, by decide, hTF, fun _ => rfl⟩
def ftI (fs : List Ft) (i : Int) : Ft := fs[i.toNat]?.getD ⟨0, 0, 0, 0, 0⟩
def cdI (B : List Cd) (ts : List Tg) (i : Int) : Option Cd := ts[i.toNat]?.bind fun t => B[(t.Card - 1).toNat]?
def cpI (B : List Cd) (ts : List Tg) (i : Int) : List Pt := ((cdI B ts i).map (·.ps)).getD []
def ckI (B : List Cd) (ts : List Tg) (i : Int) : Int := ((cdI B ts i).map (·.g.Kind)).getD 0
def effN1 (n k : Int) (p : Pt × Nat) : List Sg := if p.1.When = 5 ∧ layV p.1.Verb = k then [⟨n, p.2, p.1⟩] else []
def effN (n k : Int) (ps : List Pt) : List Sg := ps.zipIdx.flatMap (effN1 n k)
def effO1 (B : List Cd) (ts : List Tg) (fs : List Ft) (k i : Int) : List Sg := if hasT (ftI fs i).Traits 6 = true then [] else effN (i + 1) k (cpI B ts i)
def effs (B : List Cd) (ts : List Tg) (fs : List Ft) (ol : List Int) (k : Int) : List Sg := ol.flatMap (effO1 B ts fs k)
def meansB (B : List Cd) (ts : List Tg) (fs : List Ft) (s : Sg) (i : Int) : Bool :=
 if s.What.Whom = 4 then i == s.Thing - 1
 else if ckI B ts i ≠ 1 then false
 else if s.What.Whom = 5 then (ftI fs i).Holder == (ftI fs (s.Thing - 1)).Holder
 else if s.What.Whom = 6 then (ftI fs i).Holder != (ftI fs (s.Thing - 1)).Holder
 else if s.What.Whom = 7 then true
 else if s.What.Whom = 8 then (ftI fs i).Holder == (ftI fs (s.Thing - 1)).Holder && i != s.Thing - 1
 else if s.What.Whom = 9 then (ftI fs i).Suit == s.What.Suit
 else if s.What.Whom = 10 then hasT (ftI fs i).Traits s.What.Trait
 else false
def abouts1 (B : List Cd) (ts : List Tg) (fs : List Ft) (s : Sg) (i : Int) : List Int := if meansB B ts fs s i = true then [i + 1] else []
def abouts (B : List Cd) (ts : List Tg) (fs : List Ft) (ol : List Int) (s : Sg) : List Int := ol.flatMap (abouts1 B ts fs s)
def doneF (f : Ft) (p : Pt) (h : Int) : Ft :=
 if p.Verb = 10 then { f with Holder := h }
 else if p.Verb = 11 then { f with Suit := p.Suit }
 else if p.Verb = 12 then { f with Traits := withT f.Traits p.Trait }
 else if p.Verb = 13 then { f with Traits := woutT f.Traits p.Trait }
 else if p.Verb = 14 then { f with Power := p.Count, Health := p.Count }
 else if p.Verb = 15 then { f with Power := IntKind.wrap .i64 (f.Power + p.Count), Health := IntKind.wrap .i64 (f.Health + p.Count) }
 else f
def put1 (s : Sg) (h : Int) (out : List Ft) (n : Int) : List Ft := out.set (n - 1).toNat (doneF (ftI out (n - 1)) s.What h)
def applyF (B : List Cd) (ts : List Tg) (fs : List Ft) (ol : List Int) (s : Sg) : List Ft :=
 (abouts B ts fs ol s).foldl (put1 s (ftI fs (s.Thing - 1)).Holder) fs
def dependsB (B : List Cd) (ts : List Tg) (fs : List Ft) (ol : List Int) (s o : Sg) : Bool := decide (abouts B ts fs ol s ≠ abouts B ts (applyF B ts fs ol o) ol s)
theorem fm_take {α β : Type} (f : α -> List β) {l : List α} {n : Nat} {x : α} (hx : l[n]? = some x) : (l.take (n + 1)).flatMap f = (l.take n).flatMap f ++ f x := by
 rw [List.take_add_one, hx, List.flatMap_append]; simp
theorem fold_take {α β : Type} (f : β -> α -> β) (b : β) {l : List α} {n : Nat} {x : α} (hx : l[n]? = some x) : (l.take (n + 1)).foldl f b = f ((l.take n).foldl f b) x := by
 rw [List.take_add_one, hx, List.foldl_append]; simp
theorem fm_len {α β : Type} {f : α -> List β} {c : Nat} : ∀ {l : List α}, (∀ x ∈ l, (f x).length ≤ c) -> (l.flatMap f).length ≤ c * l.length
 | [], _ => by simp
 | x :: r, h => by
  rw [List.flatMap_cons, List.length_append, List.length_cons, Nat.mul_succ]
  have := fm_len (l := r) (fun y hy => h y (by simp [hy]))
  have := h x (by simp)
  omega
theorem effN1_len (n k : Int) (p : Pt × Nat) : (effN1 n k p).length ≤ 1 := by unfold effN1; split <;> simp
theorem effN_len (n k : Int) (ps : List Pt) : (effN n k ps).length ≤ ps.length := by
 have := fm_len (f := effN1 n k) (c := 1) (l := ps.zipIdx) (fun x _ => effN1_len n k x)
 rw [List.length_zipIdx] at this
 unfold effN; omega
theorem abouts1_len (B : List Cd) (ts : List Tg) (fs : List Ft) (s : Sg) (i : Int) : (abouts1 B ts fs s i).length ≤ 1 := by unfold abouts1; split <;> simp
theorem abouts_len (B : List Cd) (ts : List Tg) (fs : List Ft) (ol : List Int) (s : Sg) : (abouts B ts fs ol s).length ≤ ol.length := by
 have := fm_len (f := abouts1 B ts fs s) (c := 1) (l := ol) (fun x _ => abouts1_len B ts fs s x)
 unfold abouts; omega
theorem mem_abouts {B : List Cd} {ts : List Tg} {fs : List Ft} {ol : List Int} {s : Sg} {x : Int} : x ∈ abouts B ts fs ol s ↔ x - 1 ∈ ol ∧ meansB B ts fs s (x - 1) = true := by
 unfold abouts abouts1
 simp only [List.mem_flatMap]
 constructor
 ·rintro ⟨i, h1, h2⟩
  split at h2
  ·simp at h2; subst h2
   rename_i h3
   rw [show i + 1 - 1 = i by omega]; exact ⟨h1, h3⟩
  ·cases h2
 ·rintro ⟨h1, h2⟩
  exact ⟨_, h1, by rw [if_pos h2]; simp⟩
theorem put1_len (s : Sg) (h : Int) (out : List Ft) (n : Int) : (put1 s h out n).length = out.length := by unfold put1; simp
theorem fold_put_len (s : Sg) (h : Int) : ∀ (l : List Int) (out : List Ft), (l.foldl (put1 s h) out).length = out.length
 | [], _ => rfl
 | x :: r, out => by rw [List.foldl_cons, fold_put_len s h r, put1_len]
theorem applyF_len (B : List Cd) (ts : List Tg) (fs : List Ft) (ol : List Int) (s : Sg) : (applyF B ts fs ol s).length = fs.length := fold_put_len _ _ _ _
theorem ftI_at {fs : List Ft} {i : Int} {n : Nat} {f : Ft} (hi : i = n) (hf : fs[n]? = some f) : ftI fs i = f := by
 subst hi; simp [ftI, hf]
def aheadB (ts : List Tg) (s o : Sg) : Bool :=
 decide (stampAt ts (s.Thing - 1).toNat < stampAt ts (o.Thing - 1).toNat) || (decide (stampAt ts (s.Thing - 1).toNat = stampAt ts (o.Thing - 1).toNat) && decide (s.Place < o.Place))
def sgI (l : List Sg) (i : Int) : Sg := l[i.toNat]?.getD ⟨0, 0, ⟨0, 0, 0, 0, 0, 0, 0, ByteArray.mk #[]⟩⟩
theorem sgI_at {l : List Sg} {i : Int} {n : Nat} {s : Sg} (hi : i = n) (h : l[n]? = some s) : sgI l i = s := by subst hi; simp [sgI, h]
def hangsB (B : List Cd) (ts : List Tg) (fs : List Ft) (ol : List Int) (l : List Sg) (i k : Nat) : Bool := (List.range k).any fun j => j != i && dependsB B ts fs ol (sgI l (i : Int)) (sgI l (j : Int))
def nx (B : List Cd) (ts : List Tg) (fs : List Ft) (ol : List Int) (l : List Sg) : Nat -> Int × Int
 | 0 => (-1, 0)
 | n + 1 => (if (!hangsB B ts fs ol l n l.length && (decide ((nx B ts fs ol l n).1 < 0) || aheadB ts (sgI l n) (sgI l (nx B ts fs ol l n).1))) = true then (n : Int) else (nx B ts fs ol l n).1,
   if aheadB ts (sgI l n) (sgI l (nx B ts fs ol l n).2) = true then (n : Int) else (nx B ts fs ol l n).2)
def nextF (B : List Cd) (ts : List Tg) (fs : List Ft) (ol : List Int) (l : List Sg) : Int := if (nx B ts fs ol l l.length).1 < 0 then (nx B ts fs ol l l.length).2 else (nx B ts fs ol l l.length).1
theorem nx_rng (B : List Cd) (ts : List Tg) (fs : List Ft) (ol : List Int) (l : List Sg) : ∀ n, -1 ≤ (nx B ts fs ol l n).1 ∧ (nx B ts fs ol l n).1 < n ∧ 0 ≤ (nx B ts fs ol l n).2 ∧ ((nx B ts fs ol l n).2 < n ∨ (nx B ts fs ol l n).2 = 0)
 | 0 => by simp [nx]
 | n + 1 => by
  obtain ⟨h1, h2, h3, h4⟩ := nx_rng B ts fs ol l n
  unfold nx
  refine ⟨?_, ?_, ?_, ?_⟩ <;> dsimp only <;> split <;> omega
theorem nextF_rng (B : List Cd) (ts : List Tg) (fs : List Ft) (ol : List Int) {l : List Sg} (h : 0 < l.length) : 0 ≤ nextF B ts fs ol l ∧ nextF B ts fs ol l < l.length := by
 obtain ⟨h1, h2, h3, h4⟩ := nx_rng B ts fs ol l l.length
 unfold nextF
 split <;> omega
def allS (B : List Cd) (ts : List Tg) (ol : List Int) (fs : List Ft) (l : List Sg) : Nat -> List Ft × List Sg × List Sg
 | 0 => (fs, l, [])
 | n + 1 =>
  let q := allS B ts ol fs l n
  let i := nextF B ts q.1 ol q.2.1
  (applyF B ts q.1 ol (sgI q.2.1 i), q.2.1.eraseIdx i.toNat, q.2.2 ++ [sgI q.2.1 i])
theorem allS_inv (B : List Cd) (ts : List Tg) (ol : List Int) (fs : List Ft) (l : List Sg) : ∀ n, n ≤ l.length -> (allS B ts ol fs l n).1.length = fs.length ∧ (allS B ts ol fs l n).2.1.length = l.length - n ∧ (∀ s ∈ (allS B ts ol fs l n).2.1, s ∈ l) ∧ (allS B ts ol fs l n).2.2.length = n
 | 0, _ => by simp [allS]
 | n + 1, hn => by
  obtain ⟨h1, h2, h3, h4⟩ := allS_inv B ts ol fs l n (by omega)
  have hr := nextF_rng B ts (allS B ts ol fs l n).1 ol (l := (allS B ts ol fs l n).2.1) (by omega)
  unfold allS
  refine ⟨?_, ?_, fun s hs => h3 s ?_, ?_⟩
  ·dsimp only; rw [applyF_len, h1]
  ·dsimp only; rw [List.length_eraseIdx, if_pos (by omega), h2]; omega
  ·exact List.mem_of_mem_eraseIdx hs
  ·dsimp only; rw [List.length_append, h4]; rfl
theorem mem_effs {B : List Cd} {ts : List Tg} {fs : List Ft} {ol : List Int} {k : Int} {s : Sg} (h : s ∈ effs B ts fs ol k) : s.Thing - 1 ∈ ol ∧ ∃ i : Nat, s.Place = i ∧ (cpI B ts (s.Thing - 1))[i]? = some s.What ∧ s.What.When = 5 ∧ layV s.What.Verb = k ∧ hasT (ftI fs (s.Thing - 1)).Traits 6 = false := by
 unfold effs at h
 obtain ⟨x, hx, h⟩ := List.mem_flatMap.1 h
 unfold effO1 at h
 split at h
 ·cases h
 ·rename_i hh
  unfold effN at h
  obtain ⟨p, hp, h⟩ := List.mem_flatMap.1 h
  unfold effN1 at h
  split at h
  ·rename_i hc
   simp at h; subst h
   have := List.mk_mem_zipIdx_iff_getElem?.1 (show (p.1, p.2) ∈ (cpI B ts x).zipIdx from hp)
   have e : x + 1 - 1 = x := by omega
   simp only [e]
   exact ⟨hx, p.2, rfl, this, hc.1, hc.2, by simpa using hh⟩
  ·cases h
end
end Go.Proofs.YtolekmhhkopooaaGreatDoor.Zq
end
section
namespace Go.Proofs.YtolekmhhkopooaaGreatDoor.Zq
open Zv
section
variable {H : Heap} {b m : Nat} {se : Bool} {B : List Cd} {ms : List G_api_MarkInfo}
structure OrdT (B : List Cd) (ts : List Tg) (ol : List Int) : Prop where
 few : ol.length ≤ 16
 nd : ol.Nodup
 srt : ∀ (i j : Nat) a b, i < j -> ol[i]? = some a -> ol[j]? = some b -> stampAt ts a.toNat < stampAt ts b.toNat
 at' : ∀ i ∈ ol, ∃ (k : Nat) (t : Tg) (c : Cd), i = k ∧ ts[k]? = some t ∧ t.Place = 4 ∧ 1 ≤ t.Card ∧ B[(t.Card - 1).toNat]? = some c ∧ 1 ≤ t.Stamp ∧ c.g.Kind ≠ 2 ∧ c.ps.length ≤ 4
 all : ∀ (k : Nat) t, ts[k]? = some t -> t.Place = 4 -> (k : Int) ∈ ol
 len : ts.length ≤ 2048
theorem OkB.p4 (h : OkB B) {c : Cd} (hc : c ∈ B) : c.ps.length ≤ 4 := by
 have := h.ok c hc
 unfold chkC at this
 by_cases hf : chkF c = 0
 ·exact chkF_len hf
 ·rw [if_neg hf] at this; exact absurd this hf
theorem IsOrd.ordT {ts : List Tg} {fs : List Ft} {ol : List Int} (h : IsOrd ts ol) (tog : Tog B ts fs) (hfe : fs.length = ts.length) (okB : OkB B) (hlen : ts.length ≤ 2048) : OrdT B ts ol := by
 obtain ⟨hp, hs⟩ := h
 have nd : ol.Nodup := hp.symm.nodup (tabI_nodup _)
 have at' : ∀ i ∈ ol, ∃ (k : Nat) (t : Tg) (c : Cd), i = k ∧ ts[k]? = some t ∧ t.Place = 4 ∧ 1 ≤ t.Card ∧ B[(t.Card - 1).toNat]? = some c ∧ 1 ≤ t.Stamp ∧ c.g.Kind ≠ 2 ∧ c.ps.length ≤ 4 := fun i hi => by
  obtain ⟨k, t, h1, rfl, h3, h4⟩ := mem_tabI.1 (hp.mem_iff.1 hi)
  have hk : k < fs.length := by omega
  obtain ⟨c, w1, w2, _, _, _, w⟩ := tog.all k t _ h3 (List.getElem?_eq_getElem hk)
  exact ⟨k, t, c, rfl, h3, h4, w1, w2, (w h4).2.1, (w h4).1, okB.p4 (List.mem_of_getElem? w2)⟩
 refine ⟨by rw [hp.length_eq]; exact tog.few, nd, fun i j a b' hij ha hb => ?_, at', fun k t h1 h2 => hp.mem_iff.2 (mem_tabI.2 ⟨k, t, (List.getElem?_eq_some_iff.1 h1).1, rfl, h1, h2⟩), hlen⟩
 have h1 := hs i j a b' hij ha hb
 obtain ⟨k, t, _, e1, e2, e3, _⟩ := at' a (List.mem_of_getElem? ha)
 obtain ⟨k', t', _, e1', e2', e3', _⟩ := at' b' (List.mem_of_getElem? hb)
 have ea : stampAt ts a.toNat = t.Stamp := by subst e1; simp [stampAt, e2]
 have eb : stampAt ts b'.toNat = t'.Stamp := by subst e1'; simp [stampAt, e2']
 rw [ea, eb] at h1 ⊢
 have hab : k ≠ k' := fun q => by
  have hi := (List.getElem?_eq_some_iff.1 ha)
  have hj := (List.getElem?_eq_some_iff.1 hb)
  have := List.pairwise_iff_getElem.1 nd i j hi.1 hj.1 hij
  exact this (by rw [hi.2, hj.2, e1, e1', q])
 have := tog.dst k k' t t' hab e2 e2' e3 e3'
 omega
structure Plc (m : Nat) (H : Heap) (a1 cs so : Sl) (B : List Cd) (ts : List Tg) (ol : List Int) : Prop where
 hs : SlF TT' H a1 ts
 c : ∃ cl, SlF TC H cs cl ∧ ∀ (i : Nat) t c, ts[i]? = some t -> t.Place = 4 -> 1 ≤ t.Card -> B[(t.Card - 1).toNat]? = some c -> ∃ g, cl[i]? = some g ∧ CR m H g c
 o : SlF TN' H so ol
 ot : OrdT B ts ol
theorem Plc.new {H' : Heap} {a1 cs so : Sl} {ts : List Tg} {ol : List Int} (h : Plc m H a1 cs so B ts ol) (f : Frs [] H H') : Plc m H' a1 cs so B ts ol := by
 obtain ⟨h1, ⟨cl, h2, h3⟩, h4, h5⟩ := h
 exact ⟨h1.frs f (by simp), ⟨cl, h2.frs f (by simp), fun i t c w1 w2 w3 w4 => by obtain ⟨g, q1, q2⟩ := h3 i t c w1 w2 w3 w4; exact ⟨g, q1, q2.frs f (by simp)⟩⟩, h4.frs f (by simp), h5⟩
theorem Plc.card {a1 cs so : Sl} {ts : List Tg} {ol : List Int} (h : Plc m H a1 cs so B ts ol) : ∃ cl, SlF TC H cs cl ∧ ∀ i ∈ ol, ∃ (k : Nat) (t : Tg) (c : Cd) (g : G_api_Card), i = k ∧ ts[k]? = some t ∧ cl[k]? = some g ∧ CR m H g c ∧ cpI B ts i = c.ps ∧ ckI B ts i = c.g.Kind ∧ g.Kind = c.g.Kind ∧ c.ps.length ≤ 4 := by
 obtain ⟨h1, ⟨cl, h2, h3⟩, h4, h5⟩ := h
 refine ⟨cl, h2, fun i hi => ?_⟩
 obtain ⟨k, t, c, e1, e2, e3, e4, e5, e6, e7, e8⟩ := h5.at' i hi
 obtain ⟨g, q1, q2⟩ := h3 k t c e2 e3 e4 e5
 subst e1
 have hk : g.Kind = c.g.Kind := by rw [← q2.e]; rfl
 have hcd : cdI B ts (k : Int) = some c := by unfold cdI; rw [Int.toNat_natCast, e2]; exact e5
 exact ⟨k, t, c, g, rfl, e2, q1, q2, by unfold cpI; rw [hcd]; rfl, by unfold ckI; rw [hcd]; rfl, hk, e8⟩
theorem setup2_c (h : BP m H b se B ms) (okB : OkB B) {a1 a2 : Sl} {ts : List Tg} {fs : List G_api_Feature} (hs : SlF TT' H a1 ts) (hf : SlF TF H a2 fs) (fla : Flat H a1) (okt : ∀ t ∈ ts, t.Stamp ≤ 9223372036854775807) (okf : ∀ f ∈ fs, 0 ≤ f.Traits) (bts : ts.length ≤ 1048600) {Q : G_layer_place × Int × Unit -> Heap -> Prop}
  (q1 : ∀ p H', setE se B ts fs ≠ 0 -> Frs [] H H' -> Q (p, setE se B ts fs, ()) H') (q0 : ∀ cs so ol H', setE se B ts fs = 0 -> Tog B ts fs -> Plc H.length H' a1 cs so B ts ol -> Frs [] H H' -> Q (⟨some ⟨b, 0, none⟩, a1, cs, so⟩, 0, ()) H') :
  CALL P [T_G_layer_place, TN'] n_layer_setup [.pointer (some ⟨b, 0, none⟩), a1.v, a2.v] H Q := by
 refine setup_c h okB hs hf fla okt okf bts q1 fun cs so cl ol H' e tog pl => ?_
 have hfe : fs.length = ts.length := by
  refine Classical.byContradiction fun q => ?_
  unfold setE at e
  split at e
  ·cases e
  ·rw [if_pos (.inr q)] at e; cases e
 have hlen : ts.length ≤ 2048 := by
  refine Classical.byContradiction fun q => ?_
  unfold setE at e
  rw [if_pos (by omega)] at e; cases e
 exact q0 cs so ol H' e tog ⟨hs.frs pl.f (by simp), ⟨cl, pl.c, pl.card⟩, pl.o, pl.ord.ordT tog hfe okB hlen⟩ pl.f
theorem idx_part {s : Sl} {l : List Pt} (h : SlF TP H s l) {i : Int} {n : Nat} {x : Pt} (hi : i = n) (hx : l[n]? = some x) {K : Pt -> Prop} (hK : K x) : IDX s.p s.len i 8 fun b o => LD TP H b o K := idx_ldF (T := TP) hTP h hi hx rfl hK
theorem idx_cparts {s : Sl} {gs : List G_api_Card} (h : SlF TC H s gs) {i : Int} {n : Nat} {g : G_api_Card} (hi : i = n) (hx : gs[n]? = some g) {K : Sl -> Prop} (hk : K g.Parts) : IDX s.p s.len i 9 fun b o => LD T_sl H b (o + 8) K := by
 subst hi; exact idx_parts h hx hk
theorem peff_c {a1 a2 cs so : Sl} {bp : Option Addr} {ts : List Tg} {fs : List Ft} {ol : List Int} (pl : Plc m H a1 cs so B ts ol) (hf : SlF TF H a2 fs) (hfe : fs.length = ts.length) {k : Int} {Q : Sl × Unit -> Heap -> Prop}
  (hq : ∀ s H' sp, NewO TSt H s H' (effs B ts fs ol k) sp -> Q (s, ()) H') : CALL P [T_sl] n_layer_place_effects [T_G_layer_place.enc ⟨bp, a1, cs, so⟩, a2.v, .int .i64 k] H Q := by
 apply c_layer_place_effects
 unfold S_layer_place_effects
 have hol := pl.o.1
 obtain ⟨cl, hcl, cd⟩ := pl.card
 refine JOIN_inv (fun y H' => ∃ sp, NewO TSt H y.1.1 H' (effs B ts fs ol k) sp) (fun j hj => ?_) (fun y H' h => by obtain ⟨sp, h⟩ := h; exact hq _ _ _ h)
 refine loop_of (fun (y : (Sl × Int × Unit) × Unit) H' => ∃ (n : Nat) (sp : List Sg), y.1.2.1 = n ∧ n ≤ ol.length ∧ NewO TSt H y.1.1 H' ((ol.take n).flatMap (effO1 B ts fs k)) sp) (fun y => ol.length - y.1.2.1.toNat) ?_ ⟨0, [], rfl, Nat.zero_le _, by simpa using NewO.nil' TSt H⟩
 rintro G ⟨⟨out, i, _⟩, _⟩ H1 ⟨n, sp, hi, hn, no⟩ hG
 simp only at hi no; subst hi
 dsimp only at hG ⊢
 have f1 := no.2.2
 refine ifD (fun hlt => ?_) (fun hge => hj _ _ ⟨sp, ?_⟩)
 ·have hlt : n < ol.length := by omega
  have hx : ol[n]? = some ol[n] := List.getElem?_eq_getElem hlt
  have hm : ol[n] ∈ ol := List.getElem_mem hlt
  generalize ol[n] = x at hx hm
  obtain ⟨kx, t, c, g, ek, et, eg, cr, ecp, eck, egk, e4⟩ := cd x hm
  have hkl : kx < fs.length := by rw [hfe]; exact (List.getElem?_eq_some_iff.1 et).1
  have hfx : fs[kx]? = some fs[kx] := List.getElem?_eq_getElem hkl
  generalize fs[kx] = f at hfx
  have eft : ftI fs x = f := ftI_at ek hfx
  have tk := fm_take (effO1 B ts fs k) hx
  have hpre : ((ol.take n).flatMap (effO1 B ts fs k)).length ≤ 64 := by
   have := fm_len (f := effO1 B ts fs k) (c := 4) (l := ol.take n) fun y hy => by
    obtain ⟨_, _, c', _, _, _, _, _, ecp', _, _, e4'⟩ := cd y (List.mem_of_mem_take hy)
    unfold effO1
    split
    ·simp
    ·have := effN_len (y + 1) k (cpI B ts y)
     rw [ecp'] at this ⊢; omega
   have h16 := pl.ot.few
   rw [List.length_take] at this
   omega
  refine JOIN_inv (fun y H' => ∃ sp, NewO TSt H y.1.1 H' ((ol.take (n + 1)).flatMap (effO1 B ts fs k)) sp) (fun j2 hj2 => ?_) ?_
  ·refine idx_ldF (T := TN') hTN' (pl.o.frs f1 (by simp)) rfl hx rfl (idx_traits (hf.frs f1 (by simp)) ek hfx (phas_c (ifB_of (fun hM => ?_) (fun hM => ?_))))
   ·refine hj2 _ _ ⟨sp, ?_⟩
    have : effO1 B ts fs k x = [] := by unfold effO1; rw [eft, if_pos hM]
    rw [tk, this, List.append_nil]; exact no
   ·have e1 : effO1 B ts fs k x = effN (x + 1) k c.ps := by
     unfold effO1; rw [eft, if_neg (by have hM : hasT f.Traits 6 = false := hM; rw [hM]; decide), ecp]
    rw [e1] at tk
    refine idx_cparts (hcl.frs f1 (by simp)) ek eg ?_
    have hps := cr.p
    have hpl := hps.1
    refine JOIN_inv (fun y H' => ∃ sp, NewO TSt H y.1.1 H' ((ol.take (n + 1)).flatMap (effO1 B ts fs k)) sp) (fun j3 hj3 => ?_) (fun y H' h => hj2 _ _ h)
    refine loop_of (fun (y : (Sl × Int × Unit) × Unit) H' => ∃ (i : Nat) (sp : List Sg), y.1.2.1 = i ∧ i ≤ c.ps.length ∧ NewO TSt H y.1.1 H' ((ol.take n).flatMap (effO1 B ts fs k) ++ (c.ps.zipIdx.take i).flatMap (effN1 (x + 1) k)) sp) (fun y => c.ps.length - y.1.2.1.toNat) ?_ ⟨0, sp, rfl, Nat.zero_le _, by simpa using no⟩
    rintro G2 ⟨⟨out2, i2, _⟩, _⟩ H2 ⟨i, sp2, hi, hin, no2⟩ hG2
    simp only at hi no2; subst hi
    dsimp only at hG2 ⊢
    have f2 := no2.2.2
    refine ifD (fun hlt2 => ?_) (fun hge2 => hj3 _ _ ⟨sp2, ?_⟩)
    ·have hlt2 : i < c.ps.length := by omega
     have hy : c.ps[i]? = some c.ps[i] := List.getElem?_eq_getElem hlt2
     have hz : c.ps.zipIdx[i]? = some (c.ps[i], i) := by rw [List.getElem?_zipIdx, hy]; simp
     generalize c.ps[i] = p at hy hz
     have tk2 := fm_take (effN1 (x + 1) k) hz
     have hpre2 : ((c.ps.zipIdx.take i).flatMap (effN1 (x + 1) k)).length ≤ 4 := by
      have := fm_len (f := effN1 (x + 1) k) (c := 1) (l := c.ps.zipIdx.take i) fun y _ => effN1_len _ _ y
      rw [List.length_take, List.length_zipIdx] at this
      omega
     refine idx_part (hps.frs f2 (by simp)) rfl hy (JD (p.When = 5 ∧ layV p.Verb = k) (fun j4 hj4 => ifE (fun e5 => play_c (hj4 _ (by simp [e5]))) (fun e5 => hj4 _ (by simp [e5]))) ?_)
     refine JOIN_inv (fun y H' => ∃ sp, NewO TSt H y.1.1 H' ((ol.take n).flatMap (effO1 B ts fs k) ++ (c.ps.zipIdx.take (i + 1)).flatMap (effN1 (x + 1) k)) sp) (fun j5 hj5 => ifD (fun hc => ?_) (fun hc => hj5 _ _ ⟨sp2, ?_⟩)) ?_
     ·have e2 : effN1 (x + 1) k (p, i) = [⟨x + 1, i, p⟩] := by unfold effN1; rw [if_pos hc]
      have hkx : x + 1 ≤ 9223372036854775807 ∧ 0 ≤ x := by
       have h1 := pl.ot.len
       omega
      rw [i64w (by omega) (by omega)]
      refine app_c tySt rfl (fun _ => by simp) (m := 1) [(⟨x + 1, i, p⟩ : Sg)] rfl rfl (by rw [List.length_append]; show 2 * (_ + 1) * 4096 ≤ _; omega) no2.1 fun s4 H5 sp5 k1 k2 k3 => ?_
      refine hj5 _ _ ⟨sp5, ?_⟩
      rw [tk2, e2, ← List.append_assoc]
      exact no2.app k1 k2 k3
     ·have e2 : effN1 (x + 1) k (p, i) = [] := by unfold effN1; rw [if_neg hc]
      rw [tk2, e2, List.append_nil]; exact no2
     ·rintro ⟨⟨out3, _⟩, _⟩ H3 ⟨sp3, no3⟩
      rw [i64w (by omega) (by omega)]
      exact hG2 _ _ ⟨i + 1, sp3, by simp, hlt2, no3⟩ (by simp; omega)
    ·have : i = c.ps.length := by omega
     subst this
     have e3 : c.ps.zipIdx.take c.ps.length = c.ps.zipIdx := by rw [← List.length_zipIdx (l := c.ps) (i := 0), List.take_length]
     rw [e3] at no2
     rw [tk]; exact no2
  ·rintro ⟨⟨out3, _⟩, _⟩ H3 ⟨sp3, no3⟩
   have := pl.ot.few
   rw [i64w (by omega) (by omega)]
   exact hG _ _ ⟨n + 1, sp3, by simp, hlt, no3⟩ (by simp; omega)
 ·have : n = ol.length := by omega
  subst this
  rw [List.take_length] at no; exact no
theorem effects_c (h : BP m H b se B ms) (okB : OkB B) {a1 a2 : Sl} {ts : List Tg} {fs : List G_api_Feature} (hs : SlF TT' H a1 ts) (hf : SlF TF H a2 fs) (fla : Flat H a1) (okt : ∀ t ∈ ts, t.Stamp ≤ 9223372036854775807) (okf : ∀ f ∈ fs, 0 ≤ f.Traits) (bts : ts.length ≤ 1048600) {k : Int} {Q : Sl × Int × Unit -> Heap -> Prop}
  (q1 : ∀ H', setE se B ts fs ≠ 0 -> Frs [] H H' -> Q (⟨none, 0, 0⟩, setE se B ts fs, ()) H') (q2 : ∀ H', setE se B ts fs = 0 -> (k < 1 ∨ 5 < k) -> Frs [] H H' -> Q (⟨none, 0, 0⟩, 2, ()) H')
  (q0 : ∀ s ol H' sp, setE se B ts fs = 0 -> Tog B ts fs -> 1 ≤ k -> k ≤ 5 -> OrdT B ts ol -> NewO TSt H s H' (effs B ts fs ol k) sp -> Q (s, 0, ()) H') :
  CALL P [T_sl, TN'] n_layer_Effects [.pointer (some ⟨b, 0, none⟩), a1.v, a2.v, .int .i64 k] H Q := by
 apply c_layer_Effects
 unfold S_layer_Effects
 refine setup2_c h okB hs hf fla okt okf bts (fun p H' e f => ifB_t (by simpa using e) (q1 H' e f)) fun cs so ol H' e tog pl f => ifB_f rfl ?_
 have hfe : fs.length = ts.length := by
  refine Classical.byContradiction fun q => ?_
  unfold setE at e
  split at e
  ·cases e
  ·rw [if_pos (.inr q)] at e; cases e
 refine hJ (k < 1 ∨ 5 < k) (fun j hj => ifD (fun h => hj _ (by simp; omega)) (fun h => hj _ (by simp; omega))) (fun hk => q2 _ e hk f) (fun hk => ?_)
 exact peff_c pl (hf.frs f (by simp)) hfe fun s H2 sp no => q0 s ol H2 sp e tog (by omega) (by omega) pl.ot (no.older f)
end
end Go.Proofs.YtolekmhhkopooaaGreatDoor.Zq
end
section
namespace Go.Proofs.YtolekmhhkopooaaGreatDoor.Zq
open Zv
section
variable {H : Heap} {b m : Nat} {se : Bool} {B : List Cd} {ms : List G_api_MarkInfo}
structure Gv (H : Heap) (a1 a2 : Sl) (ts : List Tg) (fs : List Ft) : Prop where
 s : SlF TT' H a1 ts
 f : SlF TF H a2 fs
 fl : Flat H a1
 okt : ∀ t ∈ ts, t.Stamp ≤ 9223372036854775807
 okf : ∀ f ∈ fs, 0 ≤ f.Traits
 len : ts.length ≤ 1048600
variable {a1 a2 : Sl} {ts : List Tg} {fs : List Ft}
theorem Gv.new {H' : Heap} (h : Gv H a1 a2 ts fs) (f : Frs [] H H') : Gv H' a1 a2 ts fs := ⟨h.s.frs f (by simp), h.f.frs f (by simp), h.fl.frs f, h.okt, h.okf, h.len⟩
def unP (B : List Cd) (t : Tg) : Prop := t.Place = 4 ∧ 1 ≤ t.Card ∧ ∃ c, B[(t.Card - 1).toNat]? = some c ∧ c.g.Kind = 1
theorem punit_c (h : BP m H b true B ms) (okB : OkB B) {t : Tg} {Q : Bool × Unit -> Heap -> Prop} (hq : ∀ r H', (r = true ↔ unP B t) -> Frs [] H H' -> Q (r, ()) H') : CALL P [T_bool] n_thing_Unit [.pointer (some ⟨b, 0, none⟩), TT'.enc t] H Q := by
 apply c_thing_Unit
 unfold S_thing_Unit
 refine ifN (fun hp => hq _ _ (by simp [unP, hp]) (.refl _ _)) (fun hp => tcard_c h okB (fun q => ?_) (fun c g H' _ h1 hc cr f => ?_))
 ·refine JOIN_of (ifB_f rfl (hq _ _ ⟨fun e => (by cases e), fun ⟨_, k1, c, k2, _⟩ => ?_⟩ (.refl _ _)))
  have := (List.getElem?_eq_some_iff.1 k2).1
  rcases q with q | q | q
  ·cases q
  ·omega
  ·omega
 ·refine JOIN_of (ifB_t rfl (hq _ _ ?_ f))
  have hk : g.Kind = c.g.Kind := by rw [← cr.e]; rfl
  rw [hk]
  constructor
  ·intro e; exact ⟨hp, h1, c, hc, by simpa using e⟩
  ·rintro ⟨_, _, c', k1, k2⟩
   rw [hc] at k1; cases k1
   simpa using k2
def askP (se : Bool) (B : List Cd) (ts : List Tg) (fs : List Ft) (who : Int) : Prop := setE se B ts fs = 0 ∧ (who = 0 ∨ who = 1)
theorem setE_ok {e : setE se B ts fs = 0} : se = true ∧ fs.length = ts.length ∧ ts.length ≤ 2048 ∧ Tog B ts fs := by
 unfold setE at e
 split at e
 ·cases e
 ·rename_i h1
  split at e
  ·cases e
  ·rename_i h2
   split at e
   ·rename_i h3
    refine ⟨?_, Classical.byContradiction fun q => h2 (.inr q), by omega, h3⟩
    cases hs : se with
    | true => rfl
    | false => exact absurd (.inl hs) h2
   ·cases e
theorem asked_c (h : BP m H b se B ms) (okB : OkB B) (gv : Gv H a1 a2 ts fs) {who : Int} {Q : Bool × Unit -> Heap -> Prop} (hq : ∀ r H', (r = true ↔ askP se B ts fs who) -> Frs [] H H' -> Q (r, ()) H') :
  CALL P [T_bool] n_target_asked [.pointer (some ⟨b, 0, none⟩), a1.v, a2.v, .int .i64 who] H Q := by
 apply c_target_asked
 unfold S_target_asked
 refine effects_c h okB gv.s gv.f gv.fl gv.okt gv.okf gv.len (fun H' e f => ?_) (fun H' e hk f => by omega) (fun s ol H' sp e _ _ _ _ no => ?_)
 ·refine JOIN_of (ifB_f (by simpa using e) (hq _ _ ⟨fun q => (by cases q), fun q => absurd q.1 e⟩ f))
 ·refine JOIN_of (ifB_t rfl (ifE (fun e1 => hq _ _ ⟨fun _ => ⟨e, .inl e1⟩, fun _ => rfl⟩ no.2.2) (fun e1 => hq _ _ ⟨fun q => ⟨e, .inr (by simpa using q)⟩, fun q => by have := q.2; simp; omega⟩ no.2.2)))
def mayN (B : List Cd) (ts : List Tg) (fs : List Ft) (who n : Int) : Prop :=
 n = -1 ∨ n = -2 ∨ (1 ≤ n ∧ ∃ t f, ts[(n - 1).toNat]? = some t ∧ fs[(n - 1).toNat]? = some f ∧ unP B t ∧ (f.Holder = who ∨ hasT f.Traits 4 = false))
theorem may_c (h : BP m H b se B ms) (okB : OkB B) (gv : Gv H a1 a2 ts fs) {who n : Int} {Q : Bool × Unit -> Heap -> Prop} (hq : ∀ r H', (r = true ↔ askP se B ts fs who ∧ mayN B ts fs who n) -> Frs [] H H' -> Q (r, ()) H') :
  CALL P [T_bool] n_target_May [.pointer (some ⟨b, 0, none⟩), a1.v, a2.v, .int .i64 who, .int .i64 n] H Q := by
 apply c_target_May
 unfold S_target_May
 refine asked_c h okB gv fun r H1 hr f1 => ?_
 refine ifB_of (fun e => hq _ _ ⟨fun q => (by cases q), fun q => ?_⟩ f1) (fun e => ?_)
 ·have e : (!r) = true := e
  rw [hr.2 q.1] at e; cases e
 have hr1 : r = true := by
  have e : (!r) = false := e
  simpa using e
 have ask := hr.1 hr1
 obtain ⟨e1, e2, e3, e4⟩ := setE_ok (e := ask.1)
 subst e1
 have hln := gv.s.1
 have h1 := h.new f1
 have gv1 := gv.new f1
 refine hJ (n = -1 ∨ n = -2) (fun j hj => ifE (fun q => hj _ (by simp [q])) (fun q => hj _ (by simp [q]))) (fun q => hq _ _ ⟨fun _ => ⟨ask, by unfold mayN; omega⟩, fun _ => rfl⟩ f1) (fun hn => ?_)
 by_cases hn1 : n < 1
 ·refine JOIN_of (ifB_t (by simpa using hn1) (ifB_t rfl (hq _ _ ⟨fun q => (by cases q), fun q => ?_⟩ f1)))
  have := q.2; unfold mayN at this; omega
 by_cases hn2 : ts.length < n
 ·refine JOIN_of (ifB_f (by simpa using hn1) (ifB_t (by simp; omega) (ifB_t rfl (hq _ _ ⟨fun q => (by cases q), fun q => ?_⟩ f1))))
  have := q.2; unfold mayN at this
  rcases this with w | w | ⟨_, t, f, w, _⟩
  ·omega
  ·omega
  ·have := (List.getElem?_eq_some_iff.1 w).1; omega
 have hw : IntKind.wrap .i64 (n - 1) = ((n - 1).toNat : Int) := by rw [i64w (by omega) (by omega)]; omega
 rw [hw]
 have ht : ts[(n - 1).toNat]? = some (ts[(n - 1).toNat]'(by omega)) := List.getElem?_eq_getElem (by omega)
 have hf : fs[(n - 1).toNat]? = some (fs[(n - 1).toNat]'(by omega)) := List.getElem?_eq_getElem (by omega)
 generalize (ts[(n - 1).toNat]'(by omega)) = t at ht
 generalize (fs[(n - 1).toNat]'(by omega)) = f at hf
 have key : mayN B ts fs who n ↔ unP B t ∧ (f.Holder = who ∨ hasT f.Traits 4 = false) := by
  unfold mayN
  constructor
  ·rintro (w | w | ⟨_, t', f', w1, w2, w3⟩)
   ·omega
   ·omega
   ·rw [ht] at w1; rw [hf] at w2; cases w1; cases w2; exact w3
  ·exact fun w => .inr (.inr ⟨by omega, t, f, ht, hf, w⟩)
 refine JOIN_of (ifB_f (by simpa using hn1) (ifB_f (by simp; omega) (idx_ldF (T := TT') hTT' gv1.s rfl ht rfl (punit_c h1 okB fun r2 H2 hr2 f2 => ?_))))
 have f02 := f1.trans f2
 refine ifB_of (fun e => hq _ _ ⟨fun q => (by cases q), fun q => ?_⟩ f02) (fun e => ?_)
 ·have e : (!r2) = true := e
  rw [hr2.2 (key.1 q.2).1] at e; cases e
 have hr3 : r2 = true := by
  have e : (!r2) = false := e
  simpa using e
 have hu := hr2.1 hr3
 refine idx_ldF (T := TF) hTF (gv1.f.frs f2 (by simp)) rfl hf rfl (JOIN_of (ifE (fun e => hq _ _ ⟨fun _ => ⟨ask, key.2 ⟨hu, .inl e⟩⟩, fun _ => rfl⟩ f02) (fun e => phas_c (hq _ _ ⟨fun q => ⟨ask, key.2 ⟨hu, .inr ?_⟩⟩, fun q => ?_⟩ f02))))
 ·simpa using q
 ·have := (key.1 q.2).2
  rcases this with w | w
  ·exact absurd w e
  ·simpa using w
open Classical in
noncomputable def selL (p : Int -> Prop) : Nat -> List Int
 | 0 => []
 | n + 1 => selL p n ++ if p ((n : Int) + 1) then [(n : Int) + 1] else []
theorem selL_pos {p : Int -> Prop} {n : Nat} (h : p ((n : Int) + 1)) : selL p (n + 1) = selL p n ++ [(n : Int) + 1] := by simp [selL, h]
theorem selL_neg {p : Int -> Prop} {n : Nat} (h : ¬ p ((n : Int) + 1)) : selL p (n + 1) = selL p n := by simp [selL, h]
theorem selL_len {p : Int -> Prop} : ∀ n, (selL p n).length ≤ n
 | 0 => Nat.le_refl _
 | n + 1 => by
  have := selL_len (p := p) n
  by_cases h : p ((n : Int) + 1)
  ·rw [selL_pos h]; simp; omega
  ·rw [selL_neg h]; omega
theorem selL_mem {p : Int -> Prop} {x : Int} : ∀ {n : Nat}, x ∈ selL p n ↔ 1 ≤ x ∧ x ≤ n ∧ p x
 | 0 => by simp [selL]; omega
 | n + 1 => by
  by_cases h : p ((n : Int) + 1)
  ·rw [selL_pos h, List.mem_append, selL_mem (n := n)]
   simp only [List.mem_singleton]
   constructor
   ·rintro (⟨h1, h2, h3⟩ | rfl)
    ·exact ⟨h1, by omega, h3⟩
    ·exact ⟨by omega, by omega, h⟩
   ·rintro ⟨h1, h2, h3⟩
    by_cases e : x = n + 1
    ·exact .inr e
    ·exact .inl ⟨h1, by omega, h3⟩
  ·rw [selL_neg h, selL_mem (n := n)]
   constructor
   ·rintro ⟨h1, h2, h3⟩; exact ⟨h1, by omega, h3⟩
   ·rintro ⟨h1, h2, h3⟩
    by_cases e : x = n + 1
    ·subst e; exact absurd h3 h
    ·exact ⟨h1, by omega, h3⟩
theorem selL_nodup {p : Int -> Prop} : ∀ n : Nat, (selL p n).Nodup
 | 0 => List.nodup_nil
 | n + 1 => by
  by_cases h : p ((n : Int) + 1)
  ·rw [selL_pos h, List.nodup_append]
   refine ⟨selL_nodup n, by simp, fun a ha b hb => ?_⟩
   have := (selL_mem.1 ha).2.1
   simp at hb; omega
  ·rw [selL_neg h]; exact selL_nodup n
theorem tyI' : TyS E TN' 35 (0 : Int) := tyI
theorem gone_c {Y : Value} {p : Int -> Prop} {n : Nat} (hn : n ≤ 2048) (hy : ∀ (x : Int) H' (K : Bool × Unit -> Heap -> Prop), Frs [] H H' -> (∀ r H'', (r = true ↔ p x) -> Frs [] H' H'' -> K (r, ()) H'') -> CALLV P [T_bool] Y [.int .i64 x] H' K) {Q : Sl × Unit -> Heap -> Prop}
  (hq : ∀ s H' sp, NewO TN' H s H' (selL p n) sp -> Q (s, ()) H') : CALL P [T_sl] n_target_gone [.int .i64 1, .int .i64 (n : Int), Y] H Q := by
 apply c_target_gone
 unfold S_target_gone
 refine JOIN_inv (fun y H' => ∃ sp, NewO TN' H y.1.1 H' (selL p n) sp) (fun j hj => ?_) (fun y H' h => by obtain ⟨sp, h⟩ := h; exact hq _ _ _ h)
 refine loop_of (fun (y : (Sl × Int × Unit) × Unit) H' => ∃ (k : Nat) (sp : List Int), y.1.2.1 = (k : Int) + 1 ∧ k ≤ n ∧ NewO TN' H y.1.1 H' (selL p k) sp) (fun y => n + 1 - y.1.2.1.toNat) ?_ ⟨0, [], rfl, Nat.zero_le _, NewO.nil' TN' H⟩
 rintro G ⟨⟨out, i, _⟩, _⟩ H1 ⟨k, sp, hi, hk, no⟩ hG
 simp only at hi no; subst hi
 dsimp only at hG ⊢
 refine ifD (fun hlt => hy _ _ _ no.2.2 fun r H2 hr f2 => ?_) (fun hge => hj _ _ ⟨sp, ?_⟩)
 ·have no2 := no.new f2
  have hl := selL_len (p := p) k
  refine JOIN_inv (fun y H' => ∃ sp, NewO TN' H y.1.1 H' (selL p (k + 1)) sp) (fun j2 hj2 => ifB_of (fun e => ?_) (fun e => ?_)) ?_
  ·refine app_c tyI' rfl (fun _ => by simp) (m := 1) [(k : Int) + 1] rfl rfl (by show 2 * (_ + 1) * 4096 ≤ _; omega) no2.1 fun s4 H5 sp5 k1 k2 k3 => ?_
   exact hj2 _ _ ⟨sp5, by rw [selL_pos (hr.1 e)]; exact no2.app k1 k2 k3⟩
  ·exact hj2 _ _ ⟨sp, by rw [selL_neg (fun q => by have e : r = false := e; rw [hr.2 q] at e; cases e)]; exact no2⟩
  ·rintro ⟨⟨out3, _⟩, _⟩ H3 ⟨sp3, no3⟩
   rw [i64w (by omega) (by omega)]
   exact hG _ _ ⟨k + 1, sp3, by simp, by omega, no3⟩ (by simp; omega)
 ·have : k = n := by omega
  subst this; exact no
theorem row1 (H : Heap) (c : List Value) (z : Nat) : (mk H c z false)[H.length]? = some (.row c z false false true) ∧ Frs [] H (mk H c z false) ∧ (mk H c z false).length = H.length + 1 := ⟨by simp [mk], Frs.app _ _ _, by simp [mk]⟩
open Classical in
noncomputable def allL (se : Bool) (B : List Cd) (ts : List Tg) (fs : List Ft) (who : Int) : List Int :=
 if askP se B ts fs who then [-1, -2] ++ selL (mayN B ts fs who) ts.length else []
theorem all_c (h : BP m H b se B ms) (okB : OkB B) (gv : Gv H a1 a2 ts fs) {who : Int} {Q : Sl × Unit -> Heap -> Prop} (hq : ∀ s H' sp, NewO TN' H s H' (allL se B ts fs who) sp -> Q (s, ()) H') :
  CALL P [T_sl] n_target_All [.pointer (some ⟨b, 0, none⟩), a1.v, a2.v, .int .i64 who] H Q := by
 apply c_target_All
 unfold S_target_All
 unfold NEW
 obtain ⟨r1, f1, l1⟩ := row1 H [(.pointer (some ⟨b, 0, none⟩))] 1
 generalize mk H [(.pointer (some ⟨b, 0, none⟩))] 1 false = H1 at r1 f1 l1
 obtain ⟨r2, f2, l2⟩ := row1 H1 [(.slice a1.p a1.len a1.cap)] 1
 generalize mk H1 [(.slice a1.p a1.len a1.cap)] 1 false = H2 at r2 f2 l2
 obtain ⟨r3, f3, l3⟩ := row1 H2 [(.slice a2.p a2.len a2.cap)] 1
 generalize mk H2 [(.slice a2.p a2.len a2.cap)] 1 false = H3 at r3 f3 l3
 obtain ⟨r4, f4, l4⟩ := row1 H3 [(.int .i64 who)] 1
 generalize mk H3 [(.int .i64 who)] 1 false = H4 at r4 f4 l4
 have f04 : Frs [] H H4 := f1.trans (f2.trans (f3.trans f4))
 have ld1 : ∀ {H' : Heap} {k : Option Addr -> Prop}, Frs [] H4 H' -> k (some ⟨b, 0, none⟩) -> LD T_ptr H' H.length 0 k := fun f hk => LD_of (T := T_ptr) _ [] [] ((f2.trans (f3.trans (f4.trans f))).get (by simp) r1) rfl rfl rfl hk
 have ld2 : ∀ {H' : Heap} {k : Sl -> Prop}, Frs [] H4 H' -> k a1 -> LD T_sl H' H1.length 0 k := fun f hk => LD_of (T := T_sl) _ [] [] ((f3.trans (f4.trans f)).get (by simp) r2) rfl rfl rfl hk
 have ld3 : ∀ {H' : Heap} {k : Sl -> Prop}, Frs [] H4 H' -> k a2 -> LD T_sl H' H2.length 0 k := fun f hk => LD_of (T := T_sl) _ [] [] ((f4.trans f).get (by simp) r3) rfl rfl rfl hk
 have ld4 : ∀ {H' : Heap} {k : Int -> Prop}, Frs [] H4 H' -> k who -> LD TN' H' H3.length 0 k := fun f hk => LD_of (T := TN') _ [] [] (f.get (by simp) r4) rfl rfl rfl hk
 have rf := Frs.refl [] H4
 have hln := gv.s.1
 refine ld1 rf (ld2 rf (ld3 rf (ld4 rf (asked_c (h.new f04) okB (gv.new f04) fun r H5 hr f5 => ?_))))
 refine ifB_of (fun e => ?_) (fun e => ?_)
 ·have e : (!r) = true := e
  have : ¬ askP se B ts fs who := fun q => by rw [hr.2 q] at e; cases e
  have e2 : allL se B ts fs who = [] := by unfold allL; rw [if_neg this]
  refine hq _ _ [] ?_
  rw [e2]; exact (NewO.nil' TN' H5).older (f04.trans f5)
 have hr1 : r = true := by
  have e : (!r) = false := e
  simpa using e
 have ask := hr.1 hr1
 obtain ⟨e1, e2, e3, e4⟩ := setE_ok (e := ask.1)
 have eal : allL se B ts fs who = [-1, -2] ++ selL (mayN B ts fs who) ts.length := by unfold allL; rw [if_pos ask]
 obtain ⟨r6, f6, l6⟩ := row1 H5 [(.int .i64 (-1)), (.int .i64 (-2))] 1
 generalize mk H5 [(.int .i64 (-1)), (.int .i64 (-2))] 1 false = H6 at r6 f6 l6
 have f46 : Frs [] H4 H6 := f5.trans f6
 refine ld2 f46 ?_
 rw [hln]
 refine gone_c (p := mayN B ts fs who) e3 (fun x H' K f hK => .inl ⟨_, #[], _, rfl, ?_⟩) fun s H7 sp no => ?_
 ·refine c_target_All_1 (c0 := (H.length, 0)) (c1 := (H1.length, 0)) (c2 := (H2.length, 0)) (c3 := (H3.length, 0)) ?_
  unfold S_target_All_1
  have f4' := f46.trans f
  have f0' := f04.trans f4'
  refine ld1 f4' (ld2 f4' (ld3 f4' (ld4 f4' (may_c (h.new f0') okB (gv.new f0') fun r2 H2' hr2 f2' => hK _ _ ?_ f2'))))
  exact ⟨fun q => (hr2.1 q).2, fun q => hr2.2 ⟨ask, q⟩⟩
 ·have hl := selL_len (p := mayN B ts fs who) ts.length
  have o7 : Ow TN' H7 ⟨some ⟨H5.length, 0, none⟩, 2, 2⟩ [-1, -2] [] := ⟨rfl, rfl, by simp, .inr ⟨_, rfl, no.2.2.get (by simp) r6⟩⟩
  have f07 : Frs [] H H7 := f04.trans (f46.trans no.2.2)
  have f05 : Frs [] H H5 := f04.trans f5
  have n7 : NewO TN' H ⟨some ⟨H5.length, 0, none⟩, 2, 2⟩ H7 [-1, -2] [] := ⟨o7, fun d hd => by simp at hd; subst hd; exact f05.1, f07⟩
  refine apps_c tyI' rfl (fun _ => by simp) no.1.slf (by simp only [List.length_cons, List.length_nil]; omega) o7 fun s8 H8 sp8 k1 k2 k3 => ?_
  exact hq _ _ sp8 (by rw [eal]; exact n7.app k1 k2 k3)
end
end Go.Proofs.YtolekmhhkopooaaGreatDoor.Zq
end
section
namespace Go.Proofs.YtolekmhhkopooaaGreatDoor.Zq
open Zv
section
variable {H : Heap} {b m : Nat} {se : Bool} {B : List Cd} {ms : List G_api_MarkInfo} {a1 a2 : Sl} {ts : List Tg} {fs : List Ft}
theorem idx_fld {T T1 : Tag} (hT : ∀ x, (T.cells x).length = T.n) {s : Sl} {l : List T.α} (h : SlF T H s l) {i : Int} {n : Nat} {x : T.α} (hi : i = n) (hx : l[n]? = some x) {sz : Nat} (hz : sz = T.n) (pre post : List Value) {v : T1.α} {of : Nat}
  (hcut : T.cells x = pre ++ (T1.cells v ++ post)) (hpre : pre.length = of) (hn : (T1.cells v).length = T1.n) {K : T1.α -> Prop} (hK : K v) : IDX s.p s.len i sz fun b o => LD T1 H b (o + of) K := by
 have hl := (List.getElem?_eq_some_iff.1 hx).1
 obtain ⟨h1, ⟨_, h2, _⟩ | ⟨_, _, _, h2, _⟩ | ⟨b, A, B, z, o, ro, h3, h4⟩⟩ := h
 ·subst h2; simp at hl
 ·subst h2; simp at hl
 ·subst hi; subst hz
  unfold IDX NIL
  rw [h3]
  refine ⟨⟨by omega, by omega⟩, ?_⟩
  refine LD_of (T := T1) v (A ++ (fl T (l.take n) ++ pre)) (post ++ (fl T (l.drop (n + 1)) ++ B)) h4 ?_ ?_ hn hK
  ·rw [fl_cut (T := T) l n x hx, hcut]; simp [List.append_assoc]
  ·rw [List.length_append, List.length_append, fl_len hT, List.length_take, Nat.min_eq_left (by omega), Int.toNat_natCast, hpre]
   omega
theorem idx_place {s : Sl} {l : List Tg} (h : SlF TT' H s l) {i : Int} {n : Nat} {x : Tg} (hi : i = n) (hx : l[n]? = some x) {K : Int -> Prop} (hK : K x.Place) : IDX s.p s.len i 11 fun b o => LD (T_int .u8) H b (o + 2) K :=
 idx_fld (T := TT') (T1 := T_int .u8) hTT' h hi hx rfl ((TT'.cells x).take 2) ((TT'.cells x).drop 3) rfl rfl rfl hK
theorem idx_tcard {s : Sl} {l : List Tg} (h : SlF TT' H s l) {i : Int} {n : Nat} {x : Tg} (hi : i = n) (hx : l[n]? = some x) {K : Int -> Prop} (hK : K x.Card) : IDX s.p s.len i 11 fun b o => LD TN' H b (o + 0) K :=
 idx_fld (T := TT') (T1 := TN') hTT' h hi hx rfl [] ((TT'.cells x).drop 1) rfl rfl rfl hK
theorem idx_hold {s : Sl} {l : List Ft} (h : SlF TF H s l) {i : Int} {n : Nat} {x : Ft} (hi : i = n) (hx : l[n]? = some x) {K : Int -> Prop} (hK : K x.Holder) : IDX s.p s.len i 5 fun b o => LD TN' H b (o + 0) K :=
 idx_fld (T := TF) (T1 := TN') hTF h hi hx rfl [] ((TF.cells x).drop 1) rfl rfl rfl hK
theorem idx_when' {s : Sl} {l : List Pt} (h : SlF TP H s l) {i : Int} {n : Nat} {x : Pt} (hi : i = n) (hx : l[n]? = some x) {K : Int -> Prop} (hK : K x.When) : IDX s.p s.len i 8 fun b o => LD (T_int .u8) H b (o + 0) K :=
 idx_fld (T := TP) (T1 := T_int .u8) hTP h hi hx rfl [] ((TP.cells x).drop 1) rfl rfl rfl hK
theorem idx_verb {s : Sl} {l : List Pt} (h : SlF TP H s l) {i : Int} {n : Nat} {x : Pt} (hi : i = n) (hx : l[n]? = some x) {K : Int -> Prop} (hK : K x.Verb) : IDX s.p s.len i 8 fun b o => LD (T_int .u8) H b (o + 1) K :=
 idx_fld (T := TP) (T1 := T_int .u8) hTP h hi hx rfl ((TP.cells x).take 1) ((TP.cells x).drop 2) rfl rfl rfl hK
theorem rat_c (h : BD m H b se B ms) (okB : OkB B) {n : Int} {Q : G_api_Card × Int × Unit -> Heap -> Prop} (q6 : (se = false ∨ n < 1 ∨ (B.length : Int) < n) -> Q (zC, 6, ()) H)
  (q0 : ∀ c g H', se = true -> 1 ≤ n -> B[(n - 1).toNat]? = some c -> CR H.length H' g c -> Frs [] H H' -> Q (g, 0, ()) H') : CALL P [TC, TN'] n_ref07_Book_At [.pointer (some ⟨b, 0, none⟩), .int .i64 n] H Q := by
 apply c_ref07_Book_At
 unfold S_ref07_Book_At
 refine rnone_b h (ifB_f rfl ?_)
 have few := h.few
 obtain ⟨⟨s, gs, ns, w, hs, lo, hl, hc⟩, _, lt, ml⟩ := id h
 have hsl := hs.1
 refine hJ (se = false ∨ n < 1 ∨ (B.length : Int) < n) (fun j hj => w.ld_se rfl (ifB_of (fun e => hj _ ?_) (fun e => ifD (fun h1 => hj _ ?_) (fun h1 => w.ld_l rfl (hj _ ?_))))) q6 (fun hN => ?_)
 ·simp only [true_iff]; exact .inl (by simpa using e)
 ·simp only [true_iff]; exact .inr (.inl h1)
 ·have : ¬ se = false := by simpa using e
  simp only [decide_eq_true_eq]; constructor
  ·exact fun q => .inr (.inr (by omega))
  ·rintro (q | q | q)
   ·exact absurd q this
   ·exact absurd q h1
   ·omega
 ·have hse : se = true := by cases hs : se with | true => rfl | false => exact absurd (.inl hs) hN
  have h1 : ¬ n < 1 := fun q => hN (.inr (.inl q))
  have h2 : ¬ (B.length : Int) < n := fun q => hN (.inr (.inr q))
  have hx : B[(n - 1).toNat]? = some (B[(n - 1).toNat]'(by omega)) := List.getElem?_eq_getElem (by omega)
  generalize (B[(n - 1).toNat]'(by omega)) = c at hx
  obtain ⟨g, hg, cr⟩ := hc _ c hx
  have hp4 := okB.p4 (List.mem_of_getElem? hx)
  rw [i64w (x := n - 1) (by omega) (by omega)]
  exact w.ld_l rfl (idx_ldF (T := TC) hTC hs (n := (n - 1).toNat) (by omega) hg rfl (rcopy_b cr.p (by omega) fun s H' hs lo f => q0 c _ H' hse (by omega) hx ⟨by rw [← cr.e]; rfl, hs, lo⟩ f))
theorem rcard18_c (h : BD m H b se B ms) (okB : OkB B) {t : Tg} {Q : G_api_Card × Int × Unit -> Heap -> Prop} (q6 : (se = false ∨ t.Card < 1 ∨ (B.length : Int) < t.Card) -> Q (zC, 6, ()) H)
  (q0 : ∀ c g H', se = true -> 1 ≤ t.Card -> B[(t.Card - 1).toNat]? = some c -> CR H.length H' g c -> Frs [] H H' -> Q (g, 0, ()) H') : CALL P [TC, TN'] n_ref18_Card [.pointer (some ⟨b, 0, none⟩), TT'.enc t] H Q := by
 apply c_ref18_Card
 unfold S_ref18_Card
 exact rnone_b h (ifB_f rfl (rat_c h okB q6 q0))
theorem tabI_last {n : Nat} {t : Tg} (hx : ts[n]? = some t) : (tabI ts (n + 1)).length = (tabI ts n).length + if t.Place = 4 then 1 else 0 := by
 simp only [tabI, hx, Option.map_some, Option.some.injEq, List.length_append]
 split <;> rfl
theorem rtog_c (h : BD m H b se B ms) (okB : OkB B) (hs : SlF TT' H a1 ts) (hf : SlF TF H a2 fs) {Q : Bool × Unit -> Heap -> Prop} (hq : ∀ r H', (r = true ↔ setE se B ts fs = 0) -> Frs [] H H' -> Q (r, ()) H') :
  CALL P [T_bool] n_ref19_Together [.pointer (some ⟨b, 0, none⟩), a1.v, a2.v] H Q := by
 apply c_ref19_Together
 unfold S_ref19_Together
 have hsl := hs.1
 have hfl := hf.1
 refine hJ (se = false ∨ 2048 < ts.length ∨ fs.length ≠ ts.length) (fun j hj => rsealed_c h (ifB_of (fun e => hj _ ?_) (fun e => ifD (fun e1 => hj _ ?_) (fun e1 => hj _ ?_)))) (fun hb => hq _ _ ⟨fun e => (by cases e), fun e => ?_⟩ (.refl _ _)) (fun hg => ?_)
 ·simp only [true_iff]; exact .inl (by simpa using e)
 ·simp only [true_iff]; exact .inr (.inl (by omega))
 ·have : ¬ se = false := by simpa using e
  simp only [bne_iff_ne, ne_eq]
  constructor
  ·intro q; exact .inr (.inr (by omega))
  ·rintro (q | q | q)
   ·exact absurd q this
   ·omega
   ·omega
 ·obtain ⟨e1, e2, e3, _⟩ := setE_ok (e := e)
  rcases hb with q | q | q
  ·rw [e1] at q; cases q
  ·omega
  ·exact absurd e2 q
 have hse : se = true := by cases hs : se with | true => rfl | false => exact absurd (.inl hs) hg
 have hlen : ¬ 2048 < ts.length := fun q => hg (.inr (.inl q))
 have hfe : fs.length = ts.length := Classical.byContradiction fun q => hg (.inr (.inr q))
 have bad : ∀ H', ¬ Tog B ts fs -> Frs [] H H' -> Q (false, ()) H' := fun H' hn f => hq _ _ ⟨fun q => (by cases q), fun e => absurd (setE_ok (e := e)).2.2.2 hn⟩ f
 refine JOIN_inv (fun _ H' => Frs [] H H' ∧ Tog B ts fs) (fun j hj => ?_) (fun _ H' hh => hq _ _ ⟨fun _ => (setE_0 hlen (by intro q; rcases q with q | q; exact absurd q (by rw [hse]; decide); exact q hfe)).1 hh.2, fun _ => rfl⟩ hh.1)
 refine loop_of (fun (y : (Int × Int × Unit) × Unit) H' => ∃ n : Nat, y.1.2.1 = n ∧ n ≤ ts.length ∧ y.1.1 = ((tabI ts n).length : Int) ∧ Frs [] H H' ∧ (∀ (i : Nat) t f, i < n -> ts[i]? = some t -> fs[i]? = some f -> okTh B t f) ∧ (tabI ts n).length ≤ 16 ∧ (∀ (i j : Nat) t u, i < j -> j < n -> ts[i]? = some t -> ts[j]? = some u -> t.Place = 4 -> u.Place = 4 -> t.Stamp ≠ u.Stamp)) (fun y => ts.length - y.1.2.1.toNat) ?_
  ⟨0, rfl, Nat.zero_le _, rfl, .refl _ _, fun i t f hi => by omega, by simp [tabI], fun i j t u _ hj => by omega⟩
 rintro G ⟨⟨many, i, _⟩, _⟩ H1 ⟨n, hi, hn, hm, f1, ok, few, dst⟩ hG
 simp only at hi hm; subst hi; subst hm
 dsimp only at hG ⊢
 refine ifD (fun hlt => ?_) (fun hge => hj _ _ ?_)
 ·have hlt : n < ts.length := by omega
  have hx : ts[n]? = some ts[n] := List.getElem?_eq_getElem hlt
  have hy : fs[n]? = some (fs[n]'(by omega)) := List.getElem?_eq_getElem (by omega)
  have _hmf : fs[n]'(by omega) ∈ fs := List.getElem_mem (by omega)
  generalize ts[n] = t at hx
  generalize (fs[n]'(by omega)) = f at hy _hmf
  have tl := tabI_last hx
  have notog : ¬ okTh B t f -> ¬ Tog B ts fs := fun q k => q (k.all n t f hx hy)
  have h1 := h.new f1
  have hs1 := hs.frs f1 (by simp)
  have hf1 := hf.frs f1 (by simp)
  refine JOIN_inv (fun (y : (Int × Unit) × Unit) H' => Frs [] H H' ∧ y.1.1 = ((tabI ts (n + 1)).length : Int) ∧ okTh B t f ∧ (tabI ts (n + 1)).length ≤ 16 ∧ ∀ (i : Nat) u, i < n -> ts[i]? = some u -> u.Place = 4 -> t.Place = 4 -> u.Stamp ≠ t.Stamp) (fun j2 hj2 => ?_) ?_
  ·refine idx_ldF (T := TT') hTT' hs1 rfl hx rfl (rat_c h1 okB (fun q => ?_) (fun c g H9 _ hc1 hcx cr f9 => ?_))
   ·refine JOIN_of (ifB_t rfl (ifB_t rfl (bad _ (notog ?_) f1)))
    rintro ⟨c, k1, k2, _⟩
    have := (List.getElem?_eq_some_iff.1 k2).1
    rcases q with q | q | q
    ·rw [hse] at q; cases q
    ·omega
    ·omega
   have okiff : okTh B t f ↔ (t.Owner = 0 ∨ t.Owner = 1) ∧ 1 ≤ t.Place ∧ t.Place ≤ 5 ∧ (t.Place = 4 -> c.g.Kind ≠ 2 ∧ 1 ≤ t.Stamp ∧ (f.Holder = 0 ∨ f.Holder = 1) ∧ f.Traits < 256) := by
    constructor
    ·rintro ⟨c', k1, k2, k3⟩
     rw [hcx] at k2; cases k2; exact k3
    ·exact fun q => ⟨c, hc1, hcx, q⟩
   have f09 : Frs [] H H9 := f1.trans f9
   have hs9 := hs1.frs f9 (by simp)
   have hf9 := hf1.frs f9 (by simp)
   refine hJ (¬ (t.Owner = 0 ∨ t.Owner = 1) ∨ t.Place < 1 ∨ 5 < t.Place) (fun j3 hj3 => ifB_f rfl (ifD (fun e1 => hj3 _ (by simp; omega)) (fun e1 => ifD (fun e2 => hj3 _ (by simp; omega)) (fun e2 => ifD (fun e3 => hj3 _ (by simp; omega)) (fun e3 => hj3 _ (by simp; omega)))))) (fun q => bad _ (notog fun k => ?_) f09) (fun hA => ?_)
   ·have := okiff.1 k; omega
   refine ifN (fun hp4 => ?_) (fun hp4 => ?_)
   ·rw [if_neg hp4] at tl
    exact hj2 _ _ ⟨f09, by rw [tl]; rfl, okiff.2 ⟨by omega, by omega, by omega, fun q => absurd q hp4⟩, by omega, fun i u _ _ _ q => absurd q hp4⟩
   ·rw [if_pos hp4] at tl
    have hkd : g.Kind = c.g.Kind := by rw [← cr.e]; rfl
    rw [i64w (by omega) (by omega)]
    refine hJ (16 < (tabI ts (n + 1)).length ∨ c.g.Kind = 2 ∨ t.Stamp < 1 ∨ ¬ (f.Holder = 0 ∨ f.Holder = 1) ∨ ¬ f.Traits < 256) (fun j3 hj3 => ?_) (fun q => bad _ (fun k => ?_) f09) (fun hB => ?_)
    ·rw [hkd]
     refine ifD (fun e => hj3 _ (by simp; omega)) (fun e => ifE (fun e1 => hj3 _ (by simp; omega)) (fun e1 => ifD (fun e2 => hj3 _ (by simp; omega)) (fun e2 => idx_hold hf9 rfl hy (ifD (fun e3 => hj3 _ (by simp; omega)) (fun e3 => idx_hold hf9 rfl hy (ifD (fun e4 => hj3 _ (by simp; omega)) (fun e4 => idx_traits hf9 rfl hy (rtraits_c (hj3 _ (by simp; omega))))))))))
    ·rcases q with q | q
     ·have := k.few
      have := tabI_mono (ts := ts) (n := n + 1) (k := ts.length - (n + 1))
      rw [show n + 1 + (ts.length - (n + 1)) = ts.length by omega] at this
      omega
     ·have := (okiff.1 (k.all n t f hx hy)).2.2.2 hp4; omega
    have okn : okTh B t f := okiff.2 ⟨by omega, by omega, by omega, fun _ => ⟨by omega, by omega, by omega, by omega⟩⟩
    refine JOIN_inv (fun _ H' => H' = H9 ∧ ∀ (i : Nat) u, i < n -> ts[i]? = some u -> u.Place = 4 -> u.Stamp ≠ t.Stamp) (fun j4 hj4 => ?_) ?_
    ·refine loop_of (fun (y : (Int × Unit) × Unit) H' => H' = H9 ∧ ∃ k : Nat, y.1.1 = k ∧ k ≤ n ∧ ∀ (i : Nat) u, i < k -> ts[i]? = some u -> u.Place = 4 -> u.Stamp ≠ t.Stamp) (fun y => n - y.1.1.toNat) ?_ ⟨rfl, 0, rfl, Nat.zero_le _, fun i u hi => by omega⟩
     rintro G2 ⟨⟨i2, _⟩, _⟩ H' ⟨rfl, k, hk, hkn, no⟩ hG2
     simp only at hk; subst hk
     dsimp only at hG2 ⊢
     refine ifD (fun hlt2 => ?_) (fun hge2 => hj4 _ _ ⟨rfl, fun i u w1 w2 w3 => no i u (by omega) w2 w3⟩)
     have hz : ts[k]? = some (ts[k]'(by omega)) := List.getElem?_eq_getElem (by omega)
     generalize (ts[k]'(by omega)) = u at hz
     refine hJ (u.Place = 4 ∧ u.Stamp = t.Stamp) (fun j5 hj5 => idx_place hs9 rfl hz (ifE (fun e => idx_stamp' hs9 rfl hz (hj5 _ (by simp [e]))) (fun e => hj5 _ (by simp [e])))) (fun q => bad _ (fun w => ?_) f09) (fun q => ?_)
     ·exact w.dst k n u t (by omega) hz hx q.1 hp4 q.2
     ·rw [i64w (by omega) (by omega)]
      refine hG2 _ _ ⟨rfl, k + 1, by simp, by omega, fun i v w1 w2 w3 => ?_⟩ (by simp; omega)
      by_cases e : i = k
      ·subst e; rw [hz] at w2; cases w2; exact fun w => q ⟨w3, w⟩
      ·exact no i v (by omega) w2 w3
    ·rintro _ H' ⟨rfl, no⟩
     exact hj2 _ _ ⟨f09, by rw [tl]; rfl, okn, by omega, fun i u w1 w2 w3 _ => no i u w1 w2 w3⟩
  ·rintro ⟨⟨mm, _⟩, _⟩ H2 ⟨f2, hmm, okn, few2, no⟩
   simp only at hmm; subst hmm
   dsimp only
   rw [i64w (by omega) (by omega)]
   refine hG _ _ ⟨n + 1, by simp, hlt, rfl, f2, fun i t' f' w1 w2 w3 => ?_, few2, fun i j t' u' w1 w2 w3 w4 w5 w6 => ?_⟩ (by simp; omega)
   ·by_cases e : i = n
    ·subst e; rw [hx] at w2; cases w2; rw [hy] at w3; cases w3; exact okn
    ·exact ok i t' f' (by omega) w2 w3
   ·by_cases e : j = n
    ·subst e; rw [hx] at w4; cases w4; exact no i t' w1 w3 w5 w6
    ·exact dst i j t' u' w1 (by omega) w3 w4 w5 w6
 ·have : n = ts.length := by omega
  subst this
  refine ⟨f1, fun i t f w1 w2 => ok i t f (List.getElem?_eq_some_iff.1 w1).1 w1 w2, few, fun i j t u hij w1 w2 w3 w4 => ?_⟩
  rcases Nat.lt_or_gt_of_ne hij with q | q
  ·exact dst i j t u q (List.getElem?_eq_some_iff.1 w2).1 w1 w2 w3 w4
  ·exact fun e => dst j i u t q (List.getElem?_eq_some_iff.1 w1).1 w2 w1 w4 w3 e.symm
theorem rwrong_c (h : BD m H b se B ms) (okB : OkB B) (hs : SlF TT' H a1 ts) (hf : SlF TF H a2 fs) {Q : Int × Unit -> Heap -> Prop} (hq : ∀ H', Frs [] H H' -> Q (setE se B ts fs, ()) H') :
  CALL P [TN'] n_ref19_wrong [.pointer (some ⟨b, 0, none⟩), a1.v, a2.v] H Q := by
 apply c_ref19_wrong
 unfold S_ref19_wrong
 have hsl := hs.1
 refine rnone_b h (ifB_f rfl (ifD (fun e => ?_) (fun e => rtog_c h okB hs hf fun r H' hr f => ifB_of (fun e1 => ?_) (fun e1 => ?_))))
 ·have e1 : setE se B ts fs = 3 := by unfold setE; rw [if_pos (by omega)]
  have := hq H (.refl _ _); rwa [e1] at this
 ·have e1 : (!r) = true := e1
  have e2 : setE se B ts fs = 2 := by
   have h0 : ¬ setE se B ts fs = 0 := fun q => by rw [hr.2 q] at e1; cases e1
   unfold setE at h0 ⊢
   rw [if_neg (by omega)] at h0 ⊢
   split
   ·rfl
   ·rename_i w; rw [if_neg w] at h0
    split
    ·rename_i w2; rw [if_pos w2] at h0; exact absurd rfl h0
    ·rfl
  have := hq H' f; rwa [e2] at this
 ·have e2 : setE se B ts fs = 0 := hr.1 (by have e1 : (!r) = false := e1; simpa using e1)
  have := hq H' f; rwa [e2] at this
end
end Go.Proofs.YtolekmhhkopooaaGreatDoor.Zq
end
section
namespace Go.Proofs.YtolekmhhkopooaaGreatDoor.Zq
open Zv
section
variable {H : Heap} {b m : Nat} {B : List Cd} {ms : List G_api_MarkInfo} {a1 a2 : Sl} {ts : List Tg} {fs : List Ft} {ol : List Int}
structure Rt (m : Nat) (H : Heap) (b : Nat) (B : List Cd) (ms : List G_api_MarkInfo) (a1 : Sl) (ts : List Tg) (ol : List Int) : Prop where
 bk : BD m H b true B ms
 ok : OkB B
 s : SlF TT' H a1 ts
 ot : OrdT B ts ol
theorem Rt.new {H' : Heap} (h : Rt m H b B ms a1 ts ol) (f : Frs [] H H') : Rt m H' b B ms a1 ts ol := ⟨h.bk.new f, h.ok, h.s.frs f (by simp), h.ot⟩
theorem stampAt_at {x : Int} {k : Nat} {t : Tg} (e : x = k) (h : ts[k]? = some t) : stampAt ts x.toNat = t.Stamp := by subst e; simp [stampAt, h]
theorem rorder_c (hs : SlF TT' H a1 ts) (ot : OrdT B ts ol) {Q : Sl × Unit -> Heap -> Prop} (hq : ∀ s H' sp, NewO TN' H s H' (ol.map (· + 1)) sp -> Q (s, ()) H') : CALL P [T_sl] n_ref19_order [a1.v] H Q := by
 apply c_ref19_order
 unfold S_ref19_order
 have hsl := hs.1
 have hlen := ot.len
 have few := ot.few
 refine JOIN_inv (fun _ _ => False) (fun j hj => ?_) (fun _ _ h => h.elim)
 refine loop_of (fun (y : (Sl × Int × Unit) × Unit) H' => ∃ (k : Nat) (sp : List Int), k ≤ ol.length ∧ NewO TN' H y.1.1 H' ((ol.take k).map (· + 1)) sp ∧ (k = 0 -> y.1.2.1 = 0) ∧ (∀ x, 1 ≤ k -> ol[k - 1]? = some x -> y.1.2.1 = stampAt ts x.toNat)) (fun y => ol.length - y.1.1.len) ?_ ⟨0, [], Nat.zero_le _, by simpa using NewO.nil' TN' H, fun _ => rfl, fun x h => by omega⟩
 rintro G ⟨⟨out, last, _⟩, _⟩ H1 ⟨k, sp, hk, no, l0, l1⟩ hG
 simp only at no l0 l1
 dsimp only at hG ⊢
 have hol : out.len = k := by have := no.1.1; simp at this; omega
 have hs1 := hs.frs no.2.2 (by simp)
 have gt : ∀ (p : Nat) x, k ≤ p -> ol[p]? = some x -> last < stampAt ts x.toNat := fun p x hp hx => by
  obtain ⟨kx, t, c, e1, e2, e3, e4, e5, e6, _⟩ := ot.at' x (List.mem_of_getElem? hx)
  rw [stampAt_at e1 e2]
  by_cases h0 : k = 0
  ·rw [l0 h0]; omega
  ·have hz : ol[k - 1]? = some (ol[k - 1]'(by omega)) := List.getElem?_eq_getElem (by omega)
   have := ot.srt (k - 1) p _ x (by omega) hz hx
   rw [l1 _ (by omega) hz, ← stampAt_at e1 e2]; exact this
 have le : ∀ (p : Nat) x, p < k -> ol[p]? = some x -> stampAt ts x.toNat ≤ last := fun p x hp hx => by
  have hz : ol[k - 1]? = some (ol[k - 1]'(by omega)) := List.getElem?_eq_getElem (by omega)
  rw [l1 _ (by omega) hz]
  by_cases e : p = k - 1
  ·subst e; rw [hx] at hz; cases hz; exact Int.le_refl _
  ·have := ot.srt p (k - 1) x _ (by omega) hx hz; omega
 refine JOIN_inv (fun (y : (Sl × Int × Unit) × Unit) H' => ∃ sp, k < ol.length ∧ NewO TN' H y.1.1 H' ((ol.take (k + 1)).map (· + 1)) sp ∧ ∀ x, ol[k]? = some x -> y.1.2.1 = stampAt ts x.toNat) (fun j2 hj2 => ?_) ?_
 ·refine JOIN_inv (fun (y : (Int × Unit) × Unit) H' => H' = H1 ∧ ((y.1.1 = -1 ∧ ∀ (j : Nat) t, ts[j]? = some t -> t.Place = 4 -> t.Stamp ≤ last) ∨ ∃ (bn : Nat) (t : Tg), y.1.1 = bn ∧ ts[bn]? = some t ∧ t.Place = 4 ∧ last < t.Stamp ∧ ∀ (j : Nat) u, ts[j]? = some u -> u.Place = 4 -> last < u.Stamp -> t.Stamp ≤ u.Stamp)) (fun j3 hj3 => ?_) ?_
  ·refine loop_of (fun (y : (Int × Int × Unit) × Unit) H' => H' = H1 ∧ ∃ n : Nat, y.1.2.1 = n ∧ n ≤ ts.length ∧ ((y.1.1 = -1 ∧ ∀ (j : Nat) t, j < n -> ts[j]? = some t -> t.Place = 4 -> t.Stamp ≤ last) ∨ ∃ (bn : Nat) (t : Tg), y.1.1 = bn ∧ ts[bn]? = some t ∧ t.Place = 4 ∧ last < t.Stamp ∧ ∀ (j : Nat) u, j < n -> ts[j]? = some u -> u.Place = 4 -> last < u.Stamp -> t.Stamp ≤ u.Stamp)) (fun y => ts.length - y.1.2.1.toNat) ?_
    ⟨rfl, 0, rfl, Nat.zero_le _, .inl ⟨rfl, fun j t h => by omega⟩⟩
   rintro G2 ⟨⟨best, i, _⟩, _⟩ H' ⟨rfl, n, hi, hn, inv⟩ hG2
   simp only at hi inv; subst hi
   dsimp only at hG2 ⊢
   refine ifD (fun hlt => ?_) (fun hge => hj3 _ _ ⟨rfl, ?_⟩)
   ·have hlt : n < ts.length := by omega
    have hx : ts[n]? = some ts[n] := List.getElem?_eq_getElem hlt
    generalize ts[n] = t at hx
    have step : ∀ r : Bool, (r = true ↔ (t.Place = 4 ∧ last < t.Stamp ∧ (best = -1 ∨ ∃ (bn : Nat) (v : Tg), best = bn ∧ ts[bn]? = some v ∧ t.Stamp < v.Stamp))) -> JOIN (fun (j25 : (Int × Unit) × (Unit) -> Heap -> Prop) => ifB r (j25 (((n : Int), ()), (())) H') (j25 ((best, ()), (())) H')) fun (y26 : (Int × Unit) × (Unit)) H7 => G2 ((y26.1.1, IntKind.wrap .i64 ((n : Int) + 1), ()), (())) H7 := fun r hr => by
     refine ifB_of (fun e => ?_) (fun e => ?_)
     ·obtain ⟨w1, w2, w3⟩ := hr.1 e
      dsimp only
      rw [i64w (by omega) (by omega)]
      refine hG2 _ _ ⟨rfl, n + 1, by simp, hlt, .inr ⟨n, t, rfl, hx, w1, w2, fun j u h1 h2 h3 h4 => ?_⟩⟩ (by simp; omega)
      by_cases ej : j = n
      ·subst ej; rw [hx] at h2; cases h2; exact Int.le_refl _
      ·rcases inv with ⟨i1, i2⟩ | ⟨bn, v, i1, i2, i3, i4, i5⟩
       ·have := i2 j u (by omega) h2 h3; omega
       ·rcases w3 with w | ⟨bn', v', q1, q2, q3⟩
        ·omega
        ·have : bn' = bn := by omega
         subst this; rw [i2] at q2; cases q2
         have := i5 j u (by omega) h2 h3 h4; omega
     ·have hnr : ¬ (t.Place = 4 ∧ last < t.Stamp ∧ (best = -1 ∨ ∃ (bn : Nat) (v : Tg), best = bn ∧ ts[bn]? = some v ∧ t.Stamp < v.Stamp)) := fun q => by
       have e : r = false := e
       rw [hr.2 q] at e; cases e
      dsimp only
      rw [i64w (by omega) (by omega)]
      refine hG2 _ _ ⟨rfl, n + 1, by simp, hlt, ?_⟩ (by simp; omega)
      rcases inv with ⟨i1, i2⟩ | ⟨bn, v, i1, i2, i3, i4, i5⟩
      ·refine .inl ⟨i1, fun j u h1 h2 h3 => ?_⟩
       by_cases ej : j = n
       ·subst ej; rw [hx] at h2; cases h2
        exact Classical.byContradiction fun q => hnr ⟨h3, by omega, .inl i1⟩
       ·exact i2 j u (by omega) h2 h3
      ·refine .inr ⟨bn, v, i1, i2, i3, i4, fun j u h1 h2 h3 h4 => ?_⟩
       by_cases ej : j = n
       ·subst ej; rw [hx] at h2; cases h2
        exact Classical.byContradiction fun q => hnr ⟨h3, h4, .inr ⟨bn, v, i1, i2, by omega⟩⟩
       ·exact i5 j u (by omega) h2 h3 h4
    refine JOIN_inv (fun (y : (Bool × Unit) × Unit) H2 => H2 = H' ∧ (y.1.1 = true ↔ (t.Place = 4 ∧ last < t.Stamp ∧ (best = -1 ∨ ∃ (bn : Nat) (v : Tg), best = bn ∧ ts[bn]? = some v ∧ t.Stamp < v.Stamp)))) (fun j4 hj4 => ?_) ?_
    ·refine idx_place hs1 rfl hx (ifE (fun e1 => idx_stamp' hs1 rfl hx (ifD (fun e2 => ?_) (fun e2 => hj4 _ _ ⟨rfl, by simp; omega⟩))) (fun e1 => hj4 _ _ ⟨rfl, by simp [e1]⟩))
     rcases inv with ⟨i1, i2⟩ | ⟨bn, v, i1, i2, i3, i4, i5⟩
     ·exact ifB_t (by simp; omega) (hj4 _ _ ⟨rfl, by simp [i1, e1]; omega⟩)
     ·refine ifB_f (by simp; omega) (idx_stamp' hs1 rfl hx (idx_stamp' hs1 i1 i2 (hj4 _ _ ⟨rfl, ?_⟩)))
      simp only [decide_eq_true_eq]
      constructor
      ·intro q; exact ⟨e1, by omega, .inr ⟨bn, v, i1, i2, q⟩⟩
      ·rintro ⟨_, _, q | ⟨bn', v', q1, q2, q3⟩⟩
       ·omega
       ·have : bn' = bn := by omega
        subst this; rw [i2] at q2; cases q2; exact q3
    ·rintro ⟨⟨r, _⟩, _⟩ H2 ⟨rfl, hr⟩
     exact step r hr
   ·have : n = ts.length := by omega
    subst this
    rcases inv with ⟨i1, i2⟩ | ⟨bn, v, i1, i2, i3, i4, i5⟩
    ·exact .inl ⟨i1, fun j t h => i2 j t (List.getElem?_eq_some_iff.1 h).1 h⟩
    ·exact .inr ⟨bn, v, i1, i2, i3, i4, fun j u h => i5 j u (List.getElem?_eq_some_iff.1 h).1 h⟩
  ·rintro ⟨⟨best, _⟩, _⟩ H' ⟨rfl, inv⟩
   dsimp only at inv ⊢
   rcases inv with ⟨i1, i2⟩ | ⟨bn, v, i1, i2, i3, i4, i5⟩
   ·refine ifB_t (by simp; omega) ?_
    have hkl : k = ol.length := by
     refine Classical.byContradiction fun q => ?_
     have hz : ol[k]? = some (ol[k]'(by omega)) := List.getElem?_eq_getElem (by omega)
     have h1 := gt k _ (Nat.le_refl _) hz
     obtain ⟨kx, t, c, e1, e2, e3, _⟩ := ot.at' _ (List.mem_of_getElem? hz)
     rw [stampAt_at e1 e2] at h1
     have := i2 kx t e2 e3; omega
    subst hkl
    rw [List.take_length] at no
    exact hq _ _ _ no
   ·have hm := ot.all bn v i2 i3
    obtain ⟨p, hp⟩ := List.mem_iff_getElem?.1 hm
    have sv : stampAt ts ((bn : Int)).toNat = v.Stamp := stampAt_at rfl i2
    have hpk : p = k := by
     rcases Nat.lt_trichotomy p k with w | w | w
     ·have := le p _ w hp; omega
     ·exact w
     ·have hpl := (List.getElem?_eq_some_iff.1 hp).1
      have hz : ol[k]? = some (ol[k]'(by omega)) := List.getElem?_eq_getElem (by omega)
      have h1 := gt k _ (Nat.le_refl _) hz
      have h2 := ot.srt k p _ _ w hz hp
      obtain ⟨kx, t, c, e1, e2, e3, _⟩ := ot.at' _ (List.mem_of_getElem? hz)
      rw [stampAt_at e1 e2] at h1 h2
      have := i5 kx t e2 e3 h1; omega
    subst hpk
    have hpl := (List.getElem?_eq_some_iff.1 hp).1
    have hbl := (List.getElem?_eq_some_iff.1 i2).1
    subst i1
    refine ifB_f (by simp) ?_
    rw [i64w (by omega) (by omega)]
    refine app_c tyI' rfl (fun _ => by simp) (m := 1) [(bn : Int) + 1] rfl rfl (by simp only [List.length_map, List.length_take, List.length_cons, List.length_nil]; omega) no.1 fun s4 H5 sp5 k1 k2 k3 => ?_
    have no5 := no.app k1 k2 k3
    refine idx_stamp' (hs.frs no5.2.2 (by simp)) rfl i2 (hj2 _ _ ⟨sp5, hpl, ?_, fun x hx => ?_⟩)
    ·rw [List.take_add_one, hp]; simpa using no5
    ·rw [hp] at hx; cases hx; exact sv.symm
 ·rintro ⟨⟨out2, last2, _⟩, _⟩ H2 ⟨sp2, hkl, no2, hl2⟩
  have hol2 : out2.len = k + 1 := by have := no2.1.1; simp at this; omega
  exact hG _ _ ⟨k + 1, sp2, hkl, no2, fun h => by omega, fun x _ hx => hl2 x hx⟩ (by simp only; omega)
theorem Rt.card (h : Rt m H b B ms a1 ts ol) {x : Int} (hx : x ∈ ol) : ∃ (k : Nat) (t : Tg) (c : Cd), x = k ∧ ts[k]? = some t ∧ t.Place = 4 ∧ 1 ≤ t.Card ∧ B[(t.Card - 1).toNat]? = some c ∧ cpI B ts x = c.ps ∧ ckI B ts x = c.g.Kind ∧ c.ps.length ≤ 4 ∧ k < 2048 := by
 obtain ⟨k, t, c, e1, e2, e3, e4, e5, e6, e7, e8⟩ := h.ot.at' x hx
 have := h.ot.len
 have hk := (List.getElem?_eq_some_iff.1 e2).1
 have hcd : cdI B ts x = some c := by subst e1; unfold cdI; rw [Int.toNat_natCast, e2]; exact e5
 exact ⟨k, t, c, e1, e2, e3, e4, e5, by unfold cpI; rw [hcd]; rfl, by unfold ckI; rw [hcd]; rfl, e8, by omega⟩
theorem rat_in (h : Rt m H b B ms a1 ts ol) {t : Tg} {c : Cd} (h1 : 1 ≤ t.Card) (hc : B[(t.Card - 1).toNat]? = some c) {Q : G_api_Card × Int × Unit -> Heap -> Prop} (hq : ∀ g H', CR H.length H' g c -> Frs [] H H' -> Q (g, 0, ()) H') : CALL P [TC, TN'] n_ref07_Book_At [.pointer (some ⟨b, 0, none⟩), .int .i64 t.Card] H Q := by
 refine rat_c h.bk h.ok (fun q => ?_) fun c' g H' _ _ hc' cr f => ?_
 ·have := (List.getElem?_eq_some_iff.1 hc).1
  rcases q with q | q | q
  ·cases q
  ·omega
  ·omega
 ·rw [hc] at hc'; cases hc'; exact hq g H' cr f
theorem runit_c (h : Rt m H b B ms a1 ts ol) {x : Int} (hx : x ∈ ol) {k : Nat} {t : Tg} (hk : x = k) (ht : ts[k]? = some t) {Q : Bool × Unit -> Heap -> Prop} (hq : ∀ H', Frs [] H H' -> Q (ckI B ts x == 1, ()) H') : CALL P [T_bool] n_ref19_unit [.pointer (some ⟨b, 0, none⟩), TT'.enc t] H Q := by
 apply c_ref19_unit
 unfold S_ref19_unit
 obtain ⟨k', t', c, e1, e2, e3, e4, e5, e6, e7, e8, e9⟩ := h.card hx
 have : k' = k := by omega
 subst this; rw [ht] at e2; cases e2
 refine rat_in h e4 e5 fun g H' cr f => JOIN_of (ifB_t (by simpa using e3) ?_)
 have hg : g.Kind = c.g.Kind := by rw [← cr.e]; rfl
 have := hq H' f
 rw [e7, ← hg] at this; exact this
theorem rmeant_c (h : Rt m H b B ms a1 ts ol) (hf : SlF TF H a2 fs) (hfe : fs.length = ts.length) {s : Sg} (hs : s.Thing - 1 ∈ ol) {x : Int} (hx : x ∈ ol) {Q : Bool × Unit -> Heap -> Prop} (hq : ∀ H', Frs [] H H' -> Q (meansB B ts fs s x, ()) H') :
  CALL P [T_bool] n_ref19_meant [.pointer (some ⟨b, 0, none⟩), a1.v, a2.v, TSt.enc s, .int .i64 (x + 1)] H Q := by
 apply c_ref19_meant
 unfold S_ref19_meant
 obtain ⟨k, t, c, e1, e2, e3, e4, e5, e6, e7, e8, e9⟩ := h.card hx
 obtain ⟨k', t', c', e1', e2', e3', e4', e5', e6', e7', e8', e9'⟩ := h.card hs
 have hk : fs[k]? = some (fs[k]'(by have := (List.getElem?_eq_some_iff.1 e2).1; omega)) := List.getElem?_eq_getElem _
 have hk' : fs[k']? = some (fs[k']'(by have := (List.getElem?_eq_some_iff.1 e2').1; omega)) := List.getElem?_eq_getElem _
 generalize (fs[k]'_) = f at hk
 generalize (fs[k']'_) = f' at hk'
 have ef : ftI fs x = f := ftI_at e1 hk
 have ef' : ftI fs (s.Thing - 1) = f' := ftI_at e1' hk'
 have w1 : IntKind.wrap .i64 (x + 1 - 1) = (k : Int) := by rw [i64w (by omega) (by omega)]; omega
 have w2 : IntKind.wrap .i64 (s.Thing - 1) = (k' : Int) := by rw [i64w (by omega) (by omega)]; omega
 unfold meansB at hq
 refine ifE (fun q => ?_) (fun q4 => ?_)
 ·rw [if_pos q] at hq
  have := hq H (.refl _ _)
  have e : (x == s.Thing - 1) = (x + 1 == s.Thing) := by rw [Bool.eq_iff_iff]; simp; omega
  rwa [e] at this
 rw [if_neg q4, ef, ef'] at hq
 rw [w1, w2]
 refine idx_ldF (T := TT') hTT' h.s rfl e2 rfl (runit_c h hx e1 e2 fun H1 f1 => ifB_of (fun q => ?_) (fun q => ?_))
 ·have : ckI B ts x ≠ 1 := by simpa using q
  rw [if_pos this] at hq; exact hq _ f1
 have : ¬ ckI B ts x ≠ 1 := by simpa using q
 rw [if_neg this] at hq
 have hf1 := hf.frs f1 (by simp)
 refine idx_ldF (T := TF) hTF hf1 rfl hk rfl (idx_hold hf1 rfl hk' (ifE (fun q => ?_) (fun q5 => ?_)))
 ·rw [if_pos q] at hq; exact hq _ f1
 rw [if_neg q5] at hq
 refine ifE (fun q => ?_) (fun q8 => ?_)
 ·rw [if_neg (by omega), if_neg (by omega), if_pos q] at hq
  have e : (x != s.Thing - 1) = (x + 1 != s.Thing) := by rw [Bool.eq_iff_iff]; simp; omega
  rw [e] at hq
  refine JOIN_of (ifE (fun q1 => ?_) (fun q1 => ?_))
  ·have : (f.Holder == f'.Holder) = true := by simpa using q1
   rw [this, Bool.true_and] at hq; exact hq _ f1
  ·have : (f.Holder == f'.Holder) = false := by simpa using q1
   rw [this, Bool.false_and] at hq; exact hq _ f1
 refine ifE (fun q => ?_) (fun q6 => ?_)
 ·rw [if_pos q] at hq; exact hq _ f1
 rw [if_neg q6] at hq
 refine ifE (fun q => ?_) (fun q7 => ?_)
 ·rw [if_pos q] at hq; exact hq _ f1
 rw [if_neg q7, if_neg q8] at hq
 refine ifE (fun q => ?_) (fun q9 => ?_)
 ·rw [if_pos q] at hq; exact hq _ f1
 rw [if_neg q9] at hq
 refine ifE (fun q => ?_) (fun q10 => ?_)
 ·rw [if_pos q] at hq; exact rhas_c (hq _ f1)
 rw [if_neg q10] at hq; exact hq _ f1
theorem rabt_c (h : Rt m H b B ms a1 ts ol) (hf : SlF TF H a2 fs) (hfe : fs.length = ts.length) {s : Sg} (hs : s.Thing - 1 ∈ ol) {Q : Sl × Unit -> Heap -> Prop} (hq : ∀ r H' sp, NewO TN' H r H' (abouts B ts fs ol s) sp -> Q (r, ()) H') :
  CALL P [T_sl] n_ref19_about [.pointer (some ⟨b, 0, none⟩), a1.v, a2.v, TSt.enc s] H Q := by
 apply c_ref19_about
 unfold S_ref19_about
 refine rorder_c h.s h.ot fun x1 H1 sp1 n1 => ?_
 have h1 := h.new n1.2.2
 have hf1 := hf.frs n1.2.2 (by simp)
 have ho := n1.1.slf
 have hol : x1.len = ol.length := by have := ho.1; simpa using this
 have few := h.ot.few
 refine JOIN_inv (fun y H' => ∃ sp, NewO TN' H1 y.1.1 H' (abouts B ts fs ol s) sp) (fun j hj => ?_) (fun y H' hh => by obtain ⟨sp, hh⟩ := hh; exact hq _ _ _ (hh.older n1.2.2))
 refine loop_of (fun (y : (Sl × Int × Unit) × Unit) H' => ∃ (n : Nat) (sp : List Int), y.1.2.1 = n ∧ n ≤ ol.length ∧ NewO TN' H1 y.1.1 H' ((ol.take n).flatMap (abouts1 B ts fs s)) sp) (fun y => ol.length - y.1.2.1.toNat) ?_ ⟨0, [], rfl, Nat.zero_le _, by simpa using NewO.nil' TN' H1⟩
 rintro G ⟨⟨out, i, _⟩, _⟩ H2 ⟨n, sp, hi, hn, no⟩ hG
 simp only at hi no; subst hi
 dsimp only at hG ⊢
 have f2 := no.2.2
 refine ifD (fun hlt => ?_) (fun hge => hj _ _ ⟨sp, ?_⟩)
 ·have hlt : n < ol.length := by omega
  have hx : ol[n]? = some ol[n] := List.getElem?_eq_getElem hlt
  have hm : ol[n] ∈ ol := List.getElem_mem hlt
  generalize ol[n] = x at hx hm
  have hx1 : (ol.map (· + 1))[n]? = some (x + 1) := by rw [List.getElem?_map, hx]; rfl
  have tk := fm_take (abouts1 B ts fs s) hx
  have ho2 := ho.frs f2 (by simp)
  refine idx_ldF (T := TN') hTN' ho2 rfl hx1 rfl (rmeant_c (h1.new f2) (hf1.frs f2 (by simp)) hfe hs hm fun H3 f3 => ?_)
  have no3 := no.new f3
  have hpre : ((ol.take n).flatMap (abouts1 B ts fs s)).length ≤ 16 := by
   have := fm_len (f := abouts1 B ts fs s) (c := 1) (l := ol.take n) fun y _ => abouts1_len B ts fs s y
   rw [List.length_take] at this; omega
  refine JOIN_inv (fun y H' => ∃ sp, NewO TN' H1 y.1.1 H' ((ol.take (n + 1)).flatMap (abouts1 B ts fs s)) sp) (fun j2 hj2 => ifB_of (fun e => ?_) (fun e => ?_)) ?_
  ·have e2 : abouts1 B ts fs s x = [x + 1] := by unfold abouts1; exact if_pos e
   refine idx_ldF (T := TN') hTN' (ho2.frs f3 (by simp)) rfl hx1 rfl (app_c tyI' rfl (fun _ => by simp) (m := 1) [x + 1] rfl rfl (by show 2 * (_ + 1) * 4096 ≤ _; omega) no3.1 fun s4 H5 sp5 k1 k2 k3 => ?_)
   exact hj2 _ _ ⟨sp5, by rw [tk, e2]; exact no3.app k1 k2 k3⟩
  ·have e2 : abouts1 B ts fs s x = [] := by
    unfold abouts1
    have e : meansB B ts fs s x = false := e
    rw [e]; rfl
   exact hj2 _ _ ⟨sp, by rw [tk, e2, List.append_nil]; exact no3⟩
  ·rintro ⟨⟨out3, _⟩, _⟩ H4 ⟨sp3, no4⟩
   dsimp only
   rw [i64w (by omega) (by omega)]
   exact hG _ _ ⟨n + 1, sp3, by simp, hlt, no4⟩ (by simp; omega)
 ·have : n = ol.length := by omega
  subst this
  rw [List.take_length] at no; exact no
theorem rdone_c {f : Ft} {p : Pt} {hd : Int} {Q : Ft × Unit -> Heap -> Prop} (hq : Q (doneF f p hd, ()) H) : CALL P [TF] n_ref19_done [TF.enc f, TP.enc p, .int .i64 hd] H Q := by
 apply c_ref19_done
 unfold S_ref19_done
 unfold doneF at hq
 refine JOIN_of (ifE (fun q => by rw [if_pos q] at hq; exact hq) (fun q1 => ?_))
 rw [if_neg q1] at hq
 refine JOIN_of (ifE (fun q => by rw [if_pos q] at hq; exact hq) (fun q2 => ?_))
 rw [if_neg q2] at hq
 refine JOIN_of (ifE (fun q => by rw [if_pos q] at hq; exact rwith_c hq) (fun q3 => ?_))
 rw [if_neg q3] at hq
 refine JOIN_of (ifE (fun q => by rw [if_pos q] at hq; exact rwout_c hq) (fun q4 => ?_))
 rw [if_neg q4] at hq
 refine JOIN_of (ifE (fun q => by rw [if_pos q] at hq; exact hq) (fun q5 => ?_))
 rw [if_neg q5] at hq
 refine JOIN_of (ifE (fun q => by rw [if_pos q] at hq; exact hq) (fun q6 => ?_))
 rw [if_neg q6] at hq; exact hq
end
end Go.Proofs.YtolekmhhkopooaaGreatDoor.Zq
end
section
namespace Go.Proofs.YtolekmhhkopooaaGreatDoor.Zq
open Zv
section
variable {H : Heap} {b m : Nat} {B : List Cd} {ms : List G_api_MarkInfo} {a1 a2 : Sl} {ts : List Tg} {fs : List Ft} {ol : List Int}
theorem NewO.ptr {T : Tag} {H0 H : Heap} {s : Sl} {l sp : List T.α} (h : NewO T H0 s H l sp) : ∀ c, s.p = some ⟨c, 0, none⟩ -> H0.length ≤ c ∧ c < H.length := fun c hc => ⟨h.2.1 c hc, h.1.lt hc⟩
theorem rapply_c (h : Rt m H b B ms a1 ts ol) (hf : SlF TF H a2 fs) (hfe : fs.length = ts.length) {s : Sg} (hs : s.Thing - 1 ∈ ol) {Q : Sl × Unit -> Heap -> Prop} (hq : ∀ r H' sp, NewO TF H r H' (applyF B ts fs ol s) sp -> Q (r, ()) H') :
  CALL P [T_sl] n_ref19_apply [.pointer (some ⟨b, 0, none⟩), a1.v, a2.v, TSt.enc s] H Q := by
 apply c_ref19_apply
 unfold S_ref19_apply
 have hlen := h.ot.len
 refine copy_g tyF rfl (fun _ => by simp) hf (by omega) fun x1 H1 sp1 n1 => ?_
 have h1 := h.new n1.2.2
 refine rabt_c h1 (hf.frs n1.2.2 (by simp)) hfe hs fun x2 H2 sp2 n2 => ?_
 obtain ⟨k', t', c', e1', e2', e3', e4', e5', e6', e7', e8', e9'⟩ := h.card hs
 have hk' : fs[k']? = some (fs[k']'(by have := (List.getElem?_eq_some_iff.1 e2').1; omega)) := List.getElem?_eq_getElem _
 generalize (fs[k']'_) = f' at hk'
 have ef' : ftI fs (s.Thing - 1) = f' := ftI_at e1' hk'
 have w2 : IntKind.wrap .i64 (s.Thing - 1) = (k' : Int) := by rw [i64w (by omega) (by omega)]; omega
 rw [w2]
 have f02 := n1.2.2.trans n2.2.2
 refine idx_hold (hf.frs f02 (by simp)) rfl hk' ?_
 have hl2 : x2.len = (abouts B ts fs ol s).length := n2.1.1
 have hmem : ∀ x ∈ abouts B ts fs ol s, ∃ k : Nat, x = (k : Int) + 1 ∧ k < fs.length := fun x hx => by
  obtain ⟨k, t, c, e1, e2, _⟩ := h.card (mem_abouts.1 hx).1
  have := (List.getElem?_eq_some_iff.1 e2).1
  exact ⟨k, by omega, by omega⟩
 have hal := abouts_len B ts fs ol s
 have few := h.ot.few
 generalize hL : abouts B ts fs ol s = L at hl2 hmem n2 hal
 have eap : applyF B ts fs ol s = L.foldl (put1 s f'.Holder) fs := by unfold applyF; rw [hL, ef']
 refine JOIN_inv (fun _ H' => NewO TF H x1 H' (L.foldl (put1 s f'.Holder) fs) sp1) (fun j hj => ?_) (fun _ H' hh => hq _ _ sp1 (by rw [eap]; exact hh))
 refine loop_of (fun (y : (Int × Unit) × Unit) H' => ∃ n : Nat, y.1.1 = n ∧ n ≤ L.length ∧ NewO TF H x1 H' ((L.take n).foldl (put1 s f'.Holder) fs) sp1 ∧ Ow TN' H' x2 L sp2) (fun y => L.length - y.1.1.toNat) ?_ ⟨0, rfl, Nat.zero_le _, by simpa using n1.new n2.2.2, n2.1⟩
 rintro G ⟨⟨i, _⟩, _⟩ H4 ⟨n, hi, hn, no, o2⟩ hG
 simp only at hi; subst hi
 dsimp only at hG ⊢
 refine ifD (fun hlt => ?_) (fun hge => hj _ _ ?_)
 ·have hlt : n < L.length := by omega
  have hx : L[n]? = some L[n] := List.getElem?_eq_getElem hlt
  obtain ⟨k, ek, hk⟩ := hmem L[n] (List.getElem_mem hlt)
  generalize L[n] = x at hx ek
  have tk := fold_take (put1 s f'.Holder) fs hx
  have hcl := fold_put_len s f'.Holder (L.take n) fs
  generalize hcur : (L.take n).foldl (put1 s f'.Holder) fs = cur at no tk hcl
  have hky : cur[k]? = some (cur[k]'(by omega)) := List.getElem?_eq_getElem (by omega)
  generalize (cur[k]'(by omega)) = g at hky
  have eg : ftI cur (x - 1) = g := ftI_at (by omega) hky
  have w3 : IntKind.wrap .i64 (x - 1) = (k : Int) := by rw [i64w (by omega) (by omega)]; omega
  refine idx_all (T := TN') hTN' o2.slf rfl hx rfl fun b10 o11 rd => rd _ o2.slf _ (idx_ldF (T := TN') hTN' o2.slf rfl hx rfl ?_)
  rw [w3]
  refine idx_ldF (T := TF) hTF no.1.slf rfl hky rfl (rdone_c (rd _ o2.slf _ ⟨rfl, ?_⟩))
  refine no.1.put (n := k) hTF (fun x => rfl) rfl (by omega) (doneF g s.What f'.Holder) rfl fun c0 H6 hc0 o6 f6 l6 => ?_
  obtain ⟨p1, p2⟩ := no.ptr _ hc0
  obtain ⟨p3, p4⟩ := n1.ptr _ hc0
  have ep : put1 s f'.Holder cur x = cur.set k (doneF g s.What f'.Holder) := by
   unfold put1
   rw [eg, show (x - 1).toNat = k by omega]
  rw [i64w (by omega) (by omega)]
  refine hG _ _ ⟨n + 1, by simp, hlt, by rw [tk, ep]; exact ⟨o6, no.2.1, no.2.2.then f6 fun d hd => by simp at hd; subst hd; exact .inr p1⟩, o2.frs f6 fun d hd e => ?_⟩ (by simp; omega)
  simp at hd; subst hd
  have := n2.2.1 _ e; omega
 ·have : n = L.length := by omega
  subst this
  rw [List.take_length] at no; exact no
end
end Go.Proofs.YtolekmhhkopooaaGreatDoor.Zq
end
section
namespace Go.Proofs.YtolekmhhkopooaaGreatDoor.Zq
open Zv
section
variable {H : Heap} {b m : Nat} {se : Bool} {B : List Cd} {ms : List G_api_MarkInfo} {a1 a2 a3 : Sl} {ts : List Tg} {fs : List Ft} {ol : List Int} {l : List Sg}
theorem eq_of_at {α : Type} {x y : List α} (hl : x.length = y.length) (h : ∀ (i : Nat) a c, i < x.length -> x[i]? = some a -> y[i]? = some c -> a = c) : x = y := by
 apply List.ext_getElem hl
 intro i h1 h2
 exact h i _ _ h1 (List.getElem?_eq_getElem h1) (List.getElem?_eq_getElem h2)
theorem rsame_c {s r : Sl} {x y : List Int} (hx : SlF TN' H s x) (hy : SlF TN' H r y) (hl : x.length ≤ 1048600) {Q : Bool × Unit -> Heap -> Prop} (hq : Q (decide (x = y), ()) H) : CALL P [T_bool] n_ref19_same [s.v, r.v] H Q := by
 apply c_ref19_same
 unfold S_ref19_same
 have h1 := hx.1
 have h2 := hy.1
 have no : ¬ x = y -> Q (false, ()) H := fun q => by have := hq; rwa [decide_eq_false q] at this
 refine ifN (fun e => no fun q => by subst q; omega) (fun e => ?_)
 have hll : x.length = y.length := by omega
 refine JOIN_inv (fun _ H' => H' = H ∧ x = y) (fun j hj => ?_) (fun _ H' hh => by obtain ⟨rfl, e⟩ := hh; rwa [decide_eq_true e] at hq)
 refine loop_of (fun (t : (Int × Unit) × Unit) H' => H' = H ∧ ∃ n : Nat, t.1.1 = n ∧ n ≤ x.length ∧ ∀ (i : Nat) a c, i < n -> x[i]? = some a -> y[i]? = some c -> a = c) (fun t => x.length - t.1.1.toNat) ?_ ⟨rfl, 0, rfl, Nat.zero_le _, fun i a c h => by omega⟩
 rintro G ⟨⟨i, _⟩, _⟩ H' ⟨rfl, n, hi, hn, inv⟩ hG
 simp only at hi; subst hi
 dsimp only at hG ⊢
 refine ifD (fun hlt => ?_) (fun hge => hj _ _ ⟨rfl, eq_of_at hll fun i a c w => inv i a c (by omega)⟩)
 have hlt : n < x.length := by omega
 have ha : x[n]? = some x[n] := List.getElem?_eq_getElem hlt
 have hc : y[n]? = some (y[n]'(by omega)) := List.getElem?_eq_getElem (by omega)
 generalize x[n] = a at ha
 generalize (y[n]'(by omega)) = c at hc
 refine idx_ldF (T := TN') hTN' hx rfl ha rfl (idx_ldF (T := TN') hTN' hy rfl hc rfl (ifN (fun q => no fun w => ?_) (fun q => ?_)))
 ·subst w; rw [ha] at hc; cases hc; exact q rfl
 ·rw [i64w (by omega) (by omega)]
  refine hG _ _ ⟨rfl, n + 1, by simp, hlt, fun i a' c' w1 w2 w3 => ?_⟩ (by simp; omega)
  by_cases e : i = n
  ·subst e; rw [ha] at w2; rw [hc] at w3; cases w2; cases w3; exact q
  ·exact inv i a' c' (by omega) w2 w3
theorem rdep_c (h : Rt m H b B ms a1 ts ol) (hf : SlF TF H a2 fs) (hfe : fs.length = ts.length) {s o : Sg} (hs : s.Thing - 1 ∈ ol) (ho : o.Thing - 1 ∈ ol) {Q : Bool × Unit -> Heap -> Prop} (hq : ∀ H', Frs [] H H' -> Q (dependsB B ts fs ol s o, ()) H') :
  CALL P [T_bool] n_ref19_depends [.pointer (some ⟨b, 0, none⟩), a1.v, a2.v, TSt.enc s, TSt.enc o] H Q := by
 apply c_ref19_depends
 unfold S_ref19_depends
 have few := h.ot.few
 have hal := abouts_len B ts fs ol s
 refine rabt_c h hf hfe hs fun x1 H1 sp1 n1 => ⟨rfl, rfl, ?_⟩
 refine rapply_c (h.new n1.2.2) (hf.frs n1.2.2 (by simp)) hfe ho fun x2 H2 sp2 n2 => ⟨rfl, ?_⟩
 have f02 := n1.2.2.trans n2.2.2
 refine rabt_c (h.new f02) n2.1.slf (by rw [applyF_len]; exact hfe) hs fun x3 H3 sp3 n3 => ?_
 refine rsame_c ((n1.new n2.2.2).new n3.2.2).1.slf n3.1.slf (by omega) ?_
 have := hq H3 (f02.trans n3.2.2)
 unfold dependsB at this
 simpa using this
theorem rahead_c' (h : Rt m H b B ms a1 ts ol) {s o : Sg} (hs : s.Thing - 1 ∈ ol) (ho : o.Thing - 1 ∈ ol) {Q : Bool × Unit -> Heap -> Prop} (hq : Q (aheadB ts s o, ()) H) : CALL P [T_bool] n_ref19_ahead [a1.v, TSt.enc s, TSt.enc o] H Q := by
 apply c_ref19_ahead
 unfold S_ref19_ahead
 obtain ⟨k, t, c, e1, e2, _, _, _, _, _, _, k1⟩ := h.card hs
 obtain ⟨k', t', c', e1', e2', _, _, _, _, _, _, k1'⟩ := h.card ho
 have w1 : IntKind.wrap .i64 (s.Thing - 1) = (k : Int) := by rw [i64w (by omega) (by omega)]; omega
 have w2 : IntKind.wrap .i64 (o.Thing - 1) = (k' : Int) := by rw [i64w (by omega) (by omega)]; omega
 rw [w1, w2]
 unfold aheadB at hq
 rw [stampAt_at e1 e2, stampAt_at e1' e2'] at hq
 refine idx_stamp' h.s rfl e2 (idx_stamp' h.s rfl e2' (JOIN_of (ifD (fun q => ?_) (fun q => ifE (fun q2 => ?_) (fun q2 => ?_)))))
 ·rw [decide_eq_true q, Bool.true_or] at hq; exact hq
 ·rw [decide_eq_false q, decide_eq_true q2, Bool.false_or, Bool.true_and] at hq; exact hq
 ·rw [decide_eq_false q, decide_eq_false q2] at hq; exact hq
theorem hangs_true {i k j : Nat} (hj : j < k) (h : (j != i && dependsB B ts fs ol (sgI l (i : Int)) (sgI l (j : Int))) = true) : hangsB B ts fs ol l i k = true := List.any_eq_true.2 ⟨j, List.mem_range.2 hj, h⟩
theorem rnext_c (h : Rt m H b B ms a1 ts ol) (hf : SlF TF H a2 fs) (hfe : fs.length = ts.length) (hl : SlF TSt H a3 l) (hll : l.length ≤ 1048600) (lv : ∀ s ∈ l, s.Thing - 1 ∈ ol) {Q : Int × Unit -> Heap -> Prop} (hq : ∀ H', Frs [] H H' -> Q (nextF B ts fs ol l, ()) H') :
  CALL P [TN'] n_ref19_next [.pointer (some ⟨b, 0, none⟩), a1.v, a2.v, a3.v] H Q := by
 apply c_ref19_next
 unfold S_ref19_next
 have h3 := hl.1
 refine JOIN_inv (fun (y : (Int × Int × Unit) × Unit) H' => Frs [] H H' ∧ y.1.1 = (nx B ts fs ol l l.length).1 ∧ y.1.2.1 = (nx B ts fs ol l l.length).2) (fun j hj => ?_) ?_
 ·refine loop_of (fun (y : (Int × Int × Int × Unit) × Unit) H' => ∃ n : Nat, y.1.2.2.1 = n ∧ n ≤ l.length ∧ Frs [] H H' ∧ y.1.1 = (nx B ts fs ol l n).1 ∧ y.1.2.1 = (nx B ts fs ol l n).2) (fun y => l.length - y.1.2.2.1.toNat) ?_ ⟨0, rfl, Nat.zero_le _, .refl _ _, rfl, rfl⟩
  rintro G ⟨⟨free, first, i, _⟩, _⟩ H1 ⟨n, hi, hn, f1, hfr, hfi⟩ hG
  simp only at hi hfr hfi; subst hi
  dsimp only at hG ⊢
  refine ifD (fun hlt => ?_) (fun hge => hj _ _ ?_)
  ·have hlt : n < l.length := by omega
   obtain ⟨r1, r2, r3, r4⟩ := nx_rng B ts fs ol l n
   rw [← hfr] at r1 r2
   rw [← hfi] at r3 r4
   have enx : nx B ts fs ol l (n + 1) = (if (!hangsB B ts fs ol l n l.length && (decide (free < 0) || aheadB ts (sgI l n) (sgI l free))) = true then (n : Int) else free, if aheadB ts (sgI l n) (sgI l first) = true then (n : Int) else first) := by
    rw [hfr, hfi]; rfl
   have hx : l[n]? = some l[n] := List.getElem?_eq_getElem hlt
   have hxm := lv _ (List.getElem_mem hlt)
   generalize l[n] = s at hx hxm
   have es : sgI l (n : Int) = s := sgI_at rfl hx
   obtain ⟨fn, hfn⟩ : ∃ fn : Nat, first = fn := ⟨first.toNat, by omega⟩
   have hfnl : fn < l.length := by omega
   have hy : l[fn]? = some l[fn] := List.getElem?_eq_getElem hfnl
   have hym := lv _ (List.getElem_mem hfnl)
   generalize l[fn] = o at hy hym
   have eo : sgI l first = o := sgI_at hfn hy
   have h1 := h.new f1
   have hf1 := hf.frs f1 (by simp)
   have hl1 := hl.frs f1 (by simp)
   rw [es, eo] at enx
   refine idx_ldF (T := TSt) hTSt hl1 rfl hx rfl (idx_ldF (T := TSt) hTSt hl1 hfn hy rfl (rahead_c' h1 hxm hym ?_))
   refine JOIN_inv (fun (y : (Int × Unit) × Unit) H' => H' = H1 ∧ y.1.1 = (if aheadB ts s o = true then (n : Int) else first)) (fun j2 hj2 => ifB_of (fun e => hj2 _ _ ⟨rfl, (if_pos e).symm⟩) (fun e => hj2 _ _ ⟨rfl, (if_neg (by have e : aheadB ts s o = false := e; rw [e]; decide)).symm⟩)) ?_
   rintro ⟨⟨first2, _⟩, _⟩ H' ⟨rfl, hf2⟩
   simp only at hf2
   dsimp only
   refine JOIN_inv (fun (y : (Bool × Unit) × Unit) H' => Frs [] H H' ∧ y.1.1 = hangsB B ts fs ol l n l.length) (fun j3 hj3 => ?_) ?_
   ·refine loop_of (fun (y : (Bool × Int × Unit) × Unit) H' => ∃ k : Nat, y.1.2.1 = k ∧ k ≤ l.length ∧ Frs [] H H' ∧ (y.1.1 = true -> hangsB B ts fs ol l n l.length = true) ∧ (y.1.1 = false -> ∀ j : Nat, j < k -> (j != n && dependsB B ts fs ol (sgI l (n : Int)) (sgI l (j : Int))) = false)) (fun y => l.length - y.1.2.1.toNat) ?_ ⟨0, rfl, Nat.zero_le _, f1, fun e => (by cases e), fun _ j h => by omega⟩
    rintro G2 ⟨⟨hg, i2, _⟩, _⟩ H4 ⟨k, hk, hkl, f4, ht, hff⟩ hG2
    simp only at hk ht hff; subst hk
    dsimp only at hG2 ⊢
    refine hJ ((k : Int) < a3.len ∧ hg = false) (fun j4 hj4 => ifD (fun e => hj4 _ (by simp; omega)) (fun e => hj4 _ (by simp; omega))) (fun q => ?_) (fun q => hj3 _ _ ⟨f4, ?_⟩)
    ·obtain ⟨q1, q2⟩ := q
     have hkl2 : k < l.length := by omega
     have hz : l[k]? = some l[k] := List.getElem?_eq_getElem hkl2
     have hzm := lv _ (List.getElem_mem hkl2)
     generalize l[k] = u at hz hzm
     have eu : sgI l (k : Int) = u := sgI_at rfl hz
     have hl4 := hl.frs f4 (by simp)
     refine JOIN_inv (fun (y : (Bool × Unit) × Unit) H' => Frs [] H H' ∧ y.1.1 = (k != n && dependsB B ts fs ol s u)) (fun j5 hj5 => ifN (fun e => ?_) (fun e => hj5 _ _ ⟨f4, ?_⟩)) ?_
     ·refine idx_ldF (T := TSt) hTSt hl4 rfl hx rfl (idx_ldF (T := TSt) hTSt hl4 rfl hz rfl (rdep_c (h.new f4) (hf.frs f4 (by simp)) hfe hxm hzm fun H5 f5 => hj5 _ _ ⟨f4.trans f5, ?_⟩))
      have : (k != n) = true := by simp; omega
      rw [this, Bool.true_and]
     ·have : (k != n) = false := by simp; omega
      rw [this, Bool.false_and]
     ·rintro ⟨⟨r, _⟩, _⟩ H5 ⟨f5, hr⟩
      simp only at hr
      dsimp only
      rw [i64w (by omega) (by omega)]
      refine hG2 _ _ ⟨k + 1, by simp, hkl2, f5, fun e => ?_, fun e j w => ?_⟩ (by simp; omega)
      ·exact hangs_true hkl2 (by rw [es, eu, ← hr]; exact e)
      ·by_cases ej : j = k
       ·subst ej; rw [es, eu, ← hr]; exact e
       ·exact hff q2 j (by omega)
    ·cases hh : hg with
     | true => exact (ht hh).symm
     | false =>
      have hkk : k = l.length := by
       have : ¬ (k : Int) < a3.len := fun w => q ⟨w, hh⟩
       omega
      symm
      refine Bool.eq_false_iff.2 fun w => ?_
      obtain ⟨j, hj, hd⟩ := List.any_eq_true.1 w
      have := hff hh j (by have := List.mem_range.1 hj; omega)
      rw [this] at hd; cases hd
   ·rintro ⟨⟨hg, _⟩, _⟩ H4 ⟨f4, hhg⟩
    simp only at hhg
    dsimp only
    have hl4 := hl.frs f4 (by simp)
    refine JOIN_inv (fun (y : (Bool × Unit) × Unit) H' => H' = H4 ∧ y.1.1 = (!hg && (decide (free < 0) || aheadB ts s (sgI l free)))) (fun j5 hj5 => ifB_of (fun e => ?_) (fun e => ?_)) ?_
    ·have e : (!hg) = true := e
     rw [e, Bool.true_and] at hj5
     refine ifD (fun e2 => hj5 _ _ ⟨rfl, by rw [decide_eq_true e2]; rfl⟩) (fun e2 => ?_)
     rw [decide_eq_false e2, Bool.false_or] at hj5
     obtain ⟨gn, hgn⟩ : ∃ gn : Nat, free = gn := ⟨free.toNat, by omega⟩
     have hgl : gn < l.length := by omega
     have hz : l[gn]? = some l[gn] := List.getElem?_eq_getElem hgl
     have hzm := lv _ (List.getElem_mem hgl)
     generalize l[gn] = u at hz hzm
     rw [sgI_at hgn hz] at hj5
     exact idx_ldF (T := TSt) hTSt hl4 rfl hx rfl (idx_ldF (T := TSt) hTSt hl4 hgn hz rfl (rahead_c' (h.new f4) hxm hzm (hj5 _ _ ⟨rfl, rfl⟩)))
    ·have e : (!hg) = false := e
     rw [e, Bool.false_and] at hj5
     exact hj5 _ _ ⟨rfl, rfl⟩
    ·rintro ⟨⟨r, _⟩, _⟩ H5 ⟨rfl, hr⟩
     simp only at hr
     dsimp only
     rw [hhg] at hr
     rw [← hr, ← hf2] at enx
     refine JOIN_inv (fun (y : (Int × Unit) × Unit) H' => H' = H5 ∧ y.1.1 = (if r = true then (n : Int) else free)) (fun j6 hj6 => ifB_of (fun e => hj6 _ _ ⟨rfl, (if_pos e).symm⟩) (fun e => hj6 _ _ ⟨rfl, (if_neg (by have e : r = false := e; rw [e]; decide)).symm⟩)) ?_
     rintro ⟨⟨fr2, _⟩, _⟩ H6 ⟨rfl, hfr2⟩
     simp only at hfr2
     dsimp only
     rw [i64w (by omega) (by omega)]
     exact hG _ _ ⟨n + 1, by simp, hlt, f4, by rw [enx, hfr2], by rw [enx]⟩ (by simp; omega)
  ·have : n = l.length := by omega
   subst this; exact ⟨f1, hfr, hfi⟩
 ·rintro ⟨⟨free, first, _⟩, _⟩ H1 ⟨f1, e1, e2⟩
  simp only at e1 e2
  dsimp only
  have := hq H1 f1
  unfold nextF at this
  rw [← e1, ← e2] at this
  exact ifD (fun q => by rwa [if_pos q] at this) (fun q => by rwa [if_neg q] at this)
end
end Go.Proofs.YtolekmhhkopooaaGreatDoor.Zq
end
section
namespace Go.Proofs.YtolekmhhkopooaaGreatDoor.Zq
open Zv
section
variable {H : Heap} {b m : Nat} {se : Bool} {B : List Cd} {ms : List G_api_MarkInfo} {a1 a2 a3 : Sl} {ts : List Tg} {fs : List Ft} {ol : List Int} {l : List Sg}
theorem exists_ord (ts : List Tg) : ∃ ol, IsOrd ts ol := by
 refine ⟨(tabI ts ts.length).mergeSort fun a c => decide (stampAt ts a.toNat ≤ stampAt ts c.toNat), List.mergeSort_perm _ _, fun i j a c hij ha hc => ?_⟩
 have hp := List.pairwise_mergeSort (le := fun a c : Int => decide (stampAt ts a.toNat ≤ stampAt ts c.toNat)) (fun a b c h1 h2 => by simp at h1 h2 ⊢; omega) (fun a c => by simp; omega) (tabI ts ts.length)
 have hi := List.getElem?_eq_some_iff.1 ha
 have hj := List.getElem?_eq_some_iff.1 hc
 have := List.pairwise_iff_getElem.1 hp i j hi.1 hj.1 hij
 rw [hi.2, hj.2] at this
 simpa using this
theorem srt_uniq {f : Int -> Int} : ∀ {l1 l2 : List Int}, l1.Pairwise (fun a c => f a < f c) -> l2.Pairwise (fun a c => f a < f c) -> (∀ x, x ∈ l1 ↔ x ∈ l2) -> l1 = l2
 | [], [], _, _, _ => rfl
 | [], c :: r, _, _, h => by have := (h c).2 (by simp); cases this
 | a :: r, [], _, _, h => by have := (h a).1 (by simp); cases this
 | a :: r, c :: q, h1, h2, h => by
  rw [List.pairwise_cons] at h1 h2
  have e : a = c := by
   refine Classical.byContradiction fun n => ?_
   rcases List.mem_cons.1 ((h a).1 (by simp)) with w | w
   ·exact n w
   ·rcases List.mem_cons.1 ((h c).2 (by simp)) with w2 | w2
    ·exact n w2.symm
    ·have := h1.1 c w2; have := h2.1 a w; omega
  subst e
  congr 1
  refine srt_uniq h1.2 h2.2 fun x => ⟨fun hx => ?_, fun hx => ?_⟩
  ·rcases List.mem_cons.1 ((h x).1 (by simp [hx])) with w | w
   ·subst w; have := h1.1 x hx; omega
   ·exact w
  ·rcases List.mem_cons.1 ((h x).2 (by simp [hx])) with w | w
   ·subst w; have := h2.1 x hx; omega
   ·exact w
theorem OrdT.uniq {l1 l2 : List Int} (h1 : OrdT B ts l1) (h2 : OrdT B ts l2) : l1 = l2 := by
 have pw : ∀ {l : List Int}, OrdT B ts l -> l.Pairwise (fun a c => stampAt ts a.toNat < stampAt ts c.toNat) := fun h => List.pairwise_iff_getElem.2 fun i j hi hj hij => h.srt i j _ _ hij (List.getElem?_eq_getElem hi) (List.getElem?_eq_getElem hj)
 refine srt_uniq (f := fun a => stampAt ts a.toNat) (pw h1) (pw h2) fun x => ⟨fun hx => ?_, fun hx => ?_⟩
 ·obtain ⟨k, t, c, e1, e2, e3, _⟩ := h1.at' x hx; subst e1; exact h2.all k t e2 e3
 ·obtain ⟨k, t, c, e1, e2, e3, _⟩ := h2.at' x hx; subst e1; exact h1.all k t e2 e3
theorem ord_of {B : List Cd} (okB : OkB B) (e : setE se B ts fs = 0) : ∃ ol, OrdT B ts ol := by
 obtain ⟨e1, e2, e3, e4⟩ := setE_ok (e := e)
 obtain ⟨ol, ho⟩ := exists_ord ts
 exact ⟨ol, ho.ordT e4 e2 okB e3⟩
theorem SlF.after {T : Tag} {H1 H2 : Heap} {out s : Sl} {l : List T.α} (h : SlF T H1 s l) (a : After out H1 H2) (ap : ∀ d off, s.p = some ⟨d, off, none⟩ -> out.p ≠ some ⟨d, 0, none⟩) : SlF T H2 s l := by
 by_cases hq : ∃ d, out.p = some ⟨d, 0, none⟩
 ·obtain ⟨d0, hd0⟩ := hq
  exact h.frs (a.frs (B := [d0]) fun d hd => by rw [hd0] at hd; cases hd; simp) fun x hx off e => by simp at hx; subst hx; exact ap _ _ e hd0
 ·exact h.frs (a.frs (B := []) fun d hd => absurd ⟨d, hd⟩ hq) (by simp)
theorem reff_c (h : Rt m H b B ms a1 ts ol) (hf : SlF TF H a2 fs) (hfe : fs.length = ts.length) {k : Int} {Q : Sl × Unit -> Heap -> Prop} (hq : ∀ s H' sp, NewO TSt H s H' (effs B ts fs ol k) sp -> Q (s, ()) H') :
  CALL P [T_sl] n_ref19_effects [.pointer (some ⟨b, 0, none⟩), a1.v, a2.v, .int .i64 k] H Q := by
 apply c_ref19_effects
 unfold S_ref19_effects
 refine rorder_c h.s h.ot fun x1 H1 sp1 n1 => ?_
 have h1 := h.new n1.2.2
 have hf1 := hf.frs n1.2.2 (by simp)
 have ho := n1.1.slf
 have hol : x1.len = ol.length := by have := ho.1; simpa using this
 have few := h.ot.few
 refine JOIN_inv (fun y H' => ∃ sp, NewO TSt H1 y.1.1 H' (effs B ts fs ol k) sp) (fun j hj => ?_) (fun y H' hh => by obtain ⟨sp, hh⟩ := hh; exact hq _ _ _ (hh.older n1.2.2))
 refine loop_of (fun (y : (Sl × Int × Unit) × Unit) H' => ∃ (n : Nat) (sp : List Sg), y.1.2.1 = n ∧ n ≤ ol.length ∧ NewO TSt H1 y.1.1 H' ((ol.take n).flatMap (effO1 B ts fs k)) sp) (fun y => ol.length - y.1.2.1.toNat) ?_ ⟨0, [], rfl, Nat.zero_le _, by simpa using NewO.nil' TSt H1⟩
 rintro G ⟨⟨out, i, _⟩, _⟩ H2 ⟨n, sp, hi, hn, no⟩ hG
 simp only at hi no; subst hi
 dsimp only at hG ⊢
 have f2 := no.2.2
 refine ifD (fun hlt => ?_) (fun hge => hj _ _ ⟨sp, ?_⟩)
 ·have hlt : n < ol.length := by omega
  have hx : ol[n]? = some ol[n] := List.getElem?_eq_getElem hlt
  have hm : ol[n] ∈ ol := List.getElem_mem hlt
  generalize ol[n] = x at hx hm
  have hx1 : (ol.map (· + 1))[n]? = some (x + 1) := by rw [List.getElem?_map, hx]; rfl
  obtain ⟨kx, t, c, ek, et, e3, e4, e5, ecp, eck, e8, k1⟩ := h.card hm
  have hfx : fs[kx]? = some (fs[kx]'(by have := (List.getElem?_eq_some_iff.1 et).1; omega)) := List.getElem?_eq_getElem _
  generalize (fs[kx]'_) = f at hfx
  have eft : ftI fs x = f := ftI_at ek hfx
  have tk := fm_take (effO1 B ts fs k) hx
  have hpre : ((ol.take n).flatMap (effO1 B ts fs k)).length ≤ 64 := by
   have := fm_len (f := effO1 B ts fs k) (c := 4) (l := ol.take n) fun y hy => by
    obtain ⟨_, _, c', _, _, _, _, _, ecp', _, e4', _⟩ := h.card (List.mem_of_mem_take hy)
    unfold effO1
    split
    ·simp
    ·have := effN_len (y + 1) k (cpI B ts y)
     rw [ecp'] at this ⊢; omega
   rw [List.length_take] at this
   omega
  have w1 : IntKind.wrap .i64 (x + 1 - 1) = (kx : Int) := by rw [i64w (by omega) (by omega)]; omega
  have ho2 := ho.frs f2 (by simp)
  refine JOIN_inv (fun y H' => ∃ sp, NewO TSt H1 y.1.1 H' ((ol.take (n + 1)).flatMap (effO1 B ts fs k)) sp) (fun j2 hj2 => ?_) ?_
  ·refine idx_ldF (T := TN') hTN' ho2 rfl hx1 rfl ?_
   rw [w1]
   refine idx_traits (hf1.frs f2 (by simp)) rfl hfx (rhas_c (ifB_of (fun hM => ?_) (fun hM => ?_)))
   ·refine hj2 _ _ ⟨sp, ?_⟩
    have : effO1 B ts fs k x = [] := by unfold effO1; rw [eft, if_pos hM]
    rw [tk, this, List.append_nil]; exact no
   ·have e1 : effO1 B ts fs k x = effN (x + 1) k c.ps := by
     unfold effO1; rw [eft, if_neg (by have hM : hasT f.Traits 6 = false := hM; rw [hM]; decide), ecp]
    rw [e1] at tk
    refine idx_ldF (T := TN') hTN' ho2 rfl hx1 rfl ?_
    rw [w1]
    refine idx_tcard ((h1.new f2).s) rfl et (rat_in (h1.new f2) e4 e5 fun g H6 cr f6 => ?_)
    have no6 := no.new f6
    have hpl := cr.p.1
    have hap : ∀ d off, g.Parts.p = some ⟨d, off, none⟩ -> out.p ≠ some ⟨d, 0, none⟩ := fun d off e e2 => by
     have := cr.lo d (by rw [e]; simp [bl])
     have := no.1.lt e2; omega
    refine JOIN_inv (fun y H' => ∃ sp, NewO TSt H1 y.1.1 H' ((ol.take (n + 1)).flatMap (effO1 B ts fs k)) sp) (fun j3 hj3 => ?_) (fun y H' h => hj2 _ _ h)
    refine loop_of (fun (y : (Sl × Int × Unit) × Unit) H' => ∃ (i : Nat) (sp : List Sg), y.1.2.1 = i ∧ i ≤ c.ps.length ∧ NewO TSt H1 y.1.1 H' ((ol.take n).flatMap (effO1 B ts fs k) ++ (c.ps.zipIdx.take i).flatMap (effN1 (x + 1) k)) sp ∧ SlF TP H' g.Parts c.ps ∧ ∀ d off, g.Parts.p = some ⟨d, off, none⟩ -> y.1.1.p ≠ some ⟨d, 0, none⟩) (fun y => c.ps.length - y.1.2.1.toNat) ?_ ⟨0, sp, rfl, Nat.zero_le _, by simpa using no6, cr.p, hap⟩
    rintro G2 ⟨⟨out2, i2, _⟩, _⟩ H7 ⟨i, sp2, hi, hin, no2, hps, hap2⟩ hG2
    simp only at hi no2 hap2; subst hi
    dsimp only at hG2 ⊢
    refine ifD (fun hlt2 => ?_) (fun hge2 => hj3 _ _ ⟨sp2, ?_⟩)
    ·have hlt2 : i < c.ps.length := by omega
     have hy : c.ps[i]? = some c.ps[i] := List.getElem?_eq_getElem hlt2
     have hz : c.ps.zipIdx[i]? = some (c.ps[i], i) := by rw [List.getElem?_zipIdx, hy]; simp
     generalize c.ps[i] = p at hy hz
     have tk2 := fm_take (effN1 (x + 1) k) hz
     have hpre2 : ((c.ps.zipIdx.take i).flatMap (effN1 (x + 1) k)).length ≤ 4 := by
      have := fm_len (f := effN1 (x + 1) k) (c := 1) (l := c.ps.zipIdx.take i) fun y _ => effN1_len _ _ y
      rw [List.length_take, List.length_zipIdx] at this
      omega
     refine JD (p.When = 5 ∧ layV p.Verb = k) (fun j4 hj4 => idx_when' hps rfl hy (ifE (fun e5 => idx_verb hps rfl hy (rlay_c (hj4 _ (by simp [e5])))) (fun e5 => hj4 _ (by simp [e5])))) ?_
     refine JOIN_inv (fun y H' => ∃ sp, NewO TSt H1 y.1.1 H' ((ol.take n).flatMap (effO1 B ts fs k) ++ (c.ps.zipIdx.take (i + 1)).flatMap (effN1 (x + 1) k)) sp ∧ SlF TP H' g.Parts c.ps ∧ ∀ d off, g.Parts.p = some ⟨d, off, none⟩ -> y.1.1.p ≠ some ⟨d, 0, none⟩) (fun j5 hj5 => ifD (fun hc => ?_) (fun hc => hj5 _ _ ⟨sp2, ?_, hps, hap2⟩)) ?_
     ·have e2 : effN1 (x + 1) k (p, i) = [⟨x + 1, i, p⟩] := by unfold effN1; rw [if_pos hc]
      refine idx_ldF (T := TN') hTN' (ho.frs no2.2.2 (by simp)) rfl hx1 rfl (idx_ldF (T := TP) hTP hps rfl hy rfl ?_)
      refine app_c tySt rfl (fun _ => by simp) (m := 1) [(⟨x + 1, i, p⟩ : Sg)] rfl rfl (by rw [List.length_append]; show 2 * (_ + 1) * 4096 ≤ _; omega) no2.1 fun s4 H8 sp5 k1 k2 k3 => ?_
      refine hj5 _ _ ⟨sp5, ?_, hps.after k3 hap2, fun d off e => ?_⟩
      ·rw [tk2, e2, ← List.append_assoc]; exact no2.app k1 k2 k3
      ·rcases k2 with q | ⟨q, _⟩
       ·dsimp only; rw [q]; exact hap2 d off e
       ·dsimp only; rw [q]; intro w
        have := slF_lt hps e
        cases w; omega
     ·have e2 : effN1 (x + 1) k (p, i) = [] := by unfold effN1; rw [if_neg hc]
      rw [tk2, e2, List.append_nil]; exact no2
     ·rintro ⟨⟨out3, _⟩, _⟩ H8 ⟨sp3, no3, hps3, hap3⟩
      dsimp only
      rw [i64w (by omega) (by omega)]
      exact hG2 _ _ ⟨i + 1, sp3, by simp, hlt2, no3, hps3, hap3⟩ (by simp; omega)
    ·have : i = c.ps.length := by omega
     subst this
     have e3 : c.ps.zipIdx.take c.ps.length = c.ps.zipIdx := by rw [← List.length_zipIdx (l := c.ps) (i := 0), List.take_length]
     rw [e3] at no2
     rw [tk]; exact no2
  ·rintro ⟨⟨out3, _⟩, _⟩ H3 ⟨sp3, no3⟩
   dsimp only
   rw [i64w (by omega) (by omega)]
   exact hG _ _ ⟨n + 1, sp3, by simp, hlt, no3⟩ (by simp; omega)
 ·have : n = ol.length := by omega
  subst this
  rw [List.take_length] at no; exact no
theorem reffects_c (h : BD m H b se B ms) (okB : OkB B) (hs : SlF TT' H a1 ts) (hf : SlF TF H a2 fs) {k : Int} {Q : Sl × Int × Unit -> Heap -> Prop}
  (q1 : ∀ H', setE se B ts fs ≠ 0 -> Frs [] H H' -> Q (⟨none, 0, 0⟩, setE se B ts fs, ()) H') (q2 : ∀ H', setE se B ts fs = 0 -> (k < 1 ∨ 5 < k) -> Frs [] H H' -> Q (⟨none, 0, 0⟩, 2, ()) H')
  (q0 : ∀ s ol H' sp, setE se B ts fs = 0 -> 1 ≤ k -> k ≤ 5 -> OrdT B ts ol -> NewO TSt H s H' (effs B ts fs ol k) sp -> Q (s, 0, ()) H') :
  CALL P [T_sl, TN'] n_ref19_Effects [.pointer (some ⟨b, 0, none⟩), a1.v, a2.v, .int .i64 k] H Q := by
 apply c_ref19_Effects
 unfold S_ref19_Effects
 refine rwrong_c h okB hs hf fun H1 f1 => ifN (fun e => q1 H1 e f1) (fun e => ?_)
 obtain ⟨e1, e2, e3, e4⟩ := setE_ok (e := e)
 obtain ⟨ol, ot⟩ := ord_of okB e
 subst e1
 refine hJ (k < 1 ∨ 5 < k) (fun j hj => ifD (fun h => hj _ (by simp; omega)) (fun h => hj _ (by simp; omega))) (fun hk => q2 _ e hk f1) (fun hk => ?_)
 exact reff_c ⟨h.new f1, okB, hs.frs f1 (by simp), ot⟩ (hf.frs f1 (by simp)) e2 fun s H2 sp no => q0 s ol H2 sp e (by omega) (by omega) ot (no.older f1)
end
end Go.Proofs.YtolekmhhkopooaaGreatDoor.Zq
end
section
namespace Go.Proofs.YtolekmhhkopooaaGreatDoor.Zq
open Zv
section
variable {H : Heap} {b m : Nat} {se : Bool} {B : List Cd} {ms : List G_api_MarkInfo} {a1 a2 a3 : Sl} {ts : List Tg} {fs : List Ft} {ol : List Int} {l : List Sg}
theorem OwJ.take {E : Env} {T : Tag} {ts : TypeId} {z : T.α} (ty : TyS E T ts z) {H : Heap} {s : Sl} {l : List T.α} (h : OwJ T H s l) {i : Int} {n : Nat} (hi : i = n) (hn : n ≤ l.length) (hp : s.p ≠ none) {k : Sl -> Prop} (hk : OwJ T H ⟨s.p, n, s.cap⟩ (l.take n) -> k ⟨s.p, n, s.cap⟩) : GENV T_sl (aSlice E ts s.v none (some (.int .i64 i)) none H) k := by
 obtain ⟨⟨ti, e, te, e1, e2, e3, e4, e5, e6, e7⟩, hn0, hT, hone⟩ := ty
 subst hi
 obtain ⟨p, m, c⟩ := s
 obtain ⟨g1, g2, g0, ⟨g3, g4, g5⟩ | ⟨d, r, g3, g4, g5, g6⟩⟩ := h
 ·exact absurd g3 hp
 ·simp only at g1 g2 g3 g5 g6 g0; subst g3
  refine ⟨⟨some ⟨d, 0, none⟩, n, c⟩, ?_, hk ⟨by simp; omega, by simp only; omega, by simp only; omega, .inr ⟨d, r, rfl, g4, by simp only; omega, by simp only; rw [← g6, List.take_take, Nat.min_eq_left (by omega)]⟩⟩⟩
  unfold aSlice
  have hex : Zq.exact H d 0 c = true := by unfold Zq.exact; rw [g4]; rfl
  simp only [e1, e2, e3, Option.bind_some, Sl.v, natOf, Option.isSome_none, Bool.false_and, Bool.false_eq_true, if_false, hex, or_true, if_true]
  rw [if_pos (by omega)]
  simp only [Option.bind_some, Int.toNat_natCast]
  rw [if_pos (by omega)]
  simp [Tag.enc, encC]
theorem Ow.pne {T : Tag} {H : Heap} {s : Sl} {l sp : List T.α} (h : Ow T H s l sp) (hl : 0 < l.length) : ∃ d, s.p = some ⟨d, 0, none⟩ := by
 obtain ⟨_, _, _, ⟨_, h4, _⟩ | ⟨c, h4, _⟩⟩ := h
 ·subst h4; simp at hl
 ·exact ⟨c, h4⟩
theorem effs_len {B : List Cd} {ts : List Tg} {ol : List Int} (ot : OrdT B ts ol) (fs : List Ft) (k : Int) : (effs B ts fs ol k).length ≤ 64 := by
 have := fm_len (f := effO1 B ts fs k) (c := 4) (l := ol) fun y hy => by
  obtain ⟨k', t, c, e1, e2, e3, e4, e5, e6, e7, e8⟩ := ot.at' y hy
  unfold effO1
  split
  ·simp
  ·have := effN_len (y + 1) k (cpI B ts y)
   have hc : cpI B ts y = c.ps := by subst e1; unfold cpI cdI; rw [Int.toNat_natCast, e2]; show ((B[(t.Card - 1).toNat]?).map (·.ps)).getD [] = _; rw [e5]; rfl
   rw [hc] at this ⊢; omega
 have := ot.few
 unfold effs; omega
theorem rall_c (h : BD m H b se B ms) (okB : OkB B) (hs : SlF TT' H a1 ts) (hf : SlF TF H a2 fs) {k : Int} {Q : Sl × Sl × Int × Unit -> Heap -> Prop}
  (q1 : ∀ H', setE se B ts fs ≠ 0 -> Frs [] H H' -> Q (⟨none, 0, 0⟩, ⟨none, 0, 0⟩, setE se B ts fs, ()) H') (q2 : ∀ H', setE se B ts fs = 0 -> (k < 1 ∨ 5 < k) -> Frs [] H H' -> Q (⟨none, 0, 0⟩, ⟨none, 0, 0⟩, 2, ()) H')
  (q0 : ∀ s r ol H' sp sr, setE se B ts fs = 0 -> 1 ≤ k -> k ≤ 5 -> OrdT B ts ol -> NewO TF H s H' (allS B ts ol fs (effs B ts fs ol k) (effs B ts fs ol k).length).1 sp -> NewO TSt H r H' (allS B ts ol fs (effs B ts fs ol k) (effs B ts fs ol k).length).2.2 sr -> (∀ d, s.p = some ⟨d, 0, none⟩ -> r.p ≠ some ⟨d, 0, none⟩) -> Q (s, r, 0, ()) H') :
  CALL P [T_sl, T_sl, TN'] n_ref19_All [.pointer (some ⟨b, 0, none⟩), a1.v, a2.v, .int .i64 k] H Q := by
 apply c_ref19_All
 unfold S_ref19_All
 refine reffects_c h okB hs hf (fun H' e f => ifB_t (by simpa using e) (q1 H' e f)) (fun H' e hk f => ifB_t rfl (q2 H' e hk f)) fun x1 ol H1 sp1 e hk1 hk5 ot n1 => ifB_f rfl ?_
 obtain ⟨e1, e2, e3, e4⟩ := setE_ok (e := e)
 subst e1
 have hel := effs_len ot fs k
 have hlv : ∀ s ∈ effs B ts fs ol k, s.Thing - 1 ∈ ol := fun s hs => (mem_effs hs).1
 have fin := q0
 generalize hL : effs B ts fs ol k = L at n1 hel hlv
 refine copy_g tyF rfl (fun _ => by simp) (hf.frs n1.2.2 (by simp)) (by omega) fun x2 H2 sp2 n2 => ?_
 have n12 := n1.new n2.2.2
 refine JOIN_inv (fun (y : (Sl × Sl × Unit) × Unit) H' => ∃ sp sr, NewO TF H y.1.1 H' (allS B ts ol fs L L.length).1 sp ∧ NewO TSt H y.1.2.1 H' (allS B ts ol fs L L.length).2.2 sr ∧ ∀ d, y.1.1.p = some ⟨d, 0, none⟩ -> y.1.2.1.p ≠ some ⟨d, 0, none⟩) (fun j hj => ?_) (fun y H' hh => by obtain ⟨sp, sr, h1, h2, h3⟩ := hh; exact fin _ _ ol _ sp sr e hk1 hk5 ot (by rw [hL]; exact h1) (by rw [hL]; exact h2) h3)
 refine loop_of (fun (y : (Sl × Sl × Sl × Unit) × Unit) H' => ∃ (n : Nat) (sl so : List Sg) (sf : List Ft), n ≤ L.length ∧ NewO TSt H y.1.1 H' (allS B ts ol fs L n).2.1 sl ∧ NewO TF H y.1.2.1 H' (allS B ts ol fs L n).1 sf ∧ NewO TSt H y.1.2.2.1 H' (allS B ts ol fs L n).2.2 so ∧ (∀ d, y.1.1.p = some ⟨d, 0, none⟩ -> y.1.2.2.1.p ≠ some ⟨d, 0, none⟩) ∧ (∀ d, y.1.2.1.p = some ⟨d, 0, none⟩ -> y.1.2.2.1.p ≠ some ⟨d, 0, none⟩)) (fun y => y.1.1.len) ?_
  ⟨0, sp1, [], sp2, Nat.zero_le _, n12, n2.older n1.2.2, (NewO.nil' TSt H2).older n12.2.2, by simp, by simp⟩
 rintro G ⟨⟨left, out, steps, _⟩, _⟩ H4 ⟨n, sl, so, sf, hn, nl, nf, ns, dl, df⟩ hG
 simp only at nl nf ns dl df
 dsimp only at hG ⊢
 obtain ⟨i1, i2, i3, i4⟩ := allS_inv B ts ol fs L n hn
 have elen : left.len = (allS B ts ol fs L n).2.1.length := nl.1.1
 have step : allS B ts ol fs L (n + 1) = (applyF B ts (allS B ts ol fs L n).1 ol (sgI (allS B ts ol fs L n).2.1 (nextF B ts (allS B ts ol fs L n).1 ol (allS B ts ol fs L n).2.1)), (allS B ts ol fs L n).2.1.eraseIdx (nextF B ts (allS B ts ol fs L n).1 ol (allS B ts ol fs L n).2.1).toNat, (allS B ts ol fs L n).2.2 ++ [sgI (allS B ts ol fs L n).2.1 (nextF B ts (allS B ts ol fs L n).1 ol (allS B ts ol fs L n).2.1)]) := rfl
 refine ifD (fun hpos => ?_) (fun hz => hj _ _ ?_)
 ·have f4 := nl.2.2
  have hnl : n < L.length := by omega
  obtain ⟨g1, g2⟩ := nextF_rng B ts (allS B ts ol fs L n).1 ol (l := (allS B ts ol fs L n).2.1) (by omega)
  generalize hcf : (allS B ts ol fs L n).1 = cf at nf i1 step g1 g2
  generalize hcl : (allS B ts ol fs L n).2.1 = cl at nl i2 i3 step elen g1 g2
  generalize hcs : (allS B ts ol fs L n).2.2 = cs at ns i4 step
  have lv : ∀ s ∈ cl, s.Thing - 1 ∈ ol := fun s hs => hlv s (i3 s hs)
  have rt4 : Rt m H4 b B ms a1 ts ol := ⟨h.new f4, okB, hs.frs f4 (by simp), ot⟩
  refine rnext_c rt4 nf.1.slf (by omega) nl.1.slf (by omega) lv fun H5 f5 => ?_
  generalize nextF B ts cf ol cl = i at step g1 g2
  obtain ⟨ni, hni⟩ : ∃ ni : Nat, i = ni := ⟨i.toNat, by omega⟩
  subst hni
  have hil : ni < cl.length := by omega
  have hx : cl[ni]? = some cl[ni] := List.getElem?_eq_getElem hil
  have hxm := lv _ (List.getElem_mem hil)
  generalize cl[ni] = s at hx hxm
  rw [sgI_at rfl hx, Int.toNat_natCast] at step
  have nl5 := nl.new f5
  have nf5 := nf.new f5
  refine idx_ldF (T := TSt) hTSt nl5.1.slf rfl hx rfl (rapply_c (rt4.new f5) nf5.1.slf (by omega) hxm fun x11 H6 sp11 n11 => ?_)
  have nl6 := nl5.new n11.2.2
  refine idx_ldF (T := TSt) hTSt nl6.1.slf rfl hx rfl ?_
  have ns6 := (ns.new f5).new n11.2.2
  refine app_c tySt rfl (fun _ => by simp) (m := 1) [s] rfl rfl (by show 2 * (_ + 1) * 4096 ≤ _; omega) ns6.1 fun x15 H7 sp15 k1 k2 k3 => ?_
  have ns7 : NewO TSt H x15 H7 (cs ++ [s]) sp15 := ns6.app k1 k2 k3
  have f47 : Frs [] H H7 := ns7.2.2
  have l7 : Ow TSt H7 left cl sl := nl6.1.after k3 dl
  have o7 : Ow TF H7 x11 (applyF B ts cf ol s) sp11 := n11.1.after k3 fun d hd e => by
   have h1 := n11.2.1 d hd
   have h2 := (ns.new f5).1.lt e; omega
  obtain ⟨dL, hdL⟩ := l7.pne (by omega)
  have hpn : left.p ≠ none := by rw [hdL]; simp
  refine l7.j.take tySt rfl (by omega) hpn fun o16 => ?_
  refine copy_g tySt rfl (fun _ => by simp) o16.slf (by rw [List.length_take]; omega) fun x17 H8 sp17 n17 => ?_
  have l8 : Ow TSt H8 left cl sl := l7.frs n17.2.2 (by simp [Sl.off])
  rw [i64w (by omega) (by omega)]
  refine l8.j.drop tySt (n := ni + 1) rfl (by omega) hpn fun x18 h18 => ?_
  refine apps_c tySt rfl (fun _ => by simp) h18 (by rw [List.length_take, List.length_drop]; omega) n17.1 fun x19 H9 sp19 k1' k2' k3' => ?_
  have n19 : NewO TSt H7 x19 H9 (cl.take ni ++ cl.drop (ni + 1)) sp19 := n17.app k1' k2' k3'
  have f79 := n19.2.2
  refine hG _ _ ⟨n + 1, sp19, sp15, sp11, hnl, ?_, ?_, ?_, fun d hd e => ?_, fun d hd e => ?_⟩ ?_
  ·rw [step]; dsimp only; rw [List.eraseIdx_eq_take_drop_succ]
   exact n19.older f47
  ·rw [step]; dsimp only
   exact ⟨o7.frs f79 (by simp [Sl.off]), fun d hd => by have := n11.2.1 d hd; have := nl5.2.2.1; omega, f47.trans f79⟩
  ·rw [step]; dsimp only
   exact ns7.new f79
  ·have := n19.2.1 d hd
   have := ns7.1.lt e; omega
  ·dsimp only at hd e
   have h1 := n11.2.1 d hd
   have h3 := n11.1.lt hd
   rcases k2 with q | ⟨q, _⟩
   ·have h2 := (ns.new f5).1.lt (q ▸ e); omega
   ·rw [q] at e; cases e; omega
  ·dsimp only
   have := n19.1.1
   rw [List.length_append, List.length_take, List.length_drop] at this
   omega
 ·have : n = L.length := by omega
  subst this
  exact ⟨sf, so, nf, ns, df⟩
end
end Go.Proofs.YtolekmhhkopooaaGreatDoor.Zq
end
section
namespace Go.Proofs.YtolekmhhkopooaaGreatDoor.Zq
open Zv
section
variable {se : Bool} {B : List Cd} {ts : List Tg} {fs : List Ft} {ol : List Int}
theorem bitI_rng (t : Int) : 0 ≤ bitI t ∧ bitI t ≤ 128 := by
 unfold bitI
 split
 ·rename_i h
  have : t = 1 ∨ t = 2 ∨ t = 3 ∨ t = 4 ∨ t = 5 ∨ t = 6 ∨ t = 7 ∨ t = 8 := by omega
  rcases this with rfl | rfl | rfl | rfl | rfl | rfl | rfl | rfl <;> decide
 ·omega
theorem bv_nat {s : Int} (h0 : 0 ≤ s) (h1 : s < 256) : (BitVec.ofInt (IntKind.bits .u16) s).toNat = s.toNat := by
 show (BitVec.ofInt 16 s).toNat = _
 rw [BitVec.toNat_ofInt]
 omega
theorem withT_rng {s : Int} (t : Int) (h0 : 0 ≤ s) (h1 : s < 256) : 0 ≤ withT s t ∧ withT s t < 256 := by
 obtain ⟨b0, b1⟩ := bitI_rng t
 unfold withT
 refine ⟨u16nn _, ?_⟩
 have e : (BitVec.ofInt (IntKind.bits .u16) s ||| BitVec.ofInt (IntKind.bits .u16) (bitI t)).toNat < 2 ^ 8 := by
  rw [BitVec.toNat_or, bv_nat h0 h1, bv_nat b0 (by omega)]
  exact Nat.or_lt_two_pow (by omega) (by omega)
 generalize (BitVec.ofInt (IntKind.bits .u16) s ||| BitVec.ofInt (IntKind.bits .u16) (bitI t)).toNat = x at e
 show (x : Int) % 65536 < 256
 omega
theorem woutT_rng {s : Int} (t : Int) (h0 : 0 ≤ s) (h1 : s < 256) : 0 ≤ woutT s t ∧ woutT s t < 256 := by
 unfold woutT
 refine ⟨u16nn _, ?_⟩
 have e : (BitVec.ofInt (IntKind.bits .u16) s &&& ~~~BitVec.ofInt (IntKind.bits .u16) (bitI t)).toNat < 256 := by
  rw [BitVec.toNat_and, bv_nat h0 h1]
  exact Nat.lt_of_le_of_lt Nat.and_le_left (by omega)
 generalize (BitVec.ofInt (IntKind.bits .u16) s &&& ~~~BitVec.ofInt (IntKind.bits .u16) (bitI t)).toNat = x at e
 show (x : Int) % 65536 < 256
 omega
theorem doneF_nn {f : Ft} (p : Pt) (h : Int) (h0 : 0 ≤ f.Traits) : 0 ≤ (doneF f p h).Traits := by
 unfold doneF
 split
 ·exact h0
 split
 ·exact h0
 split
 ·exact u16nn _
 split
 ·exact u16nn _
 split
 ·exact h0
 split
 ·exact h0
 ·exact h0
theorem doneF_ok {f : Ft} (p : Pt) {h : Int} (hh : h = 0 ∨ h = 1) (h0 : 0 ≤ f.Traits) (h1 : f.Traits < 256) (hd : f.Holder = 0 ∨ f.Holder = 1) : ((doneF f p h).Holder = 0 ∨ (doneF f p h).Holder = 1) ∧ (doneF f p h).Traits < 256 := by
 unfold doneF
 split
 ·exact ⟨hh, h1⟩
 split
 ·exact ⟨hd, h1⟩
 split
 ·exact ⟨hd, (withT_rng _ h0 h1).2⟩
 split
 ·exact ⟨hd, (woutT_rng _ h0 h1).2⟩
 split
 ·exact ⟨hd, h1⟩
 split
 ·exact ⟨hd, h1⟩
 ·exact ⟨hd, h1⟩
structure FtJ (ts : List Tg) (out : List Ft) : Prop where
 len : out.length = ts.length
 nn : ∀ f ∈ out, 0 ≤ f.Traits
 ok : ∀ (i : Nat) t f, ts[i]? = some t -> out[i]? = some f -> t.Place = 4 -> (f.Holder = 0 ∨ f.Holder = 1) ∧ f.Traits < 256
theorem Tog.j (tog : Tog B ts fs) (hfe : fs.length = ts.length) (nn : ∀ f ∈ fs, 0 ≤ f.Traits) : FtJ ts fs :=
 ⟨hfe, nn, fun i t f h1 h2 h3 => by obtain ⟨c, _, _, _, _, _, w⟩ := tog.all i t f h1 h2; exact ⟨(w h3).2.2.1, (w h3).2.2.2⟩⟩
theorem FtJ.tog {out : List Ft} (j : FtJ ts out) (tog : Tog B ts fs) (hfe : fs.length = ts.length) : Tog B ts out := by
 refine ⟨fun i t f h1 h2 => ?_, tog.few, tog.dst⟩
 have hi := (List.getElem?_eq_some_iff.1 h1).1
 obtain ⟨c, w1, w2, w3, w4, w5, w⟩ := tog.all i t _ h1 (List.getElem?_eq_getElem (by omega))
 exact ⟨c, w1, w2, w3, w4, w5, fun h4 => ⟨(w h4).1, (w h4).2.1, (j.ok i t f h1 h2 h4).1, (j.ok i t f h1 h2 h4).2⟩⟩
theorem FtJ.put {out : List Ft} (j : FtJ ts out) (s : Sg) {h : Int} (hh : h = 0 ∨ h = 1) {n : Int} {k : Nat} {t : Tg} (hk : n = (k : Int) + 1) (ht : ts[k]? = some t) (hp : t.Place = 4) : FtJ ts (put1 s h out n) := by
 have hkl := (List.getElem?_eq_some_iff.1 ht).1
 have hl := j.len
 have hx : out[k]? = some (out[k]'(by omega)) := List.getElem?_eq_getElem (by omega)
 have hm : out[k]'(by omega) ∈ out := List.getElem_mem (by omega)
 generalize (out[k]'(by omega)) = f at hx hm
 have ef : ftI out (n - 1) = f := ftI_at (by omega) hx
 have e : put1 s h out n = out.set k (doneF f s.What h) := by unfold put1; rw [ef, show (n - 1).toNat = k by omega]
 rw [e]
 obtain ⟨o1, o2⟩ := j.ok k t f ht hx hp
 refine ⟨by simpa using hl, fun g hg => ?_, fun i u g h1 h2 h3 => ?_⟩
 ·rcases List.mem_or_eq_of_mem_set hg with w | rfl
  ·exact j.nn g w
  ·exact doneF_nn _ _ (j.nn f hm)
 ·by_cases ei : i = k
  ·subst ei
   rw [List.getElem?_set_self (by omega)] at h2
   cases h2
   exact doneF_ok _ hh (j.nn f hm) o2 o1
  ·rw [List.getElem?_set_ne (fun q => ei q.symm)] at h2
   exact j.ok i u g h1 h2 h3
theorem FtJ.apply (ot : OrdT B ts ol) (j : FtJ ts fs) {s : Sg} (hs : s.Thing - 1 ∈ ol) : FtJ ts (applyF B ts fs ol s) := by
 obtain ⟨k, t, c, e1, e2, e3, _⟩ := ot.at' _ hs
 have hkl := (List.getElem?_eq_some_iff.1 e2).1
 have hl := j.len
 have hx : fs[k]? = some (fs[k]'(by omega)) := List.getElem?_eq_getElem (by omega)
 have hh := (j.ok k t _ e2 hx e3).1
 rw [← ftI_at e1 hx] at hh
 unfold applyF
 generalize (ftI fs (s.Thing - 1)).Holder = h at hh
 have : ∀ (L : List Int) (out : List Ft), (∀ x ∈ L, x - 1 ∈ ol) -> FtJ ts out -> FtJ ts (L.foldl (put1 s h) out) := by
  intro L
  induction L with
  | nil => intro out _ j; exact j
  | cons x r ih =>
   intro out hL j
   obtain ⟨k, t, c, e1, e2, e3, _⟩ := ot.at' _ (hL x (by simp))
   exact ih _ (fun y hy => hL y (by simp [hy])) (j.put s hh (k := k) (by omega) e2 e3)
 exact this _ fs (fun x hx => (mem_abouts.1 hx).1) j
theorem FtJ.all (ot : OrdT B ts ol) (j : FtJ ts fs) {l : List Sg} (lv : ∀ s ∈ l, s.Thing - 1 ∈ ol) : ∀ n, n ≤ l.length -> FtJ ts (allS B ts ol fs l n).1
 | 0, _ => j
 | n + 1, hn => by
  obtain ⟨i1, i2, i3, i4⟩ := allS_inv B ts ol fs l n (by omega)
  have hr := nextF_rng B ts (allS B ts ol fs l n).1 ol (l := (allS B ts ol fs l n).2.1) (by omega)
  have ih := FtJ.all ot j lv n (by omega)
  unfold allS
  refine ih.apply ot (lv _ (i3 _ ?_))
  unfold sgI
  rw [List.getElem?_eq_getElem (by omega)]
  exact List.getElem_mem _
theorem FtJ.setE {out : List Ft} (j : FtJ ts out) (e : setE se B ts fs = 0) : setE se B ts out = 0 := by
 obtain ⟨e1, e2, e3, e4⟩ := setE_ok (e := e)
 refine (setE_0 (by omega) (fun q => ?_)).1 (j.tog e4 e2)
 rcases q with q | q
 ·rw [e1] at q; cases q
 ·exact q j.len
end
end Go.Proofs.YtolekmhhkopooaaGreatDoor.Zq
end
section
namespace Go.Proofs.YtolekmhhkopooaaGreatDoor.Zq
open Zv
section
variable {H : Heap} {b m : Nat} {se : Bool} {B : List Cd} {ms : List G_api_MarkInfo} {a1 a2 a3 : Sl} {ts : List Tg} {fs : List Ft} {ol : List Int} {l : List Sg}
abbrev zF : Ft := ⟨0, 0, 0, 0, 0⟩
def cdT (B : List Cd) (t : Tg) : Option Cd := if 1 ≤ t.Card then B[(t.Card - 1).toNat]? else none
def prT (B : List Cd) (t : Tg) : Ft := match cdT B t with | some c => ⟨t.Owner, c.g.Suit, c.g.Traits, c.g.Power, c.g.Health⟩ | none => zF
def prF (B : List Cd) (t : Tg) : Ft := if t.Place = 4 then prT B t else zF
def prOk (B : List Cd) (t : Tg) : Prop := (∃ c, cdT B t = some c) ∧ (t.Owner = 0 ∨ t.Owner = 1)
theorem cdT_some {t : Tg} {c : Cd} (h1 : 1 ≤ t.Card) (h2 : B[(t.Card - 1).toNat]? = some c) : cdT B t = some c := by unfold cdT; rw [if_pos h1]; exact h2
theorem cdT_none {t : Tg} (h : t.Card < 1 ∨ (B.length : Int) < t.Card) : cdT B t = none := by
 unfold cdT
 split
 ·rw [List.getElem?_eq_none_iff]; omega
 ·rfl
theorem r18pr_c (h : BD m H b true B ms) (okB : OkB B) {t : Tg} {Q : Ft × Int × Unit -> Heap -> Prop} (q1 : ∀ f e H', e ≠ 0 -> ¬ prOk B t -> Frs [] H H' -> Q (f, e, ()) H') (q0 : ∀ H', prOk B t -> Frs [] H H' -> Q (prT B t, 0, ()) H') : CALL P [TF, TN'] n_ref18_Printed [.pointer (some ⟨b, 0, none⟩), TT'.enc t] H Q := by
 apply c_ref18_Printed
 unfold S_ref18_Printed
 refine rcard18_c h okB (fun q => ifB_t rfl (q1 _ _ _ (by decide) (fun k => ?_) (.refl _ _))) (fun c g H' _ h1 hc cr f => ifB_f rfl ?_)
 ·obtain ⟨⟨c, k⟩, _⟩ := k
  rw [cdT_none (by rcases q with q | q; exact (by cases q); exact q)] at k; cases k
 ·have hcd := cdT_some h1 hc
  refine hJ (t.Owner ≠ 0 ∧ t.Owner ≠ 1) (fun j hj => ifN (fun e => hj _ (by simp; omega)) (fun e => hj _ (by simp; omega))) (fun q => q1 _ _ _ (by decide) (fun k => by have := k.2; omega) f) (fun q => ?_)
  have := q0 H' ⟨⟨c, hcd⟩, by omega⟩ f
  unfold prT at this
  rw [hcd] at this
  have e : c.g = bare g := cr.e.symm
  simp only [e] at this
  exact this
theorem r20pr_c (h : BD m H b true B ms) (okB : OkB B) (hs : SlF TT' H a1 ts) (hlen : ts.length ≤ 2048) {Q : Sl × Bool × Unit -> Heap -> Prop} (q1 : ∀ s H', ¬ (∀ t ∈ ts, prOk B t) -> Frs [] H H' -> Q (s, false, ()) H') (q0 : ∀ s H' sp, (∀ t ∈ ts, prOk B t) -> NewO TF H s H' (ts.map (prF B)) sp -> Q (s, true, ()) H') : CALL P [T_sl, T_bool] n_ref20_Printed [.pointer (some ⟨b, 0, none⟩), a1.v] H Q := by
 apply c_ref20_Printed
 unfold S_ref20_Printed
 have hsl := hs.1
 refine make_c tyF (n := ts.length) (m := ts.length) (by rw [hsl]) (by rw [hsl]) (Nat.le_refl _) (by omega) fun s1 e1 n1 => ?_
 have p1 : s1.p = some ⟨H.length, 0, none⟩ := by rw [e1]
 have n1' : NewO TF H s1 (mk H (fl TF (List.replicate ts.length zF)) TF.n false) (List.replicate ts.length zF) [] := by simpa using n1
 generalize mk H (fl TF (List.replicate ts.length zF)) TF.n false = H1 at n1'
 refine JOIN_inv (fun _ H' => (∀ t ∈ ts, prOk B t) ∧ NewO TF H s1 H' (ts.map (prF B)) []) (fun j hj => ?_) (fun _ H' hh => q0 _ _ _ hh.1 hh.2)
 refine loop_of (fun (y : (Int × Unit) × Unit) H' => ∃ (n : Nat) (cur : List Ft), y.1.1 = n ∧ n ≤ ts.length ∧ NewO TF H s1 H' cur [] ∧ cur.length = ts.length ∧ (∀ (i : Nat) t, i < n -> ts[i]? = some t -> cur[i]? = some (prF B t) ∧ prOk B t) ∧ (∀ i : Nat, n ≤ i -> i < ts.length -> cur[i]? = some zF)) (fun y => ts.length - y.1.1.toNat) ?_
  ⟨0, _, rfl, Nat.zero_le _, n1', by simp, fun i t h => by omega, fun i _ hi => by rw [List.getElem?_replicate, if_pos hi]⟩
 rintro G ⟨⟨i, _⟩, _⟩ H2 ⟨n, cur, hi, hn, no, hcl, h1, h2⟩ hG
 simp only at hi; subst hi
 dsimp only at hG ⊢
 have f2 := no.2.2
 refine ifD (fun hlt => ?_) (fun hge => hj _ _ ?_)
 ·have hlt : n < ts.length := by omega
  have hx : ts[n]? = some ts[n] := List.getElem?_eq_getElem hlt
  have hm : ts[n] ∈ ts := List.getElem_mem hlt
  generalize ts[n] = t at hx hm
  have hs2 := hs.frs f2 (by simp)
  refine idx_ldF (T := TT') hTT' hs2 rfl hx rfl ?_
  refine r18pr_c (h.new f2) okB (fun f e H3 he nk f3 => ?_) fun H3 hok f3 => ifB_f rfl ?_
  ·exact ifB_t (by simpa using he) (q1 _ _ (fun k => nk (k t hm)) (f2.trans f3))
  have no3 := no.new f3
  refine idx_place (hs2.frs f3 (by simp)) rfl hx ?_
  refine JOIN_inv (fun _ H' => ∃ cur', NewO TF H s1 H' cur' [] ∧ cur'.length = ts.length ∧ (∀ (i : Nat) u, i < n + 1 -> ts[i]? = some u -> cur'[i]? = some (prF B u) ∧ prOk B u) ∧ (∀ i : Nat, n + 1 ≤ i -> i < ts.length -> cur'[i]? = some zF)) (fun j2 hj2 => ifE (fun e4 => ?_) (fun e4 => hj2 _ _ ⟨cur, no3, hcl, fun i u w1 w2 => ?_, fun i w1 w2 => h2 i (by omega) w2⟩)) ?_
  ·refine no3.1.put (n := n) hTF (fun x => rfl) rfl (by omega) (prT B t) rfl fun c0 H6 hc0 o6 f6 l6 => ?_
   rw [p1] at hc0; cases hc0
   have ep : prF B t = prT B t := by unfold prF; rw [if_pos e4]
   refine hj2 _ _ ⟨cur.set n (prT B t), ⟨o6, no3.2.1, no3.2.2.then f6 fun d hd => by simp at hd; subst hd; exact .inr (Nat.le_refl _)⟩, by simpa using hcl, fun i u w1 w2 => ?_, fun i w1 w2 => ?_⟩
   ·by_cases ei : i = n
    ·subst ei; rw [hx] at w2; cases w2
     rw [List.getElem?_set_self (by omega), ep]; exact ⟨rfl, hok⟩
    ·rw [List.getElem?_set_ne (fun q => ei q.symm)]; exact h1 i u (by omega) w2
   ·rw [List.getElem?_set_ne (by omega)]; exact h2 i (by omega) w2
  ·by_cases ei : i = n
   ·subst ei; rw [hx] at w2; cases w2
    have ep : prF B t = zF := by unfold prF; rw [if_neg e4]
    rw [ep]; exact ⟨h2 i (Nat.le_refl _) hlt, hok⟩
   ·exact h1 i u (by omega) w2
  ·rintro _ H4 ⟨cur', no4, c1, c2, c3⟩
   rw [i64w (by omega) (by omega)]
   exact hG _ _ ⟨n + 1, cur', by simp, hlt, no4, c1, c2, c3⟩ (by simp; omega)
 ·have : n = ts.length := by omega
  subst this
  have ec : cur = ts.map (prF B) := by
   refine eq_of_at (by simpa using hcl) fun i a c w1 w2 w3 => ?_
   have hit : ts[i]? = some (ts[i]'(by omega)) := List.getElem?_eq_getElem (by omega)
   have := (h1 i _ (by omega) hit).1
   rw [List.getElem?_map, hit] at w3
   rw [this] at w2
   simp at w3
   cases w2; exact w3
  subst ec
  refine ⟨fun t ht => ?_, no⟩
  obtain ⟨i, hi⟩ := List.mem_iff_getElem?.1 ht
  exact (h1 i t (List.getElem?_eq_some_iff.1 hi).1 hi).2
def mkI (k : Int × Int × Int × Int) : Nat -> Int
 | 0 => k.1
 | 1 => k.2.1
 | 2 => k.2.2.1
 | _ => k.2.2.2
def mksOk (k : Int × Int × Int × Int) : Prop := ∀ n : Nat, n < 4 -> 0 ≤ mkI k n ∧ mkI k n ≤ 99
def mStep (ms : List G_api_MarkInfo) (k : Int × Int × Int × Int) (f : Ft) (n : Nat) : Ft :=
 match ms[n + 1]? with
 | some x => if x.Mark = 0 then f else { f with Power := IntKind.wrap .i64 (f.Power + IntKind.wrap .i64 (mkI k n * x.Power)), Health := IntKind.wrap .i64 (f.Health + IntKind.wrap .i64 (mkI k n * x.Health)) }
 | none => f
def markS (ms : List G_api_MarkInfo) (k : Int × Int × Int × Int) (f : Ft) : Nat -> Ft
 | 0 => f
 | n + 1 => mStep ms k (markS ms k f n) n
def markF (ms : List G_api_MarkInfo) (k : Int × Int × Int × Int) (f : Ft) : Ft := if (markS ms k f 4).Power < 0 then { markS ms k f 4 with Power := 0 } else markS ms k f 4
theorem markS_tr (ms : List G_api_MarkInfo) (k : Int × Int × Int × Int) (f : Ft) : ∀ n, (markS ms k f n).Traits = f.Traits
 | 0 => rfl
 | n + 1 => by
  have := markS_tr ms k f n
  show (mStep ms k (markS ms k f n) n).Traits = _
  unfold mStep
  split
  ·split
   ·exact this
   ·exact this
  ·exact this
theorem markF_tr (ms : List G_api_MarkInfo) (k : Int × Int × Int × Int) (f : Ft) : (markF ms k f).Traits = f.Traits := by
 unfold markF
 split
 ·exact markS_tr ms k f 4
 ·exact markS_tr ms k f 4
theorem RW.ld_mi {s : Sl} {ns : List ByteArray} (h : RW H b se s ns ms) {i : Nat} {x : G_api_MarkInfo} (hx : ms[i]? = some x) {o : Nat} (ho : o = 12 + i * 4) {K : G_api_MarkInfo -> Prop} (hk : K x) : LD TM H b o K := by
 obtain ⟨sz, r⟩ := h.row
 obtain ⟨e1, e2⟩ := h.mcut hx
 exact LD_of (T := TM) x _ _ r e1 (by rw [e2, ho]) rfl hk
theorem rmarkof_c (h : BD m H b se B ms) {n : Nat} (hn : n < 4) {Q : G_api_MarkInfo × Bool × Unit -> Heap -> Prop} (hq : ∀ x y, ms[n + 1]? = some x -> (x.Mark ≠ 0 -> y = x) -> Q (y, decide (x.Mark ≠ 0), ()) H) : CALL P [TM, T_bool] n_ref07_Book_MarkOf [.pointer (some ⟨b, 0, none⟩), .int .u8 ((n : Int) + 1)] H Q := by
 apply c_ref07_Book_MarkOf
 unfold S_ref07_Book_MarkOf
 obtain ⟨⟨s, gs, ns, w, hsl, slo, hc⟩, few, lt, ml⟩ := id h
 have hm5 := w.m
 have hx : ms[n + 1]? = some (ms[n + 1]'(by omega)) := List.getElem?_eq_getElem (by omega)
 generalize (ms[n + 1]'(by omega)) = x at hx
 have hin : ∀ {K : Prop}, K -> IDXA 5 ((n : Int) + 1) K := fun k => ⟨⟨by omega, by omega⟩, k⟩
 refine hJ (x.Mark = 0) (fun j hj => rnone_b h (ifB_f rfl (ifB_f (by simp; omega) (ifB_f (by simp; omega) (hin (w.ld_mark hx (by omega) (hj _ (by simp)))))))) (fun e => ?_) (fun e => hin (w.ld_mi hx (by omega) ?_))
 ·have := hq x ⟨0, ByteArray.mk #[], 0, 0⟩ hx (fun q => absurd e q)
  rwa [decide_eq_false (by simpa using e)] at this
 ·have := hq x x hx (fun _ => rfl)
  rwa [decide_eq_true e] at this
theorem r18mk_c (h : BD m H b se B ms) {f : Ft} {k : Int × Int × Int × Int} {Q : Ft × Int × Unit -> Heap -> Prop} (q1 : ∀ H', ¬ mksOk k -> Frs [] H H' -> Q (zF, 2, ()) H') (q0 : ∀ H', mksOk k -> Frs [] H H' -> Q (markF ms k f, 0, ()) H') : CALL P [TF, TN'] n_ref18_Marked [.pointer (some ⟨b, 0, none⟩), TF.enc f, T_arr4_T_int_i64.enc k] H Q := by
 apply c_ref18_Marked
 unfold S_ref18_Marked
 unfold NEW
 obtain ⟨r1, f1, l1⟩ := row1 H [(.int .i64 k.1), (.int .i64 k.2.1), (.int .i64 k.2.2.1), (.int .i64 k.2.2.2)] 4
 generalize mk H [(.int .i64 k.1), (.int .i64 k.2.1), (.int .i64 k.2.2.1), (.int .i64 k.2.2.2)] 4 false = H1 at r1 f1 l1
 have ld : ∀ (n : Nat) {K : Int -> Prop}, n < 4 -> K (mkI k n) -> LD TN' H1 H.length (0 + (n : Int).toNat * 1) K := fun n K hn hk => by
  have : n = 0 ∨ n = 1 ∨ n = 2 ∨ n = 3 := by omega
  rcases this with rfl | rfl | rfl | rfl
  ·exact LD_of (T := TN') k.1 [] [(.int .i64 k.2.1), (.int .i64 k.2.2.1), (.int .i64 k.2.2.2)] r1 rfl rfl rfl hk
  ·exact LD_of (T := TN') k.2.1 [(.int .i64 k.1)] [(.int .i64 k.2.2.1), (.int .i64 k.2.2.2)] r1 rfl rfl rfl hk
  ·exact LD_of (T := TN') k.2.2.1 [(.int .i64 k.1), (.int .i64 k.2.1)] [(.int .i64 k.2.2.2)] r1 rfl rfl rfl hk
  ·exact LD_of (T := TN') k.2.2.2 [(.int .i64 k.1), (.int .i64 k.2.1), (.int .i64 k.2.2.1)] [] r1 rfl rfl rfl hk
 have hin : ∀ {n : Nat} {K : Prop}, n < 4 -> K -> IDXA 4 (n : Int) K := fun hn k => ⟨⟨by omega, by omega⟩, k⟩
 have h1 := h.new f1
 refine rnone_b h1 (ifB_f rfl ?_)
 refine JOIN_inv (fun _ H' => H' = H1 ∧ mksOk k) (fun j hj => ?_) ?_
 ·refine loop_of (fun (y : (Int × Unit) × (Ft × Unit)) H' => H' = H1 ∧ ∃ n : Nat, y.1.1 = n ∧ n ≤ 4 ∧ ∀ i : Nat, i < n -> 0 ≤ mkI k i ∧ mkI k i ≤ 99) (fun y => 4 - y.1.1.toNat) ?_ ⟨rfl, 0, rfl, by omega, fun i h => by omega⟩
  rintro G ⟨⟨i, _⟩, g, _⟩ H' ⟨rfl, n, hi, hn, inv⟩ hG
  simp only at hi; subst hi
  dsimp only at hG ⊢
  refine ifD (fun hlt => ?_) (fun hge => hj _ _ ⟨rfl, fun i w => inv i (by omega)⟩)
  have hlt : n < 4 := by omega
  refine hJ (¬ (0 ≤ mkI k n ∧ mkI k n ≤ 99)) (fun j2 hj2 => hin hlt (ld n hlt (ifD (fun e => hj2 _ (by simp; omega)) (fun e => hin hlt (ld n hlt (hj2 _ (by simp; omega))))))) (fun q => q1 _ (fun w => q (w n hlt)) f1) (fun q => ?_)
  rw [i64w (by omega) (by omega)]
  refine hG _ _ ⟨rfl, n + 1, by simp, hlt, fun i w => ?_⟩ (by simp; omega)
  by_cases e : i = n
  ·subst e; exact Classical.byContradiction q
  ·exact inv i (by omega)
 rintro _ H' ⟨rfl, hok⟩
 refine JOIN_inv (fun (y : Unit × (Ft × Unit)) H'' => H'' = H' ∧ y.2.1 = markS ms k f 4) (fun j hj => ?_) ?_
 ·refine loop_of (fun (y : (Int × Unit) × (Ft × Unit)) H'' => H'' = H' ∧ ∃ n : Nat, y.1.1 = n ∧ n ≤ 4 ∧ y.2.1 = markS ms k f n) (fun y => 4 - y.1.1.toNat) ?_ ⟨rfl, 0, rfl, by omega, rfl⟩
  rintro G ⟨⟨i, _⟩, g, _⟩ H'' ⟨rfl, n, hi, hn, inv⟩ hG
  simp only at hi inv; subst hi
  dsimp only at hG ⊢
  refine ifD (fun hlt => ?_) (fun hge => hj _ _ ⟨rfl, by have : n = 4 := (by omega); subst this; exact inv⟩)
  have hlt : n < 4 := by omega
  have ew : IntKind.wrap .u8 (IntKind.wrap .i64 ((n : Int) + 1)) = (n : Int) + 1 := by
   rw [i64w (by omega) (by omega)]
   show ((n : Int) + 1) % 256 = _; omega
  rw [ew]
  refine rmarkof_c h1 hlt fun x y hx hy => ?_
  have est : markS ms k f (n + 1) = if x.Mark = 0 then g else { g with Power := IntKind.wrap .i64 (g.Power + IntKind.wrap .i64 (mkI k n * x.Power)), Health := IntKind.wrap .i64 (g.Health + IntKind.wrap .i64 (mkI k n * x.Health)) } := by
   show mStep ms k (markS ms k f n) n = _
   unfold mStep
   rw [hx, ← inv]
  refine JOIN_inv (fun (y : Unit × (Ft × Unit)) H2 => H2 = H'' ∧ y.2.1 = markS ms k f (n + 1)) (fun j2 hj2 => ifD (fun e => ?_) (fun e => hj2 _ _ ⟨rfl, by rw [est, if_pos (by simpa using e)]⟩)) ?_
  ·have := hy e; subst this
   exact hin hlt (ld n hlt (hin hlt (ld n hlt (hj2 _ _ ⟨rfl, by rw [est, if_neg e]⟩))))
  ·rintro ⟨_, g2, _⟩ H2 ⟨rfl, hg2⟩
   dsimp only
   rw [i64w (by omega) (by omega)]
   exact hG _ _ ⟨rfl, n + 1, by simp, hlt, hg2⟩ (by simp; omega)
 rintro ⟨_, g, _⟩ H'' ⟨rfl, hg⟩
 simp only at hg; subst hg
 dsimp only
 have := q0 _ hok f1
 unfold markF at this
 exact JOIN_of (ifD (fun e => by rwa [if_pos e] at this) (fun e => by rwa [if_neg e] at this))
end
end Go.Proofs.YtolekmhhkopooaaGreatDoor.Zq
end
