/- What the kit's functions on lists of ints do. -/
import Derived.Test.YthgfjbafhjkhnaaGreatZcApart
import Derived.Test.YthgfjbafhjkhnaaGreatZS0
import Derived.Test.YthgfjbafhjkhnaaGreatZS1
namespace Go.Proofs.YthgfjbafhjkhnaaGreat.Zq
open Go Zv
namespace KInts
abbrev T : Tag := T_int .i64
abbrev X := T.α
theorem hT (x : X) : (T.cells x).length = T.n := rfl
theorem same_iff (x y : Int) : (x != y) = false ↔ x = y := by
  simp
theorem same_c {H : Heap} {a b : Sl} {l m : List X} (ha : SlF T H a l) (hb : SlF T H b m) (hl : l.length ≤ 4611686018427387904) {Q : Bool × Unit → Heap → Prop} (hq : ∀ r : Bool, (r = true ↔ l = m) → Q (r, ()) H) : CALL P [T_bool] n_kit_SameInts [a.v, b.v] H Q := by
  apply c_kit_SameInts
  unfold S_kit_SameInts
  exact same_g (T := T) hT same_iff rfl ha hb hl hq
def o : X := ((-99) : Int)
def w : X := ((-77) : Int)
def z : X := (0 : Int)
theorem tyS : TyS E T 22 z := ⟨⟨_, _, _, rfl, rfl, rfl, rfl, by decide, by decide, rfl⟩, by decide, hT, fun _ => rfl⟩
theorem copy_c {H : Heap} {a : Sl} {l : List X} (ha : SlF T H a l) (hl : l.length ≤ 1048600) {Q : Sl × Unit → Heap → Prop} (hq : ∀ s' H' sp, NewO T H s' H' l sp → Q (s', ()) H') : CALL P [T_sl] n_kit_CopyInts [a.v] H Q := by
  apply c_kit_CopyInts
  unfold S_kit_CopyInts
  exact copy_g tyS rfl (fun _ => by simp) ha hl hq
theorem lent_c {H : Heap} {a : Sl} {l : List X} (ha : SlF T H a l) (hl : l.length ≤ 1048600) {Q : Sl × Unit → Heap → Prop} (hq : ∀ s' H' sp, NewO T H s' H' (l ++ [w, w]) sp → (∃ d, s'.p = some ⟨d, 0, none⟩) → Q (s', ()) H') : CALL P [T_sl] n_kit_LentInts [a.v] H Q := by
  apply c_kit_LentInts
  unfold S_kit_LentInts
  exact lent_g tyS rfl (fun _ => by simp) ha hl [w, w] rfl rfl hq
theorem kept_c {H : Heap} {a b : Sl} {l m : List X} (ha : SlF T H a l) (hb : SlF T H b m) (hl : l.length ≤ 1048600) (hm : m.length ≤ 1048600) {Q : Bool × Unit → Heap → Prop} (hq : ∀ (r : Bool) H', (r = true ↔ l = m ++ [w, w]) → Frs [] H H' → Q (r, ()) H') : CALL P [T_bool] n_kit_KeptInts [a.v, b.v] H Q := by
  apply c_kit_KeptInts
  unfold S_kit_KeptInts
  refine copy_c hb hm fun s1 H1 sp1 n1 => ?_
  refine app_c tyS rfl (fun _ => by simp) (m := 2) [w, w] rfl rfl (by show 2 * (m.length + 2) * 4096 ≤ _; omega) n1.1 fun s2 H2 sp2 k1 k2 k3 => ?_
  have n2 := n1.app k1 k2 k3
  exact same_c (ha.frs n2.2.2 (by simp)) k1.slf (by omega) fun r hr => hq r H2 hr n2.2.2
theorem over_c {H : Heap} {a : Sl} {l sp : List X} (ha : Ow T H a l sp) (hl : l.length ≤ 4611686018427387904) {Q : Unit → Heap → Prop} (hq : ∀ H', Ow T H' a (List.replicate l.length o) sp → After a H H' → Q () H') : CALL P [] n_kit_OverInts [a.v] H Q := by
  apply c_kit_OverInts
  unfold S_kit_OverInts
  exact over_g (T := T) hT (fun _ => rfl) o rfl rfl ha hl hq
theorem tyL : TyS E T_sl 68 ⟨none, 0, 0⟩ := ⟨⟨_, _, _, rfl, rfl, rfl, rfl, by decide, by decide, rfl⟩, by decide, fun _ => rfl, fun _ => rfl⟩
def mkf (i k : Int) : X := (IntKind.wrap .i64 ((IntKind.wrap .i64 ((IntKind.wrap .i64 ((-1000003) * i)) - k)) - 5) : Int)
theorem mark_c (i k : Int) (H : Heap) (Q : X × Unit → Heap → Prop) (hq : Q (mkf i k, ()) H) : CALL P [T] n_kit_markInts [.int .i64 i, .int .i64 k] H Q := by
  apply c_kit_markInts
  unfold S_kit_markInts
  exact hq
theorem apart_c {H : Heap} {a : Sl} {ls : List Sl} (h : Apt T H a ls) {Q : Bool × Unit → Heap → Prop} (hq : ∀ H', H.length ≤ H'.length → (∀ d, d < H.length → (∀ s ∈ ls, s.p ≠ some ⟨d, 0, none⟩) → H'[d]? = H[d]?) → Q (true, ()) H') : CALL P [T_bool] n_kit_ApartInts [a.v] H Q := by
  apply c_kit_ApartInts
  unfold S_kit_ApartInts
  refine apart1 tyS tyL rfl (fun _ => by simp) h.lst h.own h.few fun s' H1 sp n1 => ?_
  obtain ⟨f, hf⟩ := h.rws n1.2.2
  refine apart2 (T := T) (mk := mkf) (C := fun i k H Q => CALL P [T] n_kit_markInts [.int .i64 i, .int .i64 k] H Q) hT (fun _ => rfl) mark_c n1.1 (by simpa using h.few) hf (dst_full h.dst) (fun v hv c hp hs => ?_) rfl fun H2 how hl hfr hrw => ?_
  · obtain ⟨s, hs', rfl⟩ := List.mem_map.1 hv
    obtain ⟨l, lsp, hown⟩ := h.own s hs'
    obtain ⟨_, _, _, ⟨q, _⟩ | ⟨d, q, q2⟩⟩ := hown
    · rw [show (full s).p = s.p from rfl, q] at hp; cases hp
    · rw [show (full s).p = s.p from rfl, q] at hp; cases hp
      have := n1.2.1 d hs
      have := get_lt q2
      omega
  · refine apart3 (T := T) (mk := mkf) (C := fun i k H Q => CALL P [T] n_kit_markInts [.int .i64 i, .int .i64 k] H Q) hT mark_c same_iff how.slf (by simpa using h.few) hrw (fun v hv => by obtain ⟨s, _, rfl⟩ := List.mem_map.1 hv; rfl) rfl ?_
    refine hq H2 (by rw [hl]; exact n1.2.2.1) fun d hd hs => ?_
    rw [hfr d (Nat.lt_of_lt_of_le hd n1.2.2.1) (fun v hv => by obtain ⟨s, hs', rfl⟩ := List.mem_map.1 hv; exact hs s hs'), n1.2.2.2 d hd (by simp)]
end KInts
end Go.Proofs.YthgfjbafhjkhnaaGreat.Zq
