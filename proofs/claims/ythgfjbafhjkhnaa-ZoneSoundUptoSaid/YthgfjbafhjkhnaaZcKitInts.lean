/- What the kit's functions on lists of ints do. -/
import Derived.Test.YthgfjbafhjkhnaaZcApart
import Derived.Test.YthgfjbafhjkhnaaZS0
namespace Go.Proofs.Ythgfjbafhjkhnaa.Zq
open Go Zv
namespace KInts
abbrev T : Tag := T_int .i64
abbrev X := T.α
theorem hT (x : X) : (T.cells x).length = T.n := rfl
theorem same_iff (x y : Int) : (x != y) = false ↔ x = y := by
  simp
theorem same_c {H : Heap} {a b : Sl} {l m : List X} (ha : SlF T H a l) (hb : SlF T H b m) (hl : l.length ≤ 4611686018427387904) {Q : Bool × Unit → Heap → Prop} (hq : ∀ r : Bool, (r = true ↔ l = m) → Q (r, ()) H) : CALL P [T_bool] n_kit_SameInts [a.v, b.v] H Q := by
  apply c_kit_SameInts
  unfold S_kit_SameInts
  exact same_g (T := T) hT same_iff rfl ha hb hl hq
def z : X := (0 : Int)
theorem tyS : TyS E T 22 z := ⟨⟨_, _, _, rfl, rfl, rfl, rfl, by decide, by decide, rfl⟩, by decide, hT, fun _ => rfl⟩
end KInts
end Go.Proofs.Ythgfjbafhjkhnaa.Zq
