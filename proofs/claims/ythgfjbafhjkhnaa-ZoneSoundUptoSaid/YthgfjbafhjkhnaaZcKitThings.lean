/- What the kit's functions on lists of things do. -/
import Derived.Test.YthgfjbafhjkhnaaZcApart
import Derived.Test.YthgfjbafhjkhnaaZS0
namespace Go.Proofs.Ythgfjbafhjkhnaa.Zq
open Go Zv
namespace KThings
abbrev T : Tag := T_G_api_Thing
abbrev X := T.α
theorem hT (x : X) : (T.cells x).length = T.n := rfl
theorem same_iff (x y : G_api_Thing) : (!((x.Card == y.Card) && ((x.Owner == y.Owner) && ((x.Place == y.Place) && ((x.Stamp == y.Stamp) && ((x.Hurt == y.Hurt) && (((x.Marks.1 == y.Marks.1) && ((x.Marks.2.1 == y.Marks.2.1) && ((x.Marks.2.2.1 == y.Marks.2.2.1) && ((x.Marks.2.2.2 == y.Marks.2.2.2) && true)))) && ((x.Done == y.Done) && ((x.Fresh == y.Fresh) && true))))))))) = false ↔ x = y := by
  cases x; cases y; simp [Prod.ext_iff]
theorem same_c {H : Heap} {a b : Sl} {l m : List X} (ha : SlF T H a l) (hb : SlF T H b m) (hl : l.length ≤ 4611686018427387904) {Q : Bool × Unit → Heap → Prop} (hq : ∀ r : Bool, (r = true ↔ l = m) → Q (r, ()) H) : CALL P [T_bool] n_kit_SameThings [a.v, b.v] H Q := by
  apply c_kit_SameThings
  unfold S_kit_SameThings
  exact same_g (T := T) hT same_iff rfl ha hb hl hq
def z : X := (⟨0, 0, 0, 0, 0, (0, 0, 0, 0), 0, false⟩ : G_api_Thing)
theorem tyS : TyS E T 29 z := ⟨⟨_, _, _, rfl, rfl, rfl, rfl, by decide, by decide, rfl⟩, by decide, hT, fun _ => rfl⟩
end KThings
end Go.Proofs.Ythgfjbafhjkhnaa.Zq
