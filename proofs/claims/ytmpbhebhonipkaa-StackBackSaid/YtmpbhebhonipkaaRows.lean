/-
  No cell of these rows narrows 'for every input' (looked for: loops, veiled, ifaces, maps, wideKeys, modest, calm, conditions, laid).
  DERIVED. THE GIVEN ROWS OF THIS SEAT. 4 by the template 'for every input the law returns true; each argument reads behind the call as it read before'; 0 by the template 'total and deterministic' (their statements: YtmpbhebhonipkaaTotals.lean).
  GIVEN WITH THE SEED: the statements are not yours to turn. If you find one false, say at which input.
  Laid BY PROGRAM, IN A SANDBOX (cutbox-rows.mjs): the forced cells as the released guide's own fill.sh prints them over the translation d632f2bc93aceb4a… (all of the seat's roots in one cut). By AI agents, Wed Nov 11 2026. No macro, syntax, notation, axiom, sorry.
-/
import Derived.Test.YtmpbhebhonipkaaChecked
import GoSem.Claim
import GoSem.ClaimJoined
import GoSem.ClaimMapViews
import Derived.JoinedTies
import Derived.KernelRfl
namespace Go.Proofs.Ytmpbhebhonipkaa
/- THE CELL 'sum', in the pinned program and in every row, IS THE sha256 OF THE DUMP (.gsa) THAT YtmpbhebhonipkaaProg.lean LOADS. Nothing in Lean hashes anything: it is a label: what it is worth is what the hold of that sum in a sandbox is worth. -/
noncomputable def Try.pinned : Pinned := { name := "ytmpbhebhonipkaa", sum := "d632f2bc93aceb4a06a3fdf98990efb09010044407c0f5b2d390feeeb5bea5e2", checked := Try.checked }
namespace Rows
def none {H : Type} : Left H := { results := [], args := [] }

/-- 'gambitlaw23.StackBack': WHATEVER THE INPUT: true; the input reads as it did. -/
def stackBackSpec : ChangeSpec := { name := "stackBack", fn := fun _ => fun
  | [d1, d2] => { results := [.lit (.bool true)], args := [d1, d2] }
  | _ => none }
def stackBackRow : OpenClaim := { program := "ytmpbhebhonipkaa", sum := "d632f2bc93aceb4a06a3fdf98990efb09010044407c0f5b2d390feeeb5bea5e2", func := "gambit/gambitlaw23.StackBack", spec := "stackBack", apart := false }
def StackBackSaid : Prop := stackBackRow.holds Try.pinned (OpenSpec.ofChange stackBackSpec)

/-- ITS FALSE NEIGHBOUR: 'it returns false'. Refute it at one input. -/
def stackBackWrong : ChangeSpec := { name := "stackBack", fn := fun _ => fun
  | [d1, d2] => { results := [.lit (.bool false)], args := [d1, d2] }
  | _ => none }
def StackBackWrongFalsely : Prop := stackBackRow.holds Try.pinned (OpenSpec.ofChange stackBackWrong)

/-- 'gambitlaw23.StackNil': WHATEVER THE INPUT: true; the input reads as it did. -/
def stackNilSpec : ChangeSpec := { name := "stackNil", fn := fun _ => fun
  | [d] => { results := [.lit (.bool true)], args := [d] }
  | _ => none }
def stackNilRow : OpenClaim := { program := "ytmpbhebhonipkaa", sum := "d632f2bc93aceb4a06a3fdf98990efb09010044407c0f5b2d390feeeb5bea5e2", func := "gambit/gambitlaw23.StackNil", spec := "stackNil", unfollowed := true, recurses := true, apart := false }
def StackNilSaid : Prop := stackNilRow.holds Try.pinned (OpenSpec.ofChange stackNilSpec)

/-- ITS FALSE NEIGHBOUR: 'it returns false'. Refute it at one input. -/
def stackNilWrong : ChangeSpec := { name := "stackNil", fn := fun _ => fun
  | [d] => { results := [.lit (.bool false)], args := [d] }
  | _ => none }
def StackNilWrongFalsely : Prop := stackNilRow.holds Try.pinned (OpenSpec.ofChange stackNilWrong)

/-- 'gambitlaw23.StackNames': WHATEVER THE INPUT: true; the input reads as it did. -/
def stackNamesSpec : ChangeSpec := { name := "stackNames", fn := fun _ => fun
  | [] => { results := [.lit (.bool true)], args := [] }
  | _ => none }
def stackNamesRow : OpenClaim := { program := "ytmpbhebhonipkaa", sum := "d632f2bc93aceb4a06a3fdf98990efb09010044407c0f5b2d390feeeb5bea5e2", func := "gambit/gambitlaw23.StackNames", spec := "stackNames", apart := false }
def StackNamesSaid : Prop := stackNamesRow.holds Try.pinned (OpenSpec.ofChange stackNamesSpec)

/-- ITS FALSE NEIGHBOUR: 'it returns false'. Refute it at one input. -/
def stackNamesWrong : ChangeSpec := { name := "stackNames", fn := fun _ => fun
  | [] => { results := [.lit (.bool false)], args := [] }
  | _ => none }
def StackNamesWrongFalsely : Prop := stackNamesRow.holds Try.pinned (OpenSpec.ofChange stackNamesWrong)

/-- 'gambitlaw23.StackCalls': WHATEVER THE INPUT: true; the input reads as it did. -/
def stackCallsSpec : ChangeSpec := { name := "stackCalls", fn := fun _ => fun
  | [d1, d2] => { results := [.lit (.bool true)], args := [d1, d2] }
  | _ => none }
def stackCallsRow : OpenClaim := { program := "ytmpbhebhonipkaa", sum := "d632f2bc93aceb4a06a3fdf98990efb09010044407c0f5b2d390feeeb5bea5e2", func := "gambit/gambitlaw23.StackCalls", spec := "stackCalls", unfollowed := true, recurses := true, apart := false }
def StackCallsSaid : Prop := stackCallsRow.holds Try.pinned (OpenSpec.ofChange stackCallsSpec)

/-- ITS FALSE NEIGHBOUR: 'it returns false'. Refute it at one input. -/
def stackCallsWrong : ChangeSpec := { name := "stackCalls", fn := fun _ => fun
  | [d1, d2] => { results := [.lit (.bool false)], args := [d1, d2] }
  | _ => none }
def StackCallsWrongFalsely : Prop := stackCallsRow.holds Try.pinned (OpenSpec.ofChange stackCallsWrong)

/- THE SECOND FORM. 'bulk': how many values and letters a reading holds, each counted each time it is reached (what is shared counts as often as it is met; a slice's spare places count too). A statement '..UptoSaid' is the law's where the arguments, and the package variables that the reading takes, are together of bulk at most 1048576: NARROWER than '..Said'. Prove '..Said' where nothing that the law and all that it calls make is longer than what came in: it says more and counts as full. Else prove '..UptoSaid'. A law counts once. -/
mutual
def uptoBulk {H : Type} : DataW H → Nat
  | .lit (.string bytes) => bytes.length + 1
  | .lit _ => 1
  | .nil => 1
  | .ptr d => uptoBulk d + 1
  | .slice elems spare => uptoBulkAll elems + uptoBulkAll spare + 1
  | .agg parts => uptoBulkAll parts + 1
  | .iface _ d => uptoBulk d + 1
  | .map entries => uptoBulkEntries entries + 1
  | .held _ => 1
def uptoBulkAll {H : Type} : List (DataW H) → Nat
  | [] => 0
  | d :: r => uptoBulk d + uptoBulkAll r
def uptoBulkEntries {H : Type} : List (Lit × DataW H) → Nat
  | [] => 0
  | x :: r => uptoBulkEntry x + uptoBulkEntries r
def uptoBulkEntry {H : Type} : Lit × DataW H → Nat
  | (.string bytes, d) => bytes.length + uptoBulk d + 1
  | (_, d) => uptoBulk d + 1
 end
def uptoSmall : (H : Type) → List (DataW H) → Bool := fun _ ds => decide (uptoBulkAll ds ≤ 1048576)
def OpenSpec.upto (s : _root_.Go.ChangeSpec) : _root_.Go.OpenSpec := { _root_.Go.OpenSpec.ofChange s with cond := some uptoSmall }

/-- 'gambitlaw23.StackBack', WHERE WHAT IT READS IS OF BULK AT MOST 1048576: true; the input reads as it did. -/
def stackBackUptoRow : OpenClaim := { program := "ytmpbhebhonipkaa", sum := "d632f2bc93aceb4a06a3fdf98990efb09010044407c0f5b2d390feeeb5bea5e2", func := "gambit/gambitlaw23.StackBack", spec := "stackBack", apart := false, narrowed := true }
def StackBackUptoSaid : Prop := stackBackUptoRow.holds Try.pinned (OpenSpec.upto stackBackSpec)

/-- 'gambitlaw23.StackNil', WHERE WHAT IT READS IS OF BULK AT MOST 1048576: true; the input reads as it did. -/
def stackNilUptoRow : OpenClaim := { program := "ytmpbhebhonipkaa", sum := "d632f2bc93aceb4a06a3fdf98990efb09010044407c0f5b2d390feeeb5bea5e2", func := "gambit/gambitlaw23.StackNil", spec := "stackNil", unfollowed := true, recurses := true, apart := false, narrowed := true }
def StackNilUptoSaid : Prop := stackNilUptoRow.holds Try.pinned (OpenSpec.upto stackNilSpec)

/-- 'gambitlaw23.StackNames', WHERE WHAT IT READS IS OF BULK AT MOST 1048576: true; the input reads as it did. -/
def stackNamesUptoRow : OpenClaim := { program := "ytmpbhebhonipkaa", sum := "d632f2bc93aceb4a06a3fdf98990efb09010044407c0f5b2d390feeeb5bea5e2", func := "gambit/gambitlaw23.StackNames", spec := "stackNames", apart := false, narrowed := true }
def StackNamesUptoSaid : Prop := stackNamesUptoRow.holds Try.pinned (OpenSpec.upto stackNamesSpec)

/-- 'gambitlaw23.StackCalls', WHERE WHAT IT READS IS OF BULK AT MOST 1048576: true; the input reads as it did. -/
def stackCallsUptoRow : OpenClaim := { program := "ytmpbhebhonipkaa", sum := "d632f2bc93aceb4a06a3fdf98990efb09010044407c0f5b2d390feeeb5bea5e2", func := "gambit/gambitlaw23.StackCalls", spec := "stackCalls", unfollowed := true, recurses := true, apart := false, narrowed := true }
def StackCallsUptoSaid : Prop := stackCallsUptoRow.holds Try.pinned (OpenSpec.upto stackCallsSpec)

end Rows
end Go.Proofs.Ytmpbhebhonipkaa
