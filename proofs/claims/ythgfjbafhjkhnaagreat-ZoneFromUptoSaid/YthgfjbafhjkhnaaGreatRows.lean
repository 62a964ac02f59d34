/-
  No cell of these rows narrows 'for every input' (looked for: loops, veiled, ifaces, maps, wideKeys, modest, calm, conditions, laid).
  DERIVED. THE GIVEN ROWS OF THIS SEAT. 2 by the template 'for every input the law returns true; each argument reads behind the call as it read before'; 0 by the template 'total and deterministic' (their statements: YthgfjbafhjkhnaaGreatTotals.lean).
  GIVEN WITH THE SEED: the statements are not yours to turn. If you find one false, say at which input.
  Laid BY PROGRAM, IN A SANDBOX (cutbox-rows.mjs): the forced cells as the released guide's own fill.sh prints them over the translation 17b7ab4baaa44fa6… (all of the seat's roots in one cut). By AI agents, Wed Nov 11 2026. No macro, syntax, notation, axiom, sorry.
-/
import Derived.Test.YthgfjbafhjkhnaaGreatChecked
import GoSem.Claim
import GoSem.ClaimJoined
import GoSem.ClaimMapViews
import Derived.JoinedTies
import Derived.KernelRfl
namespace Go.Proofs.YthgfjbafhjkhnaaGreat
/- THE CELL 'sum', in the pinned program and in every row, IS THE sha256 OF THE DUMP (.gsa) THAT YthgfjbafhjkhnaaGreatProg.lean LOADS. Nothing in Lean hashes anything: it is a label: what it is worth is what the hold of that sum in a sandbox is worth. -/
noncomputable def Tryz.pinned : Pinned := { name := "ythgfjbafhjkhnaagreat", sum := "17b7ab4baaa44fa60d0db41e53d36aa644424d41c875bfeee8bd4d8bdbc5927c", checked := Tryz.checked }
namespace Rows
def none {H : Type} : Left H := { results := [], args := [] }

/-- 'gambitlaw17.ZoneCalls': WHATEVER THE INPUT: true; the input reads as it did. -/
def zoneCallsSpec : ChangeSpec := { name := "zoneCalls", fn := fun _ => fun
  | [d1, d2, d3] => { results := [.lit (.bool true)], args := [d1, d2, d3] }
  | _ => none }
def zoneCallsRow : OpenClaim := { program := "ythgfjbafhjkhnaagreat", sum := "17b7ab4baaa44fa60d0db41e53d36aa644424d41c875bfeee8bd4d8bdbc5927c", func := "gambit/gambitlaw17.ZoneCalls", spec := "zoneCalls", unfollowed := true, recurses := true, apart := false }
def ZoneCallsSaid : Prop := zoneCallsRow.holds Tryz.pinned (OpenSpec.ofChange zoneCallsSpec)

/-- ITS FALSE NEIGHBOUR: 'it returns false'. Refute it at one input. -/
def zoneCallsWrong : ChangeSpec := { name := "zoneCalls", fn := fun _ => fun
  | [d1, d2, d3] => { results := [.lit (.bool false)], args := [d1, d2, d3] }
  | _ => none }
def ZoneCallsWrongFalsely : Prop := zoneCallsRow.holds Tryz.pinned (OpenSpec.ofChange zoneCallsWrong)

/-- 'gambitlaw17.ZoneFrom': WHATEVER THE INPUT: true; the input reads as it did. -/
def zoneFromSpec : ChangeSpec := { name := "zoneFrom", fn := fun _ => fun
  | [d1, d2] => { results := [.lit (.bool true)], args := [d1, d2] }
  | _ => none }
def zoneFromRow : OpenClaim := { program := "ythgfjbafhjkhnaagreat", sum := "17b7ab4baaa44fa60d0db41e53d36aa644424d41c875bfeee8bd4d8bdbc5927c", func := "gambit/gambitlaw17.ZoneFrom", spec := "zoneFrom", unfollowed := true, recurses := true, apart := false }
def ZoneFromSaid : Prop := zoneFromRow.holds Tryz.pinned (OpenSpec.ofChange zoneFromSpec)

/-- ITS FALSE NEIGHBOUR: 'it returns false'. Refute it at one input. -/
def zoneFromWrong : ChangeSpec := { name := "zoneFrom", fn := fun _ => fun
  | [d1, d2] => { results := [.lit (.bool false)], args := [d1, d2] }
  | _ => none }
def ZoneFromWrongFalsely : Prop := zoneFromRow.holds Tryz.pinned (OpenSpec.ofChange zoneFromWrong)

/- THE SECOND FORM. 'bulk': how many values and letters a reading holds, each counted each time it is reached (what is shared counts as often as it is met; a slice's spare places count too). A statement '..UptoSaid' is the law's where the arguments, and the package variables that the reading takes, are together of bulk at most 1048576: NARROWER than '..Said'. Prove '..Said' where nothing that the law and all that it calls make is longer than what came in: it says more and counts as full. Else prove '..UptoSaid'. A law counts once. -/
mutual
def uptoBulk {H : Type} : DataW H → Nat
  | .lit (.string bytes) => bytes.length + 1
  | .lit _ => 1
  | .nil => 1
  | .ptr d => uptoBulk d + 1
  | .slice elems spare => uptoBulkAll elems + uptoBulkAll spare + 1
  | .agg parts => uptoBulkAll parts + 1
  | .iface _ d => uptoBulk d + 1
  | .map entries => uptoBulkEntries entries + 1
  | .held _ => 1
def uptoBulkAll {H : Type} : List (DataW H) → Nat
  | [] => 0
  | d :: r => uptoBulk d + uptoBulkAll r
def uptoBulkEntries {H : Type} : List (Lit × DataW H) → Nat
  | [] => 0
  | x :: r => uptoBulkEntry x + uptoBulkEntries r
def uptoBulkEntry {H : Type} : Lit × DataW H → Nat
  | (.string bytes, d) => bytes.length + uptoBulk d + 1
  | (_, d) => uptoBulk d + 1
 end
def uptoSmall : (H : Type) → List (DataW H) → Bool := fun _ ds => decide (uptoBulkAll ds ≤ 1048576)
def OpenSpec.upto (s : _root_.Go.ChangeSpec) : _root_.Go.OpenSpec := { _root_.Go.OpenSpec.ofChange s with cond := some uptoSmall }

/-- 'gambitlaw17.ZoneCalls', WHERE WHAT IT READS IS OF BULK AT MOST 1048576: true; the input reads as it did. -/
def zoneCallsUptoRow : OpenClaim := { program := "ythgfjbafhjkhnaagreat", sum := "17b7ab4baaa44fa60d0db41e53d36aa644424d41c875bfeee8bd4d8bdbc5927c", func := "gambit/gambitlaw17.ZoneCalls", spec := "zoneCalls", unfollowed := true, recurses := true, apart := false, narrowed := true }
def ZoneCallsUptoSaid : Prop := zoneCallsUptoRow.holds Tryz.pinned (OpenSpec.upto zoneCallsSpec)

/-- 'gambitlaw17.ZoneFrom', WHERE WHAT IT READS IS OF BULK AT MOST 1048576: true; the input reads as it did. -/
def zoneFromUptoRow : OpenClaim := { program := "ythgfjbafhjkhnaagreat", sum := "17b7ab4baaa44fa60d0db41e53d36aa644424d41c875bfeee8bd4d8bdbc5927c", func := "gambit/gambitlaw17.ZoneFrom", spec := "zoneFrom", unfollowed := true, recurses := true, apart := false, narrowed := true }
def ZoneFromUptoSaid : Prop := zoneFromUptoRow.holds Tryz.pinned (OpenSpec.upto zoneFromSpec)

end Rows
end Go.Proofs.YthgfjbafhjkhnaaGreat
