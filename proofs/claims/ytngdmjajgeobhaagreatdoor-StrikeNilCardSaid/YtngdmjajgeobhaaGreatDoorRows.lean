/-
  NARROWER THAN 'FOR EVERY INPUT', by the rows' own cells (each row's printed sentence says how): StrikeNames: laid · StrikeNil: laid · StrikeCalls: laid · StrikeAgrees: laid.
  DERIVED. THE GIVEN ROWS OF THIS SEAT. 4 by the template 'for every input the law returns true; each argument reads behind the call as it read before'; 0 by the template 'total and deterministic' (their statements: YtngdmjajgeobhaaGreatDoorTotals.lean).
  GIVEN WITH THE SEED: the statements are not yours to turn. If you find one false, say at which input.
  Laid BY PROGRAM, IN A SANDBOX (cutbox-rows.mjs): the forced cells as the released guide's own fill.sh prints them over the translation 5478df18b6bc55ba… (all of the seat's roots in one cut). By AI agents, Wed Nov 11 2026. No macro, syntax, notation, axiom, sorry.
-/
import Derived.Test.YtngdmjajgeobhaaGreatDoorChecked
import GoSem.PinnedTables
import GoSem.Claim
import GoSem.ClaimJoined
import GoSem.ClaimMapViews
import Derived.JoinedTies
import Derived.KernelRfl
namespace Go.Proofs.YtngdmjajgeobhaaGreatDoor
/- THE CELL 'sum', in the pinned program and in every row, IS THE sha256 OF THE DUMP (.gsa) THAT YtngdmjajgeobhaaGreatDoorProg.lean LOADS. Nothing in Lean hashes anything: it is a label: what it is worth is what the hold of that sum in a sandbox is worth. -/
noncomputable def Tryz.pinned : Pinned := { name := "ytngdmjajgeobhaagreatdoor", sum := "5478df18b6bc55ba511704b7fdd1ba105671da20252be9c06738ac370a682377", checked := Tryz.checked }
namespace Rows
def none {H : Type} : Left H := { results := [], args := [] }

/- WHAT THE LISTED PACKAGE-LEVEL VARIABLES READ AS WHEN THE CALL BEGINS. Each datum BY PROGRAM (the guide's laid-datum.mjs) off the statement by which the dump's own 'gosem.cut.vars' lays the variable. In a bare row this is a premise. The card (YtngdmjajgeobhaaGreatDoorCards.lean) ties it to the program's text. -/
def laid_unicode_utf8_acceptRanges {H : Type} : DataW H := .agg [.agg [.lit (.int .u8 128), .lit (.int .u8 191)], .agg [.lit (.int .u8 160), .lit (.int .u8 191)], .agg [.lit (.int .u8 128), .lit (.int .u8 159)], .agg [.lit (.int .u8 144), .lit (.int .u8 191)], .agg [.lit (.int .u8 128), .lit (.int .u8 143)], .agg [.lit (.int .u8 0), .lit (.int .u8 0)], .agg [.lit (.int .u8 0), .lit (.int .u8 0)], .agg [.lit (.int .u8 0), .lit (.int .u8 0)], .agg [.lit (.int .u8 0), .lit (.int .u8 0)], .agg [.lit (.int .u8 0), .lit (.int .u8 0)], .agg [.lit (.int .u8 0), .lit (.int .u8 0)], .agg [.lit (.int .u8 0), .lit (.int .u8 0)], .agg [.lit (.int .u8 0), .lit (.int .u8 0)], .agg [.lit (.int .u8 0), .lit (.int .u8 0)], .agg [.lit (.int .u8 0), .lit (.int .u8 0)], .agg [.lit (.int .u8 0), .lit (.int .u8 0)]]
/-- One of Go's own tables, pinned by name: the form's constant. -/
def laid_unicode_utf8_first : DataW Unit := Go.Pinned.utf8First

/-- 'gambitlaw26.StrikeNames': WHATEVER THE INPUT: true; the input reads as it did. -/
def strikeNamesSpec : ChangeSpec := { name := "strikeNames", fn := fun _ => fun
  | [] => { results := [.lit (.bool true)], args := [] }
  | _ => none }
def strikeNamesRow : OpenClaim := { program := "ytngdmjajgeobhaagreatdoor", sum := "5478df18b6bc55ba511704b7fdd1ba105671da20252be9c06738ac370a682377", func := "gambit/gambitlaw26.StrikeNames", spec := "strikeNames", inPlace := ["internal/bytealg.IndexByteString", "internal/bytealg.IndexString"], unfollowed := true, recurses := true, named := ["unicode/utf8.first", "unicode/utf8.acceptRanges", "internal/bytealg.MaxLen"], apart := false, laid := [("unicode/utf8.acceptRanges", laid_unicode_utf8_acceptRanges), ("unicode/utf8.first", laid_unicode_utf8_first)] }
def StrikeNamesSaid : Prop := strikeNamesRow.holds Tryz.pinned (OpenSpec.ofChange strikeNamesSpec)

/-- ITS FALSE NEIGHBOUR: 'it returns false'. Refute it at one input. -/
def strikeNamesWrong : ChangeSpec := { name := "strikeNames", fn := fun _ => fun
  | [] => { results := [.lit (.bool false)], args := [] }
  | _ => none }
def StrikeNamesWrongFalsely : Prop := strikeNamesRow.holds Tryz.pinned (OpenSpec.ofChange strikeNamesWrong)

/-- 'gambitlaw26.StrikeNil': WHATEVER THE INPUT: true; the input reads as it did. -/
def strikeNilSpec : ChangeSpec := { name := "strikeNil", fn := fun _ => fun
  | [d1, d2, d3] => { results := [.lit (.bool true)], args := [d1, d2, d3] }
  | _ => none }
def strikeNilRow : OpenClaim := { program := "ytngdmjajgeobhaagreatdoor", sum := "5478df18b6bc55ba511704b7fdd1ba105671da20252be9c06738ac370a682377", func := "gambit/gambitlaw26.StrikeNil", spec := "strikeNil", inPlace := ["internal/bytealg.IndexByteString", "internal/bytealg.IndexString"], unfollowed := true, recurses := true, named := ["unicode/utf8.first", "unicode/utf8.acceptRanges", "internal/bytealg.MaxLen"], apart := false, laid := [("unicode/utf8.acceptRanges", laid_unicode_utf8_acceptRanges), ("unicode/utf8.first", laid_unicode_utf8_first)] }
def StrikeNilSaid : Prop := strikeNilRow.holds Tryz.pinned (OpenSpec.ofChange strikeNilSpec)

/-- ITS FALSE NEIGHBOUR: 'it returns false'. Refute it at one input. -/
def strikeNilWrong : ChangeSpec := { name := "strikeNil", fn := fun _ => fun
  | [d1, d2, d3] => { results := [.lit (.bool false)], args := [d1, d2, d3] }
  | _ => none }
def StrikeNilWrongFalsely : Prop := strikeNilRow.holds Tryz.pinned (OpenSpec.ofChange strikeNilWrong)

/-- 'gambitlaw26.StrikeCalls': WHATEVER THE INPUT: true; the input reads as it did. -/
def strikeCallsSpec : ChangeSpec := { name := "strikeCalls", fn := fun _ => fun
  | [d1, d2, d3, d4] => { results := [.lit (.bool true)], args := [d1, d2, d3, d4] }
  | _ => none }
def strikeCallsRow : OpenClaim := { program := "ytngdmjajgeobhaagreatdoor", sum := "5478df18b6bc55ba511704b7fdd1ba105671da20252be9c06738ac370a682377", func := "gambit/gambitlaw26.StrikeCalls", spec := "strikeCalls", inPlace := ["internal/bytealg.IndexByteString", "internal/bytealg.IndexString"], unfollowed := true, recurses := true, named := ["unicode/utf8.first", "unicode/utf8.acceptRanges", "internal/bytealg.MaxLen"], apart := false, laid := [("unicode/utf8.acceptRanges", laid_unicode_utf8_acceptRanges), ("unicode/utf8.first", laid_unicode_utf8_first)] }
def StrikeCallsSaid : Prop := strikeCallsRow.holds Tryz.pinned (OpenSpec.ofChange strikeCallsSpec)

/-- ITS FALSE NEIGHBOUR: 'it returns false'. Refute it at one input. -/
def strikeCallsWrong : ChangeSpec := { name := "strikeCalls", fn := fun _ => fun
  | [d1, d2, d3, d4] => { results := [.lit (.bool false)], args := [d1, d2, d3, d4] }
  | _ => none }
def StrikeCallsWrongFalsely : Prop := strikeCallsRow.holds Tryz.pinned (OpenSpec.ofChange strikeCallsWrong)

/-- 'gambitlaw26.StrikeAgrees': WHATEVER THE INPUT: true; the input reads as it did. -/
def strikeAgreesSpec : ChangeSpec := { name := "strikeAgrees", fn := fun _ => fun
  | [d1, d2, d3] => { results := [.lit (.bool true)], args := [d1, d2, d3] }
  | _ => none }
def strikeAgreesRow : OpenClaim := { program := "ytngdmjajgeobhaagreatdoor", sum := "5478df18b6bc55ba511704b7fdd1ba105671da20252be9c06738ac370a682377", func := "gambit/gambitlaw26.StrikeAgrees", spec := "strikeAgrees", inPlace := ["internal/bytealg.IndexByteString", "internal/bytealg.IndexString"], unfollowed := true, recurses := true, named := ["unicode/utf8.first", "unicode/utf8.acceptRanges", "internal/bytealg.MaxLen"], apart := false, laid := [("unicode/utf8.acceptRanges", laid_unicode_utf8_acceptRanges), ("unicode/utf8.first", laid_unicode_utf8_first)] }
def StrikeAgreesSaid : Prop := strikeAgreesRow.holds Tryz.pinned (OpenSpec.ofChange strikeAgreesSpec)

/-- ITS FALSE NEIGHBOUR: 'it returns false'. Refute it at one input. -/
def strikeAgreesWrong : ChangeSpec := { name := "strikeAgrees", fn := fun _ => fun
  | [d1, d2, d3] => { results := [.lit (.bool false)], args := [d1, d2, d3] }
  | _ => none }
def StrikeAgreesWrongFalsely : Prop := strikeAgreesRow.holds Tryz.pinned (OpenSpec.ofChange strikeAgreesWrong)

/- THE SECOND FORM. 'bulk': how many values and letters a reading holds, each counted each time it is reached (what is shared counts as often as it is met; a slice's spare places count too). A statement '..UptoSaid' is the law's where the arguments, and the package variables that the reading takes, are together of bulk at most 1048576: NARROWER than '..Said'. Prove '..Said' where nothing that the law and all that it calls make is longer than what came in: it says more and counts as full. Else prove '..UptoSaid'. A law counts once. -/
mutual
def uptoBulk {H : Type} : DataW H → Nat
  | .lit (.string bytes) => bytes.length + 1
  | .lit _ => 1
  | .nil => 1
  | .ptr d => uptoBulk d + 1
  | .slice elems spare => uptoBulkAll elems + uptoBulkAll spare + 1
  | .agg parts => uptoBulkAll parts + 1
  | .iface _ d => uptoBulk d + 1
  | .map entries => uptoBulkEntries entries + 1
  | .held _ => 1
def uptoBulkAll {H : Type} : List (DataW H) → Nat
  | [] => 0
  | d :: r => uptoBulk d + uptoBulkAll r
def uptoBulkEntries {H : Type} : List (Lit × DataW H) → Nat
  | [] => 0
  | x :: r => uptoBulkEntry x + uptoBulkEntries r
def uptoBulkEntry {H : Type} : Lit × DataW H → Nat
  | (.string bytes, d) => bytes.length + uptoBulk d + 1
  | (_, d) => uptoBulk d + 1
 end
def uptoSmall : (H : Type) → List (DataW H) → Bool := fun _ ds => decide (uptoBulkAll ds ≤ 1048576)
def OpenSpec.upto (s : _root_.Go.ChangeSpec) : _root_.Go.OpenSpec := { _root_.Go.OpenSpec.ofChange s with cond := some uptoSmall }

/-- 'gambitlaw26.StrikeNames', WHERE WHAT IT READS IS OF BULK AT MOST 1048576: true; the input reads as it did. -/
def strikeNamesUptoRow : OpenClaim := { program := "ytngdmjajgeobhaagreatdoor", sum := "5478df18b6bc55ba511704b7fdd1ba105671da20252be9c06738ac370a682377", func := "gambit/gambitlaw26.StrikeNames", spec := "strikeNames", inPlace := ["internal/bytealg.IndexByteString", "internal/bytealg.IndexString"], unfollowed := true, recurses := true, named := ["unicode/utf8.first", "unicode/utf8.acceptRanges", "internal/bytealg.MaxLen"], apart := false, laid := [("unicode/utf8.acceptRanges", laid_unicode_utf8_acceptRanges), ("unicode/utf8.first", laid_unicode_utf8_first)], narrowed := true }
def StrikeNamesUptoSaid : Prop := strikeNamesUptoRow.holds Tryz.pinned (OpenSpec.upto strikeNamesSpec)

/-- 'gambitlaw26.StrikeNil', WHERE WHAT IT READS IS OF BULK AT MOST 1048576: true; the input reads as it did. -/
def strikeNilUptoRow : OpenClaim := { program := "ytngdmjajgeobhaagreatdoor", sum := "5478df18b6bc55ba511704b7fdd1ba105671da20252be9c06738ac370a682377", func := "gambit/gambitlaw26.StrikeNil", spec := "strikeNil", inPlace := ["internal/bytealg.IndexByteString", "internal/bytealg.IndexString"], unfollowed := true, recurses := true, named := ["unicode/utf8.first", "unicode/utf8.acceptRanges", "internal/bytealg.MaxLen"], apart := false, laid := [("unicode/utf8.acceptRanges", laid_unicode_utf8_acceptRanges), ("unicode/utf8.first", laid_unicode_utf8_first)], narrowed := true }
def StrikeNilUptoSaid : Prop := strikeNilUptoRow.holds Tryz.pinned (OpenSpec.upto strikeNilSpec)

/-- 'gambitlaw26.StrikeCalls', WHERE WHAT IT READS IS OF BULK AT MOST 1048576: true; the input reads as it did. -/
def strikeCallsUptoRow : OpenClaim := { program := "ytngdmjajgeobhaagreatdoor", sum := "5478df18b6bc55ba511704b7fdd1ba105671da20252be9c06738ac370a682377", func := "gambit/gambitlaw26.StrikeCalls", spec := "strikeCalls", inPlace := ["internal/bytealg.IndexByteString", "internal/bytealg.IndexString"], unfollowed := true, recurses := true, named := ["unicode/utf8.first", "unicode/utf8.acceptRanges", "internal/bytealg.MaxLen"], apart := false, laid := [("unicode/utf8.acceptRanges", laid_unicode_utf8_acceptRanges), ("unicode/utf8.first", laid_unicode_utf8_first)], narrowed := true }
def StrikeCallsUptoSaid : Prop := strikeCallsUptoRow.holds Tryz.pinned (OpenSpec.upto strikeCallsSpec)

/-- 'gambitlaw26.StrikeAgrees', WHERE WHAT IT READS IS OF BULK AT MOST 1048576: true; the input reads as it did. -/
def strikeAgreesUptoRow : OpenClaim := { program := "ytngdmjajgeobhaagreatdoor", sum := "5478df18b6bc55ba511704b7fdd1ba105671da20252be9c06738ac370a682377", func := "gambit/gambitlaw26.StrikeAgrees", spec := "strikeAgrees", inPlace := ["internal/bytealg.IndexByteString", "internal/bytealg.IndexString"], unfollowed := true, recurses := true, named := ["unicode/utf8.first", "unicode/utf8.acceptRanges", "internal/bytealg.MaxLen"], apart := false, laid := [("unicode/utf8.acceptRanges", laid_unicode_utf8_acceptRanges), ("unicode/utf8.first", laid_unicode_utf8_first)], narrowed := true }
def StrikeAgreesUptoSaid : Prop := strikeAgreesUptoRow.holds Tryz.pinned (OpenSpec.upto strikeAgreesSpec)

end Rows
end Go.Proofs.YtngdmjajgeobhaaGreatDoor
