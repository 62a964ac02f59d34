/-
  NARROWER THAN 'FOR EVERY INPUT', by the rows' own cells (each row's printed sentence says how): TargetLone: laid · TargetAll: laid · LayerStamps: laid · LayerApplies: laid · LayerOnce: laid · LayerRaises: laid · LayerAll: laid.
  DERIVED. THE GIVEN ROWS OF THIS SEAT. 7 by the template 'for every input the law returns true; each argument reads behind the call as it read before'; 0 by the template 'total and deterministic' (their statements: YtolekmhhkopooaaGreatDoorTotals.lean).
  GIVEN WITH THE SEED: the statements are not yours to turn. If you find one false, say at which input.
  Laid BY PROGRAM, IN A SANDBOX (cutbox-rows.mjs): the forced cells as the released guide's own fill.sh prints them over the translation 727256c15b0bf21c… (all of the seat's roots in one cut). By AI agents, Wed Nov 11 2026. No macro, syntax, notation, axiom, sorry.
-/
import Derived.Test.YtolekmhhkopooaaGreatDoorChecked
import GoSem.PinnedTables
import GoSem.Claim
import GoSem.ClaimJoined
import GoSem.ClaimMapViews
import Derived.JoinedTies
import Derived.KernelRfl
namespace Go.Proofs.YtolekmhhkopooaaGreatDoor
/- THE CELL 'sum', in the pinned program and in every row, IS THE sha256 OF THE DUMP (.gsa) THAT YtolekmhhkopooaaGreatDoorProg.lean LOADS. Nothing in Lean hashes anything: it is a label: what it is worth is what the hold of that sum in a sandbox is worth. -/
noncomputable def Tryz.pinned : Pinned := { name := "ytolekmhhkopooaagreatdoor", sum := "727256c15b0bf21cc9dfb5af05a4aa2a8e2fcc8028789147ce38a5f8c70e910b", checked := Tryz.checked }
namespace Rows
def none {H : Type} : Left H := { results := [], args := [] }

/- WHAT THE LISTED PACKAGE-LEVEL VARIABLES READ AS WHEN THE CALL BEGINS. Each datum BY PROGRAM (the guide's laid-datum.mjs) off the statement by which the dump's own 'gosem.cut.vars' lays the variable. In a bare row this is a premise. The card (YtolekmhhkopooaaGreatDoorCards.lean) ties it to the program's text. -/
def laid_unicode_utf8_acceptRanges {H : Type} : DataW H := .agg [.agg [.lit (.int .u8 128), .lit (.int .u8 191)], .agg [.lit (.int .u8 160), .lit (.int .u8 191)], .agg [.lit (.int .u8 128), .lit (.int .u8 159)], .agg [.lit (.int .u8 144), .lit (.int .u8 191)], .agg [.lit (.int .u8 128), .lit (.int .u8 143)], .agg [.lit (.int .u8 0), .lit (.int .u8 0)], .agg [.lit (.int .u8 0), .lit (.int .u8 0)], .agg [.lit (.int .u8 0), .lit (.int .u8 0)], .agg [.lit (.int .u8 0), .lit (.int .u8 0)], .agg [.lit (.int .u8 0), .lit (.int .u8 0)], .agg [.lit (.int .u8 0), .lit (.int .u8 0)], .agg [.lit (.int .u8 0), .lit (.int .u8 0)], .agg [.lit (.int .u8 0), .lit (.int .u8 0)], .agg [.lit (.int .u8 0), .lit (.int .u8 0)], .agg [.lit (.int .u8 0), .lit (.int .u8 0)], .agg [.lit (.int .u8 0), .lit (.int .u8 0)]]
/-- One of Go's own tables, pinned by name: the form's constant. -/
def laid_unicode_utf8_first : DataW Unit := Go.Pinned.utf8First

/-- 'gambitlaw24.TargetLone': WHATEVER THE INPUT: true; the input reads as it did. -/
def targetLoneSpec : ChangeSpec := { name := "targetLone", fn := fun _ => fun
  | [d1, d2] => { results := [.lit (.bool true)], args := [d1, d2] }
  | _ => none }
def targetLoneRow : OpenClaim := { program := "ytolekmhhkopooaagreatdoor", sum := "727256c15b0bf21cc9dfb5af05a4aa2a8e2fcc8028789147ce38a5f8c70e910b", func := "gambit/gambitlaw24.TargetLone", spec := "targetLone", inPlace := ["internal/bytealg.IndexByteString", "internal/bytealg.IndexString"], unfollowed := true, recurses := true, named := ["unicode/utf8.first", "unicode/utf8.acceptRanges", "internal/bytealg.MaxLen"], apart := false, laid := [("unicode/utf8.acceptRanges", laid_unicode_utf8_acceptRanges), ("unicode/utf8.first", laid_unicode_utf8_first)] }
def TargetLoneSaid : Prop := targetLoneRow.holds Tryz.pinned (OpenSpec.ofChange targetLoneSpec)

/-- ITS FALSE NEIGHBOUR: 'it returns false'. Refute it at one input. -/
def targetLoneWrong : ChangeSpec := { name := "targetLone", fn := fun _ => fun
  | [d1, d2] => { results := [.lit (.bool false)], args := [d1, d2] }
  | _ => none }
def TargetLoneWrongFalsely : Prop := targetLoneRow.holds Tryz.pinned (OpenSpec.ofChange targetLoneWrong)

/-- 'gambitlaw24.TargetAll': WHATEVER THE INPUT: true; the input reads as it did. -/
def targetAllSpec : ChangeSpec := { name := "targetAll", fn := fun _ => fun
  | [d1, d2, d3, d4] => { results := [.lit (.bool true)], args := [d1, d2, d3, d4] }
  | _ => none }
def targetAllRow : OpenClaim := { program := "ytolekmhhkopooaagreatdoor", sum := "727256c15b0bf21cc9dfb5af05a4aa2a8e2fcc8028789147ce38a5f8c70e910b", func := "gambit/gambitlaw24.TargetAll", spec := "targetAll", inPlace := ["internal/bytealg.IndexByteString", "internal/bytealg.IndexString"], unfollowed := true, recurses := true, named := ["unicode/utf8.first", "unicode/utf8.acceptRanges", "internal/bytealg.MaxLen"], apart := false, laid := [("unicode/utf8.acceptRanges", laid_unicode_utf8_acceptRanges), ("unicode/utf8.first", laid_unicode_utf8_first)] }
def TargetAllSaid : Prop := targetAllRow.holds Tryz.pinned (OpenSpec.ofChange targetAllSpec)

/-- ITS FALSE NEIGHBOUR: 'it returns false'. Refute it at one input. -/
def targetAllWrong : ChangeSpec := { name := "targetAll", fn := fun _ => fun
  | [d1, d2, d3, d4] => { results := [.lit (.bool false)], args := [d1, d2, d3, d4] }
  | _ => none }
def TargetAllWrongFalsely : Prop := targetAllRow.holds Tryz.pinned (OpenSpec.ofChange targetAllWrong)

/-- 'gambitlaw19.LayerStamps': WHATEVER THE INPUT: true; the input reads as it did. -/
def layerStampsSpec : ChangeSpec := { name := "layerStamps", fn := fun _ => fun
  | [d1, d2, d3, d4] => { results := [.lit (.bool true)], args := [d1, d2, d3, d4] }
  | _ => none }
def layerStampsRow : OpenClaim := { program := "ytolekmhhkopooaagreatdoor", sum := "727256c15b0bf21cc9dfb5af05a4aa2a8e2fcc8028789147ce38a5f8c70e910b", func := "gambit/gambitlaw19.LayerStamps", spec := "layerStamps", inPlace := ["internal/bytealg.IndexByteString", "internal/bytealg.IndexString"], unfollowed := true, recurses := true, named := ["unicode/utf8.first", "unicode/utf8.acceptRanges", "internal/bytealg.MaxLen"], apart := false, laid := [("unicode/utf8.acceptRanges", laid_unicode_utf8_acceptRanges), ("unicode/utf8.first", laid_unicode_utf8_first)] }
def LayerStampsSaid : Prop := layerStampsRow.holds Tryz.pinned (OpenSpec.ofChange layerStampsSpec)

/-- ITS FALSE NEIGHBOUR: 'it returns false'. Refute it at one input. -/
def layerStampsWrong : ChangeSpec := { name := "layerStamps", fn := fun _ => fun
  | [d1, d2, d3, d4] => { results := [.lit (.bool false)], args := [d1, d2, d3, d4] }
  | _ => none }
def LayerStampsWrongFalsely : Prop := layerStampsRow.holds Tryz.pinned (OpenSpec.ofChange layerStampsWrong)

/-- 'gambitlaw19.LayerApplies': WHATEVER THE INPUT: true; the input reads as it did. -/
def layerAppliesSpec : ChangeSpec := { name := "layerApplies", fn := fun _ => fun
  | [d1, d2, d3, d4] => { results := [.lit (.bool true)], args := [d1, d2, d3, d4] }
  | _ => none }
def layerAppliesRow : OpenClaim := { program := "ytolekmhhkopooaagreatdoor", sum := "727256c15b0bf21cc9dfb5af05a4aa2a8e2fcc8028789147ce38a5f8c70e910b", func := "gambit/gambitlaw19.LayerApplies", spec := "layerApplies", inPlace := ["internal/bytealg.IndexByteString", "internal/bytealg.IndexString"], unfollowed := true, recurses := true, named := ["unicode/utf8.first", "unicode/utf8.acceptRanges", "internal/bytealg.MaxLen"], apart := false, laid := [("unicode/utf8.acceptRanges", laid_unicode_utf8_acceptRanges), ("unicode/utf8.first", laid_unicode_utf8_first)] }
def LayerAppliesSaid : Prop := layerAppliesRow.holds Tryz.pinned (OpenSpec.ofChange layerAppliesSpec)

/-- ITS FALSE NEIGHBOUR: 'it returns false'. Refute it at one input. -/
def layerAppliesWrong : ChangeSpec := { name := "layerApplies", fn := fun _ => fun
  | [d1, d2, d3, d4] => { results := [.lit (.bool false)], args := [d1, d2, d3, d4] }
  | _ => none }
def LayerAppliesWrongFalsely : Prop := layerAppliesRow.holds Tryz.pinned (OpenSpec.ofChange layerAppliesWrong)

/-- 'gambitlaw19.LayerOnce': WHATEVER THE INPUT: true; the input reads as it did. -/
def layerOnceSpec : ChangeSpec := { name := "layerOnce", fn := fun _ => fun
  | [d1, d2, d3] => { results := [.lit (.bool true)], args := [d1, d2, d3] }
  | _ => none }
def layerOnceRow : OpenClaim := { program := "ytolekmhhkopooaagreatdoor", sum := "727256c15b0bf21cc9dfb5af05a4aa2a8e2fcc8028789147ce38a5f8c70e910b", func := "gambit/gambitlaw19.LayerOnce", spec := "layerOnce", inPlace := ["internal/bytealg.IndexByteString", "internal/bytealg.IndexString"], unfollowed := true, recurses := true, named := ["unicode/utf8.first", "unicode/utf8.acceptRanges", "internal/bytealg.MaxLen"], apart := false, laid := [("unicode/utf8.acceptRanges", laid_unicode_utf8_acceptRanges), ("unicode/utf8.first", laid_unicode_utf8_first)] }
def LayerOnceSaid : Prop := layerOnceRow.holds Tryz.pinned (OpenSpec.ofChange layerOnceSpec)

/-- ITS FALSE NEIGHBOUR: 'it returns false'. Refute it at one input. -/
def layerOnceWrong : ChangeSpec := { name := "layerOnce", fn := fun _ => fun
  | [d1, d2, d3] => { results := [.lit (.bool false)], args := [d1, d2, d3] }
  | _ => none }
def LayerOnceWrongFalsely : Prop := layerOnceRow.holds Tryz.pinned (OpenSpec.ofChange layerOnceWrong)

/-- 'gambitlaw19.LayerRaises': WHATEVER THE INPUT: true; the input reads as it did. -/
def layerRaisesSpec : ChangeSpec := { name := "layerRaises", fn := fun _ => fun
  | [d1, d2, d3, d4] => { results := [.lit (.bool true)], args := [d1, d2, d3, d4] }
  | _ => none }
def layerRaisesRow : OpenClaim := { program := "ytolekmhhkopooaagreatdoor", sum := "727256c15b0bf21cc9dfb5af05a4aa2a8e2fcc8028789147ce38a5f8c70e910b", func := "gambit/gambitlaw19.LayerRaises", spec := "layerRaises", inPlace := ["internal/bytealg.IndexByteString", "internal/bytealg.IndexString"], unfollowed := true, recurses := true, named := ["unicode/utf8.first", "unicode/utf8.acceptRanges", "internal/bytealg.MaxLen"], apart := false, laid := [("unicode/utf8.acceptRanges", laid_unicode_utf8_acceptRanges), ("unicode/utf8.first", laid_unicode_utf8_first)] }
def LayerRaisesSaid : Prop := layerRaisesRow.holds Tryz.pinned (OpenSpec.ofChange layerRaisesSpec)

/-- ITS FALSE NEIGHBOUR: 'it returns false'. Refute it at one input. -/
def layerRaisesWrong : ChangeSpec := { name := "layerRaises", fn := fun _ => fun
  | [d1, d2, d3, d4] => { results := [.lit (.bool false)], args := [d1, d2, d3, d4] }
  | _ => none }
def LayerRaisesWrongFalsely : Prop := layerRaisesRow.holds Tryz.pinned (OpenSpec.ofChange layerRaisesWrong)

/-- 'gambitlaw19.LayerAll': WHATEVER THE INPUT: true; the input reads as it did. -/
def layerAllSpec : ChangeSpec := { name := "layerAll", fn := fun _ => fun
  | [d1, d2, d3, d4] => { results := [.lit (.bool true)], args := [d1, d2, d3, d4] }
  | _ => none }
def layerAllRow : OpenClaim := { program := "ytolekmhhkopooaagreatdoor", sum := "727256c15b0bf21cc9dfb5af05a4aa2a8e2fcc8028789147ce38a5f8c70e910b", func := "gambit/gambitlaw19.LayerAll", spec := "layerAll", inPlace := ["internal/bytealg.IndexByteString", "internal/bytealg.IndexString"], unfollowed := true, recurses := true, named := ["unicode/utf8.first", "unicode/utf8.acceptRanges", "internal/bytealg.MaxLen"], apart := false, laid := [("unicode/utf8.acceptRanges", laid_unicode_utf8_acceptRanges), ("unicode/utf8.first", laid_unicode_utf8_first)] }
def LayerAllSaid : Prop := layerAllRow.holds Tryz.pinned (OpenSpec.ofChange layerAllSpec)

/-- ITS FALSE NEIGHBOUR: 'it returns false'. Refute it at one input. -/
def layerAllWrong : ChangeSpec := { name := "layerAll", fn := fun _ => fun
  | [d1, d2, d3, d4] => { results := [.lit (.bool false)], args := [d1, d2, d3, d4] }
  | _ => none }
def LayerAllWrongFalsely : Prop := layerAllRow.holds Tryz.pinned (OpenSpec.ofChange layerAllWrong)

/- THE SECOND FORM. 'bulk': how many values and letters a reading holds, each counted each time it is reached (what is shared counts as often as it is met; a slice's spare places count too). A statement '..UptoSaid' is the law's where the arguments, and the package variables that the reading takes, are together of bulk at most 1048576: NARROWER than '..Said'. Prove '..Said' where nothing that the law and all that it calls make is longer than what came in: it says more and counts as full. Else prove '..UptoSaid'. A law counts once. -/
mutual
def uptoBulk {H : Type} : DataW H → Nat
  | .lit (.string bytes) => bytes.length + 1
  | .lit _ => 1
  | .nil => 1
  | .ptr d => uptoBulk d + 1
  | .slice elems spare => uptoBulkAll elems + uptoBulkAll spare + 1
  | .agg parts => uptoBulkAll parts + 1
  | .iface _ d => uptoBulk d + 1
  | .map entries => uptoBulkEntries entries + 1
  | .held _ => 1
def uptoBulkAll {H : Type} : List (DataW H) → Nat
  | [] => 0
  | d :: r => uptoBulk d + uptoBulkAll r
def uptoBulkEntries {H : Type} : List (Lit × DataW H) → Nat
  | [] => 0
  | x :: r => uptoBulkEntry x + uptoBulkEntries r
def uptoBulkEntry {H : Type} : Lit × DataW H → Nat
  | (.string bytes, d) => bytes.length + uptoBulk d + 1
  | (_, d) => uptoBulk d + 1
 end
def uptoSmall : (H : Type) → List (DataW H) → Bool := fun _ ds => decide (uptoBulkAll ds ≤ 1048576)
def OpenSpec.upto (s : _root_.Go.ChangeSpec) : _root_.Go.OpenSpec := { _root_.Go.OpenSpec.ofChange s with cond := some uptoSmall }

/-- 'gambitlaw24.TargetLone', WHERE WHAT IT READS IS OF BULK AT MOST 1048576: true; the input reads as it did. -/
def targetLoneUptoRow : OpenClaim := { program := "ytolekmhhkopooaagreatdoor", sum := "727256c15b0bf21cc9dfb5af05a4aa2a8e2fcc8028789147ce38a5f8c70e910b", func := "gambit/gambitlaw24.TargetLone", spec := "targetLone", inPlace := ["internal/bytealg.IndexByteString", "internal/bytealg.IndexString"], unfollowed := true, recurses := true, named := ["unicode/utf8.first", "unicode/utf8.acceptRanges", "internal/bytealg.MaxLen"], apart := false, laid := [("unicode/utf8.acceptRanges", laid_unicode_utf8_acceptRanges), ("unicode/utf8.first", laid_unicode_utf8_first)], narrowed := true }
def TargetLoneUptoSaid : Prop := targetLoneUptoRow.holds Tryz.pinned (OpenSpec.upto targetLoneSpec)

/-- 'gambitlaw24.TargetAll', WHERE WHAT IT READS IS OF BULK AT MOST 1048576: true; the input reads as it did. -/
def targetAllUptoRow : OpenClaim := { program := "ytolekmhhkopooaagreatdoor", sum := "727256c15b0bf21cc9dfb5af05a4aa2a8e2fcc8028789147ce38a5f8c70e910b", func := "gambit/gambitlaw24.TargetAll", spec := "targetAll", inPlace := ["internal/bytealg.IndexByteString", "internal/bytealg.IndexString"], unfollowed := true, recurses := true, named := ["unicode/utf8.first", "unicode/utf8.acceptRanges", "internal/bytealg.MaxLen"], apart := false, laid := [("unicode/utf8.acceptRanges", laid_unicode_utf8_acceptRanges), ("unicode/utf8.first", laid_unicode_utf8_first)], narrowed := true }
def TargetAllUptoSaid : Prop := targetAllUptoRow.holds Tryz.pinned (OpenSpec.upto targetAllSpec)

/-- 'gambitlaw19.LayerStamps', WHERE WHAT IT READS IS OF BULK AT MOST 1048576: true; the input reads as it did. -/
def layerStampsUptoRow : OpenClaim := { program := "ytolekmhhkopooaagreatdoor", sum := "727256c15b0bf21cc9dfb5af05a4aa2a8e2fcc8028789147ce38a5f8c70e910b", func := "gambit/gambitlaw19.LayerStamps", spec := "layerStamps", inPlace := ["internal/bytealg.IndexByteString", "internal/bytealg.IndexString"], unfollowed := true, recurses := true, named := ["unicode/utf8.first", "unicode/utf8.acceptRanges", "internal/bytealg.MaxLen"], apart := false, laid := [("unicode/utf8.acceptRanges", laid_unicode_utf8_acceptRanges), ("unicode/utf8.first", laid_unicode_utf8_first)], narrowed := true }
def LayerStampsUptoSaid : Prop := layerStampsUptoRow.holds Tryz.pinned (OpenSpec.upto layerStampsSpec)

/-- 'gambitlaw19.LayerApplies', WHERE WHAT IT READS IS OF BULK AT MOST 1048576: true; the input reads as it did. -/
def layerAppliesUptoRow : OpenClaim := { program := "ytolekmhhkopooaagreatdoor", sum := "727256c15b0bf21cc9dfb5af05a4aa2a8e2fcc8028789147ce38a5f8c70e910b", func := "gambit/gambitlaw19.LayerApplies", spec := "layerApplies", inPlace := ["internal/bytealg.IndexByteString", "internal/bytealg.IndexString"], unfollowed := true, recurses := true, named := ["unicode/utf8.first", "unicode/utf8.acceptRanges", "internal/bytealg.MaxLen"], apart := false, laid := [("unicode/utf8.acceptRanges", laid_unicode_utf8_acceptRanges), ("unicode/utf8.first", laid_unicode_utf8_first)], narrowed := true }
def LayerAppliesUptoSaid : Prop := layerAppliesUptoRow.holds Tryz.pinned (OpenSpec.upto layerAppliesSpec)

/-- 'gambitlaw19.LayerOnce', WHERE WHAT IT READS IS OF BULK AT MOST 1048576: true; the input reads as it did. -/
def layerOnceUptoRow : OpenClaim := { program := "ytolekmhhkopooaagreatdoor", sum := "727256c15b0bf21cc9dfb5af05a4aa2a8e2fcc8028789147ce38a5f8c70e910b", func := "gambit/gambitlaw19.LayerOnce", spec := "layerOnce", inPlace := ["internal/bytealg.IndexByteString", "internal/bytealg.IndexString"], unfollowed := true, recurses := true, named := ["unicode/utf8.first", "unicode/utf8.acceptRanges", "internal/bytealg.MaxLen"], apart := false, laid := [("unicode/utf8.acceptRanges", laid_unicode_utf8_acceptRanges), ("unicode/utf8.first", laid_unicode_utf8_first)], narrowed := true }
def LayerOnceUptoSaid : Prop := layerOnceUptoRow.holds Tryz.pinned (OpenSpec.upto layerOnceSpec)

/-- 'gambitlaw19.LayerRaises', WHERE WHAT IT READS IS OF BULK AT MOST 1048576: true; the input reads as it did. -/
def layerRaisesUptoRow : OpenClaim := { program := "ytolekmhhkopooaagreatdoor", sum := "727256c15b0bf21cc9dfb5af05a4aa2a8e2fcc8028789147ce38a5f8c70e910b", func := "gambit/gambitlaw19.LayerRaises", spec := "layerRaises", inPlace := ["internal/bytealg.IndexByteString", "internal/bytealg.IndexString"], unfollowed := true, recurses := true, named := ["unicode/utf8.first", "unicode/utf8.acceptRanges", "internal/bytealg.MaxLen"], apart := false, laid := [("unicode/utf8.acceptRanges", laid_unicode_utf8_acceptRanges), ("unicode/utf8.first", laid_unicode_utf8_first)], narrowed := true }
def LayerRaisesUptoSaid : Prop := layerRaisesUptoRow.holds Tryz.pinned (OpenSpec.upto layerRaisesSpec)

/-- 'gambitlaw19.LayerAll', WHERE WHAT IT READS IS OF BULK AT MOST 1048576: true; the input reads as it did. -/
def layerAllUptoRow : OpenClaim := { program := "ytolekmhhkopooaagreatdoor", sum := "727256c15b0bf21cc9dfb5af05a4aa2a8e2fcc8028789147ce38a5f8c70e910b", func := "gambit/gambitlaw19.LayerAll", spec := "layerAll", inPlace := ["internal/bytealg.IndexByteString", "internal/bytealg.IndexString"], unfollowed := true, recurses := true, named := ["unicode/utf8.first", "unicode/utf8.acceptRanges", "internal/bytealg.MaxLen"], apart := false, laid := [("unicode/utf8.acceptRanges", laid_unicode_utf8_acceptRanges), ("unicode/utf8.first", laid_unicode_utf8_first)], narrowed := true }
def LayerAllUptoSaid : Prop := layerAllUptoRow.holds Tryz.pinned (OpenSpec.upto layerAllSpec)

end Rows
end Go.Proofs.YtolekmhhkopooaaGreatDoor
