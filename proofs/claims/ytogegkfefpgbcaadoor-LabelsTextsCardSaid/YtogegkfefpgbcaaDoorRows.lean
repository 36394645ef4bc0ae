/-
  NARROWER THAN 'FOR EVERY INPUT', by the rows' own cells (each row's printed sentence says how): LabelsTexts: laid · LabelsWants: laid · LabelsMatches: laid · LabelsBack: laid · LabelsMakes: laid · LabelsOrder: laid · LabelsMerged: laid · LabelsOwn: laid · LabelsTurns: laid.
  DERIVED. THE GIVEN ROWS OF THIS SEAT. 9 by the template 'for every input the law returns true; each argument reads behind the call as it read before'; 0 by the template 'total and deterministic' (their statements: YtogegkfefpgbcaaDoorTotals.lean).
  GIVEN WITH THE SEED: the statements are not yours to turn. If you find one false, say at which input.
  Laid BY PROGRAM, IN A SANDBOX (cutbox-rows.mjs): the forced cells as the released guide's own fill.sh prints them over the translation 2609b66ac8796c14… (all of the seat's roots in one cut). By AI agents, Wed Nov 11 2026. No macro, syntax, notation, axiom, sorry.
-/
import Derived.Test.YtogegkfefpgbcaaDoorChecked
import GoSem.PinnedTables
import GoSem.Claim
import GoSem.ClaimJoined
import GoSem.ClaimMapViews
import Derived.JoinedTies
import Derived.KernelRfl
namespace Go.Proofs.YtogegkfefpgbcaaDoor
/- THE CELL 'sum', in the pinned program and in every row, IS THE sha256 OF THE DUMP (.gsa) THAT YtogegkfefpgbcaaDoorProg.lean LOADS. Nothing in Lean hashes anything: it is a label: what it is worth is what the hold of that sum in a sandbox is worth. -/
noncomputable def Tryd.pinned : Pinned := { name := "ytogegkfefpgbcaadoor", sum := "2609b66ac8796c144615130afbbdee6a69454680969d6b7003fc74364b7e8f4d", checked := Tryd.checked }
namespace Rows
def none {H : Type} : Left H := { results := [], args := [] }

/- WHAT THE LISTED PACKAGE-LEVEL VARIABLES READ AS WHEN THE CALL BEGINS. Each datum BY PROGRAM (the guide's laid-datum.mjs) off the statement by which the dump's own 'gosem.cut.vars' lays the variable. In a bare row this is a premise. The card (YtogegkfefpgbcaaDoorCards.lean) ties it to the program's text. -/
def laid_unicode_utf8_acceptRanges {H : Type} : DataW H := .agg [.agg [.lit (.int .u8 128), .lit (.int .u8 191)], .agg [.lit (.int .u8 160), .lit (.int .u8 191)], .agg [.lit (.int .u8 128), .lit (.int .u8 159)], .agg [.lit (.int .u8 144), .lit (.int .u8 191)], .agg [.lit (.int .u8 128), .lit (.int .u8 143)], .agg [.lit (.int .u8 0), .lit (.int .u8 0)], .agg [.lit (.int .u8 0), .lit (.int .u8 0)], .agg [.lit (.int .u8 0), .lit (.int .u8 0)], .agg [.lit (.int .u8 0), .lit (.int .u8 0)], .agg [.lit (.int .u8 0), .lit (.int .u8 0)], .agg [.lit (.int .u8 0), .lit (.int .u8 0)], .agg [.lit (.int .u8 0), .lit (.int .u8 0)], .agg [.lit (.int .u8 0), .lit (.int .u8 0)], .agg [.lit (.int .u8 0), .lit (.int .u8 0)], .agg [.lit (.int .u8 0), .lit (.int .u8 0)], .agg [.lit (.int .u8 0), .lit (.int .u8 0)]]
/-- One of Go's own tables, pinned by name: the form's constant. -/
def laid_unicode_utf8_first : DataW Unit := Go.Pinned.utf8First

/-- 'abacuslaw12.LabelsTexts': WHATEVER THE INPUT: true; the input reads as it did. -/
def labelsTextsSpec : ChangeSpec := { name := "labelsTexts", fn := fun _ => fun
  | [d1, d2] => { results := [.lit (.bool true)], args := [d1, d2] }
  | _ => none }
def labelsTextsRow : OpenClaim := { program := "ytogegkfefpgbcaadoor", sum := "2609b66ac8796c144615130afbbdee6a69454680969d6b7003fc74364b7e8f4d", func := "abacus/abacuslaw12.LabelsTexts", spec := "labelsTexts", unfollowed := true, recurses := true, named := ["unicode/utf8.first", "unicode/utf8.acceptRanges"], apart := false, laid := [("unicode/utf8.acceptRanges", laid_unicode_utf8_acceptRanges), ("unicode/utf8.first", laid_unicode_utf8_first)] }
def LabelsTextsSaid : Prop := labelsTextsRow.holds Tryd.pinned (OpenSpec.ofChange labelsTextsSpec)

/-- ITS FALSE NEIGHBOUR: 'it returns false'. Refute it at one input. -/
def labelsTextsWrong : ChangeSpec := { name := "labelsTexts", fn := fun _ => fun
  | [d1, d2] => { results := [.lit (.bool false)], args := [d1, d2] }
  | _ => none }
def LabelsTextsWrongFalsely : Prop := labelsTextsRow.holds Tryd.pinned (OpenSpec.ofChange labelsTextsWrong)

/-- 'abacuslaw12.LabelsWants': WHATEVER THE INPUT: true; the input reads as it did. -/
def labelsWantsSpec : ChangeSpec := { name := "labelsWants", fn := fun _ => fun
  | [d1, d2, d3, d4, d5] => { results := [.lit (.bool true)], args := [d1, d2, d3, d4, d5] }
  | _ => none }
def labelsWantsRow : OpenClaim := { program := "ytogegkfefpgbcaadoor", sum := "2609b66ac8796c144615130afbbdee6a69454680969d6b7003fc74364b7e8f4d", func := "abacus/abacuslaw12.LabelsWants", spec := "labelsWants", unfollowed := true, recurses := true, named := ["unicode/utf8.first", "unicode/utf8.acceptRanges"], apart := false, laid := [("unicode/utf8.acceptRanges", laid_unicode_utf8_acceptRanges), ("unicode/utf8.first", laid_unicode_utf8_first)] }
def LabelsWantsSaid : Prop := labelsWantsRow.holds Tryd.pinned (OpenSpec.ofChange labelsWantsSpec)

/-- ITS FALSE NEIGHBOUR: 'it returns false'. Refute it at one input. -/
def labelsWantsWrong : ChangeSpec := { name := "labelsWants", fn := fun _ => fun
  | [d1, d2, d3, d4, d5] => { results := [.lit (.bool false)], args := [d1, d2, d3, d4, d5] }
  | _ => none }
def LabelsWantsWrongFalsely : Prop := labelsWantsRow.holds Tryd.pinned (OpenSpec.ofChange labelsWantsWrong)

/-- 'abacuslaw12.LabelsMatches': WHATEVER THE INPUT: true; the input reads as it did. -/
def labelsMatchesSpec : ChangeSpec := { name := "labelsMatches", fn := fun _ => fun
  | [d1, d2, d3, d4] => { results := [.lit (.bool true)], args := [d1, d2, d3, d4] }
  | _ => none }
def labelsMatchesRow : OpenClaim := { program := "ytogegkfefpgbcaadoor", sum := "2609b66ac8796c144615130afbbdee6a69454680969d6b7003fc74364b7e8f4d", func := "abacus/abacuslaw12.LabelsMatches", spec := "labelsMatches", unfollowed := true, recurses := true, named := ["unicode/utf8.first", "unicode/utf8.acceptRanges"], apart := false, laid := [("unicode/utf8.acceptRanges", laid_unicode_utf8_acceptRanges), ("unicode/utf8.first", laid_unicode_utf8_first)] }
def LabelsMatchesSaid : Prop := labelsMatchesRow.holds Tryd.pinned (OpenSpec.ofChange labelsMatchesSpec)

/-- ITS FALSE NEIGHBOUR: 'it returns false'. Refute it at one input. -/
def labelsMatchesWrong : ChangeSpec := { name := "labelsMatches", fn := fun _ => fun
  | [d1, d2, d3, d4] => { results := [.lit (.bool false)], args := [d1, d2, d3, d4] }
  | _ => none }
def LabelsMatchesWrongFalsely : Prop := labelsMatchesRow.holds Tryd.pinned (OpenSpec.ofChange labelsMatchesWrong)

/-- 'abacuslaw12.LabelsBack': WHATEVER THE INPUT: true; the input reads as it did. -/
def labelsBackSpec : ChangeSpec := { name := "labelsBack", fn := fun _ => fun
  | [d1, d2, d3, d4] => { results := [.lit (.bool true)], args := [d1, d2, d3, d4] }
  | _ => none }
def labelsBackRow : OpenClaim := { program := "ytogegkfefpgbcaadoor", sum := "2609b66ac8796c144615130afbbdee6a69454680969d6b7003fc74364b7e8f4d", func := "abacus/abacuslaw12.LabelsBack", spec := "labelsBack", unfollowed := true, recurses := true, named := ["unicode/utf8.first", "unicode/utf8.acceptRanges"], apart := false, laid := [("unicode/utf8.acceptRanges", laid_unicode_utf8_acceptRanges), ("unicode/utf8.first", laid_unicode_utf8_first)] }
def LabelsBackSaid : Prop := labelsBackRow.holds Tryd.pinned (OpenSpec.ofChange labelsBackSpec)

/-- ITS FALSE NEIGHBOUR: 'it returns false'. Refute it at one input. -/
def labelsBackWrong : ChangeSpec := { name := "labelsBack", fn := fun _ => fun
  | [d1, d2, d3, d4] => { results := [.lit (.bool false)], args := [d1, d2, d3, d4] }
  | _ => none }
def LabelsBackWrongFalsely : Prop := labelsBackRow.holds Tryd.pinned (OpenSpec.ofChange labelsBackWrong)

/-- 'abacuslaw12.LabelsMakes': WHATEVER THE INPUT: true; the input reads as it did. -/
def labelsMakesSpec : ChangeSpec := { name := "labelsMakes", fn := fun _ => fun
  | [d1, d2] => { results := [.lit (.bool true)], args := [d1, d2] }
  | _ => none }
def labelsMakesRow : OpenClaim := { program := "ytogegkfefpgbcaadoor", sum := "2609b66ac8796c144615130afbbdee6a69454680969d6b7003fc74364b7e8f4d", func := "abacus/abacuslaw12.LabelsMakes", spec := "labelsMakes", unfollowed := true, recurses := true, named := ["unicode/utf8.first", "unicode/utf8.acceptRanges"], apart := false, laid := [("unicode/utf8.acceptRanges", laid_unicode_utf8_acceptRanges), ("unicode/utf8.first", laid_unicode_utf8_first)] }
def LabelsMakesSaid : Prop := labelsMakesRow.holds Tryd.pinned (OpenSpec.ofChange labelsMakesSpec)

/-- ITS FALSE NEIGHBOUR: 'it returns false'. Refute it at one input. -/
def labelsMakesWrong : ChangeSpec := { name := "labelsMakes", fn := fun _ => fun
  | [d1, d2] => { results := [.lit (.bool false)], args := [d1, d2] }
  | _ => none }
def LabelsMakesWrongFalsely : Prop := labelsMakesRow.holds Tryd.pinned (OpenSpec.ofChange labelsMakesWrong)

/-- 'abacuslaw12.LabelsOrder': WHATEVER THE INPUT: true; the input reads as it did. -/
def labelsOrderSpec : ChangeSpec := { name := "labelsOrder", fn := fun _ => fun
  | [d1, d2, d3] => { results := [.lit (.bool true)], args := [d1, d2, d3] }
  | _ => none }
def labelsOrderRow : OpenClaim := { program := "ytogegkfefpgbcaadoor", sum := "2609b66ac8796c144615130afbbdee6a69454680969d6b7003fc74364b7e8f4d", func := "abacus/abacuslaw12.LabelsOrder", spec := "labelsOrder", unfollowed := true, recurses := true, named := ["unicode/utf8.first", "unicode/utf8.acceptRanges"], apart := false, laid := [("unicode/utf8.acceptRanges", laid_unicode_utf8_acceptRanges), ("unicode/utf8.first", laid_unicode_utf8_first)] }
def LabelsOrderSaid : Prop := labelsOrderRow.holds Tryd.pinned (OpenSpec.ofChange labelsOrderSpec)

/-- ITS FALSE NEIGHBOUR: 'it returns false'. Refute it at one input. -/
def labelsOrderWrong : ChangeSpec := { name := "labelsOrder", fn := fun _ => fun
  | [d1, d2, d3] => { results := [.lit (.bool false)], args := [d1, d2, d3] }
  | _ => none }
def LabelsOrderWrongFalsely : Prop := labelsOrderRow.holds Tryd.pinned (OpenSpec.ofChange labelsOrderWrong)

/-- 'abacuslaw12.LabelsMerged': WHATEVER THE INPUT: true; the input reads as it did. -/
def labelsMergedSpec : ChangeSpec := { name := "labelsMerged", fn := fun _ => fun
  | [d1, d2, d3, d4] => { results := [.lit (.bool true)], args := [d1, d2, d3, d4] }
  | _ => none }
def labelsMergedRow : OpenClaim := { program := "ytogegkfefpgbcaadoor", sum := "2609b66ac8796c144615130afbbdee6a69454680969d6b7003fc74364b7e8f4d", func := "abacus/abacuslaw12.LabelsMerged", spec := "labelsMerged", unfollowed := true, recurses := true, named := ["unicode/utf8.first", "unicode/utf8.acceptRanges"], apart := false, laid := [("unicode/utf8.acceptRanges", laid_unicode_utf8_acceptRanges), ("unicode/utf8.first", laid_unicode_utf8_first)] }
def LabelsMergedSaid : Prop := labelsMergedRow.holds Tryd.pinned (OpenSpec.ofChange labelsMergedSpec)

/-- ITS FALSE NEIGHBOUR: 'it returns false'. Refute it at one input. -/
def labelsMergedWrong : ChangeSpec := { name := "labelsMerged", fn := fun _ => fun
  | [d1, d2, d3, d4] => { results := [.lit (.bool false)], args := [d1, d2, d3, d4] }
  | _ => none }
def LabelsMergedWrongFalsely : Prop := labelsMergedRow.holds Tryd.pinned (OpenSpec.ofChange labelsMergedWrong)

/-- 'abacuslaw12.LabelsOwn': WHATEVER THE INPUT: true; the input reads as it did. -/
def labelsOwnSpec : ChangeSpec := { name := "labelsOwn", fn := fun _ => fun
  | [d1, d2] => { results := [.lit (.bool true)], args := [d1, d2] }
  | _ => none }
def labelsOwnRow : OpenClaim := { program := "ytogegkfefpgbcaadoor", sum := "2609b66ac8796c144615130afbbdee6a69454680969d6b7003fc74364b7e8f4d", func := "abacus/abacuslaw12.LabelsOwn", spec := "labelsOwn", unfollowed := true, recurses := true, named := ["unicode/utf8.first", "unicode/utf8.acceptRanges"], apart := false, laid := [("unicode/utf8.acceptRanges", laid_unicode_utf8_acceptRanges), ("unicode/utf8.first", laid_unicode_utf8_first)] }
def LabelsOwnSaid : Prop := labelsOwnRow.holds Tryd.pinned (OpenSpec.ofChange labelsOwnSpec)

/-- ITS FALSE NEIGHBOUR: 'it returns false'. Refute it at one input. -/
def labelsOwnWrong : ChangeSpec := { name := "labelsOwn", fn := fun _ => fun
  | [d1, d2] => { results := [.lit (.bool false)], args := [d1, d2] }
  | _ => none }
def LabelsOwnWrongFalsely : Prop := labelsOwnRow.holds Tryd.pinned (OpenSpec.ofChange labelsOwnWrong)

/-- 'abacuslaw12.LabelsTurns': WHATEVER THE INPUT: true; the input reads as it did. -/
def labelsTurnsSpec : ChangeSpec := { name := "labelsTurns", fn := fun _ => fun
  | [d1, d2, d3] => { results := [.lit (.bool true)], args := [d1, d2, d3] }
  | _ => none }
def labelsTurnsRow : OpenClaim := { program := "ytogegkfefpgbcaadoor", sum := "2609b66ac8796c144615130afbbdee6a69454680969d6b7003fc74364b7e8f4d", func := "abacus/abacuslaw12.LabelsTurns", spec := "labelsTurns", unfollowed := true, recurses := true, named := ["unicode/utf8.first", "unicode/utf8.acceptRanges"], apart := false, laid := [("unicode/utf8.acceptRanges", laid_unicode_utf8_acceptRanges), ("unicode/utf8.first", laid_unicode_utf8_first)] }
def LabelsTurnsSaid : Prop := labelsTurnsRow.holds Tryd.pinned (OpenSpec.ofChange labelsTurnsSpec)

/-- ITS FALSE NEIGHBOUR: 'it returns false'. Refute it at one input. -/
def labelsTurnsWrong : ChangeSpec := { name := "labelsTurns", fn := fun _ => fun
  | [d1, d2, d3] => { results := [.lit (.bool false)], args := [d1, d2, d3] }
  | _ => none }
def LabelsTurnsWrongFalsely : Prop := labelsTurnsRow.holds Tryd.pinned (OpenSpec.ofChange labelsTurnsWrong)

/- THE SECOND FORM. 'bulk': how many values and letters a reading holds, each counted each time it is reached (what is shared counts as often as it is met; a slice's spare places count too). A statement '..UptoSaid' is the law's where the arguments, and the package variables that the reading takes, are together of bulk at most 1048576: NARROWER than '..Said'. Prove '..Said' where nothing that the law and all that it calls make is longer than what came in: it says more and counts as full. Else prove '..UptoSaid'. A law counts once. -/
mutual
def uptoBulk {H : Type} : DataW H → Nat
  | .lit (.string bytes) => bytes.length + 1
  | .lit _ => 1
  | .nil => 1
  | .ptr d => uptoBulk d + 1
  | .slice elems spare => uptoBulkAll elems + uptoBulkAll spare + 1
  | .agg parts => uptoBulkAll parts + 1
  | .iface _ d => uptoBulk d + 1
  | .map entries => uptoBulkEntries entries + 1
  | .held _ => 1
def uptoBulkAll {H : Type} : List (DataW H) → Nat
  | [] => 0
  | d :: r => uptoBulk d + uptoBulkAll r
def uptoBulkEntries {H : Type} : List (Lit × DataW H) → Nat
  | [] => 0
  | x :: r => uptoBulkEntry x + uptoBulkEntries r
def uptoBulkEntry {H : Type} : Lit × DataW H → Nat
  | (.string bytes, d) => bytes.length + uptoBulk d + 1
  | (_, d) => uptoBulk d + 1
 end
def uptoSmall : (H : Type) → List (DataW H) → Bool := fun _ ds => decide (uptoBulkAll ds ≤ 1048576)
def OpenSpec.upto (s : _root_.Go.ChangeSpec) : _root_.Go.OpenSpec := { _root_.Go.OpenSpec.ofChange s with cond := some uptoSmall }

/-- 'abacuslaw12.LabelsTexts', WHERE WHAT IT READS IS OF BULK AT MOST 1048576: true; the input reads as it did. -/
def labelsTextsUptoRow : OpenClaim := { program := "ytogegkfefpgbcaadoor", sum := "2609b66ac8796c144615130afbbdee6a69454680969d6b7003fc74364b7e8f4d", func := "abacus/abacuslaw12.LabelsTexts", spec := "labelsTexts", unfollowed := true, recurses := true, named := ["unicode/utf8.first", "unicode/utf8.acceptRanges"], apart := false, laid := [("unicode/utf8.acceptRanges", laid_unicode_utf8_acceptRanges), ("unicode/utf8.first", laid_unicode_utf8_first)], narrowed := true }
def LabelsTextsUptoSaid : Prop := labelsTextsUptoRow.holds Tryd.pinned (OpenSpec.upto labelsTextsSpec)

/-- 'abacuslaw12.LabelsWants', WHERE WHAT IT READS IS OF BULK AT MOST 1048576: true; the input reads as it did. -/
def labelsWantsUptoRow : OpenClaim := { program := "ytogegkfefpgbcaadoor", sum := "2609b66ac8796c144615130afbbdee6a69454680969d6b7003fc74364b7e8f4d", func := "abacus/abacuslaw12.LabelsWants", spec := "labelsWants", unfollowed := true, recurses := true, named := ["unicode/utf8.first", "unicode/utf8.acceptRanges"], apart := false, laid := [("unicode/utf8.acceptRanges", laid_unicode_utf8_acceptRanges), ("unicode/utf8.first", laid_unicode_utf8_first)], narrowed := true }
def LabelsWantsUptoSaid : Prop := labelsWantsUptoRow.holds Tryd.pinned (OpenSpec.upto labelsWantsSpec)

/-- 'abacuslaw12.LabelsMatches', WHERE WHAT IT READS IS OF BULK AT MOST 1048576: true; the input reads as it did. -/
def labelsMatchesUptoRow : OpenClaim := { program := "ytogegkfefpgbcaadoor", sum := "2609b66ac8796c144615130afbbdee6a69454680969d6b7003fc74364b7e8f4d", func := "abacus/abacuslaw12.LabelsMatches", spec := "labelsMatches", unfollowed := true, recurses := true, named := ["unicode/utf8.first", "unicode/utf8.acceptRanges"], apart := false, laid := [("unicode/utf8.acceptRanges", laid_unicode_utf8_acceptRanges), ("unicode/utf8.first", laid_unicode_utf8_first)], narrowed := true }
def LabelsMatchesUptoSaid : Prop := labelsMatchesUptoRow.holds Tryd.pinned (OpenSpec.upto labelsMatchesSpec)

/-- 'abacuslaw12.LabelsBack', WHERE WHAT IT READS IS OF BULK AT MOST 1048576: true; the input reads as it did. -/
def labelsBackUptoRow : OpenClaim := { program := "ytogegkfefpgbcaadoor", sum := "2609b66ac8796c144615130afbbdee6a69454680969d6b7003fc74364b7e8f4d", func := "abacus/abacuslaw12.LabelsBack", spec := "labelsBack", unfollowed := true, recurses := true, named := ["unicode/utf8.first", "unicode/utf8.acceptRanges"], apart := false, laid := [("unicode/utf8.acceptRanges", laid_unicode_utf8_acceptRanges), ("unicode/utf8.first", laid_unicode_utf8_first)], narrowed := true }
def LabelsBackUptoSaid : Prop := labelsBackUptoRow.holds Tryd.pinned (OpenSpec.upto labelsBackSpec)

/-- 'abacuslaw12.LabelsMakes', WHERE WHAT IT READS IS OF BULK AT MOST 1048576: true; the input reads as it did. -/
def labelsMakesUptoRow : OpenClaim := { program := "ytogegkfefpgbcaadoor", sum := "2609b66ac8796c144615130afbbdee6a69454680969d6b7003fc74364b7e8f4d", func := "abacus/abacuslaw12.LabelsMakes", spec := "labelsMakes", unfollowed := true, recurses := true, named := ["unicode/utf8.first", "unicode/utf8.acceptRanges"], apart := false, laid := [("unicode/utf8.acceptRanges", laid_unicode_utf8_acceptRanges), ("unicode/utf8.first", laid_unicode_utf8_first)], narrowed := true }
def LabelsMakesUptoSaid : Prop := labelsMakesUptoRow.holds Tryd.pinned (OpenSpec.upto labelsMakesSpec)

/-- 'abacuslaw12.LabelsOrder', WHERE WHAT IT READS IS OF BULK AT MOST 1048576: true; the input reads as it did. -/
def labelsOrderUptoRow : OpenClaim := { program := "ytogegkfefpgbcaadoor", sum := "2609b66ac8796c144615130afbbdee6a69454680969d6b7003fc74364b7e8f4d", func := "abacus/abacuslaw12.LabelsOrder", spec := "labelsOrder", unfollowed := true, recurses := true, named := ["unicode/utf8.first", "unicode/utf8.acceptRanges"], apart := false, laid := [("unicode/utf8.acceptRanges", laid_unicode_utf8_acceptRanges), ("unicode/utf8.first", laid_unicode_utf8_first)], narrowed := true }
def LabelsOrderUptoSaid : Prop := labelsOrderUptoRow.holds Tryd.pinned (OpenSpec.upto labelsOrderSpec)

/-- 'abacuslaw12.LabelsMerged', WHERE WHAT IT READS IS OF BULK AT MOST 1048576: true; the input reads as it did. -/
def labelsMergedUptoRow : OpenClaim := { program := "ytogegkfefpgbcaadoor", sum := "2609b66ac8796c144615130afbbdee6a69454680969d6b7003fc74364b7e8f4d", func := "abacus/abacuslaw12.LabelsMerged", spec := "labelsMerged", unfollowed := true, recurses := true, named := ["unicode/utf8.first", "unicode/utf8.acceptRanges"], apart := false, laid := [("unicode/utf8.acceptRanges", laid_unicode_utf8_acceptRanges), ("unicode/utf8.first", laid_unicode_utf8_first)], narrowed := true }
def LabelsMergedUptoSaid : Prop := labelsMergedUptoRow.holds Tryd.pinned (OpenSpec.upto labelsMergedSpec)

/-- 'abacuslaw12.LabelsOwn', WHERE WHAT IT READS IS OF BULK AT MOST 1048576: true; the input reads as it did. -/
def labelsOwnUptoRow : OpenClaim := { program := "ytogegkfefpgbcaadoor", sum := "2609b66ac8796c144615130afbbdee6a69454680969d6b7003fc74364b7e8f4d", func := "abacus/abacuslaw12.LabelsOwn", spec := "labelsOwn", unfollowed := true, recurses := true, named := ["unicode/utf8.first", "unicode/utf8.acceptRanges"], apart := false, laid := [("unicode/utf8.acceptRanges", laid_unicode_utf8_acceptRanges), ("unicode/utf8.first", laid_unicode_utf8_first)], narrowed := true }
def LabelsOwnUptoSaid : Prop := labelsOwnUptoRow.holds Tryd.pinned (OpenSpec.upto labelsOwnSpec)

/-- 'abacuslaw12.LabelsTurns', WHERE WHAT IT READS IS OF BULK AT MOST 1048576: true; the input reads as it did. -/
def labelsTurnsUptoRow : OpenClaim := { program := "ytogegkfefpgbcaadoor", sum := "2609b66ac8796c144615130afbbdee6a69454680969d6b7003fc74364b7e8f4d", func := "abacus/abacuslaw12.LabelsTurns", spec := "labelsTurns", unfollowed := true, recurses := true, named := ["unicode/utf8.first", "unicode/utf8.acceptRanges"], apart := false, laid := [("unicode/utf8.acceptRanges", laid_unicode_utf8_acceptRanges), ("unicode/utf8.first", laid_unicode_utf8_first)], narrowed := true }
def LabelsTurnsUptoSaid : Prop := labelsTurnsUptoRow.holds Tryd.pinned (OpenSpec.upto labelsTurnsSpec)

end Rows
end Go.Proofs.YtogegkfefpgbcaaDoor
