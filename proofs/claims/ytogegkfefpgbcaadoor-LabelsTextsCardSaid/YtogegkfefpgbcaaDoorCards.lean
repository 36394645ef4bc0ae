/-
  DERIVED. GIVEN WITH THE SEED: THE CARDS: each row of YtogegkfefpgbcaaDoorRows.lean that lists a variable, with what it lists TIED to the program's text (the seventh form; the later family's looks); each row that meets fmt, with fmt's text TOLD by the authors' own Lean function (tested against real Go, not proved from fmt's source: count such statements apart). THE CARD IS WHAT COUNTS. Prove the row's statement (the work); the ties are given (YtogegkfefpgbcaaDoorTie.lean); close each card by the builder's one call (the guide's Derived/Test/ToyasCard.lean, 'card_holds'). Laid BY PROGRAM, IN A SANDBOX (cutbox-door.mjs). By AI agents, Wed Nov 11 2026. No macro, syntax, notation, axiom, sorry.
-/
import Derived.Test.YtogegkfefpgbcaaDoorRows
import GoSem.ClaimSeven
namespace Go.Proofs.YtogegkfefpgbcaaDoor
namespace Rows

/-- THE TIED CARD OF 'abacuslaw12.LabelsTexts'. -/
def labelsTextsCard : Claim7 := { stood := { row := labelsTextsRow, standIns := [], harness := (true, "f6fc5c34b52ac7336e0b02917a93f7274975d3d68ed4aaaa8a68bdf98f4777aa"), looks := false }, kinds := [], alts := [], laidByText := true, laidKinds := [.data, .pinned], laidTests := true, laidLooks := .later }
def LabelsTextsCardSaid : Prop := Claim7.holds Tryd.pinned (.plain (OpenSpec.ofChange labelsTextsSpec)) labelsTextsCard

/-- THE TIED CARD OF 'abacuslaw12.LabelsWants'. -/
def labelsWantsCard : Claim7 := { stood := { row := labelsWantsRow, standIns := [], harness := (true, "f6fc5c34b52ac7336e0b02917a93f7274975d3d68ed4aaaa8a68bdf98f4777aa"), looks := false }, kinds := [], alts := [], laidByText := true, laidKinds := [.data, .pinned], laidTests := true, laidLooks := .later }
def LabelsWantsCardSaid : Prop := Claim7.holds Tryd.pinned (.plain (OpenSpec.ofChange labelsWantsSpec)) labelsWantsCard

/-- THE TIED CARD OF 'abacuslaw12.LabelsMatches'. -/
def labelsMatchesCard : Claim7 := { stood := { row := labelsMatchesRow, standIns := [], harness := (true, "f6fc5c34b52ac7336e0b02917a93f7274975d3d68ed4aaaa8a68bdf98f4777aa"), looks := false }, kinds := [], alts := [], laidByText := true, laidKinds := [.data, .pinned], laidTests := true, laidLooks := .later }
def LabelsMatchesCardSaid : Prop := Claim7.holds Tryd.pinned (.plain (OpenSpec.ofChange labelsMatchesSpec)) labelsMatchesCard

/-- THE TIED CARD OF 'abacuslaw12.LabelsBack'. -/
def labelsBackCard : Claim7 := { stood := { row := labelsBackRow, standIns := [], harness := (true, "f6fc5c34b52ac7336e0b02917a93f7274975d3d68ed4aaaa8a68bdf98f4777aa"), looks := false }, kinds := [], alts := [], laidByText := true, laidKinds := [.data, .pinned], laidTests := true, laidLooks := .later }
def LabelsBackCardSaid : Prop := Claim7.holds Tryd.pinned (.plain (OpenSpec.ofChange labelsBackSpec)) labelsBackCard

/-- THE TIED CARD OF 'abacuslaw12.LabelsMakes'. -/
def labelsMakesCard : Claim7 := { stood := { row := labelsMakesRow, standIns := [], harness := (true, "f6fc5c34b52ac7336e0b02917a93f7274975d3d68ed4aaaa8a68bdf98f4777aa"), looks := false }, kinds := [], alts := [], laidByText := true, laidKinds := [.data, .pinned], laidTests := true, laidLooks := .later }
def LabelsMakesCardSaid : Prop := Claim7.holds Tryd.pinned (.plain (OpenSpec.ofChange labelsMakesSpec)) labelsMakesCard

/-- THE TIED CARD OF 'abacuslaw12.LabelsOrder'. -/
def labelsOrderCard : Claim7 := { stood := { row := labelsOrderRow, standIns := [], harness := (true, "f6fc5c34b52ac7336e0b02917a93f7274975d3d68ed4aaaa8a68bdf98f4777aa"), looks := false }, kinds := [], alts := [], laidByText := true, laidKinds := [.data, .pinned], laidTests := true, laidLooks := .later }
def LabelsOrderCardSaid : Prop := Claim7.holds Tryd.pinned (.plain (OpenSpec.ofChange labelsOrderSpec)) labelsOrderCard

/-- THE TIED CARD OF 'abacuslaw12.LabelsMerged'. -/
def labelsMergedCard : Claim7 := { stood := { row := labelsMergedRow, standIns := [], harness := (true, "f6fc5c34b52ac7336e0b02917a93f7274975d3d68ed4aaaa8a68bdf98f4777aa"), looks := false }, kinds := [], alts := [], laidByText := true, laidKinds := [.data, .pinned], laidTests := true, laidLooks := .later }
def LabelsMergedCardSaid : Prop := Claim7.holds Tryd.pinned (.plain (OpenSpec.ofChange labelsMergedSpec)) labelsMergedCard

/-- THE TIED CARD OF 'abacuslaw12.LabelsOwn'. -/
def labelsOwnCard : Claim7 := { stood := { row := labelsOwnRow, standIns := [], harness := (true, "f6fc5c34b52ac7336e0b02917a93f7274975d3d68ed4aaaa8a68bdf98f4777aa"), looks := false }, kinds := [], alts := [], laidByText := true, laidKinds := [.data, .pinned], laidTests := true, laidLooks := .later }
def LabelsOwnCardSaid : Prop := Claim7.holds Tryd.pinned (.plain (OpenSpec.ofChange labelsOwnSpec)) labelsOwnCard

/-- THE TIED CARD OF 'abacuslaw12.LabelsTurns'. -/
def labelsTurnsCard : Claim7 := { stood := { row := labelsTurnsRow, standIns := [], harness := (true, "f6fc5c34b52ac7336e0b02917a93f7274975d3d68ed4aaaa8a68bdf98f4777aa"), looks := false }, kinds := [], alts := [], laidByText := true, laidKinds := [.data, .pinned], laidTests := true, laidLooks := .later }
def LabelsTurnsCardSaid : Prop := Claim7.holds Tryd.pinned (.plain (OpenSpec.ofChange labelsTurnsSpec)) labelsTurnsCard

/-- THE SECOND FORM's CARD OF 'abacuslaw12.LabelsTexts'. -/
def labelsTextsUptoCard : Claim7 := { stood := { row := labelsTextsUptoRow, standIns := [], harness := (true, "f6fc5c34b52ac7336e0b02917a93f7274975d3d68ed4aaaa8a68bdf98f4777aa"), looks := false }, kinds := [], alts := [], laidByText := true, laidKinds := [.data, .pinned], laidTests := true, laidLooks := .later }
def LabelsTextsUptoCardSaid : Prop := Claim7.holds Tryd.pinned (.plain (OpenSpec.upto labelsTextsSpec)) labelsTextsUptoCard

/-- THE SECOND FORM's CARD OF 'abacuslaw12.LabelsWants'. -/
def labelsWantsUptoCard : Claim7 := { stood := { row := labelsWantsUptoRow, standIns := [], harness := (true, "f6fc5c34b52ac7336e0b02917a93f7274975d3d68ed4aaaa8a68bdf98f4777aa"), looks := false }, kinds := [], alts := [], laidByText := true, laidKinds := [.data, .pinned], laidTests := true, laidLooks := .later }
def LabelsWantsUptoCardSaid : Prop := Claim7.holds Tryd.pinned (.plain (OpenSpec.upto labelsWantsSpec)) labelsWantsUptoCard

/-- THE SECOND FORM's CARD OF 'abacuslaw12.LabelsMatches'. -/
def labelsMatchesUptoCard : Claim7 := { stood := { row := labelsMatchesUptoRow, standIns := [], harness := (true, "f6fc5c34b52ac7336e0b02917a93f7274975d3d68ed4aaaa8a68bdf98f4777aa"), looks := false }, kinds := [], alts := [], laidByText := true, laidKinds := [.data, .pinned], laidTests := true, laidLooks := .later }
def LabelsMatchesUptoCardSaid : Prop := Claim7.holds Tryd.pinned (.plain (OpenSpec.upto labelsMatchesSpec)) labelsMatchesUptoCard

/-- THE SECOND FORM's CARD OF 'abacuslaw12.LabelsBack'. -/
def labelsBackUptoCard : Claim7 := { stood := { row := labelsBackUptoRow, standIns := [], harness := (true, "f6fc5c34b52ac7336e0b02917a93f7274975d3d68ed4aaaa8a68bdf98f4777aa"), looks := false }, kinds := [], alts := [], laidByText := true, laidKinds := [.data, .pinned], laidTests := true, laidLooks := .later }
def LabelsBackUptoCardSaid : Prop := Claim7.holds Tryd.pinned (.plain (OpenSpec.upto labelsBackSpec)) labelsBackUptoCard

/-- THE SECOND FORM's CARD OF 'abacuslaw12.LabelsMakes'. -/
def labelsMakesUptoCard : Claim7 := { stood := { row := labelsMakesUptoRow, standIns := [], harness := (true, "f6fc5c34b52ac7336e0b02917a93f7274975d3d68ed4aaaa8a68bdf98f4777aa"), looks := false }, kinds := [], alts := [], laidByText := true, laidKinds := [.data, .pinned], laidTests := true, laidLooks := .later }
def LabelsMakesUptoCardSaid : Prop := Claim7.holds Tryd.pinned (.plain (OpenSpec.upto labelsMakesSpec)) labelsMakesUptoCard

/-- THE SECOND FORM's CARD OF 'abacuslaw12.LabelsOrder'. -/
def labelsOrderUptoCard : Claim7 := { stood := { row := labelsOrderUptoRow, standIns := [], harness := (true, "f6fc5c34b52ac7336e0b02917a93f7274975d3d68ed4aaaa8a68bdf98f4777aa"), looks := false }, kinds := [], alts := [], laidByText := true, laidKinds := [.data, .pinned], laidTests := true, laidLooks := .later }
def LabelsOrderUptoCardSaid : Prop := Claim7.holds Tryd.pinned (.plain (OpenSpec.upto labelsOrderSpec)) labelsOrderUptoCard

/-- THE SECOND FORM's CARD OF 'abacuslaw12.LabelsMerged'. -/
def labelsMergedUptoCard : Claim7 := { stood := { row := labelsMergedUptoRow, standIns := [], harness := (true, "f6fc5c34b52ac7336e0b02917a93f7274975d3d68ed4aaaa8a68bdf98f4777aa"), looks := false }, kinds := [], alts := [], laidByText := true, laidKinds := [.data, .pinned], laidTests := true, laidLooks := .later }
def LabelsMergedUptoCardSaid : Prop := Claim7.holds Tryd.pinned (.plain (OpenSpec.upto labelsMergedSpec)) labelsMergedUptoCard

/-- THE SECOND FORM's CARD OF 'abacuslaw12.LabelsOwn'. -/
def labelsOwnUptoCard : Claim7 := { stood := { row := labelsOwnUptoRow, standIns := [], harness := (true, "f6fc5c34b52ac7336e0b02917a93f7274975d3d68ed4aaaa8a68bdf98f4777aa"), looks := false }, kinds := [], alts := [], laidByText := true, laidKinds := [.data, .pinned], laidTests := true, laidLooks := .later }
def LabelsOwnUptoCardSaid : Prop := Claim7.holds Tryd.pinned (.plain (OpenSpec.upto labelsOwnSpec)) labelsOwnUptoCard

/-- THE SECOND FORM's CARD OF 'abacuslaw12.LabelsTurns'. -/
def labelsTurnsUptoCard : Claim7 := { stood := { row := labelsTurnsUptoRow, standIns := [], harness := (true, "f6fc5c34b52ac7336e0b02917a93f7274975d3d68ed4aaaa8a68bdf98f4777aa"), looks := false }, kinds := [], alts := [], laidByText := true, laidKinds := [.data, .pinned], laidTests := true, laidLooks := .later }
def LabelsTurnsUptoCardSaid : Prop := Claim7.holds Tryd.pinned (.plain (OpenSpec.upto labelsTurnsSpec)) labelsTurnsUptoCard
end Rows
end Go.Proofs.YtogegkfefpgbcaaDoor
