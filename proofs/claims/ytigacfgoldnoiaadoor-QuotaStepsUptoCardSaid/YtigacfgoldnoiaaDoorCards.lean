/-
  DERIVED. GIVEN WITH THE SEED: THE CARDS: each row of YtigacfgoldnoiaaDoorRows.lean that lists a variable, with what it lists TIED to the program's text (the seventh form; the later family's looks); each row that meets fmt, with fmt's text TOLD by the authors' own Lean function (tested against real Go, not proved from fmt's source: count such statements apart). THE CARD IS WHAT COUNTS. Prove the row's statement (the work); the ties are given (YtigacfgoldnoiaaDoorTie.lean); close each card by the builder's one call (the guide's Derived/Test/ToyasCard.lean, 'card_holds'). Laid BY PROGRAM, IN A SANDBOX (cutbox-door.mjs). By AI agents, Wed Nov 11 2026. No macro, syntax, notation, axiom, sorry.
-/
import Derived.Test.YtigacfgoldnoiaaDoorRows
import GoSem.ClaimSeven
namespace Go.Proofs.YtigacfgoldnoiaaDoor
namespace Rows

/-- THE TIED CARD OF 'abacuslaw18.QuotaSteps'. -/
def quotaStepsCard : Claim7 := { stood := { row := quotaStepsRow, standIns := [], harness := (true, "ae8f778a95b8b78fd77dc58d959ecb0a1cd17acfa17913ccbdb42b4195b228f8"), looks := false }, kinds := [], alts := [], goes := true, laidByText := true, laidKinds := [.data], laidTests := true, laidLooks := .later }
def QuotaStepsCardSaid : Prop := Claim7.holds Tryd.pinned (.plain (OpenSpec.ofChange quotaStepsSpec)) quotaStepsCard

/-- THE TIED CARD OF 'abacuslaw18.QuotaCalls'. -/
def quotaCallsCard : Claim7 := { stood := { row := quotaCallsRow, standIns := [], harness := (true, "ae8f778a95b8b78fd77dc58d959ecb0a1cd17acfa17913ccbdb42b4195b228f8"), looks := false }, kinds := [], alts := [], goes := true, laidByText := true, laidKinds := [.data], laidTests := true, laidLooks := .later }
def QuotaCallsCardSaid : Prop := Claim7.holds Tryd.pinned (.plain (OpenSpec.ofChange quotaCallsSpec)) quotaCallsCard

/-- THE TIED CARD OF 'abacuslaw18.QuotaNil'. -/
def quotaNilCard : Claim7 := { stood := { row := quotaNilRow, standIns := [], harness := (true, "ae8f778a95b8b78fd77dc58d959ecb0a1cd17acfa17913ccbdb42b4195b228f8"), looks := false }, kinds := [], alts := [], goes := true, laidByText := true, laidKinds := [.data], laidTests := true, laidLooks := .later }
def QuotaNilCardSaid : Prop := Claim7.holds Tryd.pinned (.plain (OpenSpec.ofChange quotaNilSpec)) quotaNilCard

/-- THE TIED CARD OF 'abacuslaw18.QuotaConserved'. -/
def quotaConservedCard : Claim7 := { stood := { row := quotaConservedRow, standIns := [], harness := (true, "ae8f778a95b8b78fd77dc58d959ecb0a1cd17acfa17913ccbdb42b4195b228f8"), looks := false }, kinds := [], alts := [], goes := true, laidByText := true, laidKinds := [.data], laidTests := true, laidLooks := .later }
def QuotaConservedCardSaid : Prop := Claim7.holds Tryd.pinned (.plain (OpenSpec.ofChange quotaConservedSpec)) quotaConservedCard

/-- THE TIED CARD OF 'abacuslaw18.QuotaEarly'. -/
def quotaEarlyCard : Claim7 := { stood := { row := quotaEarlyRow, standIns := [], harness := (true, "ae8f778a95b8b78fd77dc58d959ecb0a1cd17acfa17913ccbdb42b4195b228f8"), looks := false }, kinds := [], alts := [], goes := true, laidByText := true, laidKinds := [.data], laidTests := true, laidLooks := .later }
def QuotaEarlyCardSaid : Prop := Claim7.holds Tryd.pinned (.plain (OpenSpec.ofChange quotaEarlySpec)) quotaEarlyCard

/-- THE TIED CARD OF 'abacuslaw18.QuotaSpent'. -/
def quotaSpentCard : Claim7 := { stood := { row := quotaSpentRow, standIns := [], harness := (true, "ae8f778a95b8b78fd77dc58d959ecb0a1cd17acfa17913ccbdb42b4195b228f8"), looks := false }, kinds := [], alts := [], goes := true, laidByText := true, laidKinds := [.data], laidTests := true, laidLooks := .later }
def QuotaSpentCardSaid : Prop := Claim7.holds Tryd.pinned (.plain (OpenSpec.ofChange quotaSpentSpec)) quotaSpentCard

/-- THE TIED CARD OF 'abacuslaw18.QuotaPlain'. -/
def quotaPlainCard : Claim7 := { stood := { row := quotaPlainRow, standIns := [], harness := (true, "ae8f778a95b8b78fd77dc58d959ecb0a1cd17acfa17913ccbdb42b4195b228f8"), looks := false }, kinds := [], alts := [], goes := true, laidByText := true, laidKinds := [.data], laidTests := true, laidLooks := .later }
def QuotaPlainCardSaid : Prop := Claim7.holds Tryd.pinned (.plain (OpenSpec.ofChange quotaPlainSpec)) quotaPlainCard

/-- THE TIED CARD OF 'abacuslaw18.QuotaFree'. -/
def quotaFreeCard : Claim7 := { stood := { row := quotaFreeRow, standIns := [], harness := (true, "ae8f778a95b8b78fd77dc58d959ecb0a1cd17acfa17913ccbdb42b4195b228f8"), looks := false }, kinds := [], alts := [], goes := true, laidByText := true, laidKinds := [.data], laidTests := true, laidLooks := .later }
def QuotaFreeCardSaid : Prop := Claim7.holds Tryd.pinned (.plain (OpenSpec.ofChange quotaFreeSpec)) quotaFreeCard

/-- THE SECOND FORM's CARD OF 'abacuslaw18.QuotaSteps'. -/
def quotaStepsUptoCard : Claim7 := { stood := { row := quotaStepsUptoRow, standIns := [], harness := (true, "ae8f778a95b8b78fd77dc58d959ecb0a1cd17acfa17913ccbdb42b4195b228f8"), looks := false }, kinds := [], alts := [], goes := true, laidByText := true, laidKinds := [.data], laidTests := true, laidLooks := .later }
def QuotaStepsUptoCardSaid : Prop := Claim7.holds Tryd.pinned (.plain (OpenSpec.upto quotaStepsSpec)) quotaStepsUptoCard

/-- THE SECOND FORM's CARD OF 'abacuslaw18.QuotaCalls'. -/
def quotaCallsUptoCard : Claim7 := { stood := { row := quotaCallsUptoRow, standIns := [], harness := (true, "ae8f778a95b8b78fd77dc58d959ecb0a1cd17acfa17913ccbdb42b4195b228f8"), looks := false }, kinds := [], alts := [], goes := true, laidByText := true, laidKinds := [.data], laidTests := true, laidLooks := .later }
def QuotaCallsUptoCardSaid : Prop := Claim7.holds Tryd.pinned (.plain (OpenSpec.upto quotaCallsSpec)) quotaCallsUptoCard

/-- THE SECOND FORM's CARD OF 'abacuslaw18.QuotaNil'. -/
def quotaNilUptoCard : Claim7 := { stood := { row := quotaNilUptoRow, standIns := [], harness := (true, "ae8f778a95b8b78fd77dc58d959ecb0a1cd17acfa17913ccbdb42b4195b228f8"), looks := false }, kinds := [], alts := [], goes := true, laidByText := true, laidKinds := [.data], laidTests := true, laidLooks := .later }
def QuotaNilUptoCardSaid : Prop := Claim7.holds Tryd.pinned (.plain (OpenSpec.upto quotaNilSpec)) quotaNilUptoCard

/-- THE SECOND FORM's CARD OF 'abacuslaw18.QuotaConserved'. -/
def quotaConservedUptoCard : Claim7 := { stood := { row := quotaConservedUptoRow, standIns := [], harness := (true, "ae8f778a95b8b78fd77dc58d959ecb0a1cd17acfa17913ccbdb42b4195b228f8"), looks := false }, kinds := [], alts := [], goes := true, laidByText := true, laidKinds := [.data], laidTests := true, laidLooks := .later }
def QuotaConservedUptoCardSaid : Prop := Claim7.holds Tryd.pinned (.plain (OpenSpec.upto quotaConservedSpec)) quotaConservedUptoCard

/-- THE SECOND FORM's CARD OF 'abacuslaw18.QuotaEarly'. -/
def quotaEarlyUptoCard : Claim7 := { stood := { row := quotaEarlyUptoRow, standIns := [], harness := (true, "ae8f778a95b8b78fd77dc58d959ecb0a1cd17acfa17913ccbdb42b4195b228f8"), looks := false }, kinds := [], alts := [], goes := true, laidByText := true, laidKinds := [.data], laidTests := true, laidLooks := .later }
def QuotaEarlyUptoCardSaid : Prop := Claim7.holds Tryd.pinned (.plain (OpenSpec.upto quotaEarlySpec)) quotaEarlyUptoCard

/-- THE SECOND FORM's CARD OF 'abacuslaw18.QuotaSpent'. -/
def quotaSpentUptoCard : Claim7 := { stood := { row := quotaSpentUptoRow, standIns := [], harness := (true, "ae8f778a95b8b78fd77dc58d959ecb0a1cd17acfa17913ccbdb42b4195b228f8"), looks := false }, kinds := [], alts := [], goes := true, laidByText := true, laidKinds := [.data], laidTests := true, laidLooks := .later }
def QuotaSpentUptoCardSaid : Prop := Claim7.holds Tryd.pinned (.plain (OpenSpec.upto quotaSpentSpec)) quotaSpentUptoCard

/-- THE SECOND FORM's CARD OF 'abacuslaw18.QuotaPlain'. -/
def quotaPlainUptoCard : Claim7 := { stood := { row := quotaPlainUptoRow, standIns := [], harness := (true, "ae8f778a95b8b78fd77dc58d959ecb0a1cd17acfa17913ccbdb42b4195b228f8"), looks := false }, kinds := [], alts := [], goes := true, laidByText := true, laidKinds := [.data], laidTests := true, laidLooks := .later }
def QuotaPlainUptoCardSaid : Prop := Claim7.holds Tryd.pinned (.plain (OpenSpec.upto quotaPlainSpec)) quotaPlainUptoCard

/-- THE SECOND FORM's CARD OF 'abacuslaw18.QuotaFree'. -/
def quotaFreeUptoCard : Claim7 := { stood := { row := quotaFreeUptoRow, standIns := [], harness := (true, "ae8f778a95b8b78fd77dc58d959ecb0a1cd17acfa17913ccbdb42b4195b228f8"), looks := false }, kinds := [], alts := [], goes := true, laidByText := true, laidKinds := [.data], laidTests := true, laidLooks := .later }
def QuotaFreeUptoCardSaid : Prop := Claim7.holds Tryd.pinned (.plain (OpenSpec.upto quotaFreeSpec)) quotaFreeUptoCard
end Rows
end Go.Proofs.YtigacfgoldnoiaaDoor
