/-
  NARROWER THAN 'FOR EVERY INPUT', by the rows' own cells (each row's printed sentence says how): QuotaSteps: laid · QuotaCalls: laid · QuotaNil: laid · QuotaConserved: laid · QuotaEarly: laid · QuotaSpent: laid · QuotaPlain: laid · QuotaFree: laid.
  DERIVED. THE GIVEN ROWS OF THIS SEAT. 8 by the template 'for every input the law returns true; each argument reads behind the call as it read before'; 0 by the template 'total and deterministic' (their statements: YtigacfgoldnoiaaDoorTotals.lean).
  GIVEN WITH THE SEED: the statements are not yours to turn. If you find one false, say at which input.
  Laid BY PROGRAM, IN A SANDBOX (cutbox-rows.mjs): the forced cells as the released guide's own fill.sh prints them over the translation 03c6fb5c6f4e1afd… (all of the seat's roots in one cut). By AI agents, Wed Nov 11 2026. No macro, syntax, notation, axiom, sorry.
-/
import Derived.Test.YtigacfgoldnoiaaDoorChecked
import GoSem.Claim
import GoSem.ClaimJoined
import GoSem.ClaimMapViews
import Derived.JoinedTies
import Derived.KernelRfl
namespace Go.Proofs.YtigacfgoldnoiaaDoor
/- THE CELL 'sum', in the pinned program and in every row, IS THE sha256 OF THE DUMP (.gsa) THAT YtigacfgoldnoiaaDoorProg.lean LOADS. Nothing in Lean hashes anything: it is a label: what it is worth is what the hold of that sum in a sandbox is worth. -/
noncomputable def Tryd.pinned : Pinned := { name := "ytigacfgoldnoiaadoor", sum := "03c6fb5c6f4e1afdf4cc3e5cd667f06517694e7e97ef7f3a2466a56bd352c457", checked := Tryd.checked }
namespace Rows
def none {H : Type} : Left H := { results := [], args := [] }

/- WHAT THE LISTED PACKAGE-LEVEL VARIABLES READ AS WHEN THE CALL BEGINS. Each datum BY PROGRAM (the guide's laid-datum.mjs) off the statement by which the dump's own 'gosem.cut.vars' lays the variable. In a bare row this is a premise. The card (YtigacfgoldnoiaaDoorCards.lean) ties it to the program's text. -/
def laid_abacus_cells_uses {H : Type} : DataW H := .agg [.agg [.lit (.bool false), .lit (.bool false)], .agg [.lit (.bool false), .lit (.bool false)], .agg [.lit (.bool false), .lit (.bool true)], .agg [.lit (.bool false), .lit (.bool true)], .agg [.lit (.bool false), .lit (.bool true)], .agg [.lit (.bool true), .lit (.bool true)]]

/-- 'abacuslaw18.QuotaSteps': WHATEVER THE INPUT: true; the input reads as it did. -/
def quotaStepsSpec : ChangeSpec := { name := "quotaSteps", fn := fun _ => fun
  | [d1, d2, d3, d4, d5] => { results := [.lit (.bool true)], args := [d1, d2, d3, d4, d5] }
  | _ => none }
def quotaStepsRow : OpenClaim := { program := "ytigacfgoldnoiaadoor", sum := "03c6fb5c6f4e1afdf4cc3e5cd667f06517694e7e97ef7f3a2466a56bd352c457", func := "abacus/abacuslaw18.QuotaSteps", spec := "quotaSteps", inPlace := ["sync/atomic.StoreUint64", "sync/atomic.LoadUint64", "sync/atomic.SwapUint64", "sync/atomic.AddUint64", "sync/atomic.CompareAndSwapUint64"], unfollowed := true, recurses := true, named := ["abacus/cells.uses"], leaving := true, apart := false, laid := [("abacus/cells.uses", laid_abacus_cells_uses)] }
def QuotaStepsSaid : Prop := quotaStepsRow.holds Tryd.pinned (OpenSpec.ofChange quotaStepsSpec)

/-- ITS FALSE NEIGHBOUR: 'it returns false'. Refute it at one input. -/
def quotaStepsWrong : ChangeSpec := { name := "quotaSteps", fn := fun _ => fun
  | [d1, d2, d3, d4, d5] => { results := [.lit (.bool false)], args := [d1, d2, d3, d4, d5] }
  | _ => none }
def QuotaStepsWrongFalsely : Prop := quotaStepsRow.holds Tryd.pinned (OpenSpec.ofChange quotaStepsWrong)

/-- 'abacuslaw18.QuotaCalls': WHATEVER THE INPUT: true; the input reads as it did. -/
def quotaCallsSpec : ChangeSpec := { name := "quotaCalls", fn := fun _ => fun
  | [d1, d2, d3, d4] => { results := [.lit (.bool true)], args := [d1, d2, d3, d4] }
  | _ => none }
def quotaCallsRow : OpenClaim := { program := "ytigacfgoldnoiaadoor", sum := "03c6fb5c6f4e1afdf4cc3e5cd667f06517694e7e97ef7f3a2466a56bd352c457", func := "abacus/abacuslaw18.QuotaCalls", spec := "quotaCalls", inPlace := ["sync/atomic.StoreUint64", "sync/atomic.LoadUint64", "sync/atomic.SwapUint64", "sync/atomic.AddUint64", "sync/atomic.CompareAndSwapUint64"], unfollowed := true, recurses := true, named := ["abacus/cells.uses"], leaving := true, apart := false, laid := [("abacus/cells.uses", laid_abacus_cells_uses)] }
def QuotaCallsSaid : Prop := quotaCallsRow.holds Tryd.pinned (OpenSpec.ofChange quotaCallsSpec)

/-- ITS FALSE NEIGHBOUR: 'it returns false'. Refute it at one input. -/
def quotaCallsWrong : ChangeSpec := { name := "quotaCalls", fn := fun _ => fun
  | [d1, d2, d3, d4] => { results := [.lit (.bool false)], args := [d1, d2, d3, d4] }
  | _ => none }
def QuotaCallsWrongFalsely : Prop := quotaCallsRow.holds Tryd.pinned (OpenSpec.ofChange quotaCallsWrong)

/-- 'abacuslaw18.QuotaNil': WHATEVER THE INPUT: true; the input reads as it did. -/
def quotaNilSpec : ChangeSpec := { name := "quotaNil", fn := fun _ => fun
  | [d] => { results := [.lit (.bool true)], args := [d] }
  | _ => none }
def quotaNilRow : OpenClaim := { program := "ytigacfgoldnoiaadoor", sum := "03c6fb5c6f4e1afdf4cc3e5cd667f06517694e7e97ef7f3a2466a56bd352c457", func := "abacus/abacuslaw18.QuotaNil", spec := "quotaNil", inPlace := ["sync/atomic.LoadUint64", "sync/atomic.SwapUint64", "sync/atomic.AddUint64", "sync/atomic.CompareAndSwapUint64", "sync/atomic.StoreUint64"], unfollowed := true, recurses := true, named := ["abacus/cells.uses"], leaving := true, apart := false, laid := [("abacus/cells.uses", laid_abacus_cells_uses)] }
def QuotaNilSaid : Prop := quotaNilRow.holds Tryd.pinned (OpenSpec.ofChange quotaNilSpec)

/-- ITS FALSE NEIGHBOUR: 'it returns false'. Refute it at one input. -/
def quotaNilWrong : ChangeSpec := { name := "quotaNil", fn := fun _ => fun
  | [d] => { results := [.lit (.bool false)], args := [d] }
  | _ => none }
def QuotaNilWrongFalsely : Prop := quotaNilRow.holds Tryd.pinned (OpenSpec.ofChange quotaNilWrong)

/-- 'abacuslaw18.QuotaConserved': WHATEVER THE INPUT: true; the input reads as it did. -/
def quotaConservedSpec : ChangeSpec := { name := "quotaConserved", fn := fun _ => fun
  | [d1, d2, d3, d4, d5] => { results := [.lit (.bool true)], args := [d1, d2, d3, d4, d5] }
  | _ => none }
def quotaConservedRow : OpenClaim := { program := "ytigacfgoldnoiaadoor", sum := "03c6fb5c6f4e1afdf4cc3e5cd667f06517694e7e97ef7f3a2466a56bd352c457", func := "abacus/abacuslaw18.QuotaConserved", spec := "quotaConserved", inPlace := ["sync/atomic.StoreUint64", "sync/atomic.LoadUint64", "sync/atomic.SwapUint64", "sync/atomic.AddUint64", "sync/atomic.CompareAndSwapUint64"], unfollowed := true, recurses := true, named := ["abacus/cells.uses"], leaving := true, apart := false, laid := [("abacus/cells.uses", laid_abacus_cells_uses)] }
def QuotaConservedSaid : Prop := quotaConservedRow.holds Tryd.pinned (OpenSpec.ofChange quotaConservedSpec)

/-- ITS FALSE NEIGHBOUR: 'it returns false'. Refute it at one input. -/
def quotaConservedWrong : ChangeSpec := { name := "quotaConserved", fn := fun _ => fun
  | [d1, d2, d3, d4, d5] => { results := [.lit (.bool false)], args := [d1, d2, d3, d4, d5] }
  | _ => none }
def QuotaConservedWrongFalsely : Prop := quotaConservedRow.holds Tryd.pinned (OpenSpec.ofChange quotaConservedWrong)

/-- 'abacuslaw18.QuotaEarly': WHATEVER THE INPUT: true; the input reads as it did. -/
def quotaEarlySpec : ChangeSpec := { name := "quotaEarly", fn := fun _ => fun
  | [d1, d2, d3, d4, d5] => { results := [.lit (.bool true)], args := [d1, d2, d3, d4, d5] }
  | _ => none }
def quotaEarlyRow : OpenClaim := { program := "ytigacfgoldnoiaadoor", sum := "03c6fb5c6f4e1afdf4cc3e5cd667f06517694e7e97ef7f3a2466a56bd352c457", func := "abacus/abacuslaw18.QuotaEarly", spec := "quotaEarly", inPlace := ["sync/atomic.StoreUint64", "sync/atomic.LoadUint64", "sync/atomic.SwapUint64", "sync/atomic.AddUint64", "sync/atomic.CompareAndSwapUint64"], unfollowed := true, recurses := true, named := ["abacus/cells.uses"], leaving := true, apart := false, laid := [("abacus/cells.uses", laid_abacus_cells_uses)] }
def QuotaEarlySaid : Prop := quotaEarlyRow.holds Tryd.pinned (OpenSpec.ofChange quotaEarlySpec)

/-- ITS FALSE NEIGHBOUR: 'it returns false'. Refute it at one input. -/
def quotaEarlyWrong : ChangeSpec := { name := "quotaEarly", fn := fun _ => fun
  | [d1, d2, d3, d4, d5] => { results := [.lit (.bool false)], args := [d1, d2, d3, d4, d5] }
  | _ => none }
def QuotaEarlyWrongFalsely : Prop := quotaEarlyRow.holds Tryd.pinned (OpenSpec.ofChange quotaEarlyWrong)

/-- 'abacuslaw18.QuotaSpent': WHATEVER THE INPUT: true; the input reads as it did. -/
def quotaSpentSpec : ChangeSpec := { name := "quotaSpent", fn := fun _ => fun
  | [d1, d2, d3] => { results := [.lit (.bool true)], args := [d1, d2, d3] }
  | _ => none }
def quotaSpentRow : OpenClaim := { program := "ytigacfgoldnoiaadoor", sum := "03c6fb5c6f4e1afdf4cc3e5cd667f06517694e7e97ef7f3a2466a56bd352c457", func := "abacus/abacuslaw18.QuotaSpent", spec := "quotaSpent", inPlace := ["sync/atomic.StoreUint64", "sync/atomic.LoadUint64", "sync/atomic.SwapUint64", "sync/atomic.AddUint64", "sync/atomic.CompareAndSwapUint64"], unfollowed := true, recurses := true, named := ["abacus/cells.uses"], leaving := true, apart := false, laid := [("abacus/cells.uses", laid_abacus_cells_uses)] }
def QuotaSpentSaid : Prop := quotaSpentRow.holds Tryd.pinned (OpenSpec.ofChange quotaSpentSpec)

/-- ITS FALSE NEIGHBOUR: 'it returns false'. Refute it at one input. -/
def quotaSpentWrong : ChangeSpec := { name := "quotaSpent", fn := fun _ => fun
  | [d1, d2, d3] => { results := [.lit (.bool false)], args := [d1, d2, d3] }
  | _ => none }
def QuotaSpentWrongFalsely : Prop := quotaSpentRow.holds Tryd.pinned (OpenSpec.ofChange quotaSpentWrong)

/-- 'abacuslaw18.QuotaPlain': WHATEVER THE INPUT: true; the input reads as it did. -/
def quotaPlainSpec : ChangeSpec := { name := "quotaPlain", fn := fun _ => fun
  | [d1, d2, d3, d4, d5] => { results := [.lit (.bool true)], args := [d1, d2, d3, d4, d5] }
  | _ => none }
def quotaPlainRow : OpenClaim := { program := "ytigacfgoldnoiaadoor", sum := "03c6fb5c6f4e1afdf4cc3e5cd667f06517694e7e97ef7f3a2466a56bd352c457", func := "abacus/abacuslaw18.QuotaPlain", spec := "quotaPlain", inPlace := ["sync/atomic.StoreUint64", "sync/atomic.LoadUint64", "sync/atomic.SwapUint64", "sync/atomic.AddUint64", "sync/atomic.CompareAndSwapUint64"], unfollowed := true, recurses := true, named := ["abacus/cells.uses"], leaving := true, apart := false, laid := [("abacus/cells.uses", laid_abacus_cells_uses)] }
def QuotaPlainSaid : Prop := quotaPlainRow.holds Tryd.pinned (OpenSpec.ofChange quotaPlainSpec)

/-- ITS FALSE NEIGHBOUR: 'it returns false'. Refute it at one input. -/
def quotaPlainWrong : ChangeSpec := { name := "quotaPlain", fn := fun _ => fun
  | [d1, d2, d3, d4, d5] => { results := [.lit (.bool false)], args := [d1, d2, d3, d4, d5] }
  | _ => none }
def QuotaPlainWrongFalsely : Prop := quotaPlainRow.holds Tryd.pinned (OpenSpec.ofChange quotaPlainWrong)

/-- 'abacuslaw18.QuotaFree': WHATEVER THE INPUT: true; the input reads as it did. -/
def quotaFreeSpec : ChangeSpec := { name := "quotaFree", fn := fun _ => fun
  | [d1, d2, d3, d4] => { results := [.lit (.bool true)], args := [d1, d2, d3, d4] }
  | _ => none }
def quotaFreeRow : OpenClaim := { program := "ytigacfgoldnoiaadoor", sum := "03c6fb5c6f4e1afdf4cc3e5cd667f06517694e7e97ef7f3a2466a56bd352c457", func := "abacus/abacuslaw18.QuotaFree", spec := "quotaFree", inPlace := ["sync/atomic.StoreUint64", "sync/atomic.LoadUint64", "sync/atomic.SwapUint64", "sync/atomic.AddUint64", "sync/atomic.CompareAndSwapUint64"], unfollowed := true, recurses := true, named := ["abacus/cells.uses"], leaving := true, apart := false, laid := [("abacus/cells.uses", laid_abacus_cells_uses)] }
def QuotaFreeSaid : Prop := quotaFreeRow.holds Tryd.pinned (OpenSpec.ofChange quotaFreeSpec)

/-- ITS FALSE NEIGHBOUR: 'it returns false'. Refute it at one input. -/
def quotaFreeWrong : ChangeSpec := { name := "quotaFree", fn := fun _ => fun
  | [d1, d2, d3, d4] => { results := [.lit (.bool false)], args := [d1, d2, d3, d4] }
  | _ => none }
def QuotaFreeWrongFalsely : Prop := quotaFreeRow.holds Tryd.pinned (OpenSpec.ofChange quotaFreeWrong)

/- THE SECOND FORM. 'bulk': how many values and letters a reading holds, each counted each time it is reached (what is shared counts as often as it is met; a slice's spare places count too). A statement '..UptoSaid' is the law's where the arguments, and the package variables that the reading takes, are together of bulk at most 1048576: NARROWER than '..Said'. Prove '..Said' where nothing that the law and all that it calls make is longer than what came in: it says more and counts as full. Else prove '..UptoSaid'. A law counts once. -/
mutual
def uptoBulk {H : Type} : DataW H → Nat
  | .lit (.string bytes) => bytes.length + 1
  | .lit _ => 1
  | .nil => 1
  | .ptr d => uptoBulk d + 1
  | .slice elems spare => uptoBulkAll elems + uptoBulkAll spare + 1
  | .agg parts => uptoBulkAll parts + 1
  | .iface _ d => uptoBulk d + 1
  | .map entries => uptoBulkEntries entries + 1
  | .held _ => 1
def uptoBulkAll {H : Type} : List (DataW H) → Nat
  | [] => 0
  | d :: r => uptoBulk d + uptoBulkAll r
def uptoBulkEntries {H : Type} : List (Lit × DataW H) → Nat
  | [] => 0
  | x :: r => uptoBulkEntry x + uptoBulkEntries r
def uptoBulkEntry {H : Type} : Lit × DataW H → Nat
  | (.string bytes, d) => bytes.length + uptoBulk d + 1
  | (_, d) => uptoBulk d + 1
 end
def uptoSmall : (H : Type) → List (DataW H) → Bool := fun _ ds => decide (uptoBulkAll ds ≤ 1048576)
def OpenSpec.upto (s : _root_.Go.ChangeSpec) : _root_.Go.OpenSpec := { _root_.Go.OpenSpec.ofChange s with cond := some uptoSmall }

/-- 'abacuslaw18.QuotaSteps', WHERE WHAT IT READS IS OF BULK AT MOST 1048576: true; the input reads as it did. -/
def quotaStepsUptoRow : OpenClaim := { program := "ytigacfgoldnoiaadoor", sum := "03c6fb5c6f4e1afdf4cc3e5cd667f06517694e7e97ef7f3a2466a56bd352c457", func := "abacus/abacuslaw18.QuotaSteps", spec := "quotaSteps", inPlace := ["sync/atomic.StoreUint64", "sync/atomic.LoadUint64", "sync/atomic.SwapUint64", "sync/atomic.AddUint64", "sync/atomic.CompareAndSwapUint64"], unfollowed := true, recurses := true, named := ["abacus/cells.uses"], leaving := true, apart := false, laid := [("abacus/cells.uses", laid_abacus_cells_uses)], narrowed := true }
def QuotaStepsUptoSaid : Prop := quotaStepsUptoRow.holds Tryd.pinned (OpenSpec.upto quotaStepsSpec)

/-- 'abacuslaw18.QuotaCalls', WHERE WHAT IT READS IS OF BULK AT MOST 1048576: true; the input reads as it did. -/
def quotaCallsUptoRow : OpenClaim := { program := "ytigacfgoldnoiaadoor", sum := "03c6fb5c6f4e1afdf4cc3e5cd667f06517694e7e97ef7f3a2466a56bd352c457", func := "abacus/abacuslaw18.QuotaCalls", spec := "quotaCalls", inPlace := ["sync/atomic.StoreUint64", "sync/atomic.LoadUint64", "sync/atomic.SwapUint64", "sync/atomic.AddUint64", "sync/atomic.CompareAndSwapUint64"], unfollowed := true, recurses := true, named := ["abacus/cells.uses"], leaving := true, apart := false, laid := [("abacus/cells.uses", laid_abacus_cells_uses)], narrowed := true }
def QuotaCallsUptoSaid : Prop := quotaCallsUptoRow.holds Tryd.pinned (OpenSpec.upto quotaCallsSpec)

/-- 'abacuslaw18.QuotaNil', WHERE WHAT IT READS IS OF BULK AT MOST 1048576: true; the input reads as it did. -/
def quotaNilUptoRow : OpenClaim := { program := "ytigacfgoldnoiaadoor", sum := "03c6fb5c6f4e1afdf4cc3e5cd667f06517694e7e97ef7f3a2466a56bd352c457", func := "abacus/abacuslaw18.QuotaNil", spec := "quotaNil", inPlace := ["sync/atomic.LoadUint64", "sync/atomic.SwapUint64", "sync/atomic.AddUint64", "sync/atomic.CompareAndSwapUint64", "sync/atomic.StoreUint64"], unfollowed := true, recurses := true, named := ["abacus/cells.uses"], leaving := true, apart := false, laid := [("abacus/cells.uses", laid_abacus_cells_uses)], narrowed := true }
def QuotaNilUptoSaid : Prop := quotaNilUptoRow.holds Tryd.pinned (OpenSpec.upto quotaNilSpec)

/-- 'abacuslaw18.QuotaConserved', WHERE WHAT IT READS IS OF BULK AT MOST 1048576: true; the input reads as it did. -/
def quotaConservedUptoRow : OpenClaim := { program := "ytigacfgoldnoiaadoor", sum := "03c6fb5c6f4e1afdf4cc3e5cd667f06517694e7e97ef7f3a2466a56bd352c457", func := "abacus/abacuslaw18.QuotaConserved", spec := "quotaConserved", inPlace := ["sync/atomic.StoreUint64", "sync/atomic.LoadUint64", "sync/atomic.SwapUint64", "sync/atomic.AddUint64", "sync/atomic.CompareAndSwapUint64"], unfollowed := true, recurses := true, named := ["abacus/cells.uses"], leaving := true, apart := false, laid := [("abacus/cells.uses", laid_abacus_cells_uses)], narrowed := true }
def QuotaConservedUptoSaid : Prop := quotaConservedUptoRow.holds Tryd.pinned (OpenSpec.upto quotaConservedSpec)

/-- 'abacuslaw18.QuotaEarly', WHERE WHAT IT READS IS OF BULK AT MOST 1048576: true; the input reads as it did. -/
def quotaEarlyUptoRow : OpenClaim := { program := "ytigacfgoldnoiaadoor", sum := "03c6fb5c6f4e1afdf4cc3e5cd667f06517694e7e97ef7f3a2466a56bd352c457", func := "abacus/abacuslaw18.QuotaEarly", spec := "quotaEarly", inPlace := ["sync/atomic.StoreUint64", "sync/atomic.LoadUint64", "sync/atomic.SwapUint64", "sync/atomic.AddUint64", "sync/atomic.CompareAndSwapUint64"], unfollowed := true, recurses := true, named := ["abacus/cells.uses"], leaving := true, apart := false, laid := [("abacus/cells.uses", laid_abacus_cells_uses)], narrowed := true }
def QuotaEarlyUptoSaid : Prop := quotaEarlyUptoRow.holds Tryd.pinned (OpenSpec.upto quotaEarlySpec)

/-- 'abacuslaw18.QuotaSpent', WHERE WHAT IT READS IS OF BULK AT MOST 1048576: true; the input reads as it did. -/
def quotaSpentUptoRow : OpenClaim := { program := "ytigacfgoldnoiaadoor", sum := "03c6fb5c6f4e1afdf4cc3e5cd667f06517694e7e97ef7f3a2466a56bd352c457", func := "abacus/abacuslaw18.QuotaSpent", spec := "quotaSpent", inPlace := ["sync/atomic.StoreUint64", "sync/atomic.LoadUint64", "sync/atomic.SwapUint64", "sync/atomic.AddUint64", "sync/atomic.CompareAndSwapUint64"], unfollowed := true, recurses := true, named := ["abacus/cells.uses"], leaving := true, apart := false, laid := [("abacus/cells.uses", laid_abacus_cells_uses)], narrowed := true }
def QuotaSpentUptoSaid : Prop := quotaSpentUptoRow.holds Tryd.pinned (OpenSpec.upto quotaSpentSpec)

/-- 'abacuslaw18.QuotaPlain', WHERE WHAT IT READS IS OF BULK AT MOST 1048576: true; the input reads as it did. -/
def quotaPlainUptoRow : OpenClaim := { program := "ytigacfgoldnoiaadoor", sum := "03c6fb5c6f4e1afdf4cc3e5cd667f06517694e7e97ef7f3a2466a56bd352c457", func := "abacus/abacuslaw18.QuotaPlain", spec := "quotaPlain", inPlace := ["sync/atomic.StoreUint64", "sync/atomic.LoadUint64", "sync/atomic.SwapUint64", "sync/atomic.AddUint64", "sync/atomic.CompareAndSwapUint64"], unfollowed := true, recurses := true, named := ["abacus/cells.uses"], leaving := true, apart := false, laid := [("abacus/cells.uses", laid_abacus_cells_uses)], narrowed := true }
def QuotaPlainUptoSaid : Prop := quotaPlainUptoRow.holds Tryd.pinned (OpenSpec.upto quotaPlainSpec)

/-- 'abacuslaw18.QuotaFree', WHERE WHAT IT READS IS OF BULK AT MOST 1048576: true; the input reads as it did. -/
def quotaFreeUptoRow : OpenClaim := { program := "ytigacfgoldnoiaadoor", sum := "03c6fb5c6f4e1afdf4cc3e5cd667f06517694e7e97ef7f3a2466a56bd352c457", func := "abacus/abacuslaw18.QuotaFree", spec := "quotaFree", inPlace := ["sync/atomic.StoreUint64", "sync/atomic.LoadUint64", "sync/atomic.SwapUint64", "sync/atomic.AddUint64", "sync/atomic.CompareAndSwapUint64"], unfollowed := true, recurses := true, named := ["abacus/cells.uses"], leaving := true, apart := false, laid := [("abacus/cells.uses", laid_abacus_cells_uses)], narrowed := true }
def QuotaFreeUptoSaid : Prop := quotaFreeUptoRow.holds Tryd.pinned (OpenSpec.upto quotaFreeSpec)

end Rows
end Go.Proofs.YtigacfgoldnoiaaDoor
