/- A []Label that came in. -/
import Derived.Test.YtogegkfefpgbcaaDoorZXLC
import Derived.Test.YtogegkfefpgbcaaDoorZXPLx0
import Derived.Deep.SlicePairs
namespace Go.Proofs.YtogegkfefpgbcaaDoor.PL
open Go Go.Deep Go.ChangeShapes Go.WideShapes Go.RowKit Go.Proofs.YtogegkfefpgbcaaDoorW.PrintWords Go.Proofs.YtogegkfefpgbcaaDoorW.PrintLast Go.Proofs.YtogegkfefpgbcaaDoorW.PrintMore
set_option linter.unusedVariables false
set_option linter.unusedSimpArgs false
def strV : Value → ByteArray
  | .string s => s
  | _ => ⟨#[]⟩
theorem cells59 : Tryd.prog.cellsOf 59 = 2 := by kernel_rfl
theorem cells9_ : Tryd.prog.cellsOf 9 = 1 := by kernel_rfl
theorem str_cell {H : Type} {enc : TypeId × Value → H} {W : World} {n : Nat} {V : Value} {D : DataW H} {P : List MemPlace} (h : DataW.trod enc Tryd.prog W 0 (fun _ => true) true n 9 [V] = some (D, P)) : V = .string (strV V) := by
  obtain ⟨s, hs, _⟩ := DataW.trod_string Tryd.underlying9 h; simp only [List.cons.injEq, and_true] at hs; subst hs; rfl
end Go.Proofs.YtogegkfefpgbcaaDoor.PL
