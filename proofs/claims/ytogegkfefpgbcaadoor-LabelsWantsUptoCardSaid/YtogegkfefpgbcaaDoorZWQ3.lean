/- Functions of the labels (packed). -/
import Derived.Test.YtogegkfefpgbcaaDoorZWPLx0
import Derived.Test.YtogegkfefpgbcaaDoorZWPLx1
import Derived.Test.YtogegkfefpgbcaaDoorZWPLx2
import Derived.Test.YtogegkfefpgbcaaDoorZWQ1
import Derived.Test.YtogegkfefpgbcaaDoorZWQ2
namespace Go.Proofs.YtogegkfefpgbcaaDoor.PL
open Go.RowKit Go.Proofs.YtogegkfefpgbcaaDoorW.PrintWords Go.Proofs.YtogegkfefpgbcaaDoorW.PrintLast Go.Proofs.YtogegkfefpgbcaaDoorW.PrintMore
attribute [local go_sem] max2_int min2_int max_two min_two max_three min_three max_four min_four   -- for this text's walks alone
set_option linter.unusedVariables false
set_option linter.unusedSimpArgs false
attribute [local go_sem high] eqA59
attribute [local go_sem high] eqA36

/-! ### labels_chosen: function 78 -/
def labels_chosen.l0 : Nat → List ByteArray → Bool → List (S59) → List (S59) → Int → Int → Option ((List (S59)))
  | 0, _, _, _, _, _, _ => none
  | k + 1, x1, x2, x7, x10, x11, x12 => if x12 < x11 then (if 0 ≤ x12 then (if x12 < (x10.length : Int) then ((slices_Contains_string_string.f k x1 ((rd_T59 x10 x12).f0)).bind fun t814 => (if (t814 == x2) = true then (if x7.length < 4398046511104 then (labels_chosen.l0 k x1 x2 (x7 ++ [(⟨(rd_T59 x10 x12).f0, (rd_T59 x10 x12).f1⟩ : S59)]) x10 x11 (wrap64 (x12 + 1))) else (none)) else (labels_chosen.l0 k x1 x2 x7 x10 x11 (wrap64 (x12 + 1))))) else (none)) else (none)) else (some x7)
def labels_chosen.f (k : Nat) (l0 : List (S59)) (l1 : List ByteArray) (a2 : Bool) : Option ((List (S59))) := labels_chosen.l0 k l1 a2 ([] : List (S59)) l0 (l0.length : Int) 0
/-! ### labels_Keep: function 38 -/
def labels_Keep.f (k : Nat) (l0 : List (S59)) (l1 : List ByteArray) : Option ((List (S59))) := (labels_chosen.f k l0 l1 true).bind fun t818 => (some t818)
/-! ### labels_Without: function 39 -/
def labels_Without.f (k : Nat) (l0 : List (S59)) (l1 : List ByteArray) : Option ((List (S59))) := (labels_chosen.f k l0 l1 false).bind fun t821 => (some t821)
end Go.Proofs.YtogegkfefpgbcaaDoor.PL
