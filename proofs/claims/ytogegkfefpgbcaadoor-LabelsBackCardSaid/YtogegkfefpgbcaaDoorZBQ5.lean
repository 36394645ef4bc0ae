/- Functions of the labels (packed). -/
import Derived.Test.YtogegkfefpgbcaaDoorZBPLx0
import Derived.Test.YtogegkfefpgbcaaDoorZBPLx1
import Derived.Test.YtogegkfefpgbcaaDoorZBPLx2
import Derived.Test.YtogegkfefpgbcaaDoorZBQ1
import Derived.Test.YtogegkfefpgbcaaDoorZBQ2
import Derived.Test.YtogegkfefpgbcaaDoorZBQ3
import Derived.Test.YtogegkfefpgbcaaDoorZBHB
import Derived.Test.YtogegkfefpgbcaaDoorZBHG0
import Derived.Test.YtogegkfefpgbcaaDoorZBPD
import Derived.Test.YtogegkfefpgbcaaDoorZBShelf
import Derived.Test.YtogegkfefpgbcaaDoorZBHA
import Derived.Test.YtogegkfefpgbcaaDoorZBHD
import Derived.Test.YtogegkfefpgbcaaDoorZBHI
import Derived.Test.YtogegkfefpgbcaaDoorZBLC
import Derived.Test.YtogegkfefpgbcaaDoorZBLB
import Derived.Test.YtogegkfefpgbcaaDoorZBLD
import Derived.Test.YtogegkfefpgbcaaDoorZBQ4
namespace Go.Proofs.YtogegkfefpgbcaaDoor.PL
open Go.RowKit Go.Proofs.YtogegkfefpgbcaaDoorW.PrintWords Go.Proofs.YtogegkfefpgbcaaDoorW.PrintLast Go.Proofs.YtogegkfefpgbcaaDoorW.PrintMore
attribute [local go_sem] max2_int min2_int max_two min_two max_three min_three max_four min_four   -- for this text's walks alone
set_option linter.unusedVariables false
set_option linter.unusedSimpArgs false
attribute [local go_sem high] eqA59
attribute [local go_sem high] eqA36

/-! ### cmp_Compare_string: function 76 -/
def cmp_Compare_string.f (a0 : ByteArray) (a1 : ByteArray) : Option (Int) := (cmp_isNaN_string.f a0).bind fun t773 => ((cmp_isNaN_string.f a1).bind fun t774 => (if t773 = true then (if t774 = true then (some 0) else (some (-1))) else (if t774 = true then (some 1) else (if (Op.bytesLess a0.toList a1.toList) = true then (some (-1)) else (if (Op.bytesLess a1.toList a0.toList) = true then (some 1) else (some 0))))))
/-! ### labels_Compare_1: function 74 -/
def labels_Compare_1.f (k : Nat) (a0_0 : ByteArray) (a0_1 : ByteArray) (a1_0 : ByteArray) (a1_1 : ByteArray) : Option (Int) := (cmp_Compare_string.f a0_0 a1_0).bind fun t777 => ((cmp_Compare_string.f a0_1 a1_1).bind fun t778 => ((cmp_Or_int.f k (([t777, t778] : List Int))).bind fun t782 => (some t782)))
/-! ### api_Label_73: function 73 -/
def api_Label_73.l0 : Nat → List (S59) → List (S59) → List (S59) → Int → Int → Option (Int)
  | 0, _, _, _, _, _ => none
  | k + 1, x0, x1, x11, x12, x13 => if x13 < x12 then (if 0 ≤ x13 then (if x13 < (x11.length : Int) then (if x13 ≥ (x1.length : Int) then (some 1) else (if x13 < (x1.length : Int) then ((labels_Compare_1.f k ((rd_T59 x11 x13).f0) ((rd_T59 x11 x13).f1) ((rd_T59 x1 x13).f0) ((rd_T59 x1 x13).f1)).bind fun t787 => (if t787 = 0 then (api_Label_73.l0 k x0 x1 x11 x12 (wrap64 (x13 + 1))) else (some t787))) else (none))) else (none)) else (none)) else (if (x0.length : Int) < (x1.length : Int) then (some (-1)) else (some 0))
def api_Label_73.f (k : Nat) (l0 : List (S59)) (l1 : List (S59))  : Option (Int) := api_Label_73.l0 k l0 l1 l0 (l0.length : Int) 0
/-! ### labels_Compare: function 36 -/
def labels_Compare.f (k : Nat) (l0 : List (S59)) (l1 : List (S59)) : Option (Int) := (api_Label_73.f k l0 l1).bind fun t788 => (some t788)
/-! ### labels_Merge: function 37 -/
mutual
def labels_Merge.j0 : Nat → List (S59) → List (S59) → Bool → Option ((List (S59)) × Int)
  | 0, _, _, _ => none
  | k + 1, x0, x1, x18 => if x18 = true then (some (([] : List (S59)), 120)) else ((api_Label_77.f x1).bind fun t797 => (labels_Merge.l0 k x1 t797 x0 (x0.length : Int) 0))
def labels_Merge.l0 : Nat → List (S59) → List (S59) → List (S59) → Int → Int → Option ((List (S59)) × Int)
  | 0, _, _, _, _, _ => none
  | k + 1, x1, x6, x21, x22, x23 => if x23 < x22 then (if 0 ≤ x23 then (if x23 < (x21.length : Int) then ((labels_Get.f k x1 ((rd_T59 x21 x23).f0)).bind fun bt802 => (if bt802.2 = true then (labels_Merge.l0 k x1 x6 x21 x22 (wrap64 (x23 + 1))) else (if x6.length < 4398046511104 then (labels_Merge.l0 k x1 (x6 ++ [(⟨(rd_T59 x21 x23).f0, (rd_T59 x21 x23).f1⟩ : S59)]) x21 x22 (wrap64 (x23 + 1))) else (none)))) else (none)) else (none)) else (if (x6.length : Int) > 32 then (some (([] : List (S59)), 3)) else ((api_Label_string_50.f x6).bind fun t807 => (some (t807, 0))))
end
def labels_Merge.f (k : Nat) (l0 : List (S59)) (l1 : List (S59)) : Option ((List (S59)) × Int) := (labels_Right.f k l0).bind fun t795 => (if t795 = true then ((labels_Right.f k l1).bind fun t796 => (labels_Merge.j0 k l0 l1 (!t796))) else (labels_Merge.j0 k l0 l1 true))
end Go.Proofs.YtogegkfefpgbcaaDoor.PL
