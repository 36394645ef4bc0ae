/- Says, Matches: that they answer, and what of: a pattern without signs, the pattern *; LabelsWants answers true. -/
import Derived.Test.YtogegkfefpgbcaaDoorZXPLx0
import Derived.Test.YtogegkfefpgbcaaDoorZXQ1
import Derived.Test.YtogegkfefpgbcaaDoorZXQ2
import Derived.Test.YtogegkfefpgbcaaDoorZXQ3
import Derived.Test.YtogegkfefpgbcaaDoorZXQ4
import Derived.Test.YtogegkfefpgbcaaDoorZXQ5
import Derived.Test.YtogegkfefpgbcaaDoorZXQ6
import Derived.Test.YtogegkfefpgbcaaDoorZXQ7
import Derived.Test.YtogegkfefpgbcaaDoorZXPH
import Derived.Lib.MapLaws
namespace Go.Proofs.YtogegkfefpgbcaaDoor.PL
open Go Go.RowKit Go.Proofs.YtogegkfefpgbcaaDoorW.PrintWords Go.Proofs.YtogegkfefpgbcaaDoorW.PrintLast Go.Proofs.YtogegkfefpgbcaaDoorW.PrintMore
set_option linter.unusedVariables false
set_option linter.unusedSimpArgs false
theorem decode_list (s : ByteArray) (i : Nat) : Lib.decodeL (s.data.toList.drop i) = Utf8.decode s i := by
  have e : ∀ j, ((s.data.toList.drop i).getD j 0) = s.get! (i + j) := fun j => by
    cases s with
    | mk a =>
      simp only [List.getD, List.getElem?_drop, Array.getElem?_toList, ByteArray.get!]; by_cases h : i + j < a.size
      · rw [Array.getElem?_eq_getElem h, getElem!_pos a (i + j) h]
        rfl
      · rw [Array.getElem?_eq_none (by omega), getElem!_neg a (i + j) (by omega)]
        rfl
  rw [Lib.decodeL_N, Lib.decode_at, e, e, e, e]; simp
theorem tornAt_iff (s : ByteArray) (i : Nat) : tornAt s i = true ↔ ((Utf8.decode s i).1 = 65533 ∧ (Utf8.decode s i).2 = 1) := by simp [tornAt]
theorem dec_ge (s : ByteArray) (i : Nat) : 1 ≤ (Utf8.decode s i).2 := by rw [Lib.decode_at]; exact width_ge _ _ _ _ _
theorem dec_le (s : ByteArray) (i : Nat) (h : i < s.size) : (Utf8.decode s i).2 ≤ s.size - i := by rw [Lib.decode_at]; exact width_le_n _ _ _ _ _ (by omega)
theorem rd36_drop {l : List S36} {j : Nat} (h : j < l.length) : l.drop j = rd_T36 l (j : Int) :: l.drop (j + 1) := by
  rw [List.drop_eq_getElem_cons h]; congr 1
  simp [rd_T36, List.getD, h]
end Go.Proofs.YtogegkfefpgbcaaDoor.PL
