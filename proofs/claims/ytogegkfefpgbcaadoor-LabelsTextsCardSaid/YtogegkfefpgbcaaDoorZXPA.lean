/- Names: what labels.Name and labels.fine answer, in plain words. -/
import Derived.Test.YtogegkfefpgbcaaDoorZXPLx0
import Derived.Test.YtogegkfefpgbcaaDoorZXQ1
import Derived.Test.YtogegkfefpgbcaaDoorZXQ2
import Derived.Test.YtogegkfefpgbcaaDoorZXQ3
import Derived.Test.YtogegkfefpgbcaaDoorZXQ4
namespace Go.Proofs.YtogegkfefpgbcaaDoor.PL
open Go.RowKit Go.Proofs.YtogegkfefpgbcaaDoorW.PrintWords Go.Proofs.YtogegkfefpgbcaaDoorW.PrintLast Go.Proofs.YtogegkfefpgbcaaDoorW.PrintMore
set_option linter.unusedVariables false
set_option linter.unusedSimpArgs false

def letterB (c : Int) : Bool := (decide (97 ≤ c) && decide (c ≤ 122)) || (decide (65 ≤ c) && decide (c ≤ 90)) || decide (c = 95)
def digitB (c : Int) : Bool := decide (48 ≤ c) && decide (c ≤ 57)
def namedB (c : Int) : Bool := letterB c || digitB c
theorem letter_f (c : Int) : labels_letter.f c = some (letterB c) := by
  unfold labels_letter.f letterB
  repeat' split
  all_goals (congr 1; rw [Bool.eq_iff_iff]; simp; try omega)
theorem named_f (c : Int) : labels_named.f c = some (namedB c) := by
  unfold labels_named.f namedB digitB; rw [letter_f]; simp only [Option.bind_some]
  cases letterB c
  · simp
    split <;> simp_all <;> omega
  · simp
def namedFrom (s : ByteArray) : Nat → Int → Bool
  | 0, _ => true
  | n + 1, i => namedB (bt s i) && namedFrom s n (i + 1)
def nameB (s : ByteArray) : Bool := decide (1 ≤ s.size) && decide (s.size ≤ 64) && letterB (bt s 0) && namedFrom s s.size 0
theorem wrap_in {i : Int} (h : -9223372036854775808 ≤ i ∧ i ≤ 9223372036854775807) : wrap64 i = i := by unfold wrap64; omega
theorem name_l0 (s : ByteArray) (hs : s.size ≤ 64) : ∀ (n k : Nat) (i : Int), 0 ≤ i → i + n = s.size → n < k → labels_Name.l0 k s (s.size : Int) i = some (namedFrom s n i) := by
  intro n
  induction n with
  | zero =>
    intro k i h0 h1 hk; obtain ⟨k, rfl⟩ : ∃ m, k = m + 1 := ⟨k - 1, by omega⟩; simp only [labels_Name.l0, namedFrom]; rw [if_neg (by omega)]
  | succ n ih =>
    intro k i h0 h1 hk; obtain ⟨k, rfl⟩ : ∃ m, k = m + 1 := ⟨k - 1, by omega⟩; simp only [labels_Name.l0, namedFrom]; rw [if_pos (by omega), if_pos h0, if_pos (by omega), named_f]; simp only [Option.bind_some]
    cases h : namedB (bt s i)
    · simp
    · rw [if_pos rfl, wrap_in (by omega), ih k (i + 1) (by omega) (by omega) (by omega)]
      simp
theorem name_f (s : ByteArray) (k : Nat) (hk : 66 < k) : labels_Name.f k s = some (nameB s) := by
  unfold labels_Name.f nameB; obtain ⟨k, rfl⟩ : ∃ m, k = m + 1 := ⟨k - 1, by omega⟩; by_cases h1 : (s.size : Int) < 1
  · rw [if_pos h1]
    simp only [labels_Name.j0, if_true]; rw [show decide (1 ≤ s.size) = false from decide_eq_false (by omega)]; simp
  · rw [if_neg h1]
    by_cases h2 : (s.size : Int) > 64
    · rw [if_pos h2]
      simp only [labels_Name.j0, if_true]; rw [show decide (s.size ≤ 64) = false from decide_eq_false (by omega)]; simp
    · rw [if_neg h2, if_pos (by omega), letter_f]
      simp only [Option.bind_some, labels_Name.j0]; rw [show decide (1 ≤ s.size) = true from decide_eq_true (by omega), show decide (s.size ≤ 64) = true from decide_eq_true (by omega)]
      cases h : letterB (bt s 0)
      · simp
      · rw [if_neg (by simp), name_l0 s (by omega) s.size k 0 (by omega) (by omega) (by omega)]
        simp
def valueI (s : ByteArray) : Int := if s.size = 0 then 0 else if 256 < s.size ∧ (brokenF s s.size 0 < 0 ∨ 256 < brokenF s s.size 0) then 256 else brokenF s s.size 0
theorem toList_nil (s : ByteArray) : s.toList = ([] : List UInt8) ↔ s.size = 0 := by
  rw [Lib.toList_data, Lib.size_eq]; exact List.length_eq_zero_iff.symm
theorem value_f (s : ByteArray) : labels_Value.f s = some (valueI s) := by
  unfold labels_Value.f labels_broken.f valueI; simp only [Option.bind_some, toList_nil]; split
  · rfl
  · repeat' split
    all_goals first | rfl | (exfalso; omega) | (congr 1; omega)
def fineB (a b : ByteArray) : Bool := nameB a && decide (valueI b < 0)
theorem fine_f (a b : ByteArray) (k : Nat) (hk : 66 < k) : labels_fine.f k a b = some (fineB a b) := by
  unfold labels_fine.f fineB; rw [name_f a k hk]; simp only [Option.bind_some]
  cases nameB a
  · simp
  · rw [if_pos rfl, value_f]
    simp
end Go.Proofs.YtogegkfefpgbcaaDoor.PL
