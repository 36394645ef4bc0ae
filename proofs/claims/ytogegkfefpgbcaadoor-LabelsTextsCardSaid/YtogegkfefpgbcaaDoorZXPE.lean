/- begins answers true; Compare and the document's Same, as the plain order. -/
import Derived.Test.YtogegkfefpgbcaaDoorZXPLx0
import Derived.Test.YtogegkfefpgbcaaDoorZXQ1
import Derived.Test.YtogegkfefpgbcaaDoorZXQ2
import Derived.Test.YtogegkfefpgbcaaDoorZXQ3
import Derived.Test.YtogegkfefpgbcaaDoorZXQ4
import Derived.Test.YtogegkfefpgbcaaDoorZXQ5
import Derived.Test.YtogegkfefpgbcaaDoorZXQ6
import Derived.Test.YtogegkfefpgbcaaDoorZXQ7
import Derived.Test.YtogegkfefpgbcaaDoorZXPD
namespace Go.Proofs.YtogegkfefpgbcaaDoor.PL
open Go.RowKit Go.Proofs.YtogegkfefpgbcaaDoorW.PrintWords Go.Proofs.YtogegkfefpgbcaaDoorW.PrintLast Go.Proofs.YtogegkfefpgbcaaDoorW.PrintMore
set_option linter.unusedVariables false
set_option linter.unusedSimpArgs false
theorem begins_true (k : Nat) (hk : 100 ≤ k) : abacuslaw12_begins.f k = some true := by
  obtain ⟨n, rfl⟩ : ∃ n, k = 100 + n := ⟨k - 100, by omega⟩
  induction n with
  | zero => kernel_rfl
  | succ n ih => exact abacuslaw12_begins.mono (100 + n) true (ih (by omega))
theorem wrap64_in {i : Int} (h : -9223372036854775808 ≤ i ∧ i ≤ 9223372036854775807) : wrap64 i = i := wrap_in h
theorem rd59_drop {l : List S59} {j : Nat} (h : j < l.length) : l.drop j = rd_T59 l j :: l.drop (j + 1) := by
  rw [List.drop_eq_getElem_cons h]; congr 1
  simp [rd_T59, List.getD, h]
theorem refcmp_l (l0 l1 : List S59) (h0 : l0.length ≤ 9223372036854775807) (he : l0.length = l1.length) : ∀ (n j k : Nat), j + n = l0.length → 2 * n + 4 ≤ k → ∃ c, abacusref12_Compare.l0 k l0 l1 (j : Int) = some c ∧ (c = 0 ↔ lexL cmpS (l0.drop j) (l1.drop j) = 0) := by
  intro n
  induction n with
  | zero =>
    intro j k hj hk; obtain ⟨k, rfl⟩ : ∃ n, k = n + 2 := ⟨k - 2, by omega⟩; simp only [abacusref12_Compare.l0, abacusref12_Compare.j1]; rw [if_neg (by omega), if_neg (by simp), if_neg (by omega), if_neg (by omega), List.drop_eq_nil_of_le (by omega), List.drop_eq_nil_of_le (by omega)]; exact ⟨0, rfl, by simp [lexL]⟩
  | succ n ih =>
    intro j k hj hk; obtain ⟨k, rfl⟩ : ∃ n, k = n + 2 := ⟨k - 2, by omega⟩; simp only [abacusref12_Compare.l0, abacusref12_Compare.j1]; rw [if_pos (by omega), if_pos (decide_eq_true (by omega)), if_pos (by omega), if_pos (by omega), if_pos (by omega), rd59_drop (l := l0) (j := j) (by omega), rd59_drop (l := l1) (j := j) (by omega)]; have hz := cmpS_zero (rd_T59 l0 j) (rd_T59 l1 j); simp only [lexL]; by_cases hc : cmpS (rd_T59 l0 j) (rd_T59 l1 j) = 0
    · have := hz.1 hc
      rw [if_pos (by simp [this.1, this.2]), if_pos hc, wrap64_in (by omega)]; exact ih (j + 1) k (by omega) (by omega)
    · rw [if_neg hc, if_neg (fun e => hc (hz.2 (by simpa using e)))]
      have hn : ∀ c : Int, (c = -1 ∨ c = 1) → (c = 0 ↔ cmpS (rd_T59 l0 j) (rd_T59 l1 j) = 0) := fun c h => ⟨fun e => by omega, fun e => absurd e hc⟩
      repeat' split
      · exact ⟨_, rfl, hn _ (.inl rfl)⟩
      · exact ⟨_, rfl, hn _ (.inl rfl)⟩
      · exact ⟨_, rfl, hn _ (.inr rfl)⟩
      · exact ⟨_, rfl, hn _ (.inr rfl)⟩
theorem lexL_len (l0 l1 : List S59) (h : lexL cmpS l0 l1 = 0) : l0.length = l1.length := by
  induction l0 generalizing l1 with
  | nil => cases l1 with
    | nil => rfl
    | cons y ys => simp [lexL] at h
  | cons x xs ih => cases l1 with
    | nil => simp [lexL] at h
    | cons y ys =>
      simp only [lexL] at h; split at h
      · simp [ih ys h]
      · rename_i hc
        exact absurd h hc
theorem same_f (l0 l1 : List S59) (h0 : l0.length ≤ 9223372036854775807) (k : Nat) (hk : 2 * l0.length + 4 ≤ k) : abacusref12_Same.f k l0 l1 = some (decide (lexL cmpS l0 l1 = 0)) := by
  unfold abacusref12_Same.f abacusref12_Compare.f; by_cases he : l0.length = l1.length
  · rw [if_pos (by omega)]
    obtain ⟨c, h1, h2⟩ := refcmp_l l0 l1 h0 he l0.length 0 k (by omega) hk; rw [show ((0 : Nat) : Int) = 0 from rfl] at h1; rw [h1]; simp only [List.drop_zero] at h2; simp only [Option.bind_some, Option.some.injEq]; by_cases hc : c = 0
    · rw [hc, decide_eq_true (h2.1 hc)]
      rfl
    · rw [decide_eq_false (fun e => hc (h2.2 e))]
      simpa using hc
  · rw [if_neg (by omega), decide_eq_false (fun e => he (lexL_len l0 l1 e))]
end Go.Proofs.YtogegkfefpgbcaaDoor.PL
