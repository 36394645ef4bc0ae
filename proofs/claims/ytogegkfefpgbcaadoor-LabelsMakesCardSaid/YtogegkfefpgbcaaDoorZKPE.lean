/- begins answers true; Compare and the document's Same, as the plain order. -/
import Derived.Test.YtogegkfefpgbcaaDoorZKPLx0
import Derived.Test.YtogegkfefpgbcaaDoorZKQ1
import Derived.Test.YtogegkfefpgbcaaDoorZKQ2
import Derived.Test.YtogegkfefpgbcaaDoorZKQ3
import Derived.Test.YtogegkfefpgbcaaDoorZKQ4
import Derived.Test.YtogegkfefpgbcaaDoorZKQ5
import Derived.Test.YtogegkfefpgbcaaDoorZKQ6
import Derived.Test.YtogegkfefpgbcaaDoorZKPD
namespace Go.Proofs.YtogegkfefpgbcaaDoor.PL
open Go.RowKit Go.Proofs.YtogegkfefpgbcaaDoorW.PrintWords Go.Proofs.YtogegkfefpgbcaaDoorW.PrintLast Go.Proofs.YtogegkfefpgbcaaDoorW.PrintMore
set_option linter.unusedVariables false
set_option linter.unusedSimpArgs false
theorem begins_true (k : Nat) (hk : 100 ≤ k) : abacuslaw12_begins.f k = some true := by
  obtain ⟨n, rfl⟩ : ∃ n, k = 100 + n := ⟨k - 100, by omega⟩
  induction n with
  | zero => kernel_rfl
  | succ n ih => exact abacuslaw12_begins.mono (100 + n) true (ih (by omega))
theorem wrap64_in {i : Int} (h : -9223372036854775808 ≤ i ∧ i ≤ 9223372036854775807) : wrap64 i = i := wrap_in h
theorem cmpString_f (a b : ByteArray) : cmp_Compare_string.f a b = some (cmpB a.toList b.toList) := by
  unfold cmp_Compare_string.f cmp_isNaN_string.f cmpB
  simp only [Option.bind_some, bne_self_eq_false, Bool.false_eq_true, if_false]
  repeat' split
  all_goals rfl
theorem or2_f (k : Nat) (a b : Int) (hk : 4 ≤ k) : cmp_Or_int.f k [a, b] = some (if a ≠ 0 then a else b) := by
  obtain ⟨k, rfl⟩ : ∃ n, k = n + 4 := ⟨k - 4, by omega⟩
  unfold cmp_Or_int.f
  simp only [cmp_Or_int.l0, List.length_cons, List.length_nil]
  by_cases h1 : a = 0
  · by_cases h2 : b = 0
    · simp [h1, h2, rd, wrap64]
    · simp [h1, h2, rd, wrap64]
  · simp [h1, rd, wrap64]
theorem compare1_f (k : Nat) (x y : S59) (hk : 4 ≤ k) : labels_Compare_1.f k x.f0 x.f1 y.f0 y.f1 = some (cmpS x y) := by
  unfold labels_Compare_1.f
  rw [cmpString_f, cmpString_f]
  simp only [Option.bind_some, or2_f k _ _ hk]
  rfl
theorem rd59_drop {l : List S59} {j : Nat} (h : j < l.length) : l.drop j = rd_T59 l j :: l.drop (j + 1) := by
  rw [List.drop_eq_getElem_cons h]
  congr 1
  simp [rd_T59, List.getD, h]
theorem compare_l (l0 l1 : List S59) (h0 : l0.length ≤ 9223372036854775807) : ∀ (n j k : Nat), j + n = l0.length → j ≤ l1.length → n + 6 ≤ k → api_Label_73.l0 k l0 l1 l0 (l0.length : Int) (j : Int) = some (lexL cmpS (l0.drop j) (l1.drop j)) := by
  intro n
  induction n with
  | zero =>
    intro j k hj hj1 hk
    obtain ⟨k, rfl⟩ : ∃ n, k = n + 1 := ⟨k - 1, by omega⟩
    simp only [api_Label_73.l0]
    rw [if_neg (by omega), List.drop_eq_nil_of_le (by omega)]
    by_cases h : (l0.length : Int) < l1.length
    · rw [if_pos h, rd59_drop (l := l1) (j := j) (by omega)]
      rfl
    · rw [if_neg h, List.drop_eq_nil_of_le (by omega)]
      rfl
  | succ n ih =>
    intro j k hj hj1 hk
    obtain ⟨k, rfl⟩ : ∃ n, k = n + 1 := ⟨k - 1, by omega⟩
    simp only [api_Label_73.l0]
    rw [if_pos (by omega), if_pos (by omega), if_pos (by omega), rd59_drop (l := l0) (j := j) (by omega)]
    by_cases h : (j : Int) ≥ l1.length
    · rw [if_pos h, show l1.drop j = [] from List.drop_eq_nil_of_le (by omega)]
      rfl
    · rw [if_neg h, if_pos (by omega), rd59_drop (l := l1) (j := j) (by omega), compare1_f k _ _ (by omega)]
      simp only [Option.bind_some, lexL]
      rw [wrap64_in (by omega)]
      by_cases hz : cmpS (rd_T59 l0 j) (rd_T59 l1 j) = 0
      · rw [if_pos hz, if_pos hz]
        exact ih (j + 1) k (by omega) (by omega) (by omega)
      · rw [if_neg hz, if_neg hz]
theorem compare_f (l0 l1 : List S59) (h0 : l0.length ≤ 9223372036854775807) (k : Nat) (hk : l0.length + 6 ≤ k) : labels_Compare.f k l0 l1 = some (lexL cmpS l0 l1) := by
  unfold labels_Compare.f api_Label_73.f
  have := compare_l l0 l1 h0 l0.length 0 k (by omega) (by omega) hk
  rw [show ((0 : Nat) : Int) = 0 from rfl] at this
  rw [this]
  simp
/-- The document's compare over lists of one length: 0 just of the same. -/
theorem refcmp_l (l0 l1 : List S59) (h0 : l0.length ≤ 9223372036854775807) (he : l0.length = l1.length) : ∀ (n j k : Nat), j + n = l0.length → 2 * n + 4 ≤ k → ∃ c, abacusref12_Compare.l0 k l0 l1 (j : Int) = some c ∧ (c = 0 ↔ lexL cmpS (l0.drop j) (l1.drop j) = 0) := by
  intro n
  induction n with
  | zero =>
    intro j k hj hk
    obtain ⟨k, rfl⟩ : ∃ n, k = n + 2 := ⟨k - 2, by omega⟩
    simp only [abacusref12_Compare.l0, abacusref12_Compare.j1]
    rw [if_neg (by omega), if_neg (by simp), if_neg (by omega), if_neg (by omega), List.drop_eq_nil_of_le (by omega), List.drop_eq_nil_of_le (by omega)]
    exact ⟨0, rfl, by simp [lexL]⟩
  | succ n ih =>
    intro j k hj hk
    obtain ⟨k, rfl⟩ : ∃ n, k = n + 2 := ⟨k - 2, by omega⟩
    simp only [abacusref12_Compare.l0, abacusref12_Compare.j1]
    rw [if_pos (by omega), if_pos (decide_eq_true (by omega)), if_pos (by omega), if_pos (by omega), if_pos (by omega), rd59_drop (l := l0) (j := j) (by omega), rd59_drop (l := l1) (j := j) (by omega)]
    have hz := cmpS_zero (rd_T59 l0 j) (rd_T59 l1 j)
    simp only [lexL]
    by_cases hc : cmpS (rd_T59 l0 j) (rd_T59 l1 j) = 0
    · have := hz.1 hc
      rw [if_pos (by simp [this.1, this.2]), if_pos hc, wrap64_in (by omega)]
      exact ih (j + 1) k (by omega) (by omega)
    · rw [if_neg hc, if_neg (fun e => hc (hz.2 (by simpa using e)))]
      have hn : ∀ c : Int, (c = -1 ∨ c = 1) → (c = 0 ↔ cmpS (rd_T59 l0 j) (rd_T59 l1 j) = 0) := fun c h => ⟨fun e => by omega, fun e => absurd e hc⟩
      repeat' split
      · exact ⟨_, rfl, hn _ (.inl rfl)⟩
      · exact ⟨_, rfl, hn _ (.inl rfl)⟩
      · exact ⟨_, rfl, hn _ (.inr rfl)⟩
      · exact ⟨_, rfl, hn _ (.inr rfl)⟩
theorem lexL_len (l0 l1 : List S59) (h : lexL cmpS l0 l1 = 0) : l0.length = l1.length := by
  induction l0 generalizing l1 with
  | nil => cases l1 with
    | nil => rfl
    | cons y ys => simp [lexL] at h
  | cons x xs ih => cases l1 with
    | nil => simp [lexL] at h
    | cons y ys =>
      simp only [lexL] at h
      split at h
      · simp [ih ys h]
      · rename_i hc
        exact absurd h hc
theorem same_f (l0 l1 : List S59) (h0 : l0.length ≤ 9223372036854775807) (k : Nat) (hk : 2 * l0.length + 4 ≤ k) : abacusref12_Same.f k l0 l1 = some (decide (lexL cmpS l0 l1 = 0)) := by
  unfold abacusref12_Same.f abacusref12_Compare.f
  by_cases he : l0.length = l1.length
  · rw [if_pos (by omega)]
    obtain ⟨c, h1, h2⟩ := refcmp_l l0 l1 h0 he l0.length 0 k (by omega) hk
    rw [show ((0 : Nat) : Int) = 0 from rfl] at h1
    rw [h1]
    simp only [List.drop_zero] at h2
    simp only [Option.bind_some, Option.some.injEq]
    by_cases hc : c = 0
    · rw [hc, decide_eq_true (h2.1 hc)]
      rfl
    · rw [decide_eq_false (fun e => hc (h2.2 e))]
      simpa using hc
  · rw [if_neg (by omega), decide_eq_false (fun e => he (lexL_len l0 l1 e))]
end Go.Proofs.YtogegkfefpgbcaaDoor.PL
