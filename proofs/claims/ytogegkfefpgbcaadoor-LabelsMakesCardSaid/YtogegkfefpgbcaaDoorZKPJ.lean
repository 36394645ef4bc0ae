/- LabelsMakes: the document's Make is the code's; what is printed answers true. -/
import Derived.Test.YtogegkfefpgbcaaDoorZKPLx0
import Derived.Test.YtogegkfefpgbcaaDoorZKQ1
import Derived.Test.YtogegkfefpgbcaaDoorZKQ2
import Derived.Test.YtogegkfefpgbcaaDoorZKQ3
import Derived.Test.YtogegkfefpgbcaaDoorZKQ4
import Derived.Test.YtogegkfefpgbcaaDoorZKQ5
import Derived.Test.YtogegkfefpgbcaaDoorZKQ6
import Derived.Test.YtogegkfefpgbcaaDoorZKPI
namespace Go.Proofs.YtogegkfefpgbcaaDoor.PL
open Go Go.RowKit Go.Proofs.YtogegkfefpgbcaaDoorW.PrintWords Go.Proofs.YtogegkfefpgbcaaDoorW.PrintLast Go.Proofs.YtogegkfefpgbcaaDoorW.PrintMore
set_option linter.unusedVariables false
set_option linter.unusedSimpArgs false
theorem refmake_l0 (l : List S59) (B : Nat) (hB : B ≤ 2305843009213693952) (ht : Texts B l) (h0 : l.length ≤ 9223372036854775807) (K : Nat) (r : Option (List S59 × Int × Int)) (hr : ∀ k, K ≤ k → abacusref12_Make.l1 k l 0 = r) : ∀ (n j k : Nat), j + n = l.length → n + B + 100 + K ≤ k →
    abacusref12_Make.l0 k l (j : Int) = (match firstBad l n (j : Int) with | some i => some ([], 120, i) | none => r) := by
  intro n
  induction n with
  | zero =>
    intro j k hj hk
    obtain ⟨k, rfl⟩ : ∃ n, k = n + 1 := ⟨k - 1, by omega⟩
    simp only [abacusref12_Make.l0, firstBad]
    rw [if_neg (by omega)]
    exact hr k (by omega)
  | succ n ih =>
    intro j k hj hk
    obtain ⟨k, rfl⟩ : ∃ n, k = n + 1 := ⟨k - 1, by omega⟩
    have hb := ht _ (rd59_mem (l := l) (j := j) (by omega))
    simp only [abacusref12_Make.l0, firstBad]
    rw [if_pos (by omega), if_pos (by omega), refname_f _ k (by omega), refvalue_f _ (by omega) k (by omega)]
    have nx := ih (j + 1) k (by omega) (by omega)
    rw [show ((j + 1 : Nat) : Int) = (j : Int) + 1 by omega] at nx
    simp only [Option.bind_some]
    rw [wrap64_in (by omega)]
    generalize rd_T59 l (j : Int) = x at *
    unfold fineB
    cases hn : nameB x.f0
    · simp
    · by_cases hv : valueI x.f1 ≥ 0
      · rw [if_pos rfl, if_pos hv, decide_eq_false (by omega)]
        simp
      · rw [if_pos rfl, if_neg hv, decide_eq_true (by omega), nx]
        simp
theorem refmake_l1 (l : List S59) (h0 : l.length ≤ 9223372036854775807) (K : Nat) (r : Option (List S59 × Int × Int)) (hr : ∀ k, K ≤ k → (if (l.length : Int) > 32 then some (([] : List S59), (3 : Int), (0 : Int)) else abacusref12_Make.l2 k l [] 0) = r) : ∀ (n j k : Nat), j + n = l.length → n + l.length + 10 + K ≤ k →
    abacusref12_Make.l1 k l (j : Int) = (match firstTwice l n (j : Int) with | some i => some ([], 121, i) | none => r) := by
  intro n
  induction n with
  | zero =>
    intro j k hj hk
    obtain ⟨k, rfl⟩ : ∃ n, k = n + 1 := ⟨k - 1, by omega⟩
    simp only [abacusref12_Make.l1, firstTwice]
    rw [if_neg (by omega)]
    exact hr k (by omega)
  | succ n ih =>
    intro j k hj hk
    obtain ⟨k, rfl⟩ : ∃ n, k = n + 1 := ⟨k - 1, by omega⟩
    simp only [abacusref12_Make.l1, firstTwice]
    have hl : (l.take (j : Int).toNat).length = j := by simp; omega
    rw [if_pos (by omega), if_pos (by omega), if_pos (by omega), refget_f _ _ (by omega) k (by omega), wrap64_in (by omega)]
    have nx := ih (j + 1) k (by omega) (by omega)
    rw [show ((j + 1 : Nat) : Int) = (j : Int) + 1 by omega] at nx
    simp only [Option.bind_some, getP_has]
    have e : hasN (l.take (j : Int).toNat) (rd_T59 l (j : Int)).f0.toList = (l.take (j : Int).toNat).any (sameName (rd_T59 l (j : Int))) := rfl
    rw [e, nx]
    split
    · rfl
    · rfl
theorem refmake_l2 (l : List S59) (h0 : l.length ≤ 32) : ∀ (n j k : Nat) (out : List S59), j + n = l.length → n + 100 ≤ k → out.length ≤ j → abacusref12_Make.l2 k l out (j : Int) = some (putAll out (l.drop j), 0, 0) := by
  intro n
  induction n with
  | zero =>
    intro j k out hj hk ho
    obtain ⟨k, rfl⟩ : ∃ n, k = n + 1 := ⟨k - 1, by omega⟩
    simp only [abacusref12_Make.l2]
    rw [if_neg (by omega), List.drop_eq_nil_of_le (by omega)]
    rfl
  | succ n ih =>
    intro j k out hj hk ho
    obtain ⟨k, rfl⟩ : ∃ n, k = n + 1 := ⟨k - 1, by omega⟩
    simp only [abacusref12_Make.l2]
    have hl := putD_len (rd_T59 l (j : Int)) out false
    simp only [Bool.false_eq_true, if_false] at hl
    rw [if_pos (by omega), if_pos (by omega), rd59_drop (l := l) (j := j) (by omega), put_f out (rd_T59 l (j : Int)) (by omega) k (by omega), wrap64_in (by omega)]
    simp only [Option.bind_some]
    rw [show ((j : Int) + 1) = ((j + 1 : Nat) : Int) by omega, ih (j + 1) k _ (by omega) (by omega) (by omega)]
    rfl
/-- None twice: their names are their own. -/
theorem apart_of_twice (l : List S59) : ∀ (n j : Nat), j + n = l.length → firstTwice l n (j : Int) = none → NamesApart (l.take j) → NamesApart l := by
  intro n
  induction n with
  | zero =>
    intro j hj _ h
    rwa [List.take_of_length_le (by omega)] at h
  | succ n ih =>
    intro j hj ht h
    simp only [firstTwice] at ht
    split at ht
    · cases ht
    · rename_i hc
      refine ih (j + 1) (by omega) (by rw [show ((j + 1 : Nat) : Int) = (j : Int) + 1 by omega]; exact ht) ?_
      have hjl : j < l.length := by omega
      have e : rd_T59 l (j : Int) = l[j] := by simp [rd_T59, List.getD, hjl]
      rw [List.take_succ_eq_append_getElem hjl]
      refine List.pairwise_append.2 ⟨h, by simp, fun a ha b hb => ?_⟩
      simp only [List.mem_singleton] at hb
      subst hb
      intro he
      refine hc (List.any_eq_true.2 ⟨a, ?_, ?_⟩)
      · rw [show (j : Int).toNat = j by omega]
        exact ha
      · rw [e]
        simp [sameName, he]
theorem putAll_sort (l : List S59) (h : NamesApart l) : putAll [] l = sortN l := by
  refine eq_of_mem (putAll_lt l [] List.Pairwise.nil) (sortN_lt l h) fun x => ?_
  rw [putAll_mem x l [] h, (sortN_perm l).mem_iff]
  simp
theorem refmake_f (l : List S59) (B : Nat) (hB : B ≤ 2305843009213693952) (ht : Texts B l) (h0 : l.length ≤ 9223372036854775807) (k : Nat) (hk : 3 * l.length + B + 1000 ≤ k) : abacusref12_Make.f k l = labels_Make.f l := by
  unfold abacusref12_Make.f labels_Make.f
  have s2 : ∀ k, 200 ≤ k → (if (l.length : Int) > 32 then some (([] : List S59), (3 : Int), (0 : Int)) else abacusref12_Make.l2 k l [] 0) = (if (l.length : Int) > 32 then some (([] : List S59), (3 : Int), (0 : Int)) else some (putAll [] l, 0, 0)) := fun k hk => by
    by_cases h : (l.length : Int) > 32
    · rw [if_pos h, if_pos h]
    · rw [if_neg h, if_neg h]
      have := refmake_l2 l (by omega) l.length 0 k [] (by omega) (by omega) (by simp)
      simpa using this
  have s1 := fun k (hk : l.length + l.length + 10 + 200 ≤ k) => refmake_l1 l h0 200 _ s2 l.length 0 k (by omega) hk
  have s0 := refmake_l0 l B hB ht h0 (l.length + l.length + 10 + 200) _ s1 l.length 0 k (by omega) (by omega)
  rw [show ((0 : Nat) : Int) = 0 from rfl] at s0
  rw [s0]
  cases firstBad l l.length 0 with
  | some i => rfl
  | none =>
    dsimp only
    cases hT : firstTwice l l.length 0 with
    | some i => rfl
    | none =>
      dsimp only
      have ha := apart_of_twice l l.length 0 (by omega) hT (by simp [NamesApart])
      rw [putAll_sort l ha]
      by_cases h : 32 < l.length
      · rw [if_pos h, if_pos (by omega)]
      · rw [if_neg h, if_neg (by omega)]
theorem make_some (l : List S59) : ∃ p : List S59 × Int × Int, labels_Make.f l = some p ∧ p.1.length ≤ 32 := by
  unfold labels_Make.f
  split
  · exact ⟨_, rfl, by simp⟩
  · split
    · exact ⟨_, rfl, by simp⟩
    · split
      · exact ⟨_, rfl, by simp⟩
      · refine ⟨_, rfl, ?_⟩
        simp only [(sortN_perm _).length_eq]
        omega
theorem LabelsMakes_true (l : List S59) (s : ByteArray) (B : Nat) (hB : B ≤ 2305843009213693952) (ht : Texts B l) (h0 : l.length ≤ 4398046510976) (hs : s.size ≤ B) (k : Nat) (hk : 3 * l.length + B + 2000 ≤ k) : abacuslaw12_LabelsMakes.f k l s = some true := by
  unfold abacuslaw12_LabelsMakes.f
  rw [copy_f l (by omega) k (by omega), name_f s k (by omega), refname_f s k (by omega), value_f s, refvalue_f s (by omega) k (by omega)]
  simp only [Option.bind_some, bne_self_eq_false, Bool.false_eq_true, if_false, if_true]
  rw [right_f l (by omega) k (by omega), refright_f l B hB ht (by omega) k (by omega)]
  obtain ⟨k, rfl⟩ : ∃ n, k = n + 1 := ⟨k - 1, by omega⟩
  simp only [Option.bind_some, bne_self_eq_false, abacuslaw12_LabelsMakes.j0, Bool.false_eq_true, if_false]
  rw [refmake_f l B hB ht (by omega) k (by omega)]
  obtain ⟨p, hp, hl⟩ := make_some l
  rw [hp]
  simp only [Option.bind_some]
  rw [same_self _ (by omega) k (by omega), same_self l (by omega) k (by omega), begins_true k (by omega)]
  simp
end Go.Proofs.YtogegkfefpgbcaaDoor.PL
