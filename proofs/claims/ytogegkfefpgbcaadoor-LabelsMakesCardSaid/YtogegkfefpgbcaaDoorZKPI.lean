/- LabelsTurns: the document's Get, Copy, put, Merge, Chosen, Compare are the code's; what is printed answers true. -/
import Derived.Test.YtogegkfefpgbcaaDoorZKPLx0
import Derived.Test.YtogegkfefpgbcaaDoorZKQ1
import Derived.Test.YtogegkfefpgbcaaDoorZKQ2
import Derived.Test.YtogegkfefpgbcaaDoorZKQ3
import Derived.Test.YtogegkfefpgbcaaDoorZKQ4
import Derived.Test.YtogegkfefpgbcaaDoorZKQ5
import Derived.Test.YtogegkfefpgbcaaDoorZKQ6
import Derived.Test.YtogegkfefpgbcaaDoorZKPH
namespace Go.Proofs.YtogegkfefpgbcaaDoor.PL
open Go Go.RowKit Go.Proofs.YtogegkfefpgbcaaDoorW.PrintWords Go.Proofs.YtogegkfefpgbcaaDoorW.PrintLast Go.Proofs.YtogegkfefpgbcaaDoorW.PrintMore
set_option linter.unusedVariables false
set_option linter.unusedSimpArgs false
theorem refget_l (a : ByteArray) (l : List S59) (h0 : l.length ≤ 9223372036854775807) : ∀ (n j k : Nat), j + n = l.length → n + 1 ≤ k → abacusref12_Get.l0 k l a (j : Int) = some (getP (l.drop j) a) := by
  intro n
  induction n with
  | zero =>
    intro j k hj hk
    obtain ⟨k, rfl⟩ : ∃ n, k = n + 1 := ⟨k - 1, by omega⟩
    simp only [abacusref12_Get.l0]
    rw [if_neg (by omega), List.drop_eq_nil_of_le (by omega)]
    rfl
  | succ n ih =>
    intro j k hj hk
    obtain ⟨k, rfl⟩ : ∃ n, k = n + 1 := ⟨k - 1, by omega⟩
    simp only [abacusref12_Get.l0]
    rw [if_pos (by omega), if_pos (by omega), rd59_drop (l := l) (j := j) (by omega), wrap64_in (by omega)]
    simp only [getP]
    split
    · rfl
    · rw [show ((j : Int) + 1) = ((j + 1 : Nat) : Int) by omega, ih (j + 1) k (by omega) (by omega)]
theorem refget_f (l : List S59) (a : ByteArray) (h0 : l.length ≤ 9223372036854775807) (k : Nat) (hk : l.length + 1 ≤ k) : abacusref12_Get.f k l a = some (getP l a) := refget_l a l h0 l.length 0 k (by omega) hk
theorem copy_l (l : List S59) (h0 : l.length ≤ 4398046511104) : ∀ (n j k : Nat) (out : List S59), j + n = l.length → n + 1 ≤ k → out.length = j → abacusref12_Copy.l0 k l out (j : Int) = some (out ++ l.drop j) := by
  intro n
  induction n with
  | zero =>
    intro j k out hj hk ho
    obtain ⟨k, rfl⟩ : ∃ n, k = n + 1 := ⟨k - 1, by omega⟩
    simp only [abacusref12_Copy.l0]
    rw [if_neg (by omega), List.drop_eq_nil_of_le (by omega), List.append_nil]
  | succ n ih =>
    intro j k out hj hk ho
    obtain ⟨k, rfl⟩ : ∃ n, k = n + 1 := ⟨k - 1, by omega⟩
    simp only [abacusref12_Copy.l0]
    rw [if_pos (by omega), if_pos (by omega), if_pos (by omega), rd59_drop (l := l) (j := j) (by omega), wrap64_in (by omega), show ((j : Int) + 1) = ((j + 1 : Nat) : Int) by omega, ih (j + 1) k _ (by omega) (by omega) (by simp; omega)]
    simp
theorem copy_f (l : List S59) (h0 : l.length ≤ 4398046511104) (k : Nat) (hk : l.length + 1 ≤ k) : abacusref12_Copy.f k l = some l := by
  have := copy_l l h0 l.length 0 k [] (by omega) hk rfl
  unfold abacusref12_Copy.f
  exact this
theorem refcmp_all (l0 l1 : List S59) (h0 : l0.length ≤ 9223372036854775807) (h1 : l1.length ≤ 9223372036854775807) : ∀ (n j k : Nat), j + n = l0.length → j ≤ l1.length → 2 * n + 4 ≤ k → abacusref12_Compare.l0 k l0 l1 (j : Int) = some (lexL cmpS (l0.drop j) (l1.drop j)) := by
  intro n
  induction n with
  | zero =>
    intro j k hj hj1 hk
    obtain ⟨k, rfl⟩ : ∃ n, k = n + 2 := ⟨k - 2, by omega⟩
    simp only [abacusref12_Compare.l0, abacusref12_Compare.j1]
    rw [if_neg (by omega), if_neg (by simp), show l0.drop j = [] from List.drop_eq_nil_of_le (by omega)]
    by_cases h : j < l1.length
    · rw [if_pos (by omega), rd59_drop (l := l1) (j := j) h]
      rfl
    · rw [if_neg (by omega), if_neg (by omega), List.drop_eq_nil_of_le (by omega)]
      rfl
  | succ n ih =>
    intro j k hj hj1 hk
    obtain ⟨k, rfl⟩ : ∃ n, k = n + 2 := ⟨k - 2, by omega⟩
    simp only [abacusref12_Compare.l0, abacusref12_Compare.j1]
    rw [if_pos (by omega), rd59_drop (l := l0) (j := j) (by omega)]
    by_cases h : j < l1.length
    · rw [if_pos (by simpa using h), if_pos (by omega), if_pos (by omega), if_pos (by omega), rd59_drop (l := l1) (j := j) h]
      have hz := cmpS_zero (rd_T59 l0 (j : Int)) (rd_T59 l1 (j : Int))
      simp only [lexL]
      by_cases hc : cmpS (rd_T59 l0 (j : Int)) (rd_T59 l1 (j : Int)) = 0
      · have := hz.1 hc
        rw [if_pos (by simp [this.1, this.2]), if_pos hc, wrap64_in (by omega)]
        exact ih (j + 1) k (by omega) (by omega) (by omega)
      · rw [if_neg hc, if_neg (fun e => hc (hz.2 (by simpa using e)))]
        generalize rd_T59 l0 (j : Int) = x at *
        generalize rd_T59 l1 (j : Int) = y at *
        unfold cmpS lex2
        dsimp only
        rcases cmpB_cases x.f0.toList y.f0.toList with ⟨e1, g1⟩ | ⟨e1, g1⟩ | ⟨e1, g1⟩
        · rw [if_pos g1, e1]
          rfl
        · rw [if_neg (fun h => bl_asymm h g1), if_neg (fun e => by rw [e, bl_irrefl] at g1; cases g1), e1]
          rfl
        · rw [if_neg (fun h => by rw [g1, bl_irrefl] at h; cases h), if_pos g1, e1]
          rcases cmpB_cases x.f1.toList y.f1.toList with ⟨e2, g2⟩ | ⟨e2, g2⟩ | ⟨e2, g2⟩
          · rw [if_pos g2, e2]
            rfl
          · rw [if_neg (fun h => bl_asymm h g2), e2]
            rfl
          · exact absurd (hz.2 ⟨g1, g2⟩) hc
    · rw [if_neg (by simpa using h), if_neg (by omega), if_pos (by omega), show l1.drop j = [] from List.drop_eq_nil_of_le (by omega)]
      rfl
theorem refcompare_f (l0 l1 : List S59) (h0 : l0.length ≤ 9223372036854775807) (h1 : l1.length ≤ 9223372036854775807) (k : Nat) (hk : 2 * l0.length + 4 ≤ k) : abacusref12_Compare.f k l0 l1 = some (lexL cmpS l0 l1) := refcmp_all l0 l1 h0 h1 l0.length 0 k (by omega) (by omega) hk
/-- The document's put. -/
def putD (x : S59) : Bool → List S59 → List S59
  | d, [] => if d = true then [] else [x]
  | d, y :: ys => if (!d && !Op.bytesLess y.f0.toList x.f0.toList) = true then x :: (if y.f0.toList = x.f0.toList then putD x true ys else y :: putD x true ys) else if y.f0.toList = x.f0.toList then putD x d ys else y :: putD x d ys
theorem putD_len (x : S59) : ∀ (l : List S59) (d : Bool), (putD x d l).length ≤ l.length + (if d = true then 0 else 1) := by
  intro l
  induction l with
  | nil => intro d; cases d <;> simp [putD]
  | cons y ys ih =>
    intro d
    simp only [putD]
    have i1 := ih true
    have i2 := ih d
    simp only [if_true] at i1
    cases d <;> simp only [Bool.not_false, Bool.not_true, Bool.true_and, Bool.false_and, Bool.false_eq_true, if_false, if_true] at * <;> (repeat' split) <;> simp only [List.length_cons] at * <;> omega
theorem putD_mem (x z : S59) : ∀ (l : List S59) (d : Bool), z ∈ putD x d l ↔ (d = false ∧ z = x) ∨ (z ∈ l ∧ z.f0.toList ≠ x.f0.toList) := by
  intro l
  induction l with
  | nil => intro d; cases d <;> simp [putD]
  | cons y ys ih =>
    intro d
    simp only [putD]
    cases d
    · simp only [Bool.not_false, Bool.true_and, Bool.false_eq_true, if_false]
      cases hl : Op.bytesLess y.f0.toList x.f0.toList
      · simp only [Bool.not_false, if_true]
        by_cases he : y.f0.toList = x.f0.toList
        · rw [if_pos he]
          simp only [List.mem_cons, ih, Bool.true_eq_false, false_and, false_or, true_and]
          constructor
          · rintro (h | h)
            · exact .inl h
            · exact .inr ⟨.inr h.1, h.2⟩
          · rintro (h | ⟨rfl | h, h2⟩)
            · exact .inl h
            · exact absurd he h2
            · exact .inr ⟨h, h2⟩
        · rw [if_neg he]
          simp only [List.mem_cons, ih, Bool.true_eq_false, false_and, false_or, true_and]
          constructor
          · rintro (h | rfl | h)
            · exact .inl h
            · exact .inr ⟨.inl rfl, he⟩
            · exact .inr ⟨.inr h.1, h.2⟩
          · rintro (h | ⟨rfl | h, h2⟩)
            · exact .inl h
            · exact .inr (.inl rfl)
            · exact .inr (.inr ⟨h, h2⟩)
      · simp only [Bool.not_true, Bool.false_eq_true, if_false]
        have he : y.f0.toList ≠ x.f0.toList := fun e => by rw [e, bl_irrefl] at hl; cases hl
        rw [if_neg he]
        simp only [List.mem_cons, ih, true_and]
        constructor
        · rintro (rfl | h | h)
          · exact .inr ⟨.inl rfl, he⟩
          · exact .inl h
          · exact .inr ⟨.inr h.1, h.2⟩
        · rintro (h | ⟨rfl | h, h2⟩)
          · exact .inr (.inl h)
          · exact .inl rfl
          · exact .inr (.inr ⟨h, h2⟩)
    · simp only [Bool.not_true, Bool.false_and, Bool.false_eq_true, if_false]
      by_cases he : y.f0.toList = x.f0.toList
      · rw [if_pos he]
        simp only [List.mem_cons, ih, Bool.true_eq_false, false_and, false_or]
        constructor
        · exact fun h => ⟨.inr h.1, h.2⟩
        · rintro ⟨rfl | h, h2⟩
          · exact absurd he h2
          · exact ⟨h, h2⟩
      · rw [if_neg he]
        simp only [List.mem_cons, ih, Bool.true_eq_false, false_and, false_or]
        constructor
        · rintro (rfl | h)
          · exact ⟨.inl rfl, he⟩
          · exact ⟨.inr h.1, h.2⟩
        · rintro ⟨rfl | h, h2⟩
          · exact .inl rfl
          · exact .inr ⟨h, h2⟩
theorem putD_true (x : S59) (l : List S59) (h : l.Pairwise LtN) : (putD x true l).Pairwise LtN := by
  induction l with
  | nil => simp [putD]
  | cons y ys ih =>
    obtain ⟨h1, h2⟩ := List.pairwise_cons.1 h
    simp only [putD, Bool.not_true, Bool.false_and, Bool.false_eq_true, if_false]
    split
    · exact ih h2
    · exact List.pairwise_cons.2 ⟨fun z hz => h1 z (by have := (putD_mem x z ys true).1 hz; simp at this; exact this.1), ih h2⟩
theorem putD_lt (x : S59) (l : List S59) (h : l.Pairwise LtN) : (putD x false l).Pairwise LtN := by
  induction l with
  | nil => simp [putD]
  | cons y ys ih =>
    obtain ⟨h1, h2⟩ := List.pairwise_cons.1 h
    simp only [putD, Bool.not_false, Bool.true_and]
    cases hl : Op.bytesLess y.f0.toList x.f0.toList
    · simp only [Bool.not_false, if_true]
      have hm : ∀ z ∈ putD x true ys, z ∈ ys := fun z hz => by have := (putD_mem x z ys true).1 hz; simp at this; exact this.1
      by_cases he : y.f0.toList = x.f0.toList
      · rw [if_pos he]
        exact List.pairwise_cons.2 ⟨fun z hz => by have := h1 z (hm z hz); unfold LtN at *; rwa [← he], putD_true x ys h2⟩
      · rw [if_neg he]
        have hx : LtN x y := by
          unfold LtN
          by_cases e : Op.bytesLess x.f0.toList y.f0.toList = true
          · exact e
          · exact absurd (bl_total _ _ hl (by simpa using e)) he
        refine List.pairwise_cons.2 ⟨fun z hz => ?_, List.pairwise_cons.2 ⟨fun z hz => h1 z (hm z hz), putD_true x ys h2⟩⟩
        rcases List.mem_cons.1 hz with rfl | hz
        · exact hx
        · exact hx.trans (h1 z (hm z hz))
    · simp only [Bool.not_true, Bool.false_eq_true, if_false]
      have he : y.f0.toList ≠ x.f0.toList := fun e => by rw [e, bl_irrefl] at hl; cases hl
      rw [if_neg he]
      refine List.pairwise_cons.2 ⟨fun z hz => ?_, ih h2⟩
      rcases (putD_mem x z ys false).1 hz with ⟨_, rfl⟩ | ⟨h, _⟩
      · exact hl
      · exact h1 z h
theorem put_l (l : List S59) (x : S59) (h0 : l.length ≤ 1000) : ∀ (n j k : Nat) (out : List S59) (d : Bool), j + n = l.length → 2 * n + 4 ≤ k → out.length ≤ 2 * j →
    abacusref12_put.l0 k l out d (j : Int) x.f0 x.f1 = some (out ++ putD x d (l.drop j)) := by
  intro n
  induction n with
  | zero =>
    intro j k out d hj hk ho
    obtain ⟨k, rfl⟩ : ∃ n, k = n + 1 := ⟨k - 1, by omega⟩
    simp only [abacusref12_put.l0]
    rw [if_neg (by omega), List.drop_eq_nil_of_le (by omega)]
    cases d
    · rw [if_neg (by simp), if_pos (by omega)]
      simp [putD]
    · simp [putD]
  | succ n ih =>
    intro j k out d hj hk ho
    obtain ⟨k, rfl⟩ : ∃ n, k = n + 2 := ⟨k - 2, by omega⟩
    simp only [abacusref12_put.l0, abacusref12_put.j1]
    rw [if_pos (by omega), rd59_drop (l := l) (j := j) (by omega)]
    have g0 : (0 : Int) ≤ (j : Int) := by omega
    have g1 : (j : Int) < (l.length : Int) := by omega
    have g2 : out.length < 4398046511104 := by omega
    have g3 : wrap64 ((j : Int) + 1) = ((j + 1 : Nat) : Int) := by rw [wrap64_in (by omega)]; omega
    simp only [g0, g1, g2, g3, if_true, Option.bind_some]
    generalize rd_T59 l (j : Int) = y at *
    simp only [putD]
    have e1 : ∀ d, out.length ≤ 2 * (j + 1) → abacusref12_put.l0 k l out d ((j + 1 : Nat) : Int) x.f0 x.f1 = some (out ++ putD x d (l.drop (j + 1))) := fun d h => ih (j + 1) k out d (by omega) (by omega) h
    have e2 : ∀ d, abacusref12_put.l0 k l (out ++ [(⟨y.f0, y.f1⟩ : S59)]) d ((j + 1 : Nat) : Int) x.f0 x.f1 = some (out ++ [y] ++ putD x d (l.drop (j + 1))) := fun d => ih (j + 1) k _ d (by omega) (by omega) (by simp; omega)
    have e3 : ∀ d, abacusref12_put.l0 k l (out ++ [(⟨x.f0, x.f1⟩ : S59)]) d ((j + 1 : Nat) : Int) x.f0 x.f1 = some (out ++ [x] ++ putD x d (l.drop (j + 1))) := fun d => ih (j + 1) k _ d (by omega) (by omega) (by simp; omega)
    have e4 : ∀ d, abacusref12_put.l0 k l (out ++ [(⟨x.f0, x.f1⟩ : S59)] ++ [(⟨y.f0, y.f1⟩ : S59)]) d ((j + 1 : Nat) : Int) x.f0 x.f1 = some (out ++ [x] ++ [y] ++ putD x d (l.drop (j + 1))) := fun d => ih (j + 1) k _ d (by omega) (by omega) (by simp; omega)
    have g4 : (out ++ [(⟨x.f0, x.f1⟩ : S59)]).length < 4398046511104 := by simp; omega
    simp only [g4, if_true, e1 _ (by omega), e2, e3, e4]
    cases d
    · simp only [Bool.false_eq_true, if_false, Bool.not_false, Bool.true_and]
      cases Op.bytesLess y.f0.toList x.f0.toList
      · simp only [Bool.not_false, if_true]
        split <;> simp
      · simp only [Bool.not_true, Bool.false_eq_true, if_false]
        split <;> simp
    · simp only [if_true, Bool.not_true, Bool.false_and, Bool.false_eq_true, if_false]
      split <;> simp
theorem put_f (l : List S59) (x : S59) (h0 : l.length ≤ 1000) (k : Nat) (hk : 2 * l.length + 4 ≤ k) : abacusref12_put.f k l x.f0 x.f1 = some (putD x false l) := by
  have := put_l l x h0 l.length 0 k [] false (by omega) hk (by simp)
  unfold abacusref12_put.f
  exact this
/-- All of a list, one behind the other. -/
def putAll : List S59 → List S59 → List S59
  | out, [] => out
  | out, x :: xs => putAll (putD x false out) xs
theorem putAll_len : ∀ (l out : List S59), (putAll out l).length ≤ out.length + l.length := by
  intro l
  induction l with
  | nil => intro out; simp [putAll]
  | cons x xs ih =>
    intro out
    have := ih (putD x false out)
    have := putD_len x out false
    simp only [putAll, List.length_cons, Bool.false_eq_true, if_false] at *
    omega
theorem putAll_lt : ∀ (l out : List S59), out.Pairwise LtN → (putAll out l).Pairwise LtN := by
  intro l
  induction l with
  | nil => intro out h; exact h
  | cons x xs ih => intro out h; exact ih _ (putD_lt x out h)
theorem putAll_mem (z : S59) : ∀ (l out : List S59), NamesApart l → (z ∈ putAll out l ↔ z ∈ l ∨ (z ∈ out ∧ hasN l z.f0.toList = false)) := by
  intro l
  induction l with
  | nil => intro out _; simp [putAll, hasN]
  | cons x xs ih =>
    intro out h
    obtain ⟨h1, h2⟩ := List.pairwise_cons.1 h
    simp only [putAll]
    rw [ih _ h2, putD_mem]
    simp only [true_and, List.mem_cons, hasN, List.any_cons, Bool.or_eq_false_iff, beq_eq_false_iff_ne]
    constructor
    · rintro (h | ⟨rfl | h, h3⟩)
      · exact .inl (.inr h)
      · exact .inl (.inl rfl)
      · exact .inr ⟨h.1, Ne.symm h.2, h3⟩
    · rintro ((rfl | h) | ⟨h, h3, h4⟩)
      · by_cases hz : hasN xs z.f0.toList = true
        · obtain ⟨y, hy, e⟩ := (hasN_iff _ _).1 hz
          exact absurd e.symm (h1 y hy)
        · exact .inr ⟨.inl rfl, by simpa [hasN] using hz⟩
      · exact .inl h
      · exact .inr ⟨.inr ⟨h, Ne.symm h3⟩, h4⟩
theorem putAll_merge {a b : List S59} (ha : RightP a) (hb : RightP b) : putAll a b = sortN (mergeU a b) := by
  refine eq_of_mem (putAll_lt b a ha.2.2) (sortN_lt _ (apart_mergeU ha.apart hb.apart)) fun x => ?_
  rw [putAll_mem x b a hb.apart, (sortN_perm _).mem_iff, mem_mergeU]
theorem refmerge_l (b : List S59) (h0 : b.length ≤ 32) : ∀ (n j k : Nat) (out : List S59), j + n = b.length → n + 400 ≤ k → out.length ≤ 32 + j →
    abacusref12_Merge.l0 k b out (j : Int) = some (if 32 < (putAll out (b.drop j)).length then ([], 3) else (putAll out (b.drop j), 0)) := by
  intro n
  induction n with
  | zero =>
    intro j k out hj hk ho
    obtain ⟨k, rfl⟩ : ∃ n, k = n + 1 := ⟨k - 1, by omega⟩
    simp only [abacusref12_Merge.l0]
    rw [if_neg (by omega), List.drop_eq_nil_of_le (by omega)]
    show _ = some (if 32 < out.length then ([], 3) else (out, 0))
    by_cases h : 32 < out.length
    · rw [if_pos (by omega), if_pos h]
    · rw [if_neg (by omega), if_neg h]
  | succ n ih =>
    intro j k out hj hk ho
    obtain ⟨k, rfl⟩ : ∃ n, k = n + 1 := ⟨k - 1, by omega⟩
    simp only [abacusref12_Merge.l0]
    rw [if_pos (by omega), if_pos (by omega), rd59_drop (l := b) (j := j) (by omega), put_f out (rd_T59 b (j : Int)) (by omega) k (by omega), wrap64_in (by omega)]
    have hl := putD_len (rd_T59 b (j : Int)) out false
    simp only [Bool.false_eq_true, if_false] at hl
    simp only [Option.bind_some]
    rw [show ((j : Int) + 1) = ((j + 1 : Nat) : Int) by omega, ih (j + 1) k _ (by omega) (by omega) (by omega)]
    rfl
theorem refmerge_f (a b : List S59) (B : Nat) (hB : B ≤ 2305843009213693952) (ta : Texts B a) (tb : Texts B b) (h0 : a.length ≤ 9223372036854775807) (h1 : b.length ≤ 9223372036854775807) (k : Nat) (hk : a.length + b.length + B + 600 ≤ k) :
    abacusref12_Merge.f k a b = some (mergeP a b) := by
  unfold abacusref12_Merge.f mergeP
  rw [refright_f a B hB ta h0 k (by omega), refright_f b B hB tb h1 k (by omega)]
  obtain ⟨k, rfl⟩ : ∃ n, k = n + 1 := ⟨k - 1, by omega⟩
  simp only [Option.bind_some, abacusref12_Merge.j0]
  cases hr0 : rightB a
  · simp
  · cases hr1 : rightB b
    · simp
    · have ra := (rightB_iff a).1 hr0
      have rb := (rightB_iff b).1 hr1
      have b0 := ra.2.1
      have b1 := rb.2.1
      simp only [Bool.not_true, Bool.false_eq_true, if_false, if_true, Bool.and_self]
      rw [copy_f a (by omega) k (by omega)]
      simp only [Option.bind_some]
      have := refmerge_l b b1 b.length 0 k a (by omega) (by omega) (by omega)
      rw [show ((0 : Nat) : Int) = 0 from rfl, List.drop_zero, putAll_merge ra rb, (sortN_perm _).length_eq] at this
      exact this
/-- The document's Chosen. -/
def chosenP (ns : List ByteArray) (w : Bool) (l : List S59) : List S59 := l.filter (fun x => inNames ns x.f0 == w)
theorem inNames_drop (ns : List ByteArray) (a : ByteArray) {j : Nat} (h : j < ns.length) : inNames (ns.drop j) a = ((rdOf ByteArray.empty ns (j : Int)).toList == a.toList || inNames (ns.drop (j + 1)) a) := by
  rw [rdOf_drop h]
  simp only [inNames, List.any_cons]
  rw [Bool.beq_comm]
theorem refchosen_l1 (l : List S59) (ns : List ByteArray) (w : Bool) (hn : ns.length ≤ 9223372036854775807) (out : List S59) (j : Nat) (hj : j < l.length) (hl : l.length ≤ 4398046511104) (ho : out.length ≤ j) (r : Option (List S59)) (K : Nat)
    (h1 : ∀ k, K ≤ k → abacusref12_Chosen.l0 k l ns w (out ++ (if (inNames ns (rd_T59 l (j : Int)).f0 == w) = true then [rd_T59 l (j : Int)] else [])) ((j + 1 : Nat) : Int) = r) :
    ∀ (m i k : Nat) (b : Bool), i + m = ns.length → m + 1 + K ≤ k → (b || inNames (ns.drop i) (rd_T59 l (j : Int)).f0) = inNames ns (rd_T59 l (j : Int)).f0 → abacusref12_Chosen.l1 k l ns w out (j : Int) b (i : Int) = r := by
  intro m
  induction m with
  | zero =>
    intro i k b hi hk hb
    obtain ⟨k, rfl⟩ : ∃ n, k = n + 1 := ⟨k - 1, by omega⟩
    simp only [abacusref12_Chosen.l1]
    rw [List.drop_eq_nil_of_le (by omega)] at hb
    have hb2 : inNames ns (rd_T59 l (j : Int)).f0 = b := by rw [← hb]; simp [inNames]
    rw [if_neg (by omega), wrap64_in (by omega), show ((j : Int) + 1) = ((j + 1 : Nat) : Int) by omega]
    have := h1 k (by omega)
    simp only [hb2] at this
    by_cases h : (b == w) = true
    · rw [if_pos h, if_pos (by omega), if_pos (by omega), if_pos (by omega)]
      rw [if_pos h] at this
      exact this
    · rw [if_neg h]
      rw [if_neg h, List.append_nil] at this
      exact this
  | succ m ih =>
    intro i k b hi hk hb
    obtain ⟨k, rfl⟩ : ∃ n, k = n + 1 := ⟨k - 1, by omega⟩
    simp only [abacusref12_Chosen.l1]
    rw [if_pos (by omega), wrap64_in (by omega), show ((i : Int) + 1) = ((i + 1 : Nat) : Int) by omega]
    rw [inNames_drop ns _ (j := i) (by omega)] at hb
    cases b
    · rw [if_neg (by simp), if_pos (by omega), if_pos (by omega), if_pos (by omega)]
      exact ih (i + 1) k _ (by omega) (by omega) (by simpa using hb)
    · rw [if_pos rfl]
      exact ih (i + 1) k _ (by omega) (by omega) (by simpa using hb)
theorem refchosen_l (l : List S59) (ns : List ByteArray) (w : Bool) (hn : ns.length ≤ 9223372036854775807) (hl : l.length ≤ 4398046511104) : ∀ (n j k : Nat) (out : List S59), j + n = l.length → n * (ns.length + 3) + 1 ≤ k → out.length ≤ j →
    abacusref12_Chosen.l0 k l ns w out (j : Int) = some (out ++ chosenP ns w (l.drop j)) := by
  intro n
  induction n with
  | zero =>
    intro j k out hj hk ho
    obtain ⟨k, rfl⟩ : ∃ n, k = n + 1 := ⟨k - 1, by omega⟩
    simp only [abacusref12_Chosen.l0]
    rw [if_neg (by omega), List.drop_eq_nil_of_le (by omega)]
    simp [chosenP]
  | succ n ih =>
    intro j k out hj hk ho
    have e : (n + 1) * (ns.length + 3) = n * (ns.length + 3) + (ns.length + 3) := Nat.succ_mul _ _
    obtain ⟨k, rfl⟩ : ∃ n, k = n + 1 := ⟨k - 1, by omega⟩
    simp only [abacusref12_Chosen.l0]
    rw [if_pos (by omega)]
    refine refchosen_l1 l ns w hn out j (by omega) hl ho _ (n * (ns.length + 3) + 1) (fun k hk => ?_) ns.length 0 k false (by omega) (by omega) (by simp)
    rw [ih (j + 1) k _ (by omega) hk (by split <;> simp <;> omega), rd59_drop (l := l) (j := j) (by omega)]
    simp only [chosenP, List.filter_cons]
    split <;> simp
theorem refchosen_f (l : List S59) (ns : List ByteArray) (w : Bool) (hn : ns.length ≤ 9223372036854775807) (hl : l.length ≤ 4398046511104) (k : Nat) (hk : l.length * (ns.length + 3) + 1 ≤ k) : abacusref12_Chosen.f k l ns w = some (chosenP ns w l) := by
  have := refchosen_l l ns w hn hl l.length 0 k [] (by omega) hk (by simp)
  unfold abacusref12_Chosen.f
  exact this
theorem mergeP_64 (a b : List S59) : (mergeP a b).1.length ≤ 64 := by
  unfold mergeP
  split
  · split
    · simp
    · simp only [(sortN_perm _).length_eq]; omega
  · simp
theorem turns_l (a b : List S59) (ns : List ByteArray) (B : Nat) (hB : B ≤ 2305843009213693952) (ta : Texts B a) (tb : Texts B b) (h0 : a.length ≤ 4398046510976) (h1 : b.length ≤ 4398046510976) (h2 : ns.length ≤ 9223372036854775807) : ∀ (n j k : Nat), j + n = ns.length →
    n + 2 * (a.length + b.length) + B + a.length * (ns.length + 3) + ns.length + 1000 ≤ k → abacuslaw12_LabelsTurns.l0 k a b ns a b (j : Int) = some true := by
  intro n
  induction n with
  | zero =>
    intro j k hj hk
    obtain ⟨k, rfl⟩ : ∃ n, k = n + 1 := ⟨k - 1, by omega⟩
    have b3 := mergeP_64 a b
    simp only [abacuslaw12_LabelsTurns.l0]
    rw [if_neg (by omega), merge_f a b (by omega) (by omega) k (by omega), refmerge_f a b B hB ta tb (by omega) (by omega) k (by omega)]
    simp only [Option.bind_some]
    rw [same_self _ (by omega) k (by omega), keep_f a ns h2 (by omega) k (by omega), without_f a ns h2 (by omega) k (by omega), refchosen_f a ns true h2 (by omega) k (by omega), refchosen_f a ns false h2 (by omega) k (by omega)]
    have q1 : chosenP ns true a = a.filter (fun x => inNames ns x.f0) := by simp [chosenP]
    have q2 : chosenP ns false a = a.filter (fun x => !inNames ns x.f0) := by simp [chosenP]
    have l1 := List.length_filter_le (fun x => inNames ns x.f0) a
    have l2 := List.length_filter_le (fun x => !inNames ns x.f0) a
    simp only [Option.bind_some, if_true, q1, q2]
    rw [same_self _ (by omega) k (by omega), same_self _ (by omega) k (by omega), compare_f a b (by omega) k (by omega), refcompare_f a b (by omega) (by omega) k (by omega)]
    simp only [Option.bind_some, if_true]
    rw [same_self a (by omega) k (by omega), same_self b (by omega) k (by omega), begins_true k (by omega)]
    simp
  | succ n ih =>
    intro j k hj hk
    obtain ⟨k, rfl⟩ : ∃ n, k = n + 1 := ⟨k - 1, by omega⟩
    simp only [abacuslaw12_LabelsTurns.l0]
    rw [if_pos (by omega), if_pos (by omega), get_f a _ (by omega) k (by omega), refget_f a _ (by omega) k (by omega), wrap64_in (by omega), show ((j : Int) + 1) = ((j + 1 : Nat) : Int) by omega, ih (j + 1) k (by omega) (by omega)]
    simp
theorem LabelsTurns_true (a b : List S59) (ns : List ByteArray) (B : Nat) (hB : B ≤ 2305843009213693952) (ta : Texts B a) (tb : Texts B b) (h0 : a.length ≤ 4398046510976) (h1 : b.length ≤ 4398046510976) (h2 : ns.length ≤ 9223372036854775807) (k : Nat)
    (hk : 2 * ns.length + 2 * (a.length + b.length) + B + a.length * (ns.length + 3) + 1000 ≤ k) : abacuslaw12_LabelsTurns.f k a b ns = some true := by
  unfold abacuslaw12_LabelsTurns.f
  rw [copy_f a (by omega) k (by omega), copy_f b (by omega) k (by omega)]
  exact turns_l a b ns B hB ta tb h0 h1 h2 ns.length 0 k (by omega) (by omega)
end Go.Proofs.YtogegkfefpgbcaaDoor.PL
