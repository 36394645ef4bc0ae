/- LabelsTurns: the document's Get, Copy, put, Merge, Chosen, Compare are the code's; what is printed answers true. -/
import Derived.Test.YtogegkfefpgbcaaDoorZXPLx0
import Derived.Test.YtogegkfefpgbcaaDoorZXQ1
import Derived.Test.YtogegkfefpgbcaaDoorZXQ2
import Derived.Test.YtogegkfefpgbcaaDoorZXQ3
import Derived.Test.YtogegkfefpgbcaaDoorZXQ4
import Derived.Test.YtogegkfefpgbcaaDoorZXQ5
import Derived.Test.YtogegkfefpgbcaaDoorZXQ6
import Derived.Test.YtogegkfefpgbcaaDoorZXQ7
import Derived.Test.YtogegkfefpgbcaaDoorZXPH
namespace Go.Proofs.YtogegkfefpgbcaaDoor.PL
open Go Go.RowKit Go.Proofs.YtogegkfefpgbcaaDoorW.PrintWords Go.Proofs.YtogegkfefpgbcaaDoorW.PrintLast Go.Proofs.YtogegkfefpgbcaaDoorW.PrintMore
set_option linter.unusedVariables false
set_option linter.unusedSimpArgs false
def putD (x : S59) : Bool → List S59 → List S59
  | d, [] => if d = true then [] else [x]
  | d, y :: ys => if (!d && !Op.bytesLess y.f0.toList x.f0.toList) = true then x :: (if y.f0.toList = x.f0.toList then putD x true ys else y :: putD x true ys) else if y.f0.toList = x.f0.toList then putD x d ys else y :: putD x d ys
theorem putD_len (x : S59) : ∀ (l : List S59) (d : Bool), (putD x d l).length ≤ l.length + (if d = true then 0 else 1) := by
  intro l
  induction l with
  | nil => intro d; cases d <;> simp [putD]
  | cons y ys ih =>
    intro d; simp only [putD]; have i1 := ih true; have i2 := ih d; simp only [if_true] at i1
    cases d <;> simp only [Bool.not_false, Bool.not_true, Bool.true_and, Bool.false_and, Bool.false_eq_true, if_false, if_true] at * <;> (repeat' split) <;> simp only [List.length_cons] at * <;> omega
theorem putD_mem (x z : S59) : ∀ (l : List S59) (d : Bool), z ∈ putD x d l ↔ (d = false ∧ z = x) ∨ (z ∈ l ∧ z.f0.toList ≠ x.f0.toList) := by
  intro l
  induction l with
  | nil => intro d; cases d <;> simp [putD]
  | cons y ys ih =>
    intro d; simp only [putD]
    cases d
    · simp only [Bool.not_false, Bool.true_and, Bool.false_eq_true, if_false]
      cases hl : Op.bytesLess y.f0.toList x.f0.toList
      · simp only [Bool.not_false, if_true]
        by_cases he : y.f0.toList = x.f0.toList
        · rw [if_pos he]
          simp only [List.mem_cons, ih, Bool.true_eq_false, false_and, false_or, true_and]; constructor
          · rintro (h | h)
            · exact .inl h
            · exact .inr ⟨.inr h.1, h.2⟩
          · rintro (h | ⟨rfl | h, h2⟩)
            · exact .inl h
            · exact absurd he h2
            · exact .inr ⟨h, h2⟩
        · rw [if_neg he]
          simp only [List.mem_cons, ih, Bool.true_eq_false, false_and, false_or, true_and]; constructor
          · rintro (h | rfl | h)
            · exact .inl h
            · exact .inr ⟨.inl rfl, he⟩
            · exact .inr ⟨.inr h.1, h.2⟩
          · rintro (h | ⟨rfl | h, h2⟩)
            · exact .inl h
            · exact .inr (.inl rfl)
            · exact .inr (.inr ⟨h, h2⟩)
      · simp only [Bool.not_true, Bool.false_eq_true, if_false]
        have he : y.f0.toList ≠ x.f0.toList := fun e => by rw [e, bl_irrefl] at hl; cases hl
        rw [if_neg he]; simp only [List.mem_cons, ih, true_and]; constructor
        · rintro (rfl | h | h)
          · exact .inr ⟨.inl rfl, he⟩
          · exact .inl h
          · exact .inr ⟨.inr h.1, h.2⟩
        · rintro (h | ⟨rfl | h, h2⟩)
          · exact .inr (.inl h)
          · exact .inl rfl
          · exact .inr (.inr ⟨h, h2⟩)
    · simp only [Bool.not_true, Bool.false_and, Bool.false_eq_true, if_false]
      by_cases he : y.f0.toList = x.f0.toList
      · rw [if_pos he]
        simp only [List.mem_cons, ih, Bool.true_eq_false, false_and, false_or]; constructor
        · exact fun h => ⟨.inr h.1, h.2⟩
        · rintro ⟨rfl | h, h2⟩
          · exact absurd he h2
          · exact ⟨h, h2⟩
      · rw [if_neg he]
        simp only [List.mem_cons, ih, Bool.true_eq_false, false_and, false_or]; constructor
        · rintro (rfl | h)
          · exact ⟨.inl rfl, he⟩
          · exact ⟨.inr h.1, h.2⟩
        · rintro ⟨rfl | h, h2⟩
          · exact .inl rfl
          · exact .inr ⟨h, h2⟩
theorem putD_true (x : S59) (l : List S59) (h : l.Pairwise LtN) : (putD x true l).Pairwise LtN := by
  induction l with
  | nil => simp [putD]
  | cons y ys ih =>
    obtain ⟨h1, h2⟩ := List.pairwise_cons.1 h; simp only [putD, Bool.not_true, Bool.false_and, Bool.false_eq_true, if_false]; split
    · exact ih h2
    · exact List.pairwise_cons.2 ⟨fun z hz => h1 z (by have := (putD_mem x z ys true).1 hz; simp at this; exact this.1), ih h2⟩
theorem putD_lt (x : S59) (l : List S59) (h : l.Pairwise LtN) : (putD x false l).Pairwise LtN := by
  induction l with
  | nil => simp [putD]
  | cons y ys ih =>
    obtain ⟨h1, h2⟩ := List.pairwise_cons.1 h; simp only [putD, Bool.not_false, Bool.true_and]
    cases hl : Op.bytesLess y.f0.toList x.f0.toList
    · simp only [Bool.not_false, if_true]
      have hm : ∀ z ∈ putD x true ys, z ∈ ys := fun z hz => by have := (putD_mem x z ys true).1 hz; simp at this; exact this.1
      by_cases he : y.f0.toList = x.f0.toList
      · rw [if_pos he]
        exact List.pairwise_cons.2 ⟨fun z hz => by have := h1 z (hm z hz); unfold LtN at *; rwa [← he], putD_true x ys h2⟩
      · rw [if_neg he]
        have hx : LtN x y := by
          unfold LtN; by_cases e : Op.bytesLess x.f0.toList y.f0.toList = true
          · exact e
          · exact absurd (bl_total _ _ hl (by simpa using e)) he
        refine List.pairwise_cons.2 ⟨fun z hz => ?_, List.pairwise_cons.2 ⟨fun z hz => h1 z (hm z hz), putD_true x ys h2⟩⟩; rcases List.mem_cons.1 hz with rfl | hz
        · exact hx
        · exact hx.trans (h1 z (hm z hz))
    · simp only [Bool.not_true, Bool.false_eq_true, if_false]
      have he : y.f0.toList ≠ x.f0.toList := fun e => by rw [e, bl_irrefl] at hl; cases hl
      rw [if_neg he]; refine List.pairwise_cons.2 ⟨fun z hz => ?_, ih h2⟩; rcases (putD_mem x z ys false).1 hz with ⟨_, rfl⟩ | ⟨h, _⟩
      · exact hl
      · exact h1 z h
theorem put_l (l : List S59) (x : S59) (h0 : l.length ≤ 1000) : ∀ (n j k : Nat) (out : List S59) (d : Bool), j + n = l.length → 2 * n + 4 ≤ k → out.length ≤ 2 * j →
    abacusref12_put.l0 k l out d (j : Int) x.f0 x.f1 = some (out ++ putD x d (l.drop j)) := by
  intro n
  induction n with
  | zero =>
    intro j k out d hj hk ho; obtain ⟨k, rfl⟩ : ∃ n, k = n + 1 := ⟨k - 1, by omega⟩; simp only [abacusref12_put.l0]; rw [if_neg (by omega), List.drop_eq_nil_of_le (by omega)]
    cases d
    · rw [if_neg (by simp), if_pos (by omega)]
      simp [putD]
    · simp [putD]
  | succ n ih =>
    intro j k out d hj hk ho; obtain ⟨k, rfl⟩ : ∃ n, k = n + 2 := ⟨k - 2, by omega⟩; simp only [abacusref12_put.l0, abacusref12_put.j1]; rw [if_pos (by omega), rd59_drop (l := l) (j := j) (by omega)]; have g0 : (0 : Int) ≤ (j : Int) := by omega
    have g1 : (j : Int) < (l.length : Int) := by omega
    have g2 : out.length < 4398046511104 := by omega
    have g3 : wrap64 ((j : Int) + 1) = ((j + 1 : Nat) : Int) := by rw [wrap64_in (by omega)]; omega
    simp only [g0, g1, g2, g3, if_true, Option.bind_some]; generalize rd_T59 l (j : Int) = y at *; simp only [putD]; have e1 : ∀ d, out.length ≤ 2 * (j + 1) → abacusref12_put.l0 k l out d ((j + 1 : Nat) : Int) x.f0 x.f1 = some (out ++ putD x d (l.drop (j + 1))) := fun d h => ih (j + 1) k out d (by omega) (by omega) h
    have e2 : ∀ d, abacusref12_put.l0 k l (out ++ [(⟨y.f0, y.f1⟩ : S59)]) d ((j + 1 : Nat) : Int) x.f0 x.f1 = some (out ++ [y] ++ putD x d (l.drop (j + 1))) := fun d => ih (j + 1) k _ d (by omega) (by omega) (by simp; omega)
    have e3 : ∀ d, abacusref12_put.l0 k l (out ++ [(⟨x.f0, x.f1⟩ : S59)]) d ((j + 1 : Nat) : Int) x.f0 x.f1 = some (out ++ [x] ++ putD x d (l.drop (j + 1))) := fun d => ih (j + 1) k _ d (by omega) (by omega) (by simp; omega)
    have e4 : ∀ d, abacusref12_put.l0 k l (out ++ [(⟨x.f0, x.f1⟩ : S59)] ++ [(⟨y.f0, y.f1⟩ : S59)]) d ((j + 1 : Nat) : Int) x.f0 x.f1 = some (out ++ [x] ++ [y] ++ putD x d (l.drop (j + 1))) := fun d => ih (j + 1) k _ d (by omega) (by omega) (by simp; omega)
    have g4 : (out ++ [(⟨x.f0, x.f1⟩ : S59)]).length < 4398046511104 := by simp; omega
    simp only [g4, if_true, e1 _ (by omega), e2, e3, e4]
    cases d
    · simp only [Bool.false_eq_true, if_false, Bool.not_false, Bool.true_and]
      cases Op.bytesLess y.f0.toList x.f0.toList
      · simp only [Bool.not_false, if_true]
        split <;> simp
      · simp only [Bool.not_true, Bool.false_eq_true, if_false]
        split <;> simp
    · simp only [if_true, Bool.not_true, Bool.false_and, Bool.false_eq_true, if_false]
      split <;> simp
theorem put_f (l : List S59) (x : S59) (h0 : l.length ≤ 1000) (k : Nat) (hk : 2 * l.length + 4 ≤ k) : abacusref12_put.f k l x.f0 x.f1 = some (putD x false l) := by
  have := put_l l x h0 l.length 0 k [] false (by omega) hk (by simp); unfold abacusref12_put.f; exact this
def putAll : List S59 → List S59 → List S59
  | out, [] => out
  | out, x :: xs => putAll (putD x false out) xs
theorem putAll_lt : ∀ (l out : List S59), out.Pairwise LtN → (putAll out l).Pairwise LtN := by
  intro l
  induction l with
  | nil => intro out h; exact h
  | cons x xs ih => intro out h; exact ih _ (putD_lt x out h)
theorem putAll_mem (z : S59) : ∀ (l out : List S59), NamesApart l → (z ∈ putAll out l ↔ z ∈ l ∨ (z ∈ out ∧ hasN l z.f0.toList = false)) := by
  intro l
  induction l with
  | nil => intro out _; simp [putAll, hasN]
  | cons x xs ih =>
    intro out h; obtain ⟨h1, h2⟩ := List.pairwise_cons.1 h; simp only [putAll]; rw [ih _ h2, putD_mem]; simp only [true_and, List.mem_cons, hasN, List.any_cons, Bool.or_eq_false_iff, beq_eq_false_iff_ne]; constructor
    · rintro (h | ⟨rfl | h, h3⟩)
      · exact .inl (.inr h)
      · exact .inl (.inl rfl)
      · exact .inr ⟨h.1, Ne.symm h.2, h3⟩
    · rintro ((rfl | h) | ⟨h, h3, h4⟩)
      · by_cases hz : hasN xs z.f0.toList = true
        · obtain ⟨y, hy, e⟩ := (hasN_iff _ _).1 hz
          exact absurd e.symm (h1 y hy)
        · exact .inr ⟨.inl rfl, by simpa [hasN] using hz⟩
      · exact .inl h
      · exact .inr ⟨.inr ⟨h, Ne.symm h3⟩, h4⟩
end Go.Proofs.YtogegkfefpgbcaaDoor.PL
