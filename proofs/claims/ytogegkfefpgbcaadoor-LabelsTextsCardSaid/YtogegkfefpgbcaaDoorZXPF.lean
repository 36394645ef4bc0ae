/- The plain law of sets of labels: a right set is a list that rises by its names; Get, Merge, Keep, Without over such lists. -/
import Derived.Test.YtogegkfefpgbcaaDoorZXPLx0
import Derived.Test.YtogegkfefpgbcaaDoorZXQ1
import Derived.Test.YtogegkfefpgbcaaDoorZXQ2
import Derived.Test.YtogegkfefpgbcaaDoorZXQ3
import Derived.Test.YtogegkfefpgbcaaDoorZXQ4
import Derived.Test.YtogegkfefpgbcaaDoorZXQ5
import Derived.Test.YtogegkfefpgbcaaDoorZXQ6
import Derived.Test.YtogegkfefpgbcaaDoorZXQ7
import Derived.Test.YtogegkfefpgbcaaDoorZXPE
namespace Go.Proofs.YtogegkfefpgbcaaDoor.PL
open Go.RowKit Go.Proofs.YtogegkfefpgbcaaDoorW.PrintWords Go.Proofs.YtogegkfefpgbcaaDoorW.PrintLast Go.Proofs.YtogegkfefpgbcaaDoorW.PrintMore
set_option linter.unusedVariables false
set_option linter.unusedSimpArgs false
def LtN (x y : S59) : Prop := Op.bytesLess x.f0.toList y.f0.toList = true
theorem LtN.trans {x y z : S59} (h1 : LtN x y) (h2 : LtN y z) : LtN x z := bl_trans h1 h2
theorem LtN.asymm {x y : S59} (h1 : LtN x y) (h2 : LtN y x) : False := bl_asymm h1 h2
theorem LtN.ne {x y : S59} (h1 : LtN x y) : x.f0.toList ≠ y.f0.toList := fun e => by unfold LtN at h1; rw [e, bl_irrefl] at h1; cases h1
theorem LtN.irrefl {x : S59} (h : LtN x x) : False := h.ne rfl
theorem pw2 {a b : S59} {l : List S59} : (a :: b :: l).Pairwise LtN ↔ LtN a b ∧ (b :: l).Pairwise LtN := by
  constructor
  · intro h
    rw [List.pairwise_cons] at h; exact ⟨h.1 b (by simp), h.2⟩
  · rintro ⟨h1, h2⟩
    rw [List.pairwise_cons]; refine ⟨fun y hy => ?_, h2⟩; rcases List.mem_cons.1 hy with rfl | hy
    · exact h1
    · exact h1.trans ((List.pairwise_cons.1 h2).1 y hy)
theorem rising_drop (l : List S59) : ∀ (n j f : Nat), j + n = l.length → n ≤ f + 1 → (risingF l f ((j : Int) + 1) = true ↔ (l.drop j).Pairwise LtN) := by
  intro n
  induction n with
  | zero =>
    intro j f hj _; rw [List.drop_eq_nil_of_le (by omega)]; refine ⟨fun _ => .nil, fun _ => ?_⟩
    cases f with
    | zero => rfl
    | succ f => rw [risingF, if_neg (by omega)]
  | succ n ih =>
    intro j f hj hf; rw [rd59_drop (l := l) (j := j) (by omega)]; by_cases hn : n = 0
    · rw [List.drop_eq_nil_of_le (by omega)]
      refine ⟨fun _ => by simp, fun _ => ?_⟩
      cases f with
      | zero => rfl
      | succ f => rw [risingF, if_neg (by omega)]
    · obtain ⟨f, rfl⟩ : ∃ g, f = g + 1 := ⟨f - 1, by omega⟩
      rw [risingF, if_pos (by omega)]; have := ih (j + 1) f (by omega) (by omega); rw [rd59_drop (l := l) (j := j + 1) (by omega), pw2] at *; rw [show ((j : Int) + 1 - 1) = (j : Int) by omega, show ((j : Int) + 1) = ((j + 1 : Nat) : Int) by omega]; show (if Op.bytesLess (rd_T59 l (j : Int)).f0.toList (rd_T59 l ((j + 1 : Nat) : Int)).f0.toList = true then _ else _) = true ↔ (LtN _ _ ∧ _)
      unfold LtN at *; by_cases hc : Op.bytesLess (rd_T59 l (j : Int)).f0.toList (rd_T59 l ((j + 1 : Nat) : Int)).f0.toList = true
      · rw [if_pos hc]
        simp only [hc, true_and]; exact this
      · rw [if_neg hc]
        simp only [Bool.false_eq_true, false_iff, not_and]; exact fun h => absurd h hc
theorem rising_iff (l : List S59) : risingF l l.length 1 = true ↔ l.Pairwise LtN := by
  have := rising_drop l l.length 0 l.length (by omega) (by omega); simpa using this
def rightB (l : List S59) : Bool := l.all (fun x => fineB x.f0 x.f1) && decide (l.length ≤ 32) && risingF l l.length 1
def RightP (l : List S59) : Prop := (∀ x ∈ l, fineB x.f0 x.f1 = true) ∧ l.length ≤ 32 ∧ l.Pairwise LtN
theorem rightB_iff (l : List S59) : rightB l = true ↔ RightP l := by
  unfold rightB RightP; rw [Bool.and_eq_true, Bool.and_eq_true, rising_iff, List.all_eq_true, decide_eq_true_iff, and_assoc]
theorem right_l (l0 l : List S59) (h0 : l.length ≤ 9223372036854775807) (h1 : l0.length ≤ 9223372036854775807) : ∀ (n j k : Nat), j + n = l.length → n + 70 ≤ k → labels_Right.l0 k l0 l (l.length : Int) (j : Int) = some ((l.drop j).all (fun x => fineB x.f0 x.f1) && decide (l0.length ≤ 32) && risingF l0 l0.length 1) := by
  intro n
  induction n with
  | zero =>
    intro j k hj hk; obtain ⟨k, rfl⟩ : ∃ n, k = n + 1 := ⟨k - 1, by omega⟩; simp only [labels_Right.l0]; rw [if_neg (by omega), List.drop_eq_nil_of_le (by omega)]; by_cases h : l0.length ≤ 32
    · rw [if_pos (by omega)]
      unfold api_Label_string_66.f; rw [if_pos h1]; simp [h]
    · rw [if_neg (by omega)]
      simp [h]
  | succ n ih =>
    intro j k hj hk; obtain ⟨k, rfl⟩ : ∃ n, k = n + 1 := ⟨k - 1, by omega⟩; simp only [labels_Right.l0]; rw [if_pos (by omega), if_pos (by omega), if_pos (by omega), fine_f _ _ k (by omega), rd59_drop (l := l) (j := j) (by omega), wrap64_in (by omega)]; simp only [Option.bind_some, List.all_cons]
    cases h : fineB (rd_T59 l (j : Int)).f0 (rd_T59 l (j : Int)).f1
    · simp
    · rw [if_pos rfl]
      rw [show ((j : Int) + 1) = ((j + 1 : Nat) : Int) by omega, ih (j + 1) k (by omega) (by omega)]; simp
theorem right_f (l : List S59) (h0 : l.length ≤ 9223372036854775807) (k : Nat) (hk : l.length + 70 ≤ k) : labels_Right.f k l = some (rightB l) := by
  have := right_l l l h0 h0 l.length 0 k (by omega) hk; rw [show ((0 : Nat) : Int) = 0 from rfl] at this; unfold labels_Right.f rightB; rw [this]; simp
def hasN (l : List S59) (nm : List UInt8) : Bool := l.any (fun x => x.f0.toList == nm)
theorem hasN_iff (l : List S59) (nm : List UInt8) : hasN l nm = true ↔ ∃ x ∈ l, x.f0.toList = nm := by
  simp [hasN]
theorem sortN_perm (l : List S59) : (sortN l).Perm l := by
  have h := (Go.Sort.pdq_sorts (Go.Proofs.ltOf cmpName) swoName l.toArray 0 l.length (Lib.bitLen l.length) true true (Nat.zero_le _) (by simp) (Or.inl rfl)).1; have h1 := h.1; have h2 := h.2.2; unfold sortN; have e : ∀ (a : Array S59) (n : Nat), a.size = n → a.extract 0 n = a := fun a n hn => by subst hn; simp
  rw [e _ _ (by simpa using h1), e _ _ (by simp)] at h2; simpa using h2
theorem sortN_sorted (l : List S59) : (sortN l).Pairwise (fun x y => Op.bytesLess y.f0.toList x.f0.toList = false) := by
  have h := Go.Sort.pdq_sorts (Go.Proofs.ltOf cmpName) swoName l.toArray 0 l.length (Lib.bitLen l.length) true true (Nat.zero_le _) (by simp) (Or.inl rfl); have h1 := h.1.1; have h2 := h.2; rw [List.pairwise_iff_getElem]; intro i j hi hj hij; have hs : (sortN l).length = l.length := by simpa [sortN] using h1
  have := h2 i j (Nat.zero_le _) hij (by omega); rw [cmpName_lt] at this; unfold sortN at hi hj ⊢; rw [Array.getElem_toList, Array.getElem_toList, ← getElem!_pos, ← getElem!_pos]; exact this
def NamesApart (l : List S59) : Prop := l.Pairwise (fun x y => x.f0.toList ≠ y.f0.toList)
theorem NamesApart.perm {l l' : List S59} (h : NamesApart l) (hp : l'.Perm l) : NamesApart l' := List.Pairwise.perm h hp.symm (fun h => Ne.symm h)
theorem apart_of_lt {l : List S59} (h : l.Pairwise LtN) : NamesApart l := h.imp fun h => h.ne
theorem sortN_lt (l : List S59) (h : NamesApart l) : (sortN l).Pairwise LtN := by
  have h1 := sortN_sorted l; have h2 := h.perm (sortN_perm l); refine (h1.and h2).imp ?_; rintro a b ⟨g1, g2⟩; unfold LtN; by_cases e : Op.bytesLess a.f0.toList b.f0.toList = true
  · exact e
  · exact absurd (bl_total _ _ (by simpa using e) g1) g2
theorem eq_of_lt {l l' : List S59} (h : l.Pairwise LtN) (h' : l'.Pairwise LtN) (hp : l.Perm l') : l = l' :=
  List.Perm.eq_of_pairwise (fun a b _ _ h1 h2 => (h1.asymm h2).elim) h h' hp
theorem eq_of_mem {l l' : List S59} (h : l.Pairwise LtN) (h' : l'.Pairwise LtN) (hm : ∀ x, x ∈ l ↔ x ∈ l') : l = l' :=
  eq_of_lt h h' ((List.perm_ext_iff_of_nodup (h.imp fun h e => by subst e; exact h.irrefl) (h'.imp fun h e => by subst e; exact h.irrefl)).2 hm)
theorem RightP.apart {l : List S59} (h : RightP l) : NamesApart l := apart_of_lt h.2.2
theorem lexL_same (l : List S59) : lexL cmpS l l = 0 := (lexL_cmp cmpS_cmp).refl l
theorem same_self (l : List S59) (h0 : l.length ≤ 9223372036854775807) (k : Nat) (hk : 2 * l.length + 4 ≤ k) : abacusref12_Same.f k l l = some true := by
  rw [same_f l l h0 k hk, lexL_same]; rfl
end Go.Proofs.YtogegkfefpgbcaaDoor.PL
