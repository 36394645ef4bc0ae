/- More of the machine in plain terms: what a run keeps; a Take answers 0 or 1. -/
import Derived.Test.YtigacfgoldnoiaaDoorB4
namespace Go.Proofs.YtigacfgoldnoiaaDoor
open Go.RowKit
set_option linter.unusedVariables false
set_option linter.unusedSimpArgs false

theorem qiter_inv (batch n m : Nat) (hb : 1 ≤ batch) : ∀ (k : Nat) (l : List Nat) (p : Pn), Loc n m p → l.length = n + 1 → l.sum + p.nx.hand ≤ m →
    (qiter batch n k l p).1.length = n + 1 ∧ Loc n m (qiter batch n k l p).2 ∧ (qiter batch n k l p).1.sum + (qiter batch n k l p).2.nx.hand ≤ l.sum + p.nx.hand := by
  intro k
  induction k with
  | zero => intro l p h1 h2 h3; exact ⟨h2, h1, Nat.le_refl _⟩
  | succ k ih =>
    intro l p h1 h2 h3
    cases he : p.nx.ended with
    | true => rw [qiter_ended _ _ _ _ _ he]; exact ⟨h2, h1, Nat.le_refl _⟩
    | false =>
      rw [qiter_succ _ _ _ _ _ he]
      have ht := qstep_total batch n m l p h2 h1 hb
      obtain ⟨a, b, c⟩ := ih (qstep batch n l p).1 (qstep batch n l p).2.1 (qstep_loc batch n m l p h1 hb (by omega)) (by rw [qstep_length, h2]) (by omega)
      exact ⟨a, b, by omega⟩

theorem qiter_stable (batch n : Nat) : ∀ (k j : Nat) (l : List Nat) (p : Pn), (qiter batch n k l p).2.nx.ended = true → k ≤ j → qiter batch n j l p = qiter batch n k l p := by
  intro k
  induction k with
  | zero => intro j l p h _; exact (qiter_ended batch n j l p h)
  | succ k ih =>
    intro j l p h hj
    cases he : p.nx.ended with
    | true => rw [qiter_ended _ _ _ _ _ he, qiter_ended _ _ _ _ _ he]
    | false =>
      obtain ⟨j, rfl⟩ : ∃ i, j = i + 1 := ⟨j - 1, by omega⟩
      rw [qiter_succ _ _ _ _ _ he] at h ⊢
      rw [qiter_succ _ _ _ _ _ he]
      exact ih j _ _ h (by omega)

/-- An operation that is a Take. -/
def Takes (p : Pn) : Prop :=
  match p.nx with
  | .fin => p.ans ≤ 1
  | .look => True | .use => True | .pool => True | .borrow => True | .keep _ => True
  | _ => False
theorem qstep_takes (batch n : Nat) (l : List Nat) (p : Pn) (h : Takes p) : Takes (qstep batch n l p).2.1 := by
  obtain ⟨nx, own, saw, left, ans⟩ := p
  cases nx with
  | fin => exact h
  | look => simp only [qstep]; split <;> trivial
  | use => simp only [qstep]; split <;> first | trivial | exact Nat.le_refl 1
  | pool => simp only [qstep]; split <;> first | trivial | exact Nat.zero_le 1
  | borrow => simp only [qstep]; split <;> (try split) <;> first | trivial | exact Nat.le_refl 1
  | keep b => exact Nat.le_refl 1
  | empty => exact h.elim
  | give x => exact h.elim
  | sum => exact h.elim
theorem qiter_takes (batch n : Nat) : ∀ (k : Nat) (l : List Nat) (p : Pn), Takes p → Takes (qiter batch n k l p).2 := by
  intro k
  induction k with
  | zero => intro l p h; exact h
  | succ k ih =>
    intro l p h
    cases he : p.nx.ended with
    | true => rw [qiter_ended _ _ _ _ _ he]; exact h
    | false => rw [qiter_succ _ _ _ _ _ he]; exact ih _ _ (qstep_takes batch n l p h)

theorem loc_look {n m worker : Nat} (h : worker < n) : Loc n m ⟨.look, worker + 1, 0, 0, 0⟩ := ⟨by simp, by simp only; omega, trivial⟩
theorem loc_empty {n m worker : Nat} (h : worker < n) : Loc n m ⟨.empty, worker + 1, 0, 0, 0⟩ := ⟨by simp, by simp only; omega, trivial⟩
theorem loc_sum {n m : Nat} (h : 0 < n) : Loc n m ⟨.sum, 1, 0, 0, 0⟩ := ⟨by simp, by simp only; omega, by simp, by simp⟩
end Go.Proofs.YtigacfgoldnoiaaDoor
