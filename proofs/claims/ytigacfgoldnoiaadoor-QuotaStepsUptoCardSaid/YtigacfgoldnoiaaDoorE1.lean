/- The plain calls one behind the other, in plain terms. -/
import Derived.Test.YtigacfgoldnoiaaDoorD1
namespace Go.Proofs.YtigacfgoldnoiaaDoor
open Go.RowKit
set_option linter.unusedVariables false
set_option linter.unusedSimpArgs false

theorem qi_go (batch n k : Nat) (l : List Nat) (p : Pn) (he : p.nx.ended = false) : qiter batch n (k + 1) l p = qiter batch n k (qstep batch n l p).1 (qstep batch n l p).2.1 := qiter_succ _ _ _ _ _ he

theorem set_other (l : List Nat) (i j v : Nat) (h : j ≠ i) : (l.set i v).getD j 0 = l.getD j 0 := by
  simp only [List.getD, List.getElem?_set]
  split <;> simp_all
theorem set_here (l : List Nat) (i v : Nat) (h : i < l.length) : (l.set i v).getD i 0 = v := by
  simp [List.getD, List.getElem?_set, h]

/-- A Take alone: refused where its worker and the pool have nothing; else one is gone, and only the worker's cell and the pool's have turned. -/
theorem qtake_cases (batch n : Nat) (l : List Nat) (worker : Nat) (hb : 1 ≤ batch) (hl : l.length = n + 1) (hw : worker < n) :
    ((qtake batch n l worker).2.ans = 0 ∧ (qtake batch n l worker).1 = l ∧ l.getD (worker + 1) 0 = 0 ∧ l.getD 0 0 = 0) ∨
    ((qtake batch n l worker).2.ans = 1 ∧ (qtake batch n l worker).1.sum + 1 = l.sum ∧ (qtake batch n l worker).1.length = n + 1 ∧ ∀ j, j ≠ 0 → j ≠ worker + 1 → (qtake batch n l worker).1.getD j 0 = l.getD j 0) := by
  have so := fun v => sum_set l (worker + 1) v (by omega)
  have s0 := fun v => sum_set l 0 v (by omega)
  unfold qtake
  rw [qi_go _ _ _ _ _ rfl]
  by_cases hx : 0 < l.getD (worker + 1) 0
  · right
    have e1 : qstep batch n l ⟨.look, worker + 1, 0, 0, 0⟩ = (l, ⟨.use, worker + 1, l.getD (worker + 1) 0, 0, 0⟩, ⟨1, worker + 1, l.getD (worker + 1) 0, l.getD (worker + 1) 0, true⟩) := by simp only [qstep, if_pos hx]
    rw [e1]
    simp only
    rw [qi_go _ _ _ _ _ rfl]
    have e2 : qstep batch n l ⟨.use, worker + 1, l.getD (worker + 1) 0, 0, 0⟩ = (l.set (worker + 1) (l.getD (worker + 1) 0 - 1), ⟨.fin, worker + 1, l.getD (worker + 1) 0, 0, 1⟩, ⟨5, worker + 1, l.getD (worker + 1) 0, l.getD (worker + 1) 0 - 1, true⟩) := by simp only [qstep, if_true]
    rw [e2, qiter_ended _ _ _ _ _ rfl]
    have := so (l.getD (worker + 1) 0 - 1)
    exact ⟨rfl, by simp only; omega, by simp [hl], fun j _ hj => set_other _ _ _ _ hj⟩
  · have e1 : qstep batch n l ⟨.look, worker + 1, 0, 0, 0⟩ = (l, ⟨.pool, worker + 1, l.getD (worker + 1) 0, 0, 0⟩, ⟨1, worker + 1, l.getD (worker + 1) 0, l.getD (worker + 1) 0, true⟩) := by simp only [qstep, if_neg hx]
    rw [e1]
    simp only
    rw [qi_go _ _ _ _ _ rfl]
    by_cases hp : 0 < l.getD 0 0
    · right
      have e2 : qstep batch n l ⟨.pool, worker + 1, l.getD (worker + 1) 0, 0, 0⟩ = (l, ⟨.borrow, worker + 1, l.getD 0 0, 0, 0⟩, ⟨1, 0, l.getD 0 0, l.getD 0 0, true⟩) := by simp only [qstep, if_pos hp]
      rw [e2]
      simp only
      rw [qi_go _ _ _ _ _ rfl]
      have hs := s0 (l.getD 0 0 - min batch (l.getD 0 0))
      by_cases hm : min batch (l.getD 0 0) = 1
      · have e3 : qstep batch n l ⟨.borrow, worker + 1, l.getD 0 0, 0, 0⟩ = (l.set 0 (l.getD 0 0 - min batch (l.getD 0 0)), ⟨.fin, worker + 1, l.getD 0 0, 0, 1⟩, ⟨5, 0, l.getD 0 0, l.getD 0 0 - min batch (l.getD 0 0), true⟩) := by simp only [qstep, if_true, if_pos hm]
        rw [e3, qiter_ended _ _ _ _ _ rfl]
        exact ⟨rfl, by simp only; omega, by simp [hl], fun j hj _ => set_other _ _ _ _ hj⟩
      · have e3 : qstep batch n l ⟨.borrow, worker + 1, l.getD 0 0, 0, 0⟩ = (l.set 0 (l.getD 0 0 - min batch (l.getD 0 0)), ⟨.keep (min batch (l.getD 0 0)), worker + 1, l.getD 0 0, 0, 0⟩, ⟨5, 0, l.getD 0 0, l.getD 0 0 - min batch (l.getD 0 0), true⟩) := by simp only [qstep, if_true, if_neg hm]
        rw [e3]
        simp only
        rw [qi_go _ _ _ _ _ rfl]
        obtain ⟨l2, hl2⟩ : ∃ l2, l2 = l.set 0 (l.getD 0 0 - min batch (l.getD 0 0)) := ⟨_, rfl⟩
        have h2 : l2.length = n + 1 := by rw [hl2]; simp [hl]
        have h3 : ∀ j, j ≠ 0 → l2.getD j 0 = l.getD j 0 := fun j hj => by rw [hl2]; exact set_other _ _ _ _ hj
        rw [← hl2] at hs ⊢
        have s2 := sum_set l2 (worker + 1) (l2.getD (worker + 1) 0 + (min batch (l.getD 0 0) - 1)) (by omega)
        have e4 : ∀ b, qstep batch n l2 ⟨.keep b, worker + 1, l.getD 0 0, 0, 0⟩ = (l2.set (worker + 1) (l2.getD (worker + 1) 0 + (b - 1)), ⟨.fin, worker + 1, l.getD 0 0, 0, 1⟩, ⟨3, worker + 1, l2.getD (worker + 1) 0, l2.getD (worker + 1) 0 + (b - 1), true⟩) := fun b => rfl
        rw [e4, qiter_ended _ _ _ _ _ rfl]
        exact ⟨rfl, by simp only; omega, by simp [h2], fun j h0 hj => by rw [set_other _ _ _ _ hj, h3 _ h0]⟩
    · left
      have e2 : qstep batch n l ⟨.pool, worker + 1, l.getD (worker + 1) 0, 0, 0⟩ = (l, ⟨.fin, worker + 1, l.getD 0 0, 0, 0⟩, ⟨1, 0, l.getD 0 0, l.getD 0 0, true⟩) := by simp only [qstep, if_neg hp]
      rw [e2, qiter_ended _ _ _ _ _ rfl]
      exact ⟨rfl, rfl, by omega, by omega⟩

/-- A Back alone: the worker's cell is empty then, and nothing is lost. -/
theorem qback_cases (batch n : Nat) (l : List Nat) (worker : Nat) (hl : l.length = n + 1) (hw : worker < n) :
    (qback batch n l worker).1.sum = l.sum ∧ (qback batch n l worker).1.length = n + 1 ∧ (qback batch n l worker).1.getD (worker + 1) 0 = 0 ∧ ∀ j, j ≠ 0 → j ≠ worker + 1 → (qback batch n l worker).1.getD j 0 = l.getD j 0 := by
  have so := sum_set l (worker + 1) 0 (by omega)
  unfold qback
  rw [qi_go _ _ _ _ _ rfl]
  by_cases hx : l.getD (worker + 1) 0 = 0
  · have e1 : qstep batch n l ⟨.empty, worker + 1, 0, 0, 0⟩ = (l.set (worker + 1) 0, ⟨.fin, worker + 1, 0, 0, 0⟩, ⟨4, worker + 1, l.getD (worker + 1) 0, 0, true⟩) := by simp only [qstep, if_pos hx]
    rw [e1, qiter_ended _ _ _ _ _ rfl]
    exact ⟨by simp only; omega, by simp [hl], set_here _ _ _ (by omega), fun j _ hj => set_other _ _ _ _ hj⟩
  · have e1 : qstep batch n l ⟨.empty, worker + 1, 0, 0, 0⟩ = (l.set (worker + 1) 0, ⟨.give (l.getD (worker + 1) 0), worker + 1, 0, 0, 0⟩, ⟨4, worker + 1, l.getD (worker + 1) 0, 0, true⟩) := by simp only [qstep, if_neg hx]
    rw [e1]
    simp only
    obtain ⟨l2, hl2⟩ : ∃ l2, l2 = l.set (worker + 1) 0 := ⟨_, rfl⟩
    have h2 : l2.length = n + 1 := by rw [hl2]; simp [hl]
    have h3 : ∀ j, j ≠ worker + 1 → l2.getD j 0 = l.getD j 0 := fun j hj => by rw [hl2]; exact set_other _ _ _ _ hj
    have h4 : l2.getD (worker + 1) 0 = 0 := by rw [hl2]; exact set_here _ _ _ (by omega)
    rw [← hl2] at so ⊢
    have s2 := sum_set l2 0 (l2.getD 0 0 + l.getD (worker + 1) 0) (by omega)
    rw [qi_go _ _ _ _ _ rfl]
    have e4 : ∀ x, qstep batch n l2 ⟨.give x, worker + 1, 0, 0, 0⟩ = (l2.set 0 (l2.getD 0 0 + x), ⟨.fin, worker + 1, 0, 0, x⟩, ⟨3, 0, l2.getD 0 0, l2.getD 0 0 + x, true⟩) := fun x => rfl
    rw [e4, qiter_ended _ _ _ _ _ rfl]
    exact ⟨by simp only; omega, by simp [h2], by rw [set_other _ _ _ _ (by omega), h4], fun j h0 hj => by rw [set_other _ _ _ _ h0, h3 _ hj]⟩

theorem sum_drop (l : List Nat) (i : Nat) (h : i < l.length) : l.getD i 0 + (l.drop (i + 1)).sum = (l.drop i).sum := by
  rw [List.drop_eq_getElem_cons h, List.sum_cons]
  simp only [List.getD, List.getElem?_eq_getElem h, Option.getD_some]
theorem qsum_all (batch n : Nat) (l : List Nat) (hl : l.length = n + 1) : ∀ (k left ans : Nat), left + k = n → (qiter batch n (k + 1) l ⟨.sum, 1, 0, left, ans⟩).1 = l ∧ (qiter batch n (k + 1) l ⟨.sum, 1, 0, left, ans⟩).2.ans = ans + (l.drop left).sum := by
  intro k
  induction k with
  | zero =>
    intro left ans h
    have h2 := sum_drop l left (by omega)
    rw [List.drop_eq_nil_of_le (show l.length ≤ left + 1 by omega)] at h2
    rw [qi_go _ _ _ _ _ rfl]
    have e : qstep batch n l ⟨.sum, 1, 0, left, ans⟩ = (l, ⟨.fin, 1, 0, left + 1, ans + l.getD left 0⟩, ⟨1, left, l.getD left 0, l.getD left 0, true⟩) := by simp only [qstep]; rw [if_pos (by omega)]
    rw [e]
    simp only [List.sum_nil] at h2
    exact ⟨rfl, by simp only [qiter]; omega⟩
  | succ k ih =>
    intro left ans h
    have h2 := sum_drop l left (by omega)
    rw [qi_go _ _ _ _ _ rfl]
    have e : qstep batch n l ⟨.sum, 1, 0, left, ans⟩ = (l, ⟨.sum, 1, 0, left + 1, ans + l.getD left 0⟩, ⟨1, left, l.getD left 0, l.getD left 0, true⟩) := by simp only [qstep]; rw [if_neg (by omega)]
    rw [e]
    simp only
    obtain ⟨a, b⟩ := ih (left + 1) (ans + l.getD left 0) (by omega)
    exact ⟨a, by rw [b]; omega⟩
/-- Left alone: what the cells have together; they stay. -/
theorem qleft_eq (batch n : Nat) (l : List Nat) (hl : l.length = n + 1) : (qleft batch n l).1 = l ∧ (qleft batch n l).2.ans = l.sum := by
  have := qsum_all batch n l hl n 0 0 (by omega)
  unfold qleft
  exact ⟨this.1, by rw [this.2]; simp⟩

theorem sum_zero (l : List Nat) (h : ∀ j, l.getD j 0 = 0) : l.sum = 0 ∧ l = List.replicate l.length 0 := by
  induction l with
  | nil => simp
  | cons a l ih =>
    have h0 := h 0
    simp at h0
    obtain ⟨h1, h2⟩ := ih (fun j => by have := h (j + 1); simpa using this)
    subst h0
    refine ⟨by simp [h1], ?_⟩
    rw [h2]
    simp [List.replicate_succ]
end Go.Proofs.YtigacfgoldnoiaaDoor
