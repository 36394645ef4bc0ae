/- The machine of an operation in plain terms: nothing is lost, its bounds are kept, alone it ends. -/
import Derived.Test.YtigacfgoldnoiaaDoorA9
namespace Go.Proofs.YtigacfgoldnoiaaDoor
open Go.RowKit
set_option linter.unusedVariables false
set_option linter.unusedSimpArgs false

theorem sum_set (l : List Nat) (i v : Nat) (h : i < l.length) : (l.set i v).sum + l.getD i 0 = l.sum + v := by
  induction l generalizing i with
  | nil => simp at h
  | cons a l ih =>
    cases i with
    | zero => simp; omega
    | succ i =>
      have := ih i (by simpa using h)
      simp only [List.set_cons_succ, List.sum_cons, List.getD_cons_succ]
      omega
theorem getD_le_sum (l : List Nat) (i : Nat) : l.getD i 0 ≤ l.sum := by
  induction l generalizing i with
  | nil => simp
  | cons a l ih =>
    cases i with
    | zero => simp
    | succ i =>
      have := ih i
      simp only [List.sum_cons, List.getD_cons_succ]
      omega
theorem getD_set (l : List Nat) (i j v : Nat) (h : i < l.length) : (l.set i v).getD j 0 = if i = j then v else l.getD j 0 := by
  simp only [List.getD, List.getElem?_set]
  split <;> simp_all

/-- What an operation has in hand. -/
def Nx.hand : Nx → Nat
  | .keep b => b
  | .give x => x
  | _ => 0
/-- What an operation has taken by its last action. -/
def took (p p' : Pn) : Nat := if p'.nx.ended then (match p.nx with | .use => 1 | .borrow => 1 | .keep _ => 1 | _ => 0) else 0

/-- What holds of an operation by itself, where no cell has more than m. -/
def Loc (n m : Nat) (p : Pn) : Prop :=
  1 ≤ p.own ∧ p.own ≤ n ∧
  match p.nx with
  | .use => 1 ≤ p.saw ∧ p.saw ≤ m
  | .borrow => 1 ≤ p.saw ∧ p.saw ≤ m
  | .keep b => 1 ≤ b
  | .give x => 1 ≤ x
  | .sum => p.left ≤ n ∧ p.ans ≤ p.left * m
  | _ => True

theorem Loc.wf {batch n m : Nat} {l : List Nat} {p : Pn} (h : Loc n m p) (hb : 1 ≤ batch) (hn : n ≤ 64) (hm : m ≤ 1099511627776) (hs : l.sum + p.nx.hand ≤ m) : Wf batch n l p := by
  have hl : ∀ i, l.getD i 0 ≤ 1099511627776 := fun i => by have := getD_le_sum l i; omega
  obtain ⟨nx, own, saw, left, ans⟩ := p
  obtain ⟨h1, h2, h3⟩ := h
  refine ⟨hb, hn, h2, hl, ?_⟩
  cases nx with
  | use => simp only at h3 ⊢; omega
  | borrow => simp only at h3 ⊢; omega
  | keep b => simp only [Nx.hand] at h3 hs ⊢; have := getD_le_sum l own; omega
  | give x => simp only [Nx.hand] at h3 hs ⊢; have := getD_le_sum l 0; omega
  | sum =>
    simp only at h3 ⊢
    have := getD_le_sum l left
    have h4 : left * m ≤ 64 * 1099511627776 := Nat.mul_le_mul (by omega) hm
    simp only [Nx.hand] at hs
    omega
  | fin => trivial
  | look => trivial
  | pool => trivial
  | empty => trivial

theorem qstep_length (batch n : Nat) (l : List Nat) (p : Pn) : (qstep batch n l p).1.length = l.length := by
  obtain ⟨nx, own, saw, left, ans⟩ := p
  cases nx <;> simp only [qstep] <;> (repeat' split) <;> simp

theorem qstep_own (batch n : Nat) (l : List Nat) (p : Pn) : (qstep batch n l p).2.1.own = p.own := by
  obtain ⟨nx, own, saw, left, ans⟩ := p
  cases nx <;> simp only [qstep] <;> (repeat' split) <;> rfl

/-- Nothing is lost, nothing comes twice. -/
theorem qstep_total (batch n m : Nat) (l : List Nat) (p : Pn) (hl : l.length = n + 1) (h : Loc n m p) (hb : 1 ≤ batch) :
    (qstep batch n l p).1.sum + (qstep batch n l p).2.1.nx.hand + took p (qstep batch n l p).2.1 = l.sum + p.nx.hand := by
  obtain ⟨nx, own, saw, left, ans⟩ := p
  obtain ⟨h1, h2, h3⟩ := h
  simp only at h1 h2
  have so := fun v => sum_set l own v (by omega)
  have s0 := fun v => sum_set l 0 v (by omega)
  cases nx with
  | fin => simp only [qstep, took, Nx.hand, Nx.ended, if_true, Nat.add_zero]
  | look => simp only [qstep]; split <;> simp only [took, Nx.hand, Nx.ended, Bool.false_eq_true, if_false, Nat.add_zero]
  | use =>
    simp only at h3
    simp only [qstep]
    split
    · rename_i hx
      have := so (saw - 1)
      simp only [took, Nx.hand, Nx.ended, if_true]
      omega
    · simp only [took, Nx.hand, Nx.ended, Bool.false_eq_true, if_false, Nat.add_zero]
  | pool => simp only [qstep]; split <;> simp only [took, Nx.hand, Nx.ended, Bool.false_eq_true, if_false, if_true, Nat.add_zero]
  | borrow =>
    simp only at h3
    have := s0 (saw - min batch saw)
    simp only [qstep]
    split
    · split <;> simp only [took, Nx.hand, Nx.ended, Bool.false_eq_true, if_false, if_true] <;> omega
    · simp only [took, Nx.hand, Nx.ended, Bool.false_eq_true, if_false, Nat.add_zero]
  | keep b =>
    have := so (l.getD own 0 + (b - 1))
    simp only at h3
    simp only [qstep, took, Nx.hand, Nx.ended, if_true]
    omega
  | empty =>
    have := so 0
    simp only [qstep]
    split <;> simp only [took, Nx.hand, Nx.ended, Bool.false_eq_true, if_false, if_true] <;> omega
  | give x =>
    have := s0 (l.getD 0 0 + x)
    simp only [qstep, took, Nx.hand, Nx.ended, if_true]
    omega
  | sum => simp only [qstep]; split <;> simp only [took, Nx.hand, Nx.ended, Bool.false_eq_true, if_false, if_true, Nat.add_zero]

theorem qstep_loc (batch n m : Nat) (l : List Nat) (p : Pn) (h : Loc n m p) (hb : 1 ≤ batch) (hs : l.sum ≤ m) : Loc n m (qstep batch n l p).2.1 := by
  obtain ⟨nx, own, saw, left, ans⟩ := p
  obtain ⟨h1, h2, h3⟩ := h
  simp only at h1 h2
  have hle := fun i => getD_le_sum l i
  cases nx with
  | fin => exact ⟨h1, h2, trivial⟩
  | look =>
    have := hle own
    simp only [qstep]
    split
    · exact ⟨h1, h2, by simp only; omega, by simp only; omega⟩
    · exact ⟨h1, h2, trivial⟩
  | use => simp only [qstep]; split <;> exact ⟨h1, h2, trivial⟩
  | pool =>
    have := hle 0
    simp only [qstep]
    split
    · exact ⟨h1, h2, by simp only; omega, by simp only; omega⟩
    · exact ⟨h1, h2, trivial⟩
  | borrow =>
    simp only at h3
    simp only [qstep]
    split
    · split
      · exact ⟨h1, h2, trivial⟩
      · exact ⟨h1, h2, by simp only; omega⟩
    · exact ⟨h1, h2, trivial⟩
  | keep b => exact ⟨h1, h2, trivial⟩
  | empty =>
    simp only [qstep]
    split
    · exact ⟨h1, h2, trivial⟩
    · exact ⟨h1, h2, by simp only; omega⟩
  | give x => exact ⟨h1, h2, trivial⟩
  | sum =>
    simp only at h3
    have := hle left
    simp only [qstep]
    split
    · exact ⟨h1, h2, trivial⟩
    · refine ⟨h1, h2, by simp only; omega, ?_⟩
      simp only [Nat.add_mul]
      omega

/-- So many actions, or fewer where it has ended. -/
def qiter (batch n : Nat) : Nat → List Nat → Pn → List Nat × Pn
  | 0, l, p => (l, p)
  | k + 1, l, p => if p.nx.ended then (l, p) else qiter batch n k (qstep batch n l p).1 (qstep batch n l p).2.1

/-- Alone, nothing changes between two actions. -/
def Still (l : List Nat) (p : Pn) : Prop :=
  match p.nx with
  | .use => l.getD p.own 0 = p.saw
  | .borrow => l.getD 0 0 = p.saw
  | _ => True
/-- How many actions are left at the most, alone. -/
def toGo (n : Nat) (p : Pn) : Nat :=
  match p.nx with
  | .fin => 0 | .look => 5 | .use => 1 | .pool => 3 | .borrow => 2 | .keep _ => 1 | .empty => 2 | .give _ => 1 | .sum => n + 1 - p.left
theorem qstep_still (batch n : Nat) (l : List Nat) (p : Pn) (h : Still l p) (hl : p.nx = .sum → p.left ≤ n) (he : p.nx.ended = false) :
    Still (qstep batch n l p).1 (qstep batch n l p).2.1 ∧ toGo n (qstep batch n l p).2.1 < toGo n p := by
  obtain ⟨nx, own, saw, left, ans⟩ := p
  cases nx with
  | fin => simp [Nx.ended] at he
  | look => simp only [qstep]; split <;> exact ⟨by first | rfl | trivial, by simp [toGo]⟩
  | use => simp only [Still] at h; simp only [qstep, if_pos h]; exact ⟨trivial, by simp [toGo]⟩
  | pool => simp only [qstep]; split <;> exact ⟨by first | rfl | trivial, by simp [toGo]⟩
  | borrow => simp only [Still] at h; simp only [qstep, if_pos h]; split <;> exact ⟨trivial, by simp [toGo]⟩
  | keep b => exact ⟨trivial, by simp [qstep, toGo]⟩
  | empty => simp only [qstep]; split <;> exact ⟨trivial, by simp [toGo]⟩
  | give x => exact ⟨trivial, by simp [qstep, toGo]⟩
  | sum =>
    have hl' := hl rfl
    simp only at hl'
    simp only [qstep]
    split <;> refine ⟨trivial, ?_⟩ <;> simp only [toGo] <;> omega

theorem qiter_ended (batch n k : Nat) (l : List Nat) (p : Pn) (h : p.nx.ended = true) : qiter batch n k l p = (l, p) := by
  cases k <;> simp [qiter, h]
theorem qiter_succ (batch n k : Nat) (l : List Nat) (p : Pn) (h : p.nx.ended = false) : qiter batch n (k + 1) l p = qiter batch n k (qstep batch n l p).1 (qstep batch n l p).2.1 := by
  simp [qiter, h]

/-- Alone it ends. -/
theorem qiter_ends (batch n m : Nat) : ∀ (k : Nat) (l : List Nat) (p : Pn), Still l p → Loc n m p → 1 ≤ batch → l.length = n + 1 → l.sum + p.nx.hand ≤ m → toGo n p ≤ k → (qiter batch n k l p).2.nx.ended = true := by
  intro k
  induction k with
  | zero =>
    intro l p _ hloc _ _ _ hk
    obtain ⟨nx, own, saw, left, ans⟩ := p
    cases nx with
    | fin => rfl
    | sum => have := hloc.2.2.1; simp only [toGo] at hk this; omega
    | _ => simp [toGo] at hk
  | succ k ih =>
    intro l p hs hloc hb hl ht hk
    cases he : p.nx.ended with
    | true => rw [qiter_ended _ _ _ _ _ he]; exact he
    | false =>
      rw [qiter_succ _ _ _ _ _ he]
      have hsum : p.nx = .sum → p.left ≤ n := fun e => by have := hloc.2.2; rw [e] at this; exact this.1
      obtain ⟨h1, h2⟩ := qstep_still batch n l p hs hsum he
      have htot := qstep_total batch n m l p hl hloc hb
      exact ih _ _ h1 (qstep_loc batch n m l p hloc hb (by omega)) hb (by rw [qstep_length, hl]) (by omega) (by omega)
end Go.Proofs.YtigacfgoldnoiaaDoor
