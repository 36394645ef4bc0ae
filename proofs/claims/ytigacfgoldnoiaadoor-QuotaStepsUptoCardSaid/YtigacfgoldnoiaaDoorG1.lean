/- QuotaConserved in plain terms: many operations under way, by whatever schedule. -/
import Derived.Test.YtigacfgoldnoiaaDoorF1
namespace Go.Proofs.YtigacfgoldnoiaaDoor
open Go.RowKit
set_option linter.unusedVariables false
set_option linter.unusedSimpArgs false

/-- The states of an operation of a kind: 1 a Take, 2 a Back, 3 a Left. -/
def Kinds (kind : Nat) (p : Pn) : Prop :=
  match p.nx with
  | .look => kind = 1
  | .use => kind = 1
  | .pool => kind = 1
  | .borrow => kind = 1
  | .keep _ => kind = 1
  | .empty => kind = 2
  | .give _ => kind = 2
  | .sum => kind = 3
  | .fin => kind = 1 → p.ans ≤ 1

/-- What an action told of what was borrowed, or emptied. -/
def saysBorrowed (kind : Nat) (d : Dd) : Bool := decide (kind = 1) && decide (d.kind = 5) && decide (d.cell = 0) && d.ok
def saysEmptied (kind : Nat) (d : Dd) : Bool := decide (kind = 2) && decide (d.kind = 4)

theorem kinds_step (batch n m kind : Nat) (l : List Nat) (p : Pn) (hl : l.length = n + 1) (hloc : Loc n m p) (hb : 1 ≤ batch) (hK : Kinds kind p) (he : p.nx.ended = false) :
    Kinds kind (qstep batch n l p).2.1 ∧
    (saysBorrowed kind (qstep batch n l p).2.2 = true → (qstep batch n l p).2.2.put ≤ (qstep batch n l p).2.2.saw ∧ 1 ≤ (qstep batch n l p).2.2.saw - (qstep batch n l p).2.2.put ∧ (qstep batch n l p).2.2.saw - (qstep batch n l p).2.2.put ≤ batch) ∧
    (qstep batch n l p).2.1.nx.hand = (if (qstep batch n l p).2.1.nx.ended then 0 else if saysBorrowed kind (qstep batch n l p).2.2 then (qstep batch n l p).2.2.saw - (qstep batch n l p).2.2.put else if saysEmptied kind (qstep batch n l p).2.2 then (qstep batch n l p).2.2.saw else p.nx.hand) ∧
    took p (qstep batch n l p).2.1 = (if (qstep batch n l p).2.1.nx.ended = true ∧ kind = 1 then (qstep batch n l p).2.1.ans else 0) := by
  obtain ⟨nx, own, saw, left, ans⟩ := p
  obtain ⟨h1, h2, h3⟩ := hloc
  simp only at h1 h2 h3
  have ho : ¬ own = 0 := by omega
  cases nx with
  | fin => cases he
  | look =>
    simp only [Kinds] at hK
    subst hK
    by_cases hx : 0 < l.getD own 0
    · simp only [qstep, if_pos hx]
      simp [Kinds, saysBorrowed, saysEmptied, Nx.hand, Nx.ended, took]
    · simp only [qstep, if_neg hx]
      simp [Kinds, saysBorrowed, saysEmptied, Nx.hand, Nx.ended, took]
  | use =>
    simp only [Kinds] at hK
    subst hK
    by_cases hx : l.getD own 0 = saw
    · simp only [qstep, if_pos hx]
      simp [Kinds, saysBorrowed, saysEmptied, Nx.hand, Nx.ended, took, ho]
    · simp only [qstep, if_neg hx]
      simp [Kinds, saysBorrowed, saysEmptied, Nx.hand, Nx.ended, took, ho]
  | pool =>
    simp only [Kinds] at hK
    subst hK
    by_cases hx : 0 < l.getD 0 0
    · simp only [qstep, if_pos hx]
      simp [Kinds, saysBorrowed, saysEmptied, Nx.hand, Nx.ended, took, ho]
    · simp only [qstep, if_neg hx]
      simp [Kinds, saysBorrowed, saysEmptied, Nx.hand, Nx.ended, took, ho]
  | borrow =>
    simp only [Kinds] at hK
    subst hK
    by_cases hx : l.getD 0 0 = saw
    · by_cases hm : min batch saw = 1
      · simp only [qstep, if_pos hx, if_pos hm]
        simp [Kinds, saysBorrowed, saysEmptied, Nx.hand, Nx.ended, took, ho]
        omega
      · simp only [qstep, if_pos hx, if_neg hm]
        simp [Kinds, saysBorrowed, saysEmptied, Nx.hand, Nx.ended, took, ho]
        omega
    · simp only [qstep, if_neg hx]
      simp [Kinds, saysBorrowed, saysEmptied, Nx.hand, Nx.ended, took, ho]
  | keep b =>
    simp only [Kinds] at hK
    subst hK
    simp only [qstep]
    simp [Kinds, saysBorrowed, saysEmptied, Nx.hand, Nx.ended, took, ho]
  | empty =>
    simp only [Kinds] at hK
    subst hK
    by_cases hx : l.getD own 0 = 0
    · simp only [qstep, if_pos hx]
      simp [Kinds, saysBorrowed, saysEmptied, Nx.hand, Nx.ended, took, ho]
    · simp only [qstep, if_neg hx]
      simp [Kinds, saysBorrowed, saysEmptied, Nx.hand, Nx.ended, took, ho]
  | give x =>
    simp only [Kinds] at hK
    subst hK
    simp only [qstep]
    simp [Kinds, saysBorrowed, saysEmptied, Nx.hand, Nx.ended, took, ho]
  | sum =>
    simp only [Kinds] at hK
    subst hK
    simp only [qstep]
    split <;> simp [Kinds, saysBorrowed, saysEmptied, Nx.hand, Nx.ended, took, ho]

/-- What holds between two actions. -/
structure Kept (batch n limit : Nat) (l : List Nat) (ps : List Pn) (ks : List Nat) (T : Nat) : Prop where
  len : l.length = n + 1
  klen : ks.length = ps.length
  sum : l.sum + (ps.map (·.nx.hand)).sum + T = limit
  each : ∀ k p, ps[k]? = some p → Loc n limit p ∧ Kinds (ks.getD k 0) p

theorem Kept.step {batch n limit : Nat} {l : List Nat} {ps : List Pn} {ks : List Nat} {T k : Nat} {p : Pn} (h : Kept batch n limit l ps ks T) (hb : 1 ≤ batch) (hk : ps[k]? = some p) :
    Kept batch n limit (qstep batch n l p).1 (ps.set k (qstep batch n l p).2.1) ks (T + took p (qstep batch n l p).2.1) ∨ p.nx.ended = true := by
  cases he : p.nx.ended with
  | true => exact .inr rfl
  | false =>
    left
    have hkl : k < ps.length := (List.getElem?_eq_some_iff.1 hk).1
    obtain ⟨hloc, hK⟩ := h.each k p hk
    have st := qstep_total batch n limit l p h.len hloc hb
    have hs := h.sum
    have h1 := sum_set (ps.map (·.nx.hand)) k (qstep batch n l p).2.1.nx.hand (by simpa using hkl)
    have h2 : (ps.map (·.nx.hand)).getD k 0 = p.nx.hand := by simp [List.getD, hk]
    rw [h2] at h1
    obtain ⟨k1, _⟩ := kinds_step batch n limit _ l p h.len hloc hb hK he
    refine ⟨by rw [qstep_length, h.len], by simp [h.klen], ?_, fun j q hj => ?_⟩
    · rw [List.map_set]
      omega
    · by_cases e : k = j
      · subst e
        rw [List.getElem?_set_self hkl] at hj
        obtain rfl := Option.some.inj hj
        exact ⟨qstep_loc batch n limit l p hloc hb (by omega), k1⟩
      · rw [List.getElem?_set_ne e] at hj
        exact h.each j q hj
end Go.Proofs.YtigacfgoldnoiaaDoor
