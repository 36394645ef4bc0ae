/- A row of operations as the document has them, eight cells each. -/
import Derived.Test.YtigacfgoldnoiaaDoorL1
namespace Go.Proofs.YtigacfgoldnoiaaDoor
open Go Go.RowKit
set_option linter.unusedVariables false
set_option linter.unusedSimpArgs false

def Un.list (u : Un) : List Value := [.int .u8 u.kind, .int .i64 u.worker, .int .i64 u.at', .int .u64 u.saw, .int .u64 u.hand, .int .u64 u.sum, .bool u.ended, .int .i64 u.ans]
def ucl (us : List Un) : List Value := us.flatMap Un.list
theorem ucl_snoc (us : List Un) (u : Un) : ucl us ++ u.list = ucl (us ++ [u]) := by simp [ucl]
theorem ucl_length (us : List Un) : (ucl us).length = us.length * 8 := by
  induction us with
  | nil => rfl
  | cons u us ih =>
    simp only [ucl, List.flatMap_cons, List.length_append, List.length_cons] at ih ⊢
    rw [ih]
    simp only [Un.list, List.length_cons, List.length_nil]
    omega
theorem ucl_at (us : List Un) (k j : Nat) (u : Un) (v : Value) (h : us[k]? = some u) (hv : u.list[j]? = some v) : (ucl us)[k * 8 + j]? = some v := by
  induction us generalizing k with
  | nil => simp at h
  | cons a us ih =>
    have hj : j < 8 := by
      have := (List.getElem?_eq_some_iff.1 hv).1
      simpa [Un.list] using this
    have hal : a.list.length = 8 := rfl
    simp only [ucl, List.flatMap_cons]
    cases k with
    | zero =>
      simp only [List.getElem?_cons_zero, Option.some.injEq] at h
      subst h
      rw [List.getElem?_append_left (by omega), Nat.zero_mul, Nat.zero_add]
      exact hv
    | succ k =>
      simp only [List.getElem?_cons_succ] at h
      rw [List.getElem?_append_right (by omega), show (k + 1) * 8 + j - a.list.length = k * 8 + j by omega]
      exact ih k h
theorem ucl_set (us : List Un) (k : Nat) (u' : Un) (hk : k < us.length) :
    ((((((((ucl us).set (k * 8) (.int .u8 u'.kind)).set (k * 8 + 1) (.int .i64 u'.worker)).set (k * 8 + 2) (.int .i64 u'.at')).set (k * 8 + 3) (.int .u64 u'.saw)).set (k * 8 + 4) (.int .u64 u'.hand)).set (k * 8 + 5) (.int .u64 u'.sum)).set (k * 8 + 6) (.bool u'.ended)).set (k * 8 + 7) (.int .i64 u'.ans) = ucl (us.set k u') := by
  induction us generalizing k with
  | nil => simp at hk
  | cons a us ih =>
    cases k with
    | zero => simp [ucl, Un.list]
    | succ k =>
      have h := ih k (by simpa using hk)
      have e : ∀ j, (k + 1) * 8 + j = k * 8 + j + 8 := fun j => by omega
      have e0 : (k + 1) * 8 = k * 8 + 8 := by omega
      simp only [ucl, List.flatMap_cons, List.set_cons_succ] at h ⊢
      rw [← h]
      simp only [e0, e, Un.list, List.cons_append, List.nil_append]
      simp only [show ∀ x : Nat, x + 8 = x + 1 + 1 + 1 + 1 + 1 + 1 + 1 + 1 from fun x => rfl, List.set_cons_succ]

/-- The own row's block, cell by cell. -/
theorem own_put1 {w : World} {base e size n g cap : Nat} {xs : List Value} {i : Nat} {u : Value} (h : w.ownsRow base e size (.slice (some ⟨g, 0, none⟩) n cap) n xs) (hi : i < n * size) :
    (w.setCell ⟨g, i, none⟩ u).ownsRow base e size (.slice (some ⟨g, 0, none⟩) n cap) n (xs.set i u) := by
  refine ⟨by simpa using h.1, ?_⟩
  rcases h.2 with ⟨h1, _⟩ | ⟨g', cap', cur, h1, hb, hh, hnc, hcm, hs, ht⟩
  · cases h1
  · simp only [Value.slice.injEq, Option.some.injEq, Addr.mk.injEq, and_true, true_and] at h1
    obtain ⟨rfl, rfl⟩ := h1
    refine .inr ⟨g, cap, cur.setIfInBounds i u, rfl, hb, Has.put (g := g) hh i _, hnc, hcm, by simpa using hs, ?_⟩
    rw [Array.toList_setIfInBounds, List.take_set, ht]

theorem own_put8 {w : World} {base m g cap k : Nat} {us : List Un} (h : w.ownsRow base 41 8 (.slice (some ⟨g, 0, none⟩) m cap) m (ucl us)) (hl : us.length = m) (hk : k < m) (u' : Un) :
    ((((((((w.setCell ⟨g, k * 8, none⟩ (.int .u8 u'.kind)).setCell ⟨g, k * 8 + 1, none⟩ (.int .i64 u'.worker)).setCell ⟨g, k * 8 + 2, none⟩ (.int .i64 u'.at')).setCell ⟨g, k * 8 + 3, none⟩ (.int .u64 u'.saw)).setCell ⟨g, k * 8 + 4, none⟩ (.int .u64 u'.hand)).setCell ⟨g, k * 8 + 5, none⟩ (.int .u64 u'.sum)).setCell ⟨g, k * 8 + 6, none⟩ (.bool u'.ended)).setCell ⟨g, k * 8 + 7, none⟩ (.int .i64 u'.ans)).ownsRow base 41 8 (.slice (some ⟨g, 0, none⟩) m cap) m (ucl (us.set k u')) := by
  rw [← ucl_set us k u' (by omega)]
  exact own_put1 (own_put1 (own_put1 (own_put1 (own_put1 (own_put1 (own_put1 (own_put1 h (by omega)) (by omega)) (by omega)) (by omega)) (by omega)) (by omega)) (by omega)) (by omega)

theorem info41 : (Tryd.prog.info? 41).map (fun i => (i.zero, i.size, i.bytes)) = some (some (.agg #[.int .u8 0, .int .i64 0, .int .i64 0, .int .u64 0, .int .u64 0, .int .u64 0, .bool false, .int .i64 0]), 8, 64) := by kernel_rfl
theorem cell_list_new (w : World) (t : TypeId) (xs : List Value) (j : Nat) (u : Value) (hj : xs[j]? = some u) : (w.alloc (.cells xs.toArray t)).cell? ((⟨w.heap.size, 0, none⟩ : Addr).add j) = some u := by
  have h := (Has.new w t xs.toArray).cell j
  have e : (⟨w.heap.size, 0, none⟩ : Addr).add j = ⟨w.heap.size, j, none⟩ := by
    rw [Go.WideShapes.add_plain, Nat.zero_add]
  rw [e, h]
  simpa using hj
/-- Each operation stands where the machine's does. -/
def Sims (ps : List Pn) (us : List Un) : Prop := us.length = ps.length ∧ ∀ (k : Nat) (p : Pn) (u : Un), ps[k]? = some p → us[k]? = some u → Sim p u
theorem Sims.set {ps : List Pn} {us : List Un} {k : Nat} {p : Pn} {u : Un} (h : Sims ps us) (hs : Sim p u) : Sims (ps.set k p) (us.set k u) := by
  refine ⟨by simp [h.1], fun j q v hq hv => ?_⟩
  by_cases e : k = j
  · subst e
    have h1 : k < ps.length := by have := (List.getElem?_eq_some_iff.1 hq).1; simpa using this
    rw [List.getElem?_set_self h1] at hq
    rw [List.getElem?_set_self (by rw [h.1]; exact h1)] at hv
    cases hq
    cases hv
    exact hs
  · rw [List.getElem?_set_ne e] at hq hv
    exact h.2 j q v hq hv
theorem Sims.snoc {ps : List Pn} {us : List Un} {p : Pn} {u : Un} (h : Sims ps us) (hs : Sim p u) : Sims (ps ++ [p]) (us ++ [u]) := by
  refine ⟨by simp [h.1], fun j q v hq hv => ?_⟩
  rw [List.getElem?_append] at hq hv
  rw [h.1] at hv
  split at hq
  · rename_i hlt
    rw [if_pos hlt] at hv
    exact h.2 j q v hq hv
  · rename_i hge
    rw [if_neg hge] at hv
    have h0 : j - ps.length = 0 := by
      rcases Nat.eq_zero_or_pos (j - ps.length) with h0 | h0
      · exact h0
      · rw [List.getElem?_eq_none (by simp; omega)] at hq; cases hq
    rw [h0] at hq hv
    cases hq
    cases hv
    exact hs
theorem st_sim (k x : Nat) (hk1 : 1 ≤ k) (hk3 : k ≤ 3) : Sim (st k x) ⟨k, x, 0, 0, 0, 0, false, 0⟩ := by
  have : k = 1 ∨ k = 2 ∨ k = 3 := by omega
  rcases this with rfl | rfl | rfl <;> simp [Sim, st]
theorem rightB_good {n k x : Nat} (hk1 : 1 ≤ k) (hk3 : k ≤ 3) (hx : x < n) (h0 : k = 3 → x = 0) : rightB n k x = true := by
  simp [rightB]
  omega
theorem rightB_bad {n : Nat} {kind worker : Int} (h : ¬ ((kind = 1 ∨ kind = 2) ∧ 0 ≤ worker ∧ worker < n ∨ kind = 3 ∧ worker = 0)) : rightB n kind worker = false := by
  simp only [rightB, decide_eq_false_iff_not]
  exact h
end Go.Proofs.YtigacfgoldnoiaaDoor
