/- The document's Fits, Right, Cells and Whole. -/
import Derived.Test.YtigacfgoldnoiaaDoorK4
namespace Go.Proofs.YtigacfgoldnoiaaDoor
open Go Go.RowKit
set_option linter.unusedVariables false
set_option linter.unusedSimpArgs false
attribute [local go_sem] World.cell?_alloc_old World.frozen?_alloc_old

set_option maxHeartbeats 1000000 in
set_option maxRecDepth 100000 in
theorem rfits_any (limit batch workers : Int) (w : World) :
    Calls Tryd.prog 12 #[.int .i64 limit, .int .i64 batch, .int .i64 workers] w fun e w' => e = .returned (.bool (fitsB limit batch workers)) ∧ w = w' := by
  unfold fitsB
  by_cases c1 : 0 ≤ limit
  · have d1 : decide (0 ≤ limit) = true := decide_eq_true c1
    by_cases c2 : limit ≤ 1099511627776
    · have d2 : decide (limit ≤ 1099511627776) = true := decide_eq_true c2
      by_cases c3 : 1 ≤ batch
      · have d3 : decide (1 ≤ batch) = true := decide_eq_true c3
        by_cases c4 : batch ≤ 1048576
        · have d4 : decide (batch ≤ 1048576) = true := decide_eq_true c4
          by_cases c5 : 1 ≤ workers
          · have d5 : decide (1 ≤ workers) = true := decide_eq_true c5
            have e0 : decide (0 ≤ limit ∧ limit ≤ 1099511627776 ∧ 1 ≤ batch ∧ batch ≤ 1048576 ∧ 1 ≤ workers ∧ workers ≤ 64) = decide (workers ≤ 64) := by simp [c1, c2, c3, c4, c5]
            rw [e0]
            clear e0
            clear c1 c2 c3 c4 c5
            go_enter Tryd.func12, Tryd.ntmps12
            go_wp2
            go_ret
            exact ⟨rfl, rfl⟩
          · rw [decide_eq_false (fun h => c5 h.2.2.2.2.1)]
            have d5 : decide (1 ≤ workers) = false := decide_eq_false c5
            clear c1 c2 c3 c4 c5
            go_enter Tryd.func12, Tryd.ntmps12
            go_wp2
            go_ret
            exact ⟨rfl, rfl⟩
        · rw [decide_eq_false (fun h => c4 h.2.2.2.1)]
          have d4 : decide (batch ≤ 1048576) = false := decide_eq_false c4
          clear c1 c2 c3 c4
          go_enter Tryd.func12, Tryd.ntmps12
          go_wp2
          go_ret
          exact ⟨rfl, rfl⟩
      · rw [decide_eq_false (fun h => c3 h.2.2.1)]
        have d3 : decide (1 ≤ batch) = false := decide_eq_false c3
        clear c1 c2 c3
        go_enter Tryd.func12, Tryd.ntmps12
        go_wp2
        go_ret
        exact ⟨rfl, rfl⟩
    · rw [decide_eq_false (fun h => c2 h.2.1)]
      have d2 : decide (limit ≤ 1099511627776) = false := decide_eq_false c2
      clear c1 c2
      go_enter Tryd.func12, Tryd.ntmps12
      go_wp2
      go_ret
      exact ⟨rfl, rfl⟩
  · rw [decide_eq_false (fun h => c1 h.1)]
    have d1 : decide (0 ≤ limit) = false := decide_eq_false c1
    clear c1
    go_enter Tryd.func12, Tryd.ntmps12
    go_wp2
    go_ret
    exact ⟨rfl, rfl⟩


/-- Is an operation right? -/
def rightB (n : Nat) (kind worker : Int) : Bool := decide ((kind = 1 ∨ kind = 2) ∧ 0 ≤ worker ∧ worker < n ∨ kind = 3 ∧ worker = 0)
set_option maxHeartbeats 1000000 in
set_option maxRecDepth 100000 in
theorem right_any (n : Nat) (kind worker : Int) (W : World) :
    Calls Tryd.prog 15 #[.int .i64 n, .agg #[.int .u8 kind, .int .i64 worker]] W fun e w' => e = .returned (.bool (rightB n kind worker)) ∧ Moves [] W w' := by
  have fin : ∀ b, rightB n kind worker = b → (∀ e w', (e = Ending.returned (.bool b) ∧ Moves [] W w') → (e = .returned (.bool (rightB n kind worker)) ∧ Moves [] W w')) := fun b h e w' q => by rw [h]; exact q
  by_cases k1 : kind = 1
  · subst k1
    by_cases c0 : 0 ≤ worker
    · have d0 : decide (0 ≤ worker) = true := by simp [c0]
      have hR : rightB n 1 worker = decide (worker < (n : Int)) := by simp [rightB, c0]
      rw [hR]
      clear fin hR
      go_enter Tryd.func15, Tryd.ntmps15
      go_wp2
      go_ret
      exact ⟨rfl, (Moves.refl [] W).alloc _⟩
    · have d0 : decide (0 ≤ worker) = false := by simp; omega
      have hR : rightB n 1 worker = false := by simp [rightB]; omega
      rw [hR]
      clear fin hR c0
      go_enter Tryd.func15, Tryd.ntmps15
      go_wp2
      go_ret
      exact ⟨rfl, (Moves.refl [] W).alloc _⟩
  · have e1 : (kind == 1) = false := by simpa using k1
    by_cases k2 : kind = 2
    · subst k2
      by_cases c0 : 0 ≤ worker
      · have d0 : decide (0 ≤ worker) = true := by simp [c0]
        have hR : rightB n 2 worker = decide (worker < (n : Int)) := by simp [rightB, c0]
        rw [hR]
        clear fin hR
        go_enter Tryd.func15, Tryd.ntmps15
        go_wp2
        go_ret
        exact ⟨rfl, (Moves.refl [] W).alloc _⟩
      · have d0 : decide (0 ≤ worker) = false := by simp; omega
        have hR : rightB n 2 worker = false := by simp [rightB]; omega
        rw [hR]
        clear fin hR c0
        go_enter Tryd.func15, Tryd.ntmps15
        go_wp2
        go_ret
        exact ⟨rfl, (Moves.refl [] W).alloc _⟩
    · have e2 : (kind == 2) = false := by simpa using k2
      by_cases k3 : kind = 3
      · subst k3
        have hR : rightB n 3 worker = (worker == 0) := by simp [rightB]; rfl
        rw [hR]
        clear fin hR k1 k2
        go_enter Tryd.func15, Tryd.ntmps15
        go_wp2
        go_ret
        exact ⟨rfl, (Moves.refl [] W).alloc _⟩
      · have e3 : (kind == 3) = false := by simpa using k3
        have hR : rightB n kind worker = false := by simp [rightB, k1, k2, k3]
        rw [hR]
        clear fin hR k1 k2 k3
        go_enter Tryd.func15, Tryd.ntmps15
        go_wp2
        go_ret
        exact ⟨rfl, (Moves.refl [] W).alloc _⟩

set_option maxHeartbeats 1000000 in
set_option maxRecDepth 100000 in
theorem cells_any (limit n : Nat) (W : World) (hl : limit ≤ 1099511627776) (hn : n ≤ 64) :
    Calls Tryd.prog 16 #[.int .i64 limit, .int .i64 n] W fun e w' => ∃ v, e = .returned v ∧ w'.ownsRow W.heap.size 39 1 v (n + 1) (wvs (limit :: List.replicate n 0)) ∧ Moves [] W w' := by
  have hnn : ((n + 1 : Nat) : Int) = (n : Int) + 1 := by omega
  have hmk := make_nums (n + 1) (by omega)
  rw [hnn] at hmk
  clear hnn
  have hcell : (W.alloc (.cells (wds (List.replicate (n + 1) 0)) 39)).cell? ⟨W.heap.size, 0, none⟩ = some (.int .u64 0) := by
    rw [(Has.new' rfl).cell 0]
    simp [wds, List.replicate_succ]
  have hfz : (W.alloc (.cells (wds (List.replicate (n + 1) 0)) 39)).frozen? ⟨W.heap.size, 0, none⟩ = false := (Has.new' rfl).frozen 0
  go_enter Tryd.func16, Tryd.ntmps16
  go_wp2
  go_ret
  refine ⟨_, rfl, ?_, ?_⟩
  · refine ⟨by simp [wvs], .inr ⟨W.heap.size, n + 1, wds (limit :: List.replicate n 0), rfl, Nat.le_refl _, ?_, Nat.le_refl _, by unfold maxLen; omega, by simp [wds_size], ?_⟩⟩
    · have h1 : Has (W.alloc (.cells (wds (limit :: List.replicate n 0)) 39)) W.heap.size 39 (wds (limit :: List.replicate n 0)) := Has.new' rfl
      first
        | exact h1
        | (have h2 := (Has.new' (w := W) (t := 39) (cs := wds (List.replicate (n + 1) 0)) rfl).put 0 (.int .u64 (limit : Int))
           rw [wds_set] at h2
           exact h2)
    · rw [List.take_of_length_le (by simp [wds])]
      simp [wds, wvs]
  · repeat (first | with_reducible exact Moves.refl [] _ | with_reducible apply Moves.alloc | (with_reducible refine Moves.setNew ?_ ?_ _; rotate_left; (solve | simp)) | fail)
end Go.Proofs.YtigacfgoldnoiaaDoor
