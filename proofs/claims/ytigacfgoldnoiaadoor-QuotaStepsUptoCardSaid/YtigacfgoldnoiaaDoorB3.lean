/- New: a quota is made. -/
import Derived.Test.YtigacfgoldnoiaaDoorB2
namespace Go.Proofs.YtigacfgoldnoiaaDoor
open Go.RowKit
set_option linter.unusedVariables false
set_option linter.unusedSimpArgs false
attribute [local go_sem] World.cell?_alloc_old World.frozen?_alloc_old

/-- May a quota be so? -/
def fitsB (limit batch workers : Int) : Bool := decide (0 ≤ limit ∧ limit ≤ 1099511627776 ∧ 1 ≤ batch ∧ batch ≤ 1048576 ∧ 1 ≤ workers ∧ workers ≤ 64)

set_option maxHeartbeats 1000000 in
set_option maxRecDepth 100000 in
theorem fits_any (limit batch workers : Int) (w : World) :
    Calls Tryd.prog 28 #[.int .i64 limit, .int .i64 batch, .int .i64 workers] w fun e w' => e = .returned (.bool (fitsB limit batch workers)) ∧ w = w' := by
  unfold fitsB
  by_cases c1 : 0 ≤ limit
  · have d1 : decide (0 ≤ limit) = true := decide_eq_true c1
    by_cases c2 : limit ≤ 1099511627776
    · have d2 : decide (limit ≤ 1099511627776) = true := decide_eq_true c2
      by_cases c3 : 1 ≤ batch
      · have d3 : decide (1 ≤ batch) = true := decide_eq_true c3
        by_cases c4 : batch ≤ 1048576
        · have d4 : decide (batch ≤ 1048576) = true := decide_eq_true c4
          by_cases c5 : 1 ≤ workers
          · have d5 : decide (1 ≤ workers) = true := decide_eq_true c5
            have e0 : decide (0 ≤ limit ∧ limit ≤ 1099511627776 ∧ 1 ≤ batch ∧ batch ≤ 1048576 ∧ 1 ≤ workers ∧ workers ≤ 64) = decide (workers ≤ 64) := by simp [c1, c2, c3, c4, c5]
            rw [e0]
            clear e0
            clear c1 c2 c3 c4 c5
            go_enter Tryd.func28, Tryd.ntmps28
            go_wp2
            go_ret
            exact ⟨rfl, rfl⟩
          · rw [decide_eq_false (fun h => c5 h.2.2.2.2.1)]
            have d5 : decide (1 ≤ workers) = false := decide_eq_false c5
            clear c1 c2 c3 c4 c5
            go_enter Tryd.func28, Tryd.ntmps28
            go_wp2
            go_ret
            exact ⟨rfl, rfl⟩
        · rw [decide_eq_false (fun h => c4 h.2.2.2.1)]
          have d4 : decide (batch ≤ 1048576) = false := decide_eq_false c4
          clear c1 c2 c3 c4
          go_enter Tryd.func28, Tryd.ntmps28
          go_wp2
          go_ret
          exact ⟨rfl, rfl⟩
      · rw [decide_eq_false (fun h => c3 h.2.2.1)]
        have d3 : decide (1 ≤ batch) = false := decide_eq_false c3
        clear c1 c2 c3
        go_enter Tryd.func28, Tryd.ntmps28
        go_wp2
        go_ret
        exact ⟨rfl, rfl⟩
    · rw [decide_eq_false (fun h => c2 h.2.1)]
      have d2 : decide (limit ≤ 1099511627776) = false := decide_eq_false c2
      clear c1 c2
      go_enter Tryd.func28, Tryd.ntmps28
      go_wp2
      go_ret
      exact ⟨rfl, rfl⟩
  · rw [decide_eq_false (fun h => c1 h.1)]
    have d1 : decide (0 ≤ limit) = false := decide_eq_false c1
    clear c1
    go_enter Tryd.func28, Tryd.ntmps28
    go_wp2
    go_ret
    exact ⟨rfl, rfl⟩

theorem info99 : (Tryd.prog.info? 99).map (fun i => (i.zero, i.size, i.bytes)) = some (some (.agg #[.int .u64 0]), 1, 8) := by kernel_rfl
theorem made_wds (n : Nat) : madeCells (Value.cells (.agg #[.int .u64 0])) (n * 1) = wds (List.replicate n 0) := by
  have h := toList_madeCells_one (.int .u64 0) n
  have e : Value.cells (.agg #[.int .u64 0]) = #[.int .u64 0] := rfl
  rw [e, Nat.mul_one]
  apply Array.toList_inj.1
  rw [h]
  simp [wds]
theorem make_wds (n : Nat) (hn : n ≤ 65) (w : World) : (Instr.makeSlice 85 (.int .i64 n) (.int .i64 n)).run Tryd.prog w = .ok (.slice (some ⟨w.heap.size, 0, none⟩) n n) (w.alloc (.cells (wds (List.replicate n 0)) 99)) := by
  obtain ⟨i0, hi, hz0, hz1, hz2⟩ := info_parts info99
  have h := run_make (P := Tryd.prog) w 85 99 i0 _ Tryd.underlying85 hi hz0 .i64 .i64 n n (by omega) (Int.le_refl _) (by rw [hz2]; omega) (by omega)
  rw [h, hz1]
  simp only [Int.toNat_natCast, made_wds]
set_option maxHeartbeats 1000000 in
set_option maxRecDepth 100000 in
theorem cnew_any (n : Nat) (w : World) (hn : n ≤ 65) :
    Calls Tryd.prog 29 #[.int .i64 n] w fun e w' => ∃ bc bw, e = .returned (.tuple #[.pointer (some ⟨bc, 0, none⟩), .int .i64 0]) ∧ w.heap.size ≤ bc ∧ w.heap.size ≤ bw ∧ Has w' bc 87 #[.slice (some ⟨bw, 0, none⟩) n n] ∧
      Has w' bw 99 (wds (List.replicate n 0)) ∧ Moves [] w w' := by
  have hd : decide (65536 < (n : Int)) = false := by simp; omega
  have hd0 : decide ((n : Int) < 0) = false := by simp
  have hmk := make_wds n hn
  go_enter Tryd.func29, Tryd.ntmps29
  go_wp2
  go_ret2
  refine ⟨w.heap.size + 1, w.heap.size, rfl, by omega, by omega, ?_, ?_, ?_⟩
  · with_reducible refine Has.new' ?_
    simp
  · with_reducible apply Has.alloc
    exact Has.new' rfl
  · repeat (first | with_reducible exact Moves.refl _ _ | with_reducible apply Moves.drew | with_reducible apply Moves.alloc | fail)

theorem new_bad (limit batch workers : Int) (w : World) (h : fitsB limit batch workers = false) :
    Calls Tryd.prog 11 #[.int .i64 limit, .int .i64 batch, .int .i64 workers] w fun e w' => e = .returned (.tuple #[.pointer none, .int .i64 2]) ∧ Moves [] w w' := by
  go_enter Tryd.func11, Tryd.ntmps11
  go_wp2_with (go_at_call 28; refine (fits_any limit batch workers _).mono ?_; rw [h]; rintro e w' ⟨rfl, rfl⟩)
  go_ret2
  refine ⟨rfl, ?_⟩
  repeat (first | with_reducible exact Moves.refl _ _ | with_reducible apply Moves.drew | with_reducible apply Moves.alloc | fail)
set_option maxHeartbeats 1000000 in
set_option maxRecDepth 100000 in
theorem new_good (limit batch n : Nat) (w : World) (h : fitsB limit batch n = true) (hl : limit ≤ 1099511627776) (hb : batch ≤ 1048576) (hn : n ≤ 64) (hu : Uses w) (hz : 0 < w.heap.size) :
    Calls Tryd.prog 11 #[.int .i64 limit, .int .i64 batch, .int .i64 n] w fun e w' => ∃ bq bc bw, e = .returned (.tuple #[.pointer (some ⟨bq, 0, none⟩), .int .i64 0]) ∧ w.heap.size ≤ bq ∧ w.heap.size ≤ bc ∧ w.heap.size ≤ bw ∧
      Quo w' bq bc bw batch n (limit :: List.replicate n 0) ∧ Moves [] w w' := by
  have hnn : ((n + 1 : Nat) : Int) = (n : Int) + 1 := by omega
  have HN := Lib.hid hnn
  clear hnn
  go_enter Tryd.func11, Tryd.ntmps11
  go_wp2_with (first | (go_at_call 28; refine (fits_any limit batch n _).mono ?_; rw [h]; rintro e w' ⟨rfl, rfl⟩) | (go_at_call 29; rw [← HN.out]; go_must (refine (cnew_any (n + 1) _ (by omega)).mono ?_; rintro e w1 ⟨bc, bw, rfl, gbc, gbw, hc, hw, hm⟩; (have hx0 : w1.cell? ⟨bw, 0, none⟩ = some (.int .u64 ((0 : Nat) : Int)) := (hw.cell 0).trans (by simp [wds, List.replicate_succ])); (have hc0 := hc.cell 0); (have hz0 := hw.frozen 0))) | (go_at_call 30; go_must (refine (cstore_any bc bw (n + 1) 0 0 limit _ hc0 (by omega) hx0 hz0).mono ?_; rintro e w' ⟨rfl, rfl⟩)))
  go_ret2
  have hbb : bc ≠ bw := hc.ne_type hw (by decide)
  have hs := hm.size
  refine ⟨_, bc, bw, rfl, ?_, gbc, gbw, ?_, ?_⟩
  · simpa using hs
  · refine ⟨?_, ?_, ?_, by simp, ?_⟩
    · exact Has.new' (by simp)
    · with_reducible apply Has.alloc
      exact hc.far hbb _
    · with_reducible apply Has.alloc
      have h1 := hw.put 0 (.int .u64 (limit : Int))
      rw [wds_set] at h1
      simpa [List.replicate_succ] using h1
    · have h1 : Uses w1 := hu.moves hm hz (by simp)
      have h2 : Uses (w1.setCell ⟨bw, 0, none⟩ (.int .u64 limit)) := h1.keep fun i => World.cell?_setCell_other w1 _ _ _ (fun e => by have := congrArg Addr.block e; simp at this; omega)
      exact h2.alloc (by simp; omega) _
  · with_reducible apply Moves.alloc
    exact hm.setNew (by simpa using gbw) _
end Go.Proofs.YtigacfgoldnoiaaDoor
