/- Start of an operation. -/
import Derived.Test.YtigacfgoldnoiaaDoorB1
namespace Go.Proofs.YtigacfgoldnoiaaDoor
open Go.RowKit
set_option linter.unusedVariables false
set_option linter.unusedSimpArgs false
attribute [local go_sem] World.cell?_alloc_old World.frozen?_alloc_old

set_option maxHeartbeats 1000000 in
theorem start_neg (bq n : Nat) (kind worker : Int) (w : World) (hq : w.cell? ⟨bq, 2, none⟩ = some (.int .i64 n)) (h : worker < 0) :
    Calls Tryd.prog 14 #[.pointer (some ⟨bq, 0, none⟩), .agg #[.int .u8 kind, .int .i64 worker]] w fun e w' => e = .returned (.tuple #[.pointer none, .int .i64 2]) ∧ Moves [] w w' := by
  have hlt := w.block_lt_of_cell? _ hq
  have ne : ¬ bq = w.heap.size := by simp at hlt; omega
  have hd : decide (worker < 0) = true := by simpa using h
  go_enter Tryd.func14, Tryd.ntmps14
  go_wp2_with fail
  go_quiet (fail)
  go_wp2_with fail
  go_ret2
  refine ⟨rfl, ?_⟩
  repeat (first | with_reducible exact Moves.refl _ _ | with_reducible apply Moves.drew | with_reducible apply Moves.drewN | with_reducible apply Moves.alloc | fail)
set_option maxHeartbeats 1000000 in
theorem start_high (bq n : Nat) (kind worker : Int) (w : World) (hq : w.cell? ⟨bq, 2, none⟩ = some (.int .i64 n)) (h0 : 0 ≤ worker) (h : (n : Int) ≤ worker) :
    Calls Tryd.prog 14 #[.pointer (some ⟨bq, 0, none⟩), .agg #[.int .u8 kind, .int .i64 worker]] w fun e w' => e = .returned (.tuple #[.pointer none, .int .i64 2]) ∧ Moves [] w w' := by
  have hlt := w.block_lt_of_cell? _ hq
  have ne : ¬ bq = w.heap.size := by simp at hlt; omega
  have hd : decide (worker < 0) = false := by simp; omega
  have hd2 : decide ((n : Int) ≤ worker) = true := by simpa using h
  go_enter Tryd.func14, Tryd.ntmps14
  go_wp2_with fail
  go_quiet (fail)
  go_wp2_with fail
  go_ret2
  refine ⟨rfl, ?_⟩
  repeat (first | with_reducible exact Moves.refl _ _ | with_reducible apply Moves.drew | with_reducible apply Moves.drewN | with_reducible apply Moves.alloc | fail)
set_option maxHeartbeats 1000000 in
theorem start_left (bq n : Nat) (worker : Int) (w : World) (hq : w.cell? ⟨bq, 2, none⟩ = some (.int .i64 n)) (h0 : 0 ≤ worker) (h : worker < n) (hw : (worker != 0) = true) :
    Calls Tryd.prog 14 #[.pointer (some ⟨bq, 0, none⟩), .agg #[.int .u8 3, .int .i64 worker]] w fun e w' => e = .returned (.tuple #[.pointer none, .int .i64 2]) ∧ Moves [] w w' := by
  have hlt := w.block_lt_of_cell? _ hq
  have ne : ¬ bq = w.heap.size := by simp at hlt; omega
  have hd : decide (worker < 0) = false := by simp; omega
  have hd2 : decide ((n : Int) ≤ worker) = false := by simp; omega
  go_enter Tryd.func14, Tryd.ntmps14
  go_wp2_with fail
  go_quiet (fail)
  go_wp2_with fail
  go_ret2
  refine ⟨rfl, ?_⟩
  repeat (first | with_reducible exact Moves.refl _ _ | with_reducible apply Moves.drew | with_reducible apply Moves.drewN | with_reducible apply Moves.alloc | fail)

set_option maxHeartbeats 1000000 in
theorem start_other (bq n : Nat) (kind worker : Int) (w : World) (hq : w.cell? ⟨bq, 2, none⟩ = some (.int .i64 n)) (h0 : 0 ≤ worker) (h : worker < n) (h1 : (kind == 1) = false) (h2 : (kind == 2) = false) (h3 : (kind == 3) = false) :
    Calls Tryd.prog 14 #[.pointer (some ⟨bq, 0, none⟩), .agg #[.int .u8 kind, .int .i64 worker]] w fun e w' => e = .returned (.tuple #[.pointer none, .int .i64 2]) ∧ Moves [] w w' := by
  have hlt := w.block_lt_of_cell? _ hq
  have ne : ¬ bq = w.heap.size := by simp at hlt; omega
  have hd : decide ((worker : Int) < 0) = false := by simp; try omega
  have hd2 : decide ((n : Int) ≤ (worker : Int)) = false := by simp; omega
  have hmf : ∀ (fn : Fn) (first cap : Array Value) (w : World), (Instr.makeFunc fn first cap).run Tryd.prog w = .ok (.func fn first cap) w := fun _ _ _ _ => rfl
  go_enter Tryd.func14, Tryd.ntmps14
  go_wp2_with fail
  go_quiet (fail)
  go_wp2_with fail
  go_ret2
  refine ⟨rfl, ?_⟩
  repeat (first | with_reducible exact Moves.refl _ _ | with_reducible apply Moves.drew | with_reducible apply Moves.drewN | with_reducible apply Moves.alloc | (with_reducible refine Moves.setNew ?_ ?_ _; rotate_left; (solve | simp | (simp; omega))) | fail)
theorem start_nil (kind worker : Int) (w : World) :
    Calls Tryd.prog 14 #[.pointer none, .agg #[.int .u8 kind, .int .i64 worker]] w fun e w' => e = .returned (.tuple #[.pointer none, .int .i64 1]) ∧ Moves [] w w' := by
  go_enter Tryd.func14, Tryd.ntmps14
  go_wp2
  go_ret2
  refine ⟨rfl, ?_⟩
  repeat (first | with_reducible exact Moves.refl _ _ | with_reducible apply Moves.drew | with_reducible apply Moves.drewN | with_reducible apply Moves.alloc | (with_reducible refine Moves.setNew ?_ ?_ _; rotate_left; (solve | simp | (simp; omega))) | fail)
set_option maxHeartbeats 1000000 in
theorem start_take (bq n worker : Nat) (w : World) (hq : w.cell? ⟨bq, 2, none⟩ = some (.int .i64 n)) (h : worker < n) (hn : n ≤ 64) :
    Calls Tryd.prog 14 #[.pointer (some ⟨bq, 0, none⟩), .agg #[.int .u8 1, .int .i64 worker]] w fun e w' =>
      ∃ bp, e = .returned (.tuple #[.pointer (some ⟨bp, 0, none⟩), .int .i64 0]) ∧ w.heap.size ≤ bp ∧ Has w' bp 77 (pend bq (worker + 1) (mv 31 bp) 0 0 0) ∧ Moves [] w w' := by
  have hlt := w.block_lt_of_cell? _ hq
  have ne : ¬ bq = w.heap.size := by simp at hlt; omega
  have hd : decide ((worker : Int) < 0) = false := by simp; try omega
  have hd2 : decide ((n : Int) ≤ (worker : Int)) = false := by simp; omega
  have hmf : ∀ (fn : Fn) (first cap : Array Value) (w : World), (Instr.makeFunc fn first cap).run Tryd.prog w = .ok (.func fn first cap) w := fun _ _ _ _ => rfl
  go_enter Tryd.func14, Tryd.ntmps14
  go_wp2_with fail
  go_quiet (fail)
  go_wp2_with fail
  go_ret2
  refine ⟨w.heap.size + 1, rfl, by omega, ?_, ?_⟩
  · apply Has.of_eq
    case h => repeat (first | (with_reducible refine Has.new' ?_; (solve | simp)) | with_reducible apply Has.drew | with_reducible apply Has.drewN | with_reducible apply Has.put | fail)
    case e => rfl
  · repeat (first | with_reducible exact Moves.refl _ _ | with_reducible apply Moves.drew | with_reducible apply Moves.drewN | with_reducible apply Moves.alloc | (with_reducible refine Moves.setNew ?_ ?_ _; rotate_left; (solve | simp | (simp; omega))) | fail)
set_option maxHeartbeats 1000000 in
theorem start_back (bq n worker : Nat) (w : World) (hq : w.cell? ⟨bq, 2, none⟩ = some (.int .i64 n)) (h : worker < n) (hn : n ≤ 64) :
    Calls Tryd.prog 14 #[.pointer (some ⟨bq, 0, none⟩), .agg #[.int .u8 2, .int .i64 worker]] w fun e w' =>
      ∃ bp, e = .returned (.tuple #[.pointer (some ⟨bp, 0, none⟩), .int .i64 0]) ∧ w.heap.size ≤ bp ∧ Has w' bp 77 (pend bq (worker + 1) (mv 32 bp) 0 0 0) ∧ Moves [] w w' := by
  have hlt := w.block_lt_of_cell? _ hq
  have ne : ¬ bq = w.heap.size := by simp at hlt; omega
  have hd : decide ((worker : Int) < 0) = false := by simp; try omega
  have hd2 : decide ((n : Int) ≤ (worker : Int)) = false := by simp; omega
  have hmf : ∀ (fn : Fn) (first cap : Array Value) (w : World), (Instr.makeFunc fn first cap).run Tryd.prog w = .ok (.func fn first cap) w := fun _ _ _ _ => rfl
  go_enter Tryd.func14, Tryd.ntmps14
  go_wp2_with fail
  go_quiet (fail)
  go_wp2_with fail
  go_ret2
  refine ⟨w.heap.size + 1, rfl, by omega, ?_, ?_⟩
  · apply Has.of_eq
    case h => repeat (first | (with_reducible refine Has.new' ?_; (solve | simp)) | with_reducible apply Has.drew | with_reducible apply Has.drewN | with_reducible apply Has.put | fail)
    case e => rfl
  · repeat (first | with_reducible exact Moves.refl _ _ | with_reducible apply Moves.drew | with_reducible apply Moves.drewN | with_reducible apply Moves.alloc | (with_reducible refine Moves.setNew ?_ ?_ _; rotate_left; (solve | simp | (simp; omega))) | fail)
set_option maxHeartbeats 1000000 in
theorem start_sum (bq n worker : Nat) (w : World) (hq : w.cell? ⟨bq, 2, none⟩ = some (.int .i64 n)) (h : worker < n) (hn : n ≤ 64) (h0 : ((worker : Int) != 0) = false) :
    Calls Tryd.prog 14 #[.pointer (some ⟨bq, 0, none⟩), .agg #[.int .u8 3, .int .i64 worker]] w fun e w' =>
      ∃ bp, e = .returned (.tuple #[.pointer (some ⟨bp, 0, none⟩), .int .i64 0]) ∧ w.heap.size ≤ bp ∧ Has w' bp 77 (pend bq (worker + 1) (mv 33 bp) 0 0 0) ∧ Moves [] w w' := by
  have hlt := w.block_lt_of_cell? _ hq
  have ne : ¬ bq = w.heap.size := by simp at hlt; omega
  have hd : decide ((worker : Int) < 0) = false := by simp; try omega
  have hd2 : decide ((n : Int) ≤ (worker : Int)) = false := by simp; omega
  have hmf : ∀ (fn : Fn) (first cap : Array Value) (w : World), (Instr.makeFunc fn first cap).run Tryd.prog w = .ok (.func fn first cap) w := fun _ _ _ _ => rfl
  go_enter Tryd.func14, Tryd.ntmps14
  go_wp2_with fail
  go_quiet (fail)
  go_wp2_with fail
  go_ret2
  refine ⟨w.heap.size + 1, rfl, by omega, ?_, ?_⟩
  · apply Has.of_eq
    case h => repeat (first | (with_reducible refine Has.new' ?_; (solve | simp)) | with_reducible apply Has.drew | with_reducible apply Has.drewN | with_reducible apply Has.put | fail)
    case e => rfl
  · repeat (first | with_reducible exact Moves.refl _ _ | with_reducible apply Moves.drew | with_reducible apply Moves.drewN | with_reducible apply Moves.alloc | (with_reducible refine Moves.setNew ?_ ?_ _; rotate_left; (solve | simp | (simp; omega))) | fail)
end Go.Proofs.YtigacfgoldnoiaaDoor
