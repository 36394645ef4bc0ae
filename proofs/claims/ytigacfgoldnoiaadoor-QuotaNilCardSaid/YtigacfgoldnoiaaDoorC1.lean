/- QuotaNil: the walk. -/
import Derived.Test.YtigacfgoldnoiaaDoorB7
namespace Go.Proofs.YtigacfgoldnoiaaDoor
open Go.RowKit
set_option linter.unusedVariables false
set_option linter.unusedSimpArgs false
attribute [local go_sem] World.cell?_alloc_old World.frozen?_alloc_old

theorem whole_nil (kind worker : Int) (w : World) : Calls Tryd.prog 37 #[.pointer none, .agg #[.int .u8 kind, .int .i64 worker]] w fun e w' => e = .returned (.tuple #[.int .i64 0, .int .i64 ((1 : Nat) : Int)]) ∧ Moves [] w w' :=
  whole_bad none kind worker 1 rfl w (fun W _ => start_nil kind worker W)
theorem take_nil (worker : Int) (w : World) : Calls Tryd.prog 23 #[.pointer none, .int .i64 worker] w fun e w' => e = .returned (.tuple #[.bool false, .int .i64 1]) ∧ Moves [] w w' := by
  have hc := Lib.hid (fun W => whole_nil 1 worker W)
  go_enter Tryd.func23, Tryd.ntmps23
  go_wp2_with (go_at_call 37; go_must (refine (hc.out _).mono ?_; rintro e w1 ⟨rfl, hm1⟩))
  go_ret2
  exact ⟨rfl, hm1⟩
theorem back_nil (worker : Int) (w : World) : Calls Tryd.prog 24 #[.pointer none, .int .i64 worker] w fun e w' => e = .returned (.tuple #[.int .i64 0, .int .i64 1]) ∧ Moves [] w w' := by
  have hc := Lib.hid (fun W => whole_nil 2 worker W)
  go_enter Tryd.func24, Tryd.ntmps24
  go_wp2_with (go_at_call 37; go_must (refine (hc.out _).mono ?_; rintro e w1 ⟨rfl, hm1⟩))
  go_ret2
  exact ⟨rfl, hm1⟩
theorem left_nil (w : World) : Calls Tryd.prog 25 #[.pointer none] w fun e w' => e = .returned (.int .i64 0) ∧ Moves [] w w' := by
  have hc := Lib.hid (fun W => whole_nil 3 0 W)
  go_enter Tryd.func25, Tryd.ntmps25
  go_wp2_with (go_at_call 37; go_must (refine (hc.out _).mono ?_; rintro e w1 ⟨rfl, hm1⟩))
  go_ret
  exact ⟨rfl, hm1⟩
set_option maxRecDepth 100000 in
theorem step_nil (w : World) : Calls Tryd.prog 17 #[.pointer none] w fun e w' => e = .returned (.tuple #[did 0 0 0 0 false, .bool true]) ∧ Moves [] w w' := by
  go_enter Tryd.func17, Tryd.ntmps17
  go_wp2
  refine bodyPost_ret (v := .tuple #[did 0 0 0 0 false, .bool true]) (by simp only [results, Tryd.results17, did]; go_simp) rfl ⟨rfl, ?_⟩
  repeat (first | with_reducible exact Moves.refl _ _ | with_reducible apply Moves.drew | with_reducible apply Moves.alloc | (with_reducible refine Moves.setNew ?_ ?_ _; rotate_left; (solve | simp | (simp; omega))) | fail)
theorem done_nil (w : World) : Calls Tryd.prog 19 #[.pointer none] w fun e w' => e = .returned (.bool true) ∧ w = w' := by
  go_enter Tryd.func19, Tryd.ntmps19
  go_wp2
  go_ret
  exact ⟨rfl, rfl⟩
theorem answer_nil (w : World) : Calls Tryd.prog 20 #[.pointer none] w fun e w' => e = .returned (.int .i64 0) ∧ w = w' := by
  go_enter Tryd.func20, Tryd.ntmps20
  go_wp2
  go_ret
  exact ⟨rfl, rfl⟩

set_option maxHeartbeats 2000000 in
set_option maxRecDepth 100000 in
theorem nil_walk (kind worker : Int) (w : World) (hu : Uses w) (hz : 0 < w.heap.size) :
    Calls Tryd.prog 5 #[.agg #[.int .u8 kind, .int .i64 worker]] w fun e w' => e = .returned (.bool true) ∧ Moves [] w w' := by
  have hT := Lib.hid (fun W => take_nil worker W)
  have hB := Lib.hid (fun W => back_nil worker W)
  have hS := Lib.hid (fun W => start_nil kind worker W)
  have hp := Lib.hid (fun W => step_nil W)
  have hbg := Lib.hid (fun W hu hz => begins_any W hu hz)
  have hlf := Lib.hid (fun W => left_nil W)
  have hal := Lib.hid (fun W => all_nil W)
  have hdn := Lib.hid (fun W => done_nil W)
  have han := Lib.hid (fun W => answer_nil W)
  go_enter Tryd.func5, Tryd.ntmps5
  go_wp2_with (go_at_call 23; go_must (refine (hT.out _).mono ?_; rintro e w1 ⟨rfl, hm1⟩; (have hb1 : Has w1 w.heap.size 37 #[.int .u8 kind, .int .i64 worker] := hm1.has (Has.new' rfl) (by simp)); (have c1 := hb1.cell)))
  go_wp2_with (go_at_call 24; go_must (refine (hB.out _).mono ?_; rintro e w2 ⟨rfl, hm2⟩; (have hb2 : Has w2 w.heap.size 37 #[.int .u8 kind, .int .i64 worker] := hm2.has hb1 (by simp)); (have c2 := hb2.cell)))
  go_wp2_with (go_at_call 14; go_must (refine (hS.out _).mono ?_; rintro e w3 ⟨rfl, hm3⟩))
  go_wp2_with (go_at_call 17; go_must (refine (hp.out _).mono ?_; rintro e w4 ⟨rfl, hm4⟩; simp only [did]))
  have hm04 : Moves [] w w4 := ((((Moves.refl [] w).alloc _).trans hm1 (by simp)).trans hm2 (by simp)).trans (hm3.trans hm4 (by simp)) (by simp)
  have hz4 : 0 < w4.heap.size := Nat.lt_of_lt_of_le hz hm04.size
  have hu4 : Uses w4 := hu.moves hm04 hz (by simp)
  go_wp2_with (go_at_call 13; go_must (refine (hbg.out _ (hu4.alloc hz4 _) (by simp)).mono ?_; rintro e w5 ⟨rfl, hm5⟩; (have hb5 : Has w5 w4.heap.size 46 #[.int .u8 0, .int .i64 0, .int .u64 0, .int .u64 0, .bool false] := hm5.has (Has.new' rfl) (by simp))))
  go_wp2_with (go_at_call 25; go_must (refine (hlf.out _).mono ?_; rintro e w6 ⟨rfl, hm6⟩; (have hb6 := hm6.has hb5 (by simp)); (have c6 := hb6.cell)))
  go_wp2_with (first | (go_at_call 22; refine (hal.out _).mono ?_; rintro e w' ⟨rfl, rfl⟩) | (go_at_call 19; refine (hdn.out _).mono ?_; rintro e w' ⟨rfl, rfl⟩) | (go_at_call 20; refine (han.out _).mono ?_; rintro e w' ⟨rfl, rfl⟩))
  go_ret
  exact ⟨rfl, ((hm04.alloc _).trans hm5 (by simp)).trans hm6 (by simp)⟩
end Go.Proofs.YtigacfgoldnoiaaDoor
