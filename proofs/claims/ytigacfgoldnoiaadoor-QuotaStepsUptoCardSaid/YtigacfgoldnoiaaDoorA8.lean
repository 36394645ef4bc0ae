/- The step of an operation under way that borrows a batch of the pool. -/
import Derived.Test.YtigacfgoldnoiaaDoorA7
namespace Go.Proofs.YtigacfgoldnoiaaDoor
open Go.RowKit
set_option linter.unusedVariables false
set_option linter.unusedSimpArgs false
attribute [local go_sem] World.cell?_alloc_old World.frozen?_alloc_old

set_option maxHeartbeats 1000000 in
theorem borrow_miss_s (bp bq bc bw batch n own saw left : Nat) (z : Nat) (ans : Int) (f : Value) (l : List Nat) (w : World) (hP : Has w bp 77 (pend bq own f saw left ans))
    (hQ : Quo w bq bc bw batch n l) (hi : l[0]? = some z) (hz : z ≠ saw) (hc : saw < batch) (hs : saw ≤ 1099511627776) (h1 : 1 ≤ saw) :
    Calls Tryd.prog 51 #[.pointer (some ⟨bp, 0, none⟩)] w fun e w' =>
      e = .returned (did 5 0 z z false) ∧ Has w' bp 77 (pend bq own (mv 42 bp) saw left ans) ∧ Has w' bw 99 (wds (l.set 0 z)) ∧ Moves [bp, bw] w w' := by
  have hmf : ∀ (fn : Fn) (first cap : Array Value) (w : World), (Instr.makeFunc fn first cap).run Tryd.prog w = .ok (.func fn first cap) w := fun _ _ _ _ => rfl
  have hPc := hP.cell
  have hPf := hP.frozen
  simp only [pend] at hPc
  have hap := hQ.apart hP
  have hapw := hQ.apart_w
  have hlt := hP.lt
  have hwlt := hQ.m.lt
  have nwp : ¬ bp = bw := hap.2.2.1
  have nb0 : ¬ bp = w.heap.size := by omega
  have nb0' : ¬ w.heap.size = bp := by omega
  have nw0 : ¬ w.heap.size = bw := by omega
  have nb1 : ¬ bp = w.heap.size + 1 := by omega
  have nb1' : ¬ w.heap.size + 1 = bp := by omega
  have nw1 : ¬ w.heap.size + 1 = bw := by omega
  have nb2 : ¬ bp = w.heap.size + 1 + 1 := by omega
  have nb2' : ¬ w.heap.size + 1 + 1 = bp := by omega
  have nw2 : ¬ w.heap.size + 1 + 1 = bw := by omega
  have nb3 : ¬ bp = w.heap.size + 1 + 1 + 1 := by omega
  have nb3' : ¬ w.heap.size + 1 + 1 + 1 = bp := by omega
  have nw3 : ¬ w.heap.size + 1 + 1 + 1 = bw := by omega
  have lp1 : bp < w.heap.size + 1 := by omega
  have lp2 : bp < w.heap.size + 1 + 1 := by omega
  have lp3 : bp < w.heap.size + 1 + 1 + 1 := by omega
  have lp4 : bp < w.heap.size + 1 + 1 + 1 + 1 := by omega
  have ls02 : w.heap.size < w.heap.size + 1 + 1 := by omega
  have ls03 : w.heap.size < w.heap.size + 1 + 1 + 1 := by omega
  have ls04 : w.heap.size < w.heap.size + 1 + 1 + 1 + 1 := by omega
  have ls13 : w.heap.size + 1 < w.heap.size + 1 + 1 + 1 := by omega
  have ls14 : w.heap.size + 1 < w.heap.size + 1 + 1 + 1 + 1 := by omega
  have ls24 : w.heap.size + 1 + 1 < w.heap.size + 1 + 1 + 1 + 1 := by omega
  have hq0 := hQ.q.cell
  have hqlt := hQ.q.lt
  have nq1 : ¬ bq = bw := fun e => hapw.1 e.symm
  have nq4 : ¬ bp = bq := hap.1
  have nq4' : ¬ bq = bp := fun e => hap.1 e.symm
  have nqs0 : ¬ bq = w.heap.size := by omega
  have nqs0' : ¬ w.heap.size = bq := by omega
  have nqs1 : ¬ bq = w.heap.size + 1 := by omega
  have nqs1' : ¬ w.heap.size + 1 = bq := by omega
  have nqs2 : ¬ bq = w.heap.size + 1 + 1 := by omega
  have nqs2' : ¬ w.heap.size + 1 + 1 = bq := by omega
  have nqs3 : ¬ bq = w.heap.size + 1 + 1 + 1 := by omega
  have nqs3' : ¬ w.heap.size + 1 + 1 + 1 = bq := by omega
  have hL := Lib.hid hi
  clear hi
  have hms : (saw : Int) < (batch : Int) := by omega
  have hw0 : IntKind.u64.wrap ((saw : Int) - (saw : Int)) = ((saw - saw : Nat) : Int) := by rw [IntKind.wrap_u64]; omega
  have HW := Lib.hid hw0
  clear hw0
  go_enter Tryd.func51, Tryd.ntmps51
  go_wp2_with fail
  go_region
  all_goals go_wp2_with fail
  all_goals go_region_held3 (fun w' => w'.cell? ⟨w.heap.size, 0, none⟩ = some (.pointer (some ⟨bp, 0, none⟩)) ∧ w'.cell? ⟨bp, 3, none⟩ = some (.int .u64 saw) ∧ w'.cell? ⟨w.heap.size + 1 + 1, 0, none⟩ = some (.int .u64 saw)) (first | (refine ⟨?_, ?_, ?_⟩ <;> go_simp) | go_keep) (first | (go_at_call 43; (have hww := HW.out); (simp only [Int.sub_self] at hww); (try rw [HW.out]); (try rw [hww]); clear hww; go_must (refine (do_any bp bq bc bw batch n 5 0 saw (saw - saw) z z false l _ ?hp0 ?hQ1 (by decide) (DoIs.miss hL.out hQ.len hz)).mono ?_; (case hp0 => go_simp); (case hQ1 => (repeat (first | with_reducible exact hQ | with_reducible apply Quo.drew | with_reducible apply Quo.alloc | (with_reducible refine Quo.far ?_ ?_ _; rotate_left; (solve | exact hap | (simp; omega)))))); rintro e w1 ⟨rfl, hw1, hm⟩; (have hk := hm.cellB); (have hkf := hm.frozenB); (have hsz := hm.size); (simp only [World.size_alloc, World.size_setCell, World.size_drew] at hsz); (have hP1 : Has w1 bp 77 (pend bq own (mv 42 bp) saw left ans) := hm.has (by apply Has.of_eq; (case h => repeat (first | with_reducible assumption | (with_reducible refine Has.new' ?_; (solve | with_reducible rfl | simp)) | with_reducible apply Has.drew | with_reducible apply Has.drewN | with_reducible apply Has.alloc | with_reducible apply Has.put | (with_reducible apply Has.far'; (solve | assumption | simp | (simp; omega))) | fail)); (case e => rfl)) (by simp; omega)); (have hmm : Moves [bp, bw] w w1 := Moves.trans (b := _) (by (repeat (first | with_reducible exact Moves.refl _ _ | with_reducible apply Moves.drew | with_reducible apply Moves.drewN | with_reducible apply Moves.alloc | (with_reducible refine Moves.setOld ?_ ?_ _; rotate_left; (solve | simp)) | (with_reducible refine Moves.setNew ?_ ?_ _; rotate_left; (solve | simp | (simp; omega))) | fail))) hm (by simp)); (have ne1 : ¬ bp = w1.heap.size := by omega); (have ne1' : ¬ w1.heap.size = bp := by omega); (have na0 : ¬ w.heap.size = w1.heap.size := by omega); (have na0' : ¬ w1.heap.size = w.heap.size := by omega); (have na1 : ¬ w.heap.size + 1 = w1.heap.size := by omega); (have na1' : ¬ w1.heap.size = w.heap.size + 1 := by omega); (have na2 : ¬ w.heap.size + 1 + 1 = w1.heap.size := by omega); (have na2' : ¬ w1.heap.size = w.heap.size + 1 + 1 := by omega); (first | (refine lay (T := ¬ w.heap.size + 1 + 1 + 1 = w1.heap.size) ?_ (fun nz => ?_); (solve | omega)) | skip); (first | (refine lay (T := ¬ w1.heap.size = w.heap.size + 1 + 1 + 1) ?_ (fun nz' => ?_); (solve | omega)) | skip); clear hsz; simp only [did])))
  all_goals go_wp2
  all_goals refine bodyPost_ret (v := did 5 0 z z false) (by simp only [results, Tryd.results51, did]; go_simp) rfl ?_
  all_goals first | (solve | (refine ⟨rfl, ?_, ?_, ?_⟩; (all_goals first | (solve | (repeat (first | with_reducible exact hmm | with_reducible exact Moves.refl _ _ | with_reducible apply Moves.drew | with_reducible apply Moves.drewN | with_reducible apply Moves.alloc | (with_reducible refine Moves.setOld ?_ ?_ _; rotate_left; (solve | simp)) | (with_reducible refine Moves.setNew ?_ ?_ _; rotate_left; (solve | simp | (simp; omega))) | fail))) | (apply Has.of_eq; (case h => repeat (first | with_reducible assumption | (with_reducible refine Has.new' ?_; (solve | with_reducible rfl | simp)) | with_reducible apply Has.drew | with_reducible apply Has.drewN | with_reducible apply Has.alloc | with_reducible apply Has.put | (with_reducible apply Has.far'; (solve | assumption | simp | (simp; omega))) | (with_reducible apply hm.hasB; (solve | assumption | omega)) | fail)); (case e => rfl)))))
set_option maxHeartbeats 1000000 in
theorem borrow_one_s (bp bq bc bw batch n own saw left : Nat) (ans : Int) (f : Value) (l : List Nat) (w : World) (hP : Has w bp 77 (pend bq own f saw left ans))
    (hQ : Quo w bq bc bw batch n l) (hi : l[0]? = some saw) (hc : saw < batch) (hs : saw ≤ 1099511627776) (h1 : 1 ≤ saw) (hb1 : ((saw : Int) == 1) = true) :
    Calls Tryd.prog 51 #[.pointer (some ⟨bp, 0, none⟩)] w fun e w' =>
      e = .returned (did 5 0 saw (saw - saw : Nat) true) ∧ Has w' bp 77 (pend bq own Value.nilFunc saw left 1) ∧ Has w' bw 99 (wds (l.set 0 (saw - saw))) ∧ Moves [bp, bw] w w' := by
  have hmf : ∀ (fn : Fn) (first cap : Array Value) (w : World), (Instr.makeFunc fn first cap).run Tryd.prog w = .ok (.func fn first cap) w := fun _ _ _ _ => rfl
  have hPc := hP.cell
  have hPf := hP.frozen
  simp only [pend] at hPc
  have hap := hQ.apart hP
  have hapw := hQ.apart_w
  have hlt := hP.lt
  have hwlt := hQ.m.lt
  have nwp : ¬ bp = bw := hap.2.2.1
  have nb0 : ¬ bp = w.heap.size := by omega
  have nb0' : ¬ w.heap.size = bp := by omega
  have nw0 : ¬ w.heap.size = bw := by omega
  have nb1 : ¬ bp = w.heap.size + 1 := by omega
  have nb1' : ¬ w.heap.size + 1 = bp := by omega
  have nw1 : ¬ w.heap.size + 1 = bw := by omega
  have nb2 : ¬ bp = w.heap.size + 1 + 1 := by omega
  have nb2' : ¬ w.heap.size + 1 + 1 = bp := by omega
  have nw2 : ¬ w.heap.size + 1 + 1 = bw := by omega
  have nb3 : ¬ bp = w.heap.size + 1 + 1 + 1 := by omega
  have nb3' : ¬ w.heap.size + 1 + 1 + 1 = bp := by omega
  have nw3 : ¬ w.heap.size + 1 + 1 + 1 = bw := by omega
  have lp1 : bp < w.heap.size + 1 := by omega
  have lp2 : bp < w.heap.size + 1 + 1 := by omega
  have lp3 : bp < w.heap.size + 1 + 1 + 1 := by omega
  have lp4 : bp < w.heap.size + 1 + 1 + 1 + 1 := by omega
  have ls02 : w.heap.size < w.heap.size + 1 + 1 := by omega
  have ls03 : w.heap.size < w.heap.size + 1 + 1 + 1 := by omega
  have ls04 : w.heap.size < w.heap.size + 1 + 1 + 1 + 1 := by omega
  have ls13 : w.heap.size + 1 < w.heap.size + 1 + 1 + 1 := by omega
  have ls14 : w.heap.size + 1 < w.heap.size + 1 + 1 + 1 + 1 := by omega
  have ls24 : w.heap.size + 1 + 1 < w.heap.size + 1 + 1 + 1 + 1 := by omega
  have hq0 := hQ.q.cell
  have hqlt := hQ.q.lt
  have nq1 : ¬ bq = bw := fun e => hapw.1 e.symm
  have nq4 : ¬ bp = bq := hap.1
  have nq4' : ¬ bq = bp := fun e => hap.1 e.symm
  have nqs0 : ¬ bq = w.heap.size := by omega
  have nqs0' : ¬ w.heap.size = bq := by omega
  have nqs1 : ¬ bq = w.heap.size + 1 := by omega
  have nqs1' : ¬ w.heap.size + 1 = bq := by omega
  have nqs2 : ¬ bq = w.heap.size + 1 + 1 := by omega
  have nqs2' : ¬ w.heap.size + 1 + 1 = bq := by omega
  have nqs3 : ¬ bq = w.heap.size + 1 + 1 + 1 := by omega
  have nqs3' : ¬ w.heap.size + 1 + 1 + 1 = bq := by omega
  have hL := Lib.hid hi
  clear hi
  have hms : (saw : Int) < (batch : Int) := by omega
  have hw0 : IntKind.u64.wrap ((saw : Int) - (saw : Int)) = ((saw - saw : Nat) : Int) := by rw [IntKind.wrap_u64]; omega
  have HW := Lib.hid hw0
  clear hw0
  go_enter Tryd.func51, Tryd.ntmps51
  go_wp2_with fail
  go_region
  all_goals go_wp2_with fail
  all_goals go_region_held3 (fun w' => w'.cell? ⟨w.heap.size, 0, none⟩ = some (.pointer (some ⟨bp, 0, none⟩)) ∧ w'.cell? ⟨bp, 3, none⟩ = some (.int .u64 saw) ∧ w'.cell? ⟨w.heap.size + 1 + 1, 0, none⟩ = some (.int .u64 saw)) (first | (refine ⟨?_, ?_, ?_⟩ <;> go_simp) | go_keep) (first | (go_at_call 43; (have hww := HW.out); (simp only [Int.sub_self] at hww); (try rw [HW.out]); (try rw [hww]); clear hww; go_must (refine (do_any bp bq bc bw batch n 5 0 saw (saw - saw) saw (saw - saw) true l _ ?hp0 ?hQ1 (by decide) (DoIs.hit hL.out hQ.len)).mono ?_; (case hp0 => go_simp); (case hQ1 => (repeat (first | with_reducible exact hQ | with_reducible apply Quo.drew | with_reducible apply Quo.alloc | (with_reducible refine Quo.far ?_ ?_ _; rotate_left; (solve | exact hap | (simp; omega)))))); rintro e w1 ⟨rfl, hw1, hm⟩; (have hk := hm.cellB); (have hkf := hm.frozenB); (have hsz := hm.size); (simp only [World.size_alloc, World.size_setCell, World.size_drew] at hsz); (have hP1 : Has w1 bp 77 (pend bq own (mv 42 bp) saw left ans) := hm.has (by apply Has.of_eq; (case h => repeat (first | with_reducible assumption | (with_reducible refine Has.new' ?_; (solve | with_reducible rfl | simp)) | with_reducible apply Has.drew | with_reducible apply Has.drewN | with_reducible apply Has.alloc | with_reducible apply Has.put | (with_reducible apply Has.far'; (solve | assumption | simp | (simp; omega))) | fail)); (case e => rfl)) (by simp; omega)); (have hmm : Moves [bp, bw] w w1 := Moves.trans (b := _) (by (repeat (first | with_reducible exact Moves.refl _ _ | with_reducible apply Moves.drew | with_reducible apply Moves.drewN | with_reducible apply Moves.alloc | (with_reducible refine Moves.setOld ?_ ?_ _; rotate_left; (solve | simp)) | (with_reducible refine Moves.setNew ?_ ?_ _; rotate_left; (solve | simp | (simp; omega))) | fail))) hm (by simp)); (have ne1 : ¬ bp = w1.heap.size := by omega); (have ne1' : ¬ w1.heap.size = bp := by omega); (have na0 : ¬ w.heap.size = w1.heap.size := by omega); (have na0' : ¬ w1.heap.size = w.heap.size := by omega); (have na1 : ¬ w.heap.size + 1 = w1.heap.size := by omega); (have na1' : ¬ w1.heap.size = w.heap.size + 1 := by omega); (have na2 : ¬ w.heap.size + 1 + 1 = w1.heap.size := by omega); (have na2' : ¬ w1.heap.size = w.heap.size + 1 + 1 := by omega); (first | (refine lay (T := ¬ w.heap.size + 1 + 1 + 1 = w1.heap.size) ?_ (fun nz => ?_); (solve | omega)) | skip); (first | (refine lay (T := ¬ w1.heap.size = w.heap.size + 1 + 1 + 1) ?_ (fun nz' => ?_); (solve | omega)) | skip); clear hsz; simp only [did])))
  all_goals go_wp2
  all_goals go_end0
  all_goals go_wp2
  all_goals refine bodyPost_ret (v := did 5 0 saw (saw - saw : Nat) true) (by simp only [results, Tryd.results51, did]; go_simp) rfl ?_
  all_goals first | (solve | (refine ⟨rfl, ?_, ?_, ?_⟩; (all_goals first | (solve | (repeat (first | with_reducible exact hmm | with_reducible exact Moves.refl _ _ | with_reducible apply Moves.drew | with_reducible apply Moves.drewN | with_reducible apply Moves.alloc | (with_reducible refine Moves.setOld ?_ ?_ _; rotate_left; (solve | simp)) | (with_reducible refine Moves.setNew ?_ ?_ _; rotate_left; (solve | simp | (simp; omega))) | fail))) | (apply Has.of_eq; (case h => repeat (first | with_reducible assumption | (with_reducible refine Has.new' ?_; (solve | with_reducible rfl | simp)) | with_reducible apply Has.drew | with_reducible apply Has.drewN | with_reducible apply Has.alloc | with_reducible apply Has.put | (with_reducible apply Has.far'; (solve | assumption | simp | (simp; omega))) | (with_reducible apply hm.hasB; (solve | assumption | omega)) | fail)); (case e => rfl)))))
set_option maxHeartbeats 1000000 in
theorem borrow_more_s (bp bq bc bw batch n own saw left : Nat) (ans : Int) (f : Value) (l : List Nat) (w : World) (hP : Has w bp 77 (pend bq own f saw left ans))
    (hQ : Quo w bq bc bw batch n l) (hi : l[0]? = some saw) (hc : saw < batch) (hs : saw ≤ 1099511627776) (h1 : 1 ≤ saw) (hb1 : ((saw : Int) == 1) = false) :
    Calls Tryd.prog 51 #[.pointer (some ⟨bp, 0, none⟩)] w fun e w' =>
      e = .returned (did 5 0 saw (saw - saw : Nat) true) ∧ ∃ g1 g2, Has w' bp 77 (pend bq own (cl 54 g1 g2) saw left ans) ∧ Has w' g1 32 #[.pointer (some ⟨bp, 0, none⟩)] ∧ Has w' g2 39 #[.int .u64 saw] ∧ Has w' bw 99 (wds (l.set 0 (saw - saw))) ∧ Moves [bp, bw] w w' := by
  have hmf : ∀ (fn : Fn) (first cap : Array Value) (w : World), (Instr.makeFunc fn first cap).run Tryd.prog w = .ok (.func fn first cap) w := fun _ _ _ _ => rfl
  have hPc := hP.cell
  have hPf := hP.frozen
  simp only [pend] at hPc
  have hap := hQ.apart hP
  have hapw := hQ.apart_w
  have hlt := hP.lt
  have hwlt := hQ.m.lt
  have nwp : ¬ bp = bw := hap.2.2.1
  have nb0 : ¬ bp = w.heap.size := by omega
  have nb0' : ¬ w.heap.size = bp := by omega
  have nw0 : ¬ w.heap.size = bw := by omega
  have nb1 : ¬ bp = w.heap.size + 1 := by omega
  have nb1' : ¬ w.heap.size + 1 = bp := by omega
  have nw1 : ¬ w.heap.size + 1 = bw := by omega
  have nb2 : ¬ bp = w.heap.size + 1 + 1 := by omega
  have nb2' : ¬ w.heap.size + 1 + 1 = bp := by omega
  have nw2 : ¬ w.heap.size + 1 + 1 = bw := by omega
  have nb3 : ¬ bp = w.heap.size + 1 + 1 + 1 := by omega
  have nb3' : ¬ w.heap.size + 1 + 1 + 1 = bp := by omega
  have nw3 : ¬ w.heap.size + 1 + 1 + 1 = bw := by omega
  have lp1 : bp < w.heap.size + 1 := by omega
  have lp2 : bp < w.heap.size + 1 + 1 := by omega
  have lp3 : bp < w.heap.size + 1 + 1 + 1 := by omega
  have lp4 : bp < w.heap.size + 1 + 1 + 1 + 1 := by omega
  have ls02 : w.heap.size < w.heap.size + 1 + 1 := by omega
  have ls03 : w.heap.size < w.heap.size + 1 + 1 + 1 := by omega
  have ls04 : w.heap.size < w.heap.size + 1 + 1 + 1 + 1 := by omega
  have ls13 : w.heap.size + 1 < w.heap.size + 1 + 1 + 1 := by omega
  have ls14 : w.heap.size + 1 < w.heap.size + 1 + 1 + 1 + 1 := by omega
  have ls24 : w.heap.size + 1 + 1 < w.heap.size + 1 + 1 + 1 + 1 := by omega
  have hq0 := hQ.q.cell
  have hqlt := hQ.q.lt
  have nq1 : ¬ bq = bw := fun e => hapw.1 e.symm
  have nq4 : ¬ bp = bq := hap.1
  have nq4' : ¬ bq = bp := fun e => hap.1 e.symm
  have nqs0 : ¬ bq = w.heap.size := by omega
  have nqs0' : ¬ w.heap.size = bq := by omega
  have nqs1 : ¬ bq = w.heap.size + 1 := by omega
  have nqs1' : ¬ w.heap.size + 1 = bq := by omega
  have nqs2 : ¬ bq = w.heap.size + 1 + 1 := by omega
  have nqs2' : ¬ w.heap.size + 1 + 1 = bq := by omega
  have nqs3 : ¬ bq = w.heap.size + 1 + 1 + 1 := by omega
  have nqs3' : ¬ w.heap.size + 1 + 1 + 1 = bq := by omega
  have hL := Lib.hid hi
  clear hi
  have hms : (saw : Int) < (batch : Int) := by omega
  have hw0 : IntKind.u64.wrap ((saw : Int) - (saw : Int)) = ((saw - saw : Nat) : Int) := by rw [IntKind.wrap_u64]; omega
  have HW := Lib.hid hw0
  clear hw0
  go_enter Tryd.func51, Tryd.ntmps51
  go_wp2_with fail
  go_region
  all_goals go_wp2_with fail
  all_goals go_region_held3 (fun w' => w'.cell? ⟨w.heap.size, 0, none⟩ = some (.pointer (some ⟨bp, 0, none⟩)) ∧ w'.cell? ⟨bp, 3, none⟩ = some (.int .u64 saw) ∧ w'.cell? ⟨w.heap.size + 1 + 1, 0, none⟩ = some (.int .u64 saw)) (first | (refine ⟨?_, ?_, ?_⟩ <;> go_simp) | go_keep) (first | (go_at_call 43; (have hww := HW.out); (simp only [Int.sub_self] at hww); (try rw [HW.out]); (try rw [hww]); clear hww; go_must (refine (do_any bp bq bc bw batch n 5 0 saw (saw - saw) saw (saw - saw) true l _ ?hp0 ?hQ1 (by decide) (DoIs.hit hL.out hQ.len)).mono ?_; (case hp0 => go_simp); (case hQ1 => (repeat (first | with_reducible exact hQ | with_reducible apply Quo.drew | with_reducible apply Quo.alloc | (with_reducible refine Quo.far ?_ ?_ _; rotate_left; (solve | exact hap | (simp; omega)))))); rintro e w1 ⟨rfl, hw1, hm⟩; (have hk := hm.cellB); (have hkf := hm.frozenB); (have hsz := hm.size); (simp only [World.size_alloc, World.size_setCell, World.size_drew] at hsz); (have hP1 : Has w1 bp 77 (pend bq own (mv 42 bp) saw left ans) := hm.has (by apply Has.of_eq; (case h => repeat (first | with_reducible assumption | (with_reducible refine Has.new' ?_; (solve | with_reducible rfl | simp)) | with_reducible apply Has.drew | with_reducible apply Has.drewN | with_reducible apply Has.alloc | with_reducible apply Has.put | (with_reducible apply Has.far'; (solve | assumption | simp | (simp; omega))) | fail)); (case e => rfl)) (by simp; omega)); (have hmm : Moves [bp, bw] w w1 := Moves.trans (b := _) (by (repeat (first | with_reducible exact Moves.refl _ _ | with_reducible apply Moves.drew | with_reducible apply Moves.drewN | with_reducible apply Moves.alloc | (with_reducible refine Moves.setOld ?_ ?_ _; rotate_left; (solve | simp)) | (with_reducible refine Moves.setNew ?_ ?_ _; rotate_left; (solve | simp | (simp; omega))) | fail))) hm (by simp)); (have ne1 : ¬ bp = w1.heap.size := by omega); (have ne1' : ¬ w1.heap.size = bp := by omega); (have na0 : ¬ w.heap.size = w1.heap.size := by omega); (have na0' : ¬ w1.heap.size = w.heap.size := by omega); (have na1 : ¬ w.heap.size + 1 = w1.heap.size := by omega); (have na1' : ¬ w1.heap.size = w.heap.size + 1 := by omega); (have na2 : ¬ w.heap.size + 1 + 1 = w1.heap.size := by omega); (have na2' : ¬ w1.heap.size = w.heap.size + 1 + 1 := by omega); (first | (refine lay (T := ¬ w.heap.size + 1 + 1 + 1 = w1.heap.size) ?_ (fun nz => ?_); (solve | omega)) | skip); (first | (refine lay (T := ¬ w1.heap.size = w.heap.size + 1 + 1 + 1) ?_ (fun nz' => ?_); (solve | omega)) | skip); clear hsz; simp only [did])))
  all_goals go_wp2
  all_goals refine bodyPost_ret (v := did 5 0 saw (saw - saw : Nat) true) (by simp only [results, Tryd.results51, did]; go_simp) rfl ?_
  all_goals first | (solve | (refine ⟨rfl, w.heap.size, w.heap.size + 1 + 1, ?_, ?_, ?_, ?_, ?_⟩; (all_goals first | (solve | (repeat (first | with_reducible exact hmm | with_reducible exact Moves.refl _ _ | with_reducible apply Moves.drew | with_reducible apply Moves.drewN | with_reducible apply Moves.alloc | (with_reducible refine Moves.setOld ?_ ?_ _; rotate_left; (solve | simp)) | (with_reducible refine Moves.setNew ?_ ?_ _; rotate_left; (solve | simp | (simp; omega))) | fail))) | (apply Has.of_eq; (case h => repeat (first | with_reducible assumption | (with_reducible refine Has.new' ?_; (solve | with_reducible rfl | simp)) | with_reducible apply Has.drew | with_reducible apply Has.drewN | with_reducible apply Has.alloc | with_reducible apply Has.put | (with_reducible apply Has.far'; (solve | assumption | simp | (simp; omega))) | (with_reducible apply hm.hasB; (solve | assumption | omega)) | fail)); (case e => rfl)))))
set_option maxHeartbeats 1000000 in
theorem borrow_miss_b (bp bq bc bw batch n own saw left : Nat) (z : Nat) (ans : Int) (f : Value) (l : List Nat) (w : World) (hP : Has w bp 77 (pend bq own f saw left ans))
    (hQ : Quo w bq bc bw batch n l) (hi : l[0]? = some z) (hz : z ≠ saw) (hc : batch ≤ saw) (hs : saw ≤ 1099511627776) (h1 : 1 ≤ batch) :
    Calls Tryd.prog 51 #[.pointer (some ⟨bp, 0, none⟩)] w fun e w' =>
      e = .returned (did 5 0 z z false) ∧ Has w' bp 77 (pend bq own (mv 42 bp) saw left ans) ∧ Has w' bw 99 (wds (l.set 0 z)) ∧ Moves [bp, bw] w w' := by
  have hmf : ∀ (fn : Fn) (first cap : Array Value) (w : World), (Instr.makeFunc fn first cap).run Tryd.prog w = .ok (.func fn first cap) w := fun _ _ _ _ => rfl
  have hPc := hP.cell
  have hPf := hP.frozen
  simp only [pend] at hPc
  have hap := hQ.apart hP
  have hapw := hQ.apart_w
  have hlt := hP.lt
  have hwlt := hQ.m.lt
  have nwp : ¬ bp = bw := hap.2.2.1
  have nb0 : ¬ bp = w.heap.size := by omega
  have nb0' : ¬ w.heap.size = bp := by omega
  have nw0 : ¬ w.heap.size = bw := by omega
  have nb1 : ¬ bp = w.heap.size + 1 := by omega
  have nb1' : ¬ w.heap.size + 1 = bp := by omega
  have nw1 : ¬ w.heap.size + 1 = bw := by omega
  have nb2 : ¬ bp = w.heap.size + 1 + 1 := by omega
  have nb2' : ¬ w.heap.size + 1 + 1 = bp := by omega
  have nw2 : ¬ w.heap.size + 1 + 1 = bw := by omega
  have nb3 : ¬ bp = w.heap.size + 1 + 1 + 1 := by omega
  have nb3' : ¬ w.heap.size + 1 + 1 + 1 = bp := by omega
  have nw3 : ¬ w.heap.size + 1 + 1 + 1 = bw := by omega
  have lp1 : bp < w.heap.size + 1 := by omega
  have lp2 : bp < w.heap.size + 1 + 1 := by omega
  have lp3 : bp < w.heap.size + 1 + 1 + 1 := by omega
  have lp4 : bp < w.heap.size + 1 + 1 + 1 + 1 := by omega
  have ls02 : w.heap.size < w.heap.size + 1 + 1 := by omega
  have ls03 : w.heap.size < w.heap.size + 1 + 1 + 1 := by omega
  have ls04 : w.heap.size < w.heap.size + 1 + 1 + 1 + 1 := by omega
  have ls13 : w.heap.size + 1 < w.heap.size + 1 + 1 + 1 := by omega
  have ls14 : w.heap.size + 1 < w.heap.size + 1 + 1 + 1 + 1 := by omega
  have ls24 : w.heap.size + 1 + 1 < w.heap.size + 1 + 1 + 1 + 1 := by omega
  have hq0 := hQ.q.cell
  have hqlt := hQ.q.lt
  have nq1 : ¬ bq = bw := fun e => hapw.1 e.symm
  have nq4 : ¬ bp = bq := hap.1
  have nq4' : ¬ bq = bp := fun e => hap.1 e.symm
  have nqs0 : ¬ bq = w.heap.size := by omega
  have nqs0' : ¬ w.heap.size = bq := by omega
  have nqs1 : ¬ bq = w.heap.size + 1 := by omega
  have nqs1' : ¬ w.heap.size + 1 = bq := by omega
  have nqs2 : ¬ bq = w.heap.size + 1 + 1 := by omega
  have nqs2' : ¬ w.heap.size + 1 + 1 = bq := by omega
  have nqs3 : ¬ bq = w.heap.size + 1 + 1 + 1 := by omega
  have nqs3' : ¬ w.heap.size + 1 + 1 + 1 = bq := by omega
  have hL := Lib.hid hi
  clear hi
  have hms : ¬ (saw : Int) < (batch : Int) := by omega
  have hw0 : IntKind.u64.wrap ((saw : Int) - (batch : Int)) = ((saw - batch : Nat) : Int) := by rw [IntKind.wrap_u64]; omega
  have HW := Lib.hid hw0
  clear hw0
  go_enter Tryd.func51, Tryd.ntmps51
  go_wp2_with fail
  go_region
  all_goals go_wp2_with fail
  all_goals go_region_held3 (fun w' => w'.cell? ⟨w.heap.size, 0, none⟩ = some (.pointer (some ⟨bp, 0, none⟩)) ∧ w'.cell? ⟨bp, 3, none⟩ = some (.int .u64 saw) ∧ w'.cell? ⟨w.heap.size + 1 + 1, 0, none⟩ = some (.int .u64 batch)) (first | (refine ⟨?_, ?_, ?_⟩ <;> go_simp) | go_keep) (first | (go_at_call 43; rw [HW.out]; go_must (refine (do_any bp bq bc bw batch n 5 0 saw (saw - batch) z z false l _ ?hp0 ?hQ1 (by decide) (DoIs.miss hL.out hQ.len hz)).mono ?_; (case hp0 => go_simp); (case hQ1 => (repeat (first | with_reducible exact hQ | with_reducible apply Quo.drew | with_reducible apply Quo.alloc | (with_reducible refine Quo.far ?_ ?_ _; rotate_left; (solve | exact hap | (simp; omega)))))); rintro e w1 ⟨rfl, hw1, hm⟩; (have hk := hm.cellB); (have hkf := hm.frozenB); (have hsz := hm.size); (simp only [World.size_alloc, World.size_setCell, World.size_drew] at hsz); (have hP1 : Has w1 bp 77 (pend bq own (mv 42 bp) saw left ans) := hm.has (by apply Has.of_eq; (case h => repeat (first | with_reducible assumption | (with_reducible refine Has.new' ?_; (solve | with_reducible rfl | simp)) | with_reducible apply Has.drew | with_reducible apply Has.drewN | with_reducible apply Has.alloc | with_reducible apply Has.put | (with_reducible apply Has.far'; (solve | assumption | simp | (simp; omega))) | fail)); (case e => rfl)) (by simp; omega)); (have hmm : Moves [bp, bw] w w1 := Moves.trans (b := _) (by (repeat (first | with_reducible exact Moves.refl _ _ | with_reducible apply Moves.drew | with_reducible apply Moves.drewN | with_reducible apply Moves.alloc | (with_reducible refine Moves.setOld ?_ ?_ _; rotate_left; (solve | simp)) | (with_reducible refine Moves.setNew ?_ ?_ _; rotate_left; (solve | simp | (simp; omega))) | fail))) hm (by simp)); (have ne1 : ¬ bp = w1.heap.size := by omega); (have ne1' : ¬ w1.heap.size = bp := by omega); (have na0 : ¬ w.heap.size = w1.heap.size := by omega); (have na0' : ¬ w1.heap.size = w.heap.size := by omega); (have na1 : ¬ w.heap.size + 1 = w1.heap.size := by omega); (have na1' : ¬ w1.heap.size = w.heap.size + 1 := by omega); (have na2 : ¬ w.heap.size + 1 + 1 = w1.heap.size := by omega); (have na2' : ¬ w1.heap.size = w.heap.size + 1 + 1 := by omega); (first | (refine lay (T := ¬ w.heap.size + 1 + 1 + 1 = w1.heap.size) ?_ (fun nz => ?_); (solve | omega)) | skip); (first | (refine lay (T := ¬ w1.heap.size = w.heap.size + 1 + 1 + 1) ?_ (fun nz' => ?_); (solve | omega)) | skip); clear hsz; simp only [did])))
  all_goals go_wp2
  all_goals refine bodyPost_ret (v := did 5 0 z z false) (by simp only [results, Tryd.results51, did]; go_simp) rfl ?_
  all_goals first | (solve | (refine ⟨rfl, ?_, ?_, ?_⟩; (all_goals first | (solve | (repeat (first | with_reducible exact hmm | with_reducible exact Moves.refl _ _ | with_reducible apply Moves.drew | with_reducible apply Moves.drewN | with_reducible apply Moves.alloc | (with_reducible refine Moves.setOld ?_ ?_ _; rotate_left; (solve | simp)) | (with_reducible refine Moves.setNew ?_ ?_ _; rotate_left; (solve | simp | (simp; omega))) | fail))) | (apply Has.of_eq; (case h => repeat (first | with_reducible assumption | (with_reducible refine Has.new' ?_; (solve | with_reducible rfl | simp)) | with_reducible apply Has.drew | with_reducible apply Has.drewN | with_reducible apply Has.alloc | with_reducible apply Has.put | (with_reducible apply Has.far'; (solve | assumption | simp | (simp; omega))) | (with_reducible apply hm.hasB; (solve | assumption | omega)) | fail)); (case e => rfl)))))
set_option maxHeartbeats 1000000 in
theorem borrow_one_b (bp bq bc bw batch n own saw left : Nat) (ans : Int) (f : Value) (l : List Nat) (w : World) (hP : Has w bp 77 (pend bq own f saw left ans))
    (hQ : Quo w bq bc bw batch n l) (hi : l[0]? = some saw) (hc : batch ≤ saw) (hs : saw ≤ 1099511627776) (h1 : 1 ≤ batch) (hb1 : ((batch : Int) == 1) = true) :
    Calls Tryd.prog 51 #[.pointer (some ⟨bp, 0, none⟩)] w fun e w' =>
      e = .returned (did 5 0 saw (saw - batch : Nat) true) ∧ Has w' bp 77 (pend bq own Value.nilFunc saw left 1) ∧ Has w' bw 99 (wds (l.set 0 (saw - batch))) ∧ Moves [bp, bw] w w' := by
  have hmf : ∀ (fn : Fn) (first cap : Array Value) (w : World), (Instr.makeFunc fn first cap).run Tryd.prog w = .ok (.func fn first cap) w := fun _ _ _ _ => rfl
  have hPc := hP.cell
  have hPf := hP.frozen
  simp only [pend] at hPc
  have hap := hQ.apart hP
  have hapw := hQ.apart_w
  have hlt := hP.lt
  have hwlt := hQ.m.lt
  have nwp : ¬ bp = bw := hap.2.2.1
  have nb0 : ¬ bp = w.heap.size := by omega
  have nb0' : ¬ w.heap.size = bp := by omega
  have nw0 : ¬ w.heap.size = bw := by omega
  have nb1 : ¬ bp = w.heap.size + 1 := by omega
  have nb1' : ¬ w.heap.size + 1 = bp := by omega
  have nw1 : ¬ w.heap.size + 1 = bw := by omega
  have nb2 : ¬ bp = w.heap.size + 1 + 1 := by omega
  have nb2' : ¬ w.heap.size + 1 + 1 = bp := by omega
  have nw2 : ¬ w.heap.size + 1 + 1 = bw := by omega
  have nb3 : ¬ bp = w.heap.size + 1 + 1 + 1 := by omega
  have nb3' : ¬ w.heap.size + 1 + 1 + 1 = bp := by omega
  have nw3 : ¬ w.heap.size + 1 + 1 + 1 = bw := by omega
  have lp1 : bp < w.heap.size + 1 := by omega
  have lp2 : bp < w.heap.size + 1 + 1 := by omega
  have lp3 : bp < w.heap.size + 1 + 1 + 1 := by omega
  have lp4 : bp < w.heap.size + 1 + 1 + 1 + 1 := by omega
  have ls02 : w.heap.size < w.heap.size + 1 + 1 := by omega
  have ls03 : w.heap.size < w.heap.size + 1 + 1 + 1 := by omega
  have ls04 : w.heap.size < w.heap.size + 1 + 1 + 1 + 1 := by omega
  have ls13 : w.heap.size + 1 < w.heap.size + 1 + 1 + 1 := by omega
  have ls14 : w.heap.size + 1 < w.heap.size + 1 + 1 + 1 + 1 := by omega
  have ls24 : w.heap.size + 1 + 1 < w.heap.size + 1 + 1 + 1 + 1 := by omega
  have hq0 := hQ.q.cell
  have hqlt := hQ.q.lt
  have nq1 : ¬ bq = bw := fun e => hapw.1 e.symm
  have nq4 : ¬ bp = bq := hap.1
  have nq4' : ¬ bq = bp := fun e => hap.1 e.symm
  have nqs0 : ¬ bq = w.heap.size := by omega
  have nqs0' : ¬ w.heap.size = bq := by omega
  have nqs1 : ¬ bq = w.heap.size + 1 := by omega
  have nqs1' : ¬ w.heap.size + 1 = bq := by omega
  have nqs2 : ¬ bq = w.heap.size + 1 + 1 := by omega
  have nqs2' : ¬ w.heap.size + 1 + 1 = bq := by omega
  have nqs3 : ¬ bq = w.heap.size + 1 + 1 + 1 := by omega
  have nqs3' : ¬ w.heap.size + 1 + 1 + 1 = bq := by omega
  have hL := Lib.hid hi
  clear hi
  have hms : ¬ (saw : Int) < (batch : Int) := by omega
  have hw0 : IntKind.u64.wrap ((saw : Int) - (batch : Int)) = ((saw - batch : Nat) : Int) := by rw [IntKind.wrap_u64]; omega
  have HW := Lib.hid hw0
  clear hw0
  go_enter Tryd.func51, Tryd.ntmps51
  go_wp2_with fail
  go_region
  all_goals go_wp2_with fail
  all_goals go_region_held3 (fun w' => w'.cell? ⟨w.heap.size, 0, none⟩ = some (.pointer (some ⟨bp, 0, none⟩)) ∧ w'.cell? ⟨bp, 3, none⟩ = some (.int .u64 saw) ∧ w'.cell? ⟨w.heap.size + 1 + 1, 0, none⟩ = some (.int .u64 batch)) (first | (refine ⟨?_, ?_, ?_⟩ <;> go_simp) | go_keep) (first | (go_at_call 43; rw [HW.out]; go_must (refine (do_any bp bq bc bw batch n 5 0 saw (saw - batch) saw (saw - batch) true l _ ?hp0 ?hQ1 (by decide) (DoIs.hit hL.out hQ.len)).mono ?_; (case hp0 => go_simp); (case hQ1 => (repeat (first | with_reducible exact hQ | with_reducible apply Quo.drew | with_reducible apply Quo.alloc | (with_reducible refine Quo.far ?_ ?_ _; rotate_left; (solve | exact hap | (simp; omega)))))); rintro e w1 ⟨rfl, hw1, hm⟩; (have hk := hm.cellB); (have hkf := hm.frozenB); (have hsz := hm.size); (simp only [World.size_alloc, World.size_setCell, World.size_drew] at hsz); (have hP1 : Has w1 bp 77 (pend bq own (mv 42 bp) saw left ans) := hm.has (by apply Has.of_eq; (case h => repeat (first | with_reducible assumption | (with_reducible refine Has.new' ?_; (solve | with_reducible rfl | simp)) | with_reducible apply Has.drew | with_reducible apply Has.drewN | with_reducible apply Has.alloc | with_reducible apply Has.put | (with_reducible apply Has.far'; (solve | assumption | simp | (simp; omega))) | fail)); (case e => rfl)) (by simp; omega)); (have hmm : Moves [bp, bw] w w1 := Moves.trans (b := _) (by (repeat (first | with_reducible exact Moves.refl _ _ | with_reducible apply Moves.drew | with_reducible apply Moves.drewN | with_reducible apply Moves.alloc | (with_reducible refine Moves.setOld ?_ ?_ _; rotate_left; (solve | simp)) | (with_reducible refine Moves.setNew ?_ ?_ _; rotate_left; (solve | simp | (simp; omega))) | fail))) hm (by simp)); (have ne1 : ¬ bp = w1.heap.size := by omega); (have ne1' : ¬ w1.heap.size = bp := by omega); (have na0 : ¬ w.heap.size = w1.heap.size := by omega); (have na0' : ¬ w1.heap.size = w.heap.size := by omega); (have na1 : ¬ w.heap.size + 1 = w1.heap.size := by omega); (have na1' : ¬ w1.heap.size = w.heap.size + 1 := by omega); (have na2 : ¬ w.heap.size + 1 + 1 = w1.heap.size := by omega); (have na2' : ¬ w1.heap.size = w.heap.size + 1 + 1 := by omega); (first | (refine lay (T := ¬ w.heap.size + 1 + 1 + 1 = w1.heap.size) ?_ (fun nz => ?_); (solve | omega)) | skip); (first | (refine lay (T := ¬ w1.heap.size = w.heap.size + 1 + 1 + 1) ?_ (fun nz' => ?_); (solve | omega)) | skip); clear hsz; simp only [did])))
  all_goals go_wp2
  all_goals go_end0
  all_goals go_wp2
  all_goals refine bodyPost_ret (v := did 5 0 saw (saw - batch : Nat) true) (by simp only [results, Tryd.results51, did]; go_simp) rfl ?_
  all_goals first | (solve | (refine ⟨rfl, ?_, ?_, ?_⟩; (all_goals first | (solve | (repeat (first | with_reducible exact hmm | with_reducible exact Moves.refl _ _ | with_reducible apply Moves.drew | with_reducible apply Moves.drewN | with_reducible apply Moves.alloc | (with_reducible refine Moves.setOld ?_ ?_ _; rotate_left; (solve | simp)) | (with_reducible refine Moves.setNew ?_ ?_ _; rotate_left; (solve | simp | (simp; omega))) | fail))) | (apply Has.of_eq; (case h => repeat (first | with_reducible assumption | (with_reducible refine Has.new' ?_; (solve | with_reducible rfl | simp)) | with_reducible apply Has.drew | with_reducible apply Has.drewN | with_reducible apply Has.alloc | with_reducible apply Has.put | (with_reducible apply Has.far'; (solve | assumption | simp | (simp; omega))) | (with_reducible apply hm.hasB; (solve | assumption | omega)) | fail)); (case e => rfl)))))
set_option maxHeartbeats 1000000 in
theorem borrow_more_b (bp bq bc bw batch n own saw left : Nat) (ans : Int) (f : Value) (l : List Nat) (w : World) (hP : Has w bp 77 (pend bq own f saw left ans))
    (hQ : Quo w bq bc bw batch n l) (hi : l[0]? = some saw) (hc : batch ≤ saw) (hs : saw ≤ 1099511627776) (h1 : 1 ≤ batch) (hb1 : ((batch : Int) == 1) = false) :
    Calls Tryd.prog 51 #[.pointer (some ⟨bp, 0, none⟩)] w fun e w' =>
      e = .returned (did 5 0 saw (saw - batch : Nat) true) ∧ ∃ g1 g2, Has w' bp 77 (pend bq own (cl 54 g1 g2) saw left ans) ∧ Has w' g1 32 #[.pointer (some ⟨bp, 0, none⟩)] ∧ Has w' g2 39 #[.int .u64 batch] ∧ Has w' bw 99 (wds (l.set 0 (saw - batch))) ∧ Moves [bp, bw] w w' := by
  have hmf : ∀ (fn : Fn) (first cap : Array Value) (w : World), (Instr.makeFunc fn first cap).run Tryd.prog w = .ok (.func fn first cap) w := fun _ _ _ _ => rfl
  have hPc := hP.cell
  have hPf := hP.frozen
  simp only [pend] at hPc
  have hap := hQ.apart hP
  have hapw := hQ.apart_w
  have hlt := hP.lt
  have hwlt := hQ.m.lt
  have nwp : ¬ bp = bw := hap.2.2.1
  have nb0 : ¬ bp = w.heap.size := by omega
  have nb0' : ¬ w.heap.size = bp := by omega
  have nw0 : ¬ w.heap.size = bw := by omega
  have nb1 : ¬ bp = w.heap.size + 1 := by omega
  have nb1' : ¬ w.heap.size + 1 = bp := by omega
  have nw1 : ¬ w.heap.size + 1 = bw := by omega
  have nb2 : ¬ bp = w.heap.size + 1 + 1 := by omega
  have nb2' : ¬ w.heap.size + 1 + 1 = bp := by omega
  have nw2 : ¬ w.heap.size + 1 + 1 = bw := by omega
  have nb3 : ¬ bp = w.heap.size + 1 + 1 + 1 := by omega
  have nb3' : ¬ w.heap.size + 1 + 1 + 1 = bp := by omega
  have nw3 : ¬ w.heap.size + 1 + 1 + 1 = bw := by omega
  have lp1 : bp < w.heap.size + 1 := by omega
  have lp2 : bp < w.heap.size + 1 + 1 := by omega
  have lp3 : bp < w.heap.size + 1 + 1 + 1 := by omega
  have lp4 : bp < w.heap.size + 1 + 1 + 1 + 1 := by omega
  have ls02 : w.heap.size < w.heap.size + 1 + 1 := by omega
  have ls03 : w.heap.size < w.heap.size + 1 + 1 + 1 := by omega
  have ls04 : w.heap.size < w.heap.size + 1 + 1 + 1 + 1 := by omega
  have ls13 : w.heap.size + 1 < w.heap.size + 1 + 1 + 1 := by omega
  have ls14 : w.heap.size + 1 < w.heap.size + 1 + 1 + 1 + 1 := by omega
  have ls24 : w.heap.size + 1 + 1 < w.heap.size + 1 + 1 + 1 + 1 := by omega
  have hq0 := hQ.q.cell
  have hqlt := hQ.q.lt
  have nq1 : ¬ bq = bw := fun e => hapw.1 e.symm
  have nq4 : ¬ bp = bq := hap.1
  have nq4' : ¬ bq = bp := fun e => hap.1 e.symm
  have nqs0 : ¬ bq = w.heap.size := by omega
  have nqs0' : ¬ w.heap.size = bq := by omega
  have nqs1 : ¬ bq = w.heap.size + 1 := by omega
  have nqs1' : ¬ w.heap.size + 1 = bq := by omega
  have nqs2 : ¬ bq = w.heap.size + 1 + 1 := by omega
  have nqs2' : ¬ w.heap.size + 1 + 1 = bq := by omega
  have nqs3 : ¬ bq = w.heap.size + 1 + 1 + 1 := by omega
  have nqs3' : ¬ w.heap.size + 1 + 1 + 1 = bq := by omega
  have hL := Lib.hid hi
  clear hi
  have hms : ¬ (saw : Int) < (batch : Int) := by omega
  have hw0 : IntKind.u64.wrap ((saw : Int) - (batch : Int)) = ((saw - batch : Nat) : Int) := by rw [IntKind.wrap_u64]; omega
  have HW := Lib.hid hw0
  clear hw0
  go_enter Tryd.func51, Tryd.ntmps51
  go_wp2_with fail
  go_region
  all_goals go_wp2_with fail
  all_goals go_region_held3 (fun w' => w'.cell? ⟨w.heap.size, 0, none⟩ = some (.pointer (some ⟨bp, 0, none⟩)) ∧ w'.cell? ⟨bp, 3, none⟩ = some (.int .u64 saw) ∧ w'.cell? ⟨w.heap.size + 1 + 1, 0, none⟩ = some (.int .u64 batch)) (first | (refine ⟨?_, ?_, ?_⟩ <;> go_simp) | go_keep) (first | (go_at_call 43; rw [HW.out]; go_must (refine (do_any bp bq bc bw batch n 5 0 saw (saw - batch) saw (saw - batch) true l _ ?hp0 ?hQ1 (by decide) (DoIs.hit hL.out hQ.len)).mono ?_; (case hp0 => go_simp); (case hQ1 => (repeat (first | with_reducible exact hQ | with_reducible apply Quo.drew | with_reducible apply Quo.alloc | (with_reducible refine Quo.far ?_ ?_ _; rotate_left; (solve | exact hap | (simp; omega)))))); rintro e w1 ⟨rfl, hw1, hm⟩; (have hk := hm.cellB); (have hkf := hm.frozenB); (have hsz := hm.size); (simp only [World.size_alloc, World.size_setCell, World.size_drew] at hsz); (have hP1 : Has w1 bp 77 (pend bq own (mv 42 bp) saw left ans) := hm.has (by apply Has.of_eq; (case h => repeat (first | with_reducible assumption | (with_reducible refine Has.new' ?_; (solve | with_reducible rfl | simp)) | with_reducible apply Has.drew | with_reducible apply Has.drewN | with_reducible apply Has.alloc | with_reducible apply Has.put | (with_reducible apply Has.far'; (solve | assumption | simp | (simp; omega))) | fail)); (case e => rfl)) (by simp; omega)); (have hmm : Moves [bp, bw] w w1 := Moves.trans (b := _) (by (repeat (first | with_reducible exact Moves.refl _ _ | with_reducible apply Moves.drew | with_reducible apply Moves.drewN | with_reducible apply Moves.alloc | (with_reducible refine Moves.setOld ?_ ?_ _; rotate_left; (solve | simp)) | (with_reducible refine Moves.setNew ?_ ?_ _; rotate_left; (solve | simp | (simp; omega))) | fail))) hm (by simp)); (have ne1 : ¬ bp = w1.heap.size := by omega); (have ne1' : ¬ w1.heap.size = bp := by omega); (have na0 : ¬ w.heap.size = w1.heap.size := by omega); (have na0' : ¬ w1.heap.size = w.heap.size := by omega); (have na1 : ¬ w.heap.size + 1 = w1.heap.size := by omega); (have na1' : ¬ w1.heap.size = w.heap.size + 1 := by omega); (have na2 : ¬ w.heap.size + 1 + 1 = w1.heap.size := by omega); (have na2' : ¬ w1.heap.size = w.heap.size + 1 + 1 := by omega); (first | (refine lay (T := ¬ w.heap.size + 1 + 1 + 1 = w1.heap.size) ?_ (fun nz => ?_); (solve | omega)) | skip); (first | (refine lay (T := ¬ w1.heap.size = w.heap.size + 1 + 1 + 1) ?_ (fun nz' => ?_); (solve | omega)) | skip); clear hsz; simp only [did])))
  all_goals go_wp2
  all_goals refine bodyPost_ret (v := did 5 0 saw (saw - batch : Nat) true) (by simp only [results, Tryd.results51, did]; go_simp) rfl ?_
  all_goals first | (solve | (refine ⟨rfl, w.heap.size, w.heap.size + 1 + 1, ?_, ?_, ?_, ?_, ?_⟩; (all_goals first | (solve | (repeat (first | with_reducible exact hmm | with_reducible exact Moves.refl _ _ | with_reducible apply Moves.drew | with_reducible apply Moves.drewN | with_reducible apply Moves.alloc | (with_reducible refine Moves.setOld ?_ ?_ _; rotate_left; (solve | simp)) | (with_reducible refine Moves.setNew ?_ ?_ _; rotate_left; (solve | simp | (simp; omega))) | fail))) | (apply Has.of_eq; (case h => repeat (first | with_reducible assumption | (with_reducible refine Has.new' ?_; (solve | with_reducible rfl | simp)) | with_reducible apply Has.drew | with_reducible apply Has.drewN | with_reducible apply Has.alloc | with_reducible apply Has.put | (with_reducible apply Has.far'; (solve | assumption | simp | (simp; omega))) | (with_reducible apply hm.hasB; (solve | assumption | omega)) | fail)); (case e => rfl)))))
end Go.Proofs.YtigacfgoldnoiaaDoor
