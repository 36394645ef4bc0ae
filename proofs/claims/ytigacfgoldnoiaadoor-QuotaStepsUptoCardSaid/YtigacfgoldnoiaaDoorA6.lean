/- The steps of an operation under way: those that look at all cells, and those that make closures. -/
import Derived.Test.YtigacfgoldnoiaaDoorA5
namespace Go.Proofs.YtigacfgoldnoiaaDoor
open Go.RowKit
set_option linter.unusedVariables false
set_option linter.unusedSimpArgs false
attribute [local go_sem] World.cell?_alloc_old World.frozen?_alloc_old

set_option maxHeartbeats 2000000 in
theorem sum_more (bp bq bc bw batch n own saw left : Nat) (a : Nat) (f : Value) (l : List Nat) (w : World) (hP : Has w bp 77 (pend bq own f saw left a))
    (hQ : Quo w bq bc bw batch n l) (x : Nat) (hi : l[left]? = some x) (hb : a + x ≤ 4611686018427387904) (hln : left ≤ 1000) (hlt : left + 1 ≤ n) :
    Calls Tryd.prog 33 #[.pointer (some ⟨bp, 0, none⟩)] w fun e w' =>
      e = .returned (did 1 left x x true) ∧ Has w' bp 77 (pend bq own (f) saw (left + 1) ((a + x : Nat))) ∧ Has w' bw 99 (wds (l.set left x)) ∧ Moves [bp, bw] w w' := by
  have hmf : ∀ (fn : Fn) (first cap : Array Value) (w : World), (Instr.makeFunc fn first cap).run Tryd.prog w = .ok (.func fn first cap) w := fun _ _ _ _ => rfl
  have hPc := hP.cell
  have hPf := hP.frozen
  simp only [pend] at hPc
  have hap := hQ.apart hP
  have hapw := hQ.apart_w
  have hlt := hP.lt
  have hwlt := hQ.m.lt
  have ne0 : ¬ bp = w.heap.size := by omega
  have ne0' : ¬ w.heap.size = bp := by omega
  have ne3 : ¬ bp = w.heap.size + 1 := by omega
  have ne3' : ¬ w.heap.size + 1 = bp := by omega
  have nw0 : ¬ w.heap.size = bw := by omega
  have nw1 : ¬ w.heap.size + 1 = bw := by omega
  have nwp : ¬ bp = bw := hap.2.2.1
  have lt1 : bp < w.heap.size + 1 := by omega
  have lt2 : bp < w.heap.size + 1 + 1 := by omega
  have lt3 : w.heap.size < w.heap.size + 1 + 1 := by omega
  have hL := Lib.hid hi
  clear hi
  have hw1 : IntKind.i64.wrap (x : Int) = (x : Int) := by rw [IntKind.wrap_i64]; omega
  have hw2 : IntKind.i64.wrap ((a : Int) + (x : Int)) = ((a + x : Nat) : Int) := by rw [IntKind.wrap_i64]; omega
  have HW1 := Lib.hid hw1
  have HW2 := Lib.hid hw2
  clear hw1 hw2
  have hd : decide ((n : Int) < (left : Int) + 1) = false := by simp; omega
  have hq0 := hQ.q.cell
  have hqlt := hQ.q.lt
  have nq1 : ¬ bq = bw := fun e => hapw.1 e.symm
  have nq2 : ¬ bq = w.heap.size := by omega
  have nq2' : ¬ w.heap.size = bq := by omega
  have nq4 : ¬ bp = bq := hap.1
  have nq4' : ¬ bq = bp := fun e => hap.1 e.symm
  have ltq : bq < w.heap.size + 1 := by omega
  go_enter Tryd.func33, Tryd.ntmps33
  go_wp2_with (go_at_call 43; go_must (refine (do_any bp bq bc bw batch n 1 left 0 0 x x true l _ ?hp0 ?hQ1 (by decide) (DoIs.load hL.out hQ.len)).mono ?_; (case hp0 => go_simp); (case hQ1 => (repeat (first | with_reducible exact hQ | with_reducible apply Quo.drew | with_reducible apply Quo.alloc | (with_reducible refine Quo.far ?_ ?_ _; rotate_left; (solve | exact hap | (simp; omega)))))); rintro e w1 ⟨rfl, hw1, hm⟩; (have hk := hm.cellB); (have hkf := hm.frozenB); (have hsz := hm.size); (simp only [World.size_alloc, World.size_setCell, World.size_drew] at hsz); (have hP1 : Has w1 bp 77 (pend bq own (f) saw left a) := hm.has (by apply Has.of_eq; (case h => repeat (first | with_reducible assumption | with_reducible apply Has.drew | with_reducible apply Has.drewN | with_reducible apply Has.alloc | with_reducible apply Has.put | (with_reducible apply Has.far'; (solve | assumption | simp | (simp; omega))) | fail)); (case e => rfl)) (by simp; omega)); (have hmm : Moves [bp, bw] w w1 := Moves.trans (b := _) (by repeat (first | with_reducible exact Moves.refl _ _ | with_reducible apply Moves.drew | with_reducible apply Moves.drewN | with_reducible apply Moves.alloc | (with_reducible refine Moves.setOld ?_ ?_ _; rotate_left; (solve | simp)) | fail)) hm (by simp)); (have ne1 : ¬ bp = w1.heap.size := by omega); (have ne1' : ¬ w1.heap.size = bp := by omega); (have ne2 : ¬ w.heap.size = w1.heap.size := by omega); (have ne2' : ¬ w1.heap.size = w.heap.size := by omega); (first | (refine lay (T := ¬ w.heap.size + 1 = w1.heap.size) ?_ (fun ne4 => ?_); (solve | omega)) | skip); (first | (refine lay (T := ¬ w1.heap.size = w.heap.size + 1) ?_ (fun ne4' => ?_); (solve | omega)) | skip); (have nq3 : ¬ bq = w1.heap.size := by omega); (have nq3' : ¬ w1.heap.size = bq := by omega); clear hm hsz; simp only [did]))
  have q1 := HW1.out
  have q2 := HW2.out
  go_region
  all_goals clear q1 q2
  all_goals go_wp2_with fail
  all_goals go_quiet (fail)
  all_goals go_wp2
  all_goals refine bodyPost_ret (v := did 1 left x x true) (by simp only [results, Tryd.results33, did]; go_simp) rfl ⟨rfl, ?_, ?_, ?_⟩
  all_goals first | (solve | (repeat (first | with_reducible exact hmm | with_reducible apply Moves.drew | with_reducible apply Moves.drewN | with_reducible apply Moves.alloc | (with_reducible refine Moves.setOld ?_ ?_ _; rotate_left; (solve | simp)) | (with_reducible refine Moves.setNew ?_ ?_ _; rotate_left; (solve | simp | (simp; omega))) | fail))) | (solve | (repeat (first | with_reducible exact hw1 | with_reducible apply Has.drew | with_reducible apply Has.drewN | with_reducible apply Has.alloc | (with_reducible apply Has.far'; (solve | assumption | simp | (simp; omega))) | fail))) | (apply Has.of_eq; (case h => repeat (first | with_reducible exact hP1 | with_reducible apply Has.drew | with_reducible apply Has.drewN | with_reducible apply Has.alloc | with_reducible apply Has.put | (with_reducible apply Has.far'; (solve | assumption | simp | (simp; omega))) | fail)); (case e => rfl))
set_option maxHeartbeats 2000000 in
theorem sum_last (bp bq bc bw batch n own saw left : Nat) (a : Nat) (f : Value) (l : List Nat) (w : World) (hP : Has w bp 77 (pend bq own f saw left a))
    (hQ : Quo w bq bc bw batch n l) (x : Nat) (hi : l[left]? = some x) (hb : a + x ≤ 4611686018427387904) (hln : left ≤ 1000) (hlt : n < left + 1) :
    Calls Tryd.prog 33 #[.pointer (some ⟨bp, 0, none⟩)] w fun e w' =>
      e = .returned (did 1 left x x true) ∧ Has w' bp 77 (pend bq own (Value.nilFunc) saw (left + 1) ((a + x : Nat))) ∧ Has w' bw 99 (wds (l.set left x)) ∧ Moves [bp, bw] w w' := by
  have hmf : ∀ (fn : Fn) (first cap : Array Value) (w : World), (Instr.makeFunc fn first cap).run Tryd.prog w = .ok (.func fn first cap) w := fun _ _ _ _ => rfl
  have hPc := hP.cell
  have hPf := hP.frozen
  simp only [pend] at hPc
  have hap := hQ.apart hP
  have hapw := hQ.apart_w
  have hlt := hP.lt
  have hwlt := hQ.m.lt
  have ne0 : ¬ bp = w.heap.size := by omega
  have ne0' : ¬ w.heap.size = bp := by omega
  have ne3 : ¬ bp = w.heap.size + 1 := by omega
  have ne3' : ¬ w.heap.size + 1 = bp := by omega
  have nw0 : ¬ w.heap.size = bw := by omega
  have nw1 : ¬ w.heap.size + 1 = bw := by omega
  have nwp : ¬ bp = bw := hap.2.2.1
  have lt1 : bp < w.heap.size + 1 := by omega
  have lt2 : bp < w.heap.size + 1 + 1 := by omega
  have lt3 : w.heap.size < w.heap.size + 1 + 1 := by omega
  have hL := Lib.hid hi
  clear hi
  have hw1 : IntKind.i64.wrap (x : Int) = (x : Int) := by rw [IntKind.wrap_i64]; omega
  have hw2 : IntKind.i64.wrap ((a : Int) + (x : Int)) = ((a + x : Nat) : Int) := by rw [IntKind.wrap_i64]; omega
  have HW1 := Lib.hid hw1
  have HW2 := Lib.hid hw2
  clear hw1 hw2
  have hd : decide ((n : Int) < (left : Int) + 1) = true := by simp; omega
  have hq0 := hQ.q.cell
  have hqlt := hQ.q.lt
  have nq1 : ¬ bq = bw := fun e => hapw.1 e.symm
  have nq2 : ¬ bq = w.heap.size := by omega
  have nq2' : ¬ w.heap.size = bq := by omega
  have nq4 : ¬ bp = bq := hap.1
  have nq4' : ¬ bq = bp := fun e => hap.1 e.symm
  have ltq : bq < w.heap.size + 1 := by omega
  go_enter Tryd.func33, Tryd.ntmps33
  go_wp2_with (go_at_call 43; go_must (refine (do_any bp bq bc bw batch n 1 left 0 0 x x true l _ ?hp0 ?hQ1 (by decide) (DoIs.load hL.out hQ.len)).mono ?_; (case hp0 => go_simp); (case hQ1 => (repeat (first | with_reducible exact hQ | with_reducible apply Quo.drew | with_reducible apply Quo.alloc | (with_reducible refine Quo.far ?_ ?_ _; rotate_left; (solve | exact hap | (simp; omega)))))); rintro e w1 ⟨rfl, hw1, hm⟩; (have hk := hm.cellB); (have hkf := hm.frozenB); (have hsz := hm.size); (simp only [World.size_alloc, World.size_setCell, World.size_drew] at hsz); (have hP1 : Has w1 bp 77 (pend bq own (f) saw left a) := hm.has (by apply Has.of_eq; (case h => repeat (first | with_reducible assumption | with_reducible apply Has.drew | with_reducible apply Has.drewN | with_reducible apply Has.alloc | with_reducible apply Has.put | (with_reducible apply Has.far'; (solve | assumption | simp | (simp; omega))) | fail)); (case e => rfl)) (by simp; omega)); (have hmm : Moves [bp, bw] w w1 := Moves.trans (b := _) (by repeat (first | with_reducible exact Moves.refl _ _ | with_reducible apply Moves.drew | with_reducible apply Moves.drewN | with_reducible apply Moves.alloc | (with_reducible refine Moves.setOld ?_ ?_ _; rotate_left; (solve | simp)) | fail)) hm (by simp)); (have ne1 : ¬ bp = w1.heap.size := by omega); (have ne1' : ¬ w1.heap.size = bp := by omega); (have ne2 : ¬ w.heap.size = w1.heap.size := by omega); (have ne2' : ¬ w1.heap.size = w.heap.size := by omega); (first | (refine lay (T := ¬ w.heap.size + 1 = w1.heap.size) ?_ (fun ne4 => ?_); (solve | omega)) | skip); (first | (refine lay (T := ¬ w1.heap.size = w.heap.size + 1) ?_ (fun ne4' => ?_); (solve | omega)) | skip); (have nq3 : ¬ bq = w1.heap.size := by omega); (have nq3' : ¬ w1.heap.size = bq := by omega); clear hm hsz; simp only [did]))
  have q1 := HW1.out
  have q2 := HW2.out
  go_region
  all_goals clear q1 q2
  all_goals go_wp2_with fail
  all_goals go_quiet (fail)
  all_goals go_wp2
  all_goals refine bodyPost_ret (v := did 1 left x x true) (by simp only [results, Tryd.results33, did]; go_simp) rfl ⟨rfl, ?_, ?_, ?_⟩
  all_goals first | (solve | (repeat (first | with_reducible exact hmm | with_reducible apply Moves.drew | with_reducible apply Moves.drewN | with_reducible apply Moves.alloc | (with_reducible refine Moves.setOld ?_ ?_ _; rotate_left; (solve | simp)) | (with_reducible refine Moves.setNew ?_ ?_ _; rotate_left; (solve | simp | (simp; omega))) | fail))) | (solve | (repeat (first | with_reducible exact hw1 | with_reducible apply Has.drew | with_reducible apply Has.drewN | with_reducible apply Has.alloc | (with_reducible apply Has.far'; (solve | assumption | simp | (simp; omega))) | fail))) | (apply Has.of_eq; (case h => repeat (first | with_reducible exact hP1 | with_reducible apply Has.drew | with_reducible apply Has.drewN | with_reducible apply Has.alloc | with_reducible apply Has.put | (with_reducible apply Has.far'; (solve | assumption | simp | (simp; omega))) | fail)); (case e => rfl))
end Go.Proofs.YtigacfgoldnoiaaDoor
