/- The steps of an operation under way. -/
import Derived.Test.YtigacfgoldnoiaaDoorA4
import Derived.Deep.RegionHeld3
namespace Go.Proofs.YtigacfgoldnoiaaDoor
open Go.RowKit
set_option linter.unusedVariables false
set_option linter.unusedSimpArgs false
attribute [local go_sem] World.cell?_alloc_old World.frozen?_alloc_old

set_option maxHeartbeats 2000000 in
theorem look_some (bp bq bc bw batch n own saw left : Nat) (ans : Int) (f : Value) (l : List Nat) (w : World) (hP : Has w bp 77 (pend bq own f saw left ans))
    (hQ : Quo w bq bc bw batch n l) (x : Nat) (hi : l[own]? = some x) (hx : 0 < x) :
    Calls Tryd.prog 31 #[.pointer (some ⟨bp, 0, none⟩)] w fun e w' =>
      e = .returned (did 1 own x x true) ∧ Has w' bp 77 (pend bq own (mv 44 bp) x left ans) ∧ Has w' bw 99 (wds (l.set own x)) ∧ Moves [bp, bw] w w' := by
  have hmf : ∀ (fn : Fn) (first cap : Array Value) (w : World), (Instr.makeFunc fn first cap).run Tryd.prog w = .ok (.func fn first cap) w := fun _ _ _ _ => rfl
  have hPc := hP.cell
  have hPf := hP.frozen
  simp only [pend] at hPc
  have hap := hQ.apart hP
  have hapw := hQ.apart_w
  have hlt := hP.lt
  have hwlt := hQ.m.lt
  have ne0 : ¬ bp = w.heap.size := by omega
  have ne0' : ¬ w.heap.size = bp := by omega
  have ne3 : ¬ bp = w.heap.size + 1 := by omega
  have ne3' : ¬ w.heap.size + 1 = bp := by omega
  have nw0 : ¬ w.heap.size = bw := by omega
  have nw1 : ¬ w.heap.size + 1 = bw := by omega
  have nwp : ¬ bp = bw := hap.2.2.1
  have lt1 : bp < w.heap.size + 1 := by omega
  have lt2 : bp < w.heap.size + 1 + 1 := by omega
  have lt3 : w.heap.size < w.heap.size + 1 + 1 := by omega
  have hL := Lib.hid hi
  clear hi
  go_enter Tryd.func31, Tryd.ntmps31
  go_wp2_with (go_at_call 43; go_must (refine (do_any bp bq bc bw batch n 1 own 0 0 x x true l _ ?hp0 ?hQ1 (by decide) (DoIs.load hL.out hQ.len)).mono ?_; (case hp0 => go_simp); (case hQ1 => (repeat (first | with_reducible exact hQ | with_reducible apply Quo.drew | with_reducible apply Quo.alloc | (with_reducible refine Quo.far ?_ ?_ _; rotate_left; (solve | exact hap | (simp; omega)))))); rintro e w1 ⟨rfl, hw1, hm⟩; (have hk := hm.cellB); (have hkf := hm.frozenB); (have hsz := hm.size); (simp only [World.size_alloc, World.size_setCell, World.size_drew] at hsz); (have hP1 : Has w1 bp 77 (pend bq own (mv 42 bp) saw left ans) := hm.has (by apply Has.of_eq; (case h => repeat (first | with_reducible assumption | with_reducible apply Has.drew | with_reducible apply Has.drewN | with_reducible apply Has.alloc | with_reducible apply Has.put | (with_reducible apply Has.far'; (solve | assumption | simp | (simp; omega))) | fail)); (case e => rfl)) (by simp; omega)); (have hmm : Moves [bp, bw] w w1 := Moves.trans (b := _) (by repeat (first | with_reducible exact Moves.refl _ _ | with_reducible apply Moves.drew | with_reducible apply Moves.drewN | with_reducible apply Moves.alloc | (with_reducible refine Moves.setOld ?_ ?_ _; rotate_left; (solve | simp)) | fail)) hm (by simp)); (have ne1 : ¬ bp = w1.heap.size := by omega); (have ne1' : ¬ w1.heap.size = bp := by omega); (have ne2 : ¬ w.heap.size = w1.heap.size := by omega); (have ne2' : ¬ w1.heap.size = w.heap.size := by omega); (first | (refine lay (T := ¬ w.heap.size + 1 = w1.heap.size) ?_ (fun ne4 => ?_); (solve | omega)) | skip); (first | (refine lay (T := ¬ w1.heap.size = w.heap.size + 1) ?_ (fun ne4' => ?_); (solve | omega)) | skip); clear hm hsz; simp only [did]))
  all_goals go_wp2
  all_goals refine bodyPost_ret (v := did 1 own x x true) (by simp only [results, Tryd.results31, did]; go_simp) rfl ⟨rfl, ?_, ?_, ?_⟩
  all_goals first | (solve | (repeat (first | with_reducible exact hmm | with_reducible apply Moves.drew | with_reducible apply Moves.drewN | with_reducible apply Moves.alloc | (with_reducible refine Moves.setOld ?_ ?_ _; rotate_left; (solve | simp)) | (with_reducible refine Moves.setNew ?_ ?_ _; rotate_left; (solve | simp | (simp; omega))) | fail))) | (solve | (repeat (first | with_reducible exact hw1 | with_reducible apply Has.drew | with_reducible apply Has.drewN | with_reducible apply Has.alloc | (with_reducible apply Has.far'; (solve | assumption | simp | (simp; omega))) | fail))) | (apply Has.of_eq; (case h => repeat (first | with_reducible exact hP1 | with_reducible apply Has.drew | with_reducible apply Has.drewN | with_reducible apply Has.alloc | with_reducible apply Has.put | (with_reducible apply Has.far'; (solve | assumption | simp | (simp; omega))) | fail)); (case e => rfl))
set_option maxHeartbeats 2000000 in
theorem look_none (bp bq bc bw batch n own saw left : Nat) (ans : Int) (f : Value) (l : List Nat) (w : World) (hP : Has w bp 77 (pend bq own f saw left ans))
    (hQ : Quo w bq bc bw batch n l) (x : Nat) (hi : l[own]? = some x) (hx : ¬ 0 < x) :
    Calls Tryd.prog 31 #[.pointer (some ⟨bp, 0, none⟩)] w fun e w' =>
      e = .returned (did 1 own x x true) ∧ Has w' bp 77 (pend bq own (mv 42 bp) x left ans) ∧ Has w' bw 99 (wds (l.set own x)) ∧ Moves [bp, bw] w w' := by
  have hmf : ∀ (fn : Fn) (first cap : Array Value) (w : World), (Instr.makeFunc fn first cap).run Tryd.prog w = .ok (.func fn first cap) w := fun _ _ _ _ => rfl
  have hPc := hP.cell
  have hPf := hP.frozen
  simp only [pend] at hPc
  have hap := hQ.apart hP
  have hapw := hQ.apart_w
  have hlt := hP.lt
  have hwlt := hQ.m.lt
  have ne0 : ¬ bp = w.heap.size := by omega
  have ne0' : ¬ w.heap.size = bp := by omega
  have ne3 : ¬ bp = w.heap.size + 1 := by omega
  have ne3' : ¬ w.heap.size + 1 = bp := by omega
  have nw0 : ¬ w.heap.size = bw := by omega
  have nw1 : ¬ w.heap.size + 1 = bw := by omega
  have nwp : ¬ bp = bw := hap.2.2.1
  have lt1 : bp < w.heap.size + 1 := by omega
  have lt2 : bp < w.heap.size + 1 + 1 := by omega
  have lt3 : w.heap.size < w.heap.size + 1 + 1 := by omega
  have hL := Lib.hid hi
  clear hi
  go_enter Tryd.func31, Tryd.ntmps31
  go_wp2_with (go_at_call 43; go_must (refine (do_any bp bq bc bw batch n 1 own 0 0 x x true l _ ?hp0 ?hQ1 (by decide) (DoIs.load hL.out hQ.len)).mono ?_; (case hp0 => go_simp); (case hQ1 => (repeat (first | with_reducible exact hQ | with_reducible apply Quo.drew | with_reducible apply Quo.alloc | (with_reducible refine Quo.far ?_ ?_ _; rotate_left; (solve | exact hap | (simp; omega)))))); rintro e w1 ⟨rfl, hw1, hm⟩; (have hk := hm.cellB); (have hkf := hm.frozenB); (have hsz := hm.size); (simp only [World.size_alloc, World.size_setCell, World.size_drew] at hsz); (have hP1 : Has w1 bp 77 (pend bq own (mv 42 bp) saw left ans) := hm.has (by apply Has.of_eq; (case h => repeat (first | with_reducible assumption | with_reducible apply Has.drew | with_reducible apply Has.drewN | with_reducible apply Has.alloc | with_reducible apply Has.put | (with_reducible apply Has.far'; (solve | assumption | simp | (simp; omega))) | fail)); (case e => rfl)) (by simp; omega)); (have hmm : Moves [bp, bw] w w1 := Moves.trans (b := _) (by repeat (first | with_reducible exact Moves.refl _ _ | with_reducible apply Moves.drew | with_reducible apply Moves.drewN | with_reducible apply Moves.alloc | (with_reducible refine Moves.setOld ?_ ?_ _; rotate_left; (solve | simp)) | fail)) hm (by simp)); (have ne1 : ¬ bp = w1.heap.size := by omega); (have ne1' : ¬ w1.heap.size = bp := by omega); (have ne2 : ¬ w.heap.size = w1.heap.size := by omega); (have ne2' : ¬ w1.heap.size = w.heap.size := by omega); (first | (refine lay (T := ¬ w.heap.size + 1 = w1.heap.size) ?_ (fun ne4 => ?_); (solve | omega)) | skip); (first | (refine lay (T := ¬ w1.heap.size = w.heap.size + 1) ?_ (fun ne4' => ?_); (solve | omega)) | skip); clear hm hsz; simp only [did]))
  all_goals go_wp2
  all_goals refine bodyPost_ret (v := did 1 own x x true) (by simp only [results, Tryd.results31, did]; go_simp) rfl ⟨rfl, ?_, ?_, ?_⟩
  all_goals first | (solve | (repeat (first | with_reducible exact hmm | with_reducible apply Moves.drew | with_reducible apply Moves.drewN | with_reducible apply Moves.alloc | (with_reducible refine Moves.setOld ?_ ?_ _; rotate_left; (solve | simp)) | (with_reducible refine Moves.setNew ?_ ?_ _; rotate_left; (solve | simp | (simp; omega))) | fail))) | (solve | (repeat (first | with_reducible exact hw1 | with_reducible apply Has.drew | with_reducible apply Has.drewN | with_reducible apply Has.alloc | (with_reducible apply Has.far'; (solve | assumption | simp | (simp; omega))) | fail))) | (apply Has.of_eq; (case h => repeat (first | with_reducible exact hP1 | with_reducible apply Has.drew | with_reducible apply Has.drewN | with_reducible apply Has.alloc | with_reducible apply Has.put | (with_reducible apply Has.far'; (solve | assumption | simp | (simp; omega))) | fail)); (case e => rfl))
set_option maxHeartbeats 2000000 in
theorem use_hit (bp bq bc bw batch n own saw left : Nat) (ans : Int) (f : Value) (l : List Nat) (w : World) (hP : Has w bp 77 (pend bq own f saw left ans))
    (hQ : Quo w bq bc bw batch n l) (x : Nat) (hi : l[own]? = some saw) (hx : x + 1 = saw) (hb : saw ≤ 1099511627776) :
    Calls Tryd.prog 44 #[.pointer (some ⟨bp, 0, none⟩)] w fun e w' =>
      e = .returned (did 5 own saw x true) ∧ Has w' bp 77 (pend bq own (Value.nilFunc) saw left 1) ∧ Has w' bw 99 (wds (l.set own x)) ∧ Moves [bp, bw] w w' := by
  have hmf : ∀ (fn : Fn) (first cap : Array Value) (w : World), (Instr.makeFunc fn first cap).run Tryd.prog w = .ok (.func fn first cap) w := fun _ _ _ _ => rfl
  have hPc := hP.cell
  have hPf := hP.frozen
  simp only [pend] at hPc
  have hap := hQ.apart hP
  have hapw := hQ.apart_w
  have hlt := hP.lt
  have hwlt := hQ.m.lt
  have ne0 : ¬ bp = w.heap.size := by omega
  have ne0' : ¬ w.heap.size = bp := by omega
  have ne3 : ¬ bp = w.heap.size + 1 := by omega
  have ne3' : ¬ w.heap.size + 1 = bp := by omega
  have nw0 : ¬ w.heap.size = bw := by omega
  have nw1 : ¬ w.heap.size + 1 = bw := by omega
  have nwp : ¬ bp = bw := hap.2.2.1
  have lt1 : bp < w.heap.size + 1 := by omega
  have lt2 : bp < w.heap.size + 1 + 1 := by omega
  have lt3 : w.heap.size < w.heap.size + 1 + 1 := by omega
  have hL := Lib.hid hi
  clear hi
  have hw0 : IntKind.u64.wrap ((saw : Int) - 1) = (x : Int) := by rw [IntKind.wrap_u64]; omega
  have HW := Lib.hid hw0
  clear hw0 hx
  go_enter Tryd.func44, Tryd.ntmps44
  go_wp2_with fail
  go_region_held3 (fun w' => w'.cell? ⟨bp, 1, none⟩ = some (.int .i64 own) ∧ w'.cell? ⟨bp, 3, none⟩ = some (.int .u64 saw)) (first | (refine ⟨?_, ?_⟩ <;> go_simp) | go_keep) (first | (go_at_call 43; rw [HW.out]; go_must (refine (do_any bp bq bc bw batch n 5 own saw x saw x true l _ ?hp0 ?hQ1 (by decide) (DoIs.hit hL.out hQ.len)).mono ?_; (case hp0 => go_simp); (case hQ1 => (repeat (first | with_reducible exact hQ | with_reducible apply Quo.drew | with_reducible apply Quo.alloc | (with_reducible refine Quo.far ?_ ?_ _; rotate_left; (solve | exact hap | (simp; omega)))))); rintro e w1 ⟨rfl, hw1, hm⟩; (have hk := hm.cellB); (have hkf := hm.frozenB); (have hsz := hm.size); (simp only [World.size_alloc, World.size_setCell, World.size_drew] at hsz); (have hP1 : Has w1 bp 77 (pend bq own (mv 31 bp) saw left ans) := hm.has (by apply Has.of_eq; (case h => repeat (first | with_reducible assumption | with_reducible apply Has.drew | with_reducible apply Has.drewN | with_reducible apply Has.alloc | with_reducible apply Has.put | (with_reducible apply Has.far'; (solve | assumption | simp | (simp; omega))) | fail)); (case e => rfl)) (by simp; omega)); (have hmm : Moves [bp, bw] w w1 := Moves.trans (b := _) (by repeat (first | with_reducible exact Moves.refl _ _ | with_reducible apply Moves.drew | with_reducible apply Moves.drewN | with_reducible apply Moves.alloc | (with_reducible refine Moves.setOld ?_ ?_ _; rotate_left; (solve | simp)) | fail)) hm (by simp)); (have ne1 : ¬ bp = w1.heap.size := by omega); (have ne1' : ¬ w1.heap.size = bp := by omega); (have ne2 : ¬ w.heap.size = w1.heap.size := by omega); (have ne2' : ¬ w1.heap.size = w.heap.size := by omega); (first | (refine lay (T := ¬ w.heap.size + 1 = w1.heap.size) ?_ (fun ne4 => ?_); (solve | omega)) | skip); (first | (refine lay (T := ¬ w1.heap.size = w.heap.size + 1) ?_ (fun ne4' => ?_); (solve | omega)) | skip); clear hm hsz; simp only [did])))
  all_goals go_wp2
  all_goals go_end0
  all_goals go_wp2
  all_goals refine bodyPost_ret (v := did 5 own saw x true) (by simp only [results, Tryd.results44, did]; go_simp) rfl ⟨rfl, ?_, ?_, ?_⟩
  all_goals first | (solve | (repeat (first | with_reducible exact hmm | with_reducible apply Moves.drew | with_reducible apply Moves.drewN | with_reducible apply Moves.alloc | (with_reducible refine Moves.setOld ?_ ?_ _; rotate_left; (solve | simp)) | (with_reducible refine Moves.setNew ?_ ?_ _; rotate_left; (solve | simp | (simp; omega))) | fail))) | (solve | (repeat (first | with_reducible exact hw1 | with_reducible apply Has.drew | with_reducible apply Has.drewN | with_reducible apply Has.alloc | (with_reducible apply Has.far'; (solve | assumption | simp | (simp; omega))) | fail))) | (apply Has.of_eq; (case h => repeat (first | with_reducible exact hP1 | with_reducible apply Has.drew | with_reducible apply Has.drewN | with_reducible apply Has.alloc | with_reducible apply Has.put | (with_reducible apply Has.far'; (solve | assumption | simp | (simp; omega))) | fail)); (case e => rfl))
set_option maxHeartbeats 2000000 in
theorem use_miss (bp bq bc bw batch n own saw left : Nat) (ans : Int) (f : Value) (l : List Nat) (w : World) (hP : Has w bp 77 (pend bq own f saw left ans))
    (hQ : Quo w bq bc bw batch n l) (x z : Nat) (hi : l[own]? = some z) (hz : z ≠ saw) (hx : x + 1 = saw) (hb : saw ≤ 1099511627776) :
    Calls Tryd.prog 44 #[.pointer (some ⟨bp, 0, none⟩)] w fun e w' =>
      e = .returned (did 5 own z z false) ∧ Has w' bp 77 (pend bq own (mv 31 bp) saw left ans) ∧ Has w' bw 99 (wds (l.set own z)) ∧ Moves [bp, bw] w w' := by
  have hmf : ∀ (fn : Fn) (first cap : Array Value) (w : World), (Instr.makeFunc fn first cap).run Tryd.prog w = .ok (.func fn first cap) w := fun _ _ _ _ => rfl
  have hPc := hP.cell
  have hPf := hP.frozen
  simp only [pend] at hPc
  have hap := hQ.apart hP
  have hapw := hQ.apart_w
  have hlt := hP.lt
  have hwlt := hQ.m.lt
  have ne0 : ¬ bp = w.heap.size := by omega
  have ne0' : ¬ w.heap.size = bp := by omega
  have ne3 : ¬ bp = w.heap.size + 1 := by omega
  have ne3' : ¬ w.heap.size + 1 = bp := by omega
  have nw0 : ¬ w.heap.size = bw := by omega
  have nw1 : ¬ w.heap.size + 1 = bw := by omega
  have nwp : ¬ bp = bw := hap.2.2.1
  have lt1 : bp < w.heap.size + 1 := by omega
  have lt2 : bp < w.heap.size + 1 + 1 := by omega
  have lt3 : w.heap.size < w.heap.size + 1 + 1 := by omega
  have hL := Lib.hid hi
  clear hi
  have hw0 : IntKind.u64.wrap ((saw : Int) - 1) = (x : Int) := by rw [IntKind.wrap_u64]; omega
  have HW := Lib.hid hw0
  clear hw0 hx
  go_enter Tryd.func44, Tryd.ntmps44
  go_wp2_with fail
  go_region_held3 (fun w' => w'.cell? ⟨bp, 1, none⟩ = some (.int .i64 own) ∧ w'.cell? ⟨bp, 3, none⟩ = some (.int .u64 saw)) (first | (refine ⟨?_, ?_⟩ <;> go_simp) | go_keep) (first | (go_at_call 43; rw [HW.out]; go_must (refine (do_any bp bq bc bw batch n 5 own saw x z z false l _ ?hp0 ?hQ1 (by decide) (DoIs.miss hL.out hQ.len hz)).mono ?_; (case hp0 => go_simp); (case hQ1 => (repeat (first | with_reducible exact hQ | with_reducible apply Quo.drew | with_reducible apply Quo.alloc | (with_reducible refine Quo.far ?_ ?_ _; rotate_left; (solve | exact hap | (simp; omega)))))); rintro e w1 ⟨rfl, hw1, hm⟩; (have hk := hm.cellB); (have hkf := hm.frozenB); (have hsz := hm.size); (simp only [World.size_alloc, World.size_setCell, World.size_drew] at hsz); (have hP1 : Has w1 bp 77 (pend bq own (mv 31 bp) saw left ans) := hm.has (by apply Has.of_eq; (case h => repeat (first | with_reducible assumption | with_reducible apply Has.drew | with_reducible apply Has.drewN | with_reducible apply Has.alloc | with_reducible apply Has.put | (with_reducible apply Has.far'; (solve | assumption | simp | (simp; omega))) | fail)); (case e => rfl)) (by simp; omega)); (have hmm : Moves [bp, bw] w w1 := Moves.trans (b := _) (by repeat (first | with_reducible exact Moves.refl _ _ | with_reducible apply Moves.drew | with_reducible apply Moves.drewN | with_reducible apply Moves.alloc | (with_reducible refine Moves.setOld ?_ ?_ _; rotate_left; (solve | simp)) | fail)) hm (by simp)); (have ne1 : ¬ bp = w1.heap.size := by omega); (have ne1' : ¬ w1.heap.size = bp := by omega); (have ne2 : ¬ w.heap.size = w1.heap.size := by omega); (have ne2' : ¬ w1.heap.size = w.heap.size := by omega); (first | (refine lay (T := ¬ w.heap.size + 1 = w1.heap.size) ?_ (fun ne4 => ?_); (solve | omega)) | skip); (first | (refine lay (T := ¬ w1.heap.size = w.heap.size + 1) ?_ (fun ne4' => ?_); (solve | omega)) | skip); clear hm hsz; simp only [did])))
  all_goals go_wp2
  all_goals refine bodyPost_ret (v := did 5 own z z false) (by simp only [results, Tryd.results44, did]; go_simp) rfl ⟨rfl, ?_, ?_, ?_⟩
  all_goals first | (solve | (repeat (first | with_reducible exact hmm | with_reducible apply Moves.drew | with_reducible apply Moves.drewN | with_reducible apply Moves.alloc | (with_reducible refine Moves.setOld ?_ ?_ _; rotate_left; (solve | simp)) | (with_reducible refine Moves.setNew ?_ ?_ _; rotate_left; (solve | simp | (simp; omega))) | fail))) | (solve | (repeat (first | with_reducible exact hw1 | with_reducible apply Has.drew | with_reducible apply Has.drewN | with_reducible apply Has.alloc | (with_reducible apply Has.far'; (solve | assumption | simp | (simp; omega))) | fail))) | (apply Has.of_eq; (case h => repeat (first | with_reducible exact hP1 | with_reducible apply Has.drew | with_reducible apply Has.drewN | with_reducible apply Has.alloc | with_reducible apply Has.put | (with_reducible apply Has.far'; (solve | assumption | simp | (simp; omega))) | fail)); (case e => rfl))
set_option maxHeartbeats 2000000 in
theorem pool_some (bp bq bc bw batch n own saw left : Nat) (ans : Int) (f : Value) (l : List Nat) (w : World) (hP : Has w bp 77 (pend bq own f saw left ans))
    (hQ : Quo w bq bc bw batch n l) (x : Nat) (hi : l[0]? = some x) (hx : 0 < x) :
    Calls Tryd.prog 42 #[.pointer (some ⟨bp, 0, none⟩)] w fun e w' =>
      e = .returned (did 1 0 x x true) ∧ Has w' bp 77 (pend bq own (mv 51 bp) x left ans) ∧ Has w' bw 99 (wds (l.set 0 x)) ∧ Moves [bp, bw] w w' := by
  have hmf : ∀ (fn : Fn) (first cap : Array Value) (w : World), (Instr.makeFunc fn first cap).run Tryd.prog w = .ok (.func fn first cap) w := fun _ _ _ _ => rfl
  have hPc := hP.cell
  have hPf := hP.frozen
  simp only [pend] at hPc
  have hap := hQ.apart hP
  have hapw := hQ.apart_w
  have hlt := hP.lt
  have hwlt := hQ.m.lt
  have ne0 : ¬ bp = w.heap.size := by omega
  have ne0' : ¬ w.heap.size = bp := by omega
  have ne3 : ¬ bp = w.heap.size + 1 := by omega
  have ne3' : ¬ w.heap.size + 1 = bp := by omega
  have nw0 : ¬ w.heap.size = bw := by omega
  have nw1 : ¬ w.heap.size + 1 = bw := by omega
  have nwp : ¬ bp = bw := hap.2.2.1
  have lt1 : bp < w.heap.size + 1 := by omega
  have lt2 : bp < w.heap.size + 1 + 1 := by omega
  have lt3 : w.heap.size < w.heap.size + 1 + 1 := by omega
  have hL := Lib.hid hi
  clear hi
  go_enter Tryd.func42, Tryd.ntmps42
  go_wp2_with (go_at_call 43; go_must (refine (do_any bp bq bc bw batch n 1 0 0 0 x x true l _ ?hp0 ?hQ1 (by decide) (DoIs.load hL.out hQ.len)).mono ?_; (case hp0 => go_simp); (case hQ1 => (repeat (first | with_reducible exact hQ | with_reducible apply Quo.drew | with_reducible apply Quo.alloc | (with_reducible refine Quo.far ?_ ?_ _; rotate_left; (solve | exact hap | (simp; omega)))))); rintro e w1 ⟨rfl, hw1, hm⟩; (have hk := hm.cellB); (have hkf := hm.frozenB); (have hsz := hm.size); (simp only [World.size_alloc, World.size_setCell, World.size_drew] at hsz); (have hP1 : Has w1 bp 77 (pend bq own (mv 51 bp) saw left ans) := hm.has (by apply Has.of_eq; (case h => repeat (first | with_reducible assumption | with_reducible apply Has.drew | with_reducible apply Has.drewN | with_reducible apply Has.alloc | with_reducible apply Has.put | (with_reducible apply Has.far'; (solve | assumption | simp | (simp; omega))) | fail)); (case e => rfl)) (by simp; omega)); (have hmm : Moves [bp, bw] w w1 := Moves.trans (b := _) (by repeat (first | with_reducible exact Moves.refl _ _ | with_reducible apply Moves.drew | with_reducible apply Moves.drewN | with_reducible apply Moves.alloc | (with_reducible refine Moves.setOld ?_ ?_ _; rotate_left; (solve | simp)) | fail)) hm (by simp)); (have ne1 : ¬ bp = w1.heap.size := by omega); (have ne1' : ¬ w1.heap.size = bp := by omega); (have ne2 : ¬ w.heap.size = w1.heap.size := by omega); (have ne2' : ¬ w1.heap.size = w.heap.size := by omega); (first | (refine lay (T := ¬ w.heap.size + 1 = w1.heap.size) ?_ (fun ne4 => ?_); (solve | omega)) | skip); (first | (refine lay (T := ¬ w1.heap.size = w.heap.size + 1) ?_ (fun ne4' => ?_); (solve | omega)) | skip); clear hm hsz; simp only [did]))
  all_goals go_wp2
  all_goals refine bodyPost_ret (v := did 1 0 x x true) (by simp only [results, Tryd.results42, did]; go_simp) rfl ⟨rfl, ?_, ?_, ?_⟩
  all_goals first | (solve | (repeat (first | with_reducible exact hmm | with_reducible apply Moves.drew | with_reducible apply Moves.drewN | with_reducible apply Moves.alloc | (with_reducible refine Moves.setOld ?_ ?_ _; rotate_left; (solve | simp)) | (with_reducible refine Moves.setNew ?_ ?_ _; rotate_left; (solve | simp | (simp; omega))) | fail))) | (solve | (repeat (first | with_reducible exact hw1 | with_reducible apply Has.drew | with_reducible apply Has.drewN | with_reducible apply Has.alloc | (with_reducible apply Has.far'; (solve | assumption | simp | (simp; omega))) | fail))) | (apply Has.of_eq; (case h => repeat (first | with_reducible exact hP1 | with_reducible apply Has.drew | with_reducible apply Has.drewN | with_reducible apply Has.alloc | with_reducible apply Has.put | (with_reducible apply Has.far'; (solve | assumption | simp | (simp; omega))) | fail)); (case e => rfl))
set_option maxHeartbeats 2000000 in
theorem pool_none (bp bq bc bw batch n own saw left : Nat) (ans : Int) (f : Value) (l : List Nat) (w : World) (hP : Has w bp 77 (pend bq own f saw left ans))
    (hQ : Quo w bq bc bw batch n l) (x : Nat) (hi : l[0]? = some x) (hx : ((x : Int) == 0) = true) :
    Calls Tryd.prog 42 #[.pointer (some ⟨bp, 0, none⟩)] w fun e w' =>
      e = .returned (did 1 0 x x true) ∧ Has w' bp 77 (pend bq own (Value.nilFunc) x left 0) ∧ Has w' bw 99 (wds (l.set 0 x)) ∧ Moves [bp, bw] w w' := by
  have hmf : ∀ (fn : Fn) (first cap : Array Value) (w : World), (Instr.makeFunc fn first cap).run Tryd.prog w = .ok (.func fn first cap) w := fun _ _ _ _ => rfl
  have hPc := hP.cell
  have hPf := hP.frozen
  simp only [pend] at hPc
  have hap := hQ.apart hP
  have hapw := hQ.apart_w
  have hlt := hP.lt
  have hwlt := hQ.m.lt
  have ne0 : ¬ bp = w.heap.size := by omega
  have ne0' : ¬ w.heap.size = bp := by omega
  have ne3 : ¬ bp = w.heap.size + 1 := by omega
  have ne3' : ¬ w.heap.size + 1 = bp := by omega
  have nw0 : ¬ w.heap.size = bw := by omega
  have nw1 : ¬ w.heap.size + 1 = bw := by omega
  have nwp : ¬ bp = bw := hap.2.2.1
  have lt1 : bp < w.heap.size + 1 := by omega
  have lt2 : bp < w.heap.size + 1 + 1 := by omega
  have lt3 : w.heap.size < w.heap.size + 1 + 1 := by omega
  have hL := Lib.hid hi
  clear hi
  go_enter Tryd.func42, Tryd.ntmps42
  go_wp2_with (go_at_call 43; go_must (refine (do_any bp bq bc bw batch n 1 0 0 0 x x true l _ ?hp0 ?hQ1 (by decide) (DoIs.load hL.out hQ.len)).mono ?_; (case hp0 => go_simp); (case hQ1 => (repeat (first | with_reducible exact hQ | with_reducible apply Quo.drew | with_reducible apply Quo.alloc | (with_reducible refine Quo.far ?_ ?_ _; rotate_left; (solve | exact hap | (simp; omega)))))); rintro e w1 ⟨rfl, hw1, hm⟩; (have hk := hm.cellB); (have hkf := hm.frozenB); (have hsz := hm.size); (simp only [World.size_alloc, World.size_setCell, World.size_drew] at hsz); (have hP1 : Has w1 bp 77 (pend bq own (mv 51 bp) saw left ans) := hm.has (by apply Has.of_eq; (case h => repeat (first | with_reducible assumption | with_reducible apply Has.drew | with_reducible apply Has.drewN | with_reducible apply Has.alloc | with_reducible apply Has.put | (with_reducible apply Has.far'; (solve | assumption | simp | (simp; omega))) | fail)); (case e => rfl)) (by simp; omega)); (have hmm : Moves [bp, bw] w w1 := Moves.trans (b := _) (by repeat (first | with_reducible exact Moves.refl _ _ | with_reducible apply Moves.drew | with_reducible apply Moves.drewN | with_reducible apply Moves.alloc | (with_reducible refine Moves.setOld ?_ ?_ _; rotate_left; (solve | simp)) | fail)) hm (by simp)); (have ne1 : ¬ bp = w1.heap.size := by omega); (have ne1' : ¬ w1.heap.size = bp := by omega); (have ne2 : ¬ w.heap.size = w1.heap.size := by omega); (have ne2' : ¬ w1.heap.size = w.heap.size := by omega); (first | (refine lay (T := ¬ w.heap.size + 1 = w1.heap.size) ?_ (fun ne4 => ?_); (solve | omega)) | skip); (first | (refine lay (T := ¬ w1.heap.size = w.heap.size + 1) ?_ (fun ne4' => ?_); (solve | omega)) | skip); clear hm hsz; simp only [did]))
  all_goals go_wp2
  all_goals go_end0
  all_goals go_wp2
  all_goals refine bodyPost_ret (v := did 1 0 x x true) (by simp only [results, Tryd.results42, did]; go_simp) rfl ⟨rfl, ?_, ?_, ?_⟩
  all_goals first | (solve | (repeat (first | with_reducible exact hmm | with_reducible apply Moves.drew | with_reducible apply Moves.drewN | with_reducible apply Moves.alloc | (with_reducible refine Moves.setOld ?_ ?_ _; rotate_left; (solve | simp)) | (with_reducible refine Moves.setNew ?_ ?_ _; rotate_left; (solve | simp | (simp; omega))) | fail))) | (solve | (repeat (first | with_reducible exact hw1 | with_reducible apply Has.drew | with_reducible apply Has.drewN | with_reducible apply Has.alloc | (with_reducible apply Has.far'; (solve | assumption | simp | (simp; omega))) | fail))) | (apply Has.of_eq; (case h => repeat (first | with_reducible exact hP1 | with_reducible apply Has.drew | with_reducible apply Has.drewN | with_reducible apply Has.alloc | with_reducible apply Has.put | (with_reducible apply Has.far'; (solve | assumption | simp | (simp; omega))) | fail)); (case e => rfl))
end Go.Proofs.YtigacfgoldnoiaaDoor
