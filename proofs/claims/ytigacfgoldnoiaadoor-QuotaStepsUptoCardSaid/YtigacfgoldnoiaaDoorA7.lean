/- The steps of an operation under way that make closures, and those closures. -/
import Derived.Test.YtigacfgoldnoiaaDoorA5
namespace Go.Proofs.YtigacfgoldnoiaaDoor
open Go.RowKit
set_option linter.unusedVariables false
set_option linter.unusedSimpArgs false
attribute [local go_sem] World.cell?_alloc_old World.frozen?_alloc_old

theorem Moves.hasB {b : Nat} {a w : World} (h : Moves [b] a w) {g : Nat} {t : TypeId} {cs : Array Value} (hn : ¬ g = b) (hh : Has a g t cs) : Has w g t cs := h.has hh (by simpa using hn)

/-- A closure over the operation and something else, as a value. -/
def cl (k g1 g2 : Nat) : Value := .func (.func k) #[] #[.pointer (some ⟨g1, 0, none⟩), .pointer (some ⟨g2, 0, none⟩)]

set_option maxHeartbeats 1000000 in
theorem empty_none (bp bq bc bw batch n own saw left : Nat) (ans : Int) (f : Value) (l : List Nat) (w : World) (hP : Has w bp 77 (pend bq own f saw left ans))
    (hQ : Quo w bq bc bw batch n l) (x : Nat) (hi : l[own]? = some x) (hx : ((x : Int) == 0) = true) :
    Calls Tryd.prog 32 #[.pointer (some ⟨bp, 0, none⟩)] w fun e w' =>
      e = .returned (did 4 own x 0 true) ∧ Has w' bp 77 (pend bq own Value.nilFunc saw left 0) ∧ Has w' bw 99 (wds (l.set own 0)) ∧ Moves [bp, bw] w w' := by
  have hmf : ∀ (fn : Fn) (first cap : Array Value) (w : World), (Instr.makeFunc fn first cap).run Tryd.prog w = .ok (.func fn first cap) w := fun _ _ _ _ => rfl
  have hPc := hP.cell
  have hPf := hP.frozen
  simp only [pend] at hPc
  have hap := hQ.apart hP
  have hapw := hQ.apart_w
  have hlt := hP.lt
  have hwlt := hQ.m.lt
  have nwp : ¬ bp = bw := hap.2.2.1
  have nb0 : ¬ bp = w.heap.size := by omega
  have nb0' : ¬ w.heap.size = bp := by omega
  have nw0 : ¬ w.heap.size = bw := by omega
  have nb1 : ¬ bp = w.heap.size + 1 := by omega
  have nb1' : ¬ w.heap.size + 1 = bp := by omega
  have nw1 : ¬ w.heap.size + 1 = bw := by omega
  have nb2 : ¬ bp = w.heap.size + 1 + 1 := by omega
  have nb2' : ¬ w.heap.size + 1 + 1 = bp := by omega
  have nw2 : ¬ w.heap.size + 1 + 1 = bw := by omega
  have lp1 : bp < w.heap.size + 1 := by omega
  have lp2 : bp < w.heap.size + 1 + 1 := by omega
  have lp3 : bp < w.heap.size + 1 + 1 + 1 := by omega
  have ls02 : w.heap.size < w.heap.size + 1 + 1 := by omega
  have ls03 : w.heap.size < w.heap.size + 1 + 1 + 1 := by omega
  have ls13 : w.heap.size + 1 < w.heap.size + 1 + 1 + 1 := by omega
  have hL := Lib.hid hi
  clear hi
  go_enter Tryd.func32, Tryd.ntmps32
  go_wp2_with fail
  go_region_held3 (fun w' => w'.cell? ⟨w.heap.size, 0, none⟩ = some (.pointer (some ⟨bp, 0, none⟩)) ∧ w'.cell? ⟨bp, 1, none⟩ = some (.int .i64 own)) (first | (refine ⟨?_, ?_⟩ <;> go_simp) | go_keep) (first | (go_at_call 43; go_must (refine (do_any bp bq bc bw batch n 4 own 0 0 x 0 true l _ ?hp0 ?hQ1 (by decide) (DoIs.swap hL.out hQ.len)).mono ?_; (case hp0 => go_simp); (case hQ1 => (repeat (first | with_reducible exact hQ | with_reducible apply Quo.drew | with_reducible apply Quo.alloc | (with_reducible refine Quo.far ?_ ?_ _; rotate_left; (solve | exact hap | (simp; omega)))))); rintro e w1 ⟨rfl, hw1, hm⟩; (have hk := hm.cellB); (have hkf := hm.frozenB); (have hsz := hm.size); (simp only [World.size_alloc, World.size_setCell, World.size_drew] at hsz); (have hP1 : Has w1 bp 77 (pend bq own (f) saw left ans) := hm.has (by apply Has.of_eq; (case h => repeat (first | with_reducible assumption | (with_reducible refine Has.new' ?_; (solve | with_reducible rfl | simp)) | with_reducible apply Has.drew | with_reducible apply Has.drewN | with_reducible apply Has.alloc | with_reducible apply Has.put | (with_reducible apply Has.far'; (solve | assumption | simp | (simp; omega))) | fail)); (case e => rfl)) (by simp; omega)); (have hmm : Moves [bp, bw] w w1 := Moves.trans (b := _) (by (repeat (first | with_reducible exact Moves.refl _ _ | with_reducible apply Moves.drew | with_reducible apply Moves.drewN | with_reducible apply Moves.alloc | (with_reducible refine Moves.setOld ?_ ?_ _; rotate_left; (solve | simp)) | (with_reducible refine Moves.setNew ?_ ?_ _; rotate_left; (solve | simp | (simp; omega))) | fail))) hm (by simp)); (have ne1 : ¬ bp = w1.heap.size := by omega); (have ne1' : ¬ w1.heap.size = bp := by omega); (have na0 : ¬ w.heap.size = w1.heap.size := by omega); (have na0' : ¬ w1.heap.size = w.heap.size := by omega); (have na1 : ¬ w.heap.size + 1 = w1.heap.size := by omega); (have na1' : ¬ w1.heap.size = w.heap.size + 1 := by omega); (first | (refine lay (T := ¬ w.heap.size + 1 + 1 = w1.heap.size) ?_ (fun nz => ?_); (solve | omega)) | skip); (first | (refine lay (T := ¬ w1.heap.size = w.heap.size + 1 + 1) ?_ (fun nz' => ?_); (solve | omega)) | skip); clear hsz; simp only [did])))
  all_goals go_wp2
  all_goals go_end0
  all_goals go_wp2
  all_goals refine bodyPost_ret (v := did 4 own x 0 true) (by simp only [results, Tryd.results32, did]; go_simp) rfl ?_
  all_goals first | (solve | (refine ⟨rfl, ?_, ?_, ?_⟩; (all_goals first | (solve | (repeat (first | with_reducible exact hmm | with_reducible exact Moves.refl _ _ | with_reducible apply Moves.drew | with_reducible apply Moves.drewN | with_reducible apply Moves.alloc | (with_reducible refine Moves.setOld ?_ ?_ _; rotate_left; (solve | simp)) | (with_reducible refine Moves.setNew ?_ ?_ _; rotate_left; (solve | simp | (simp; omega))) | fail))) | (apply Has.of_eq; (case h => repeat (first | with_reducible assumption | (with_reducible refine Has.new' ?_; (solve | with_reducible rfl | simp)) | with_reducible apply Has.drew | with_reducible apply Has.drewN | with_reducible apply Has.alloc | with_reducible apply Has.put | (with_reducible apply Has.far'; (solve | assumption | simp | (simp; omega))) | (with_reducible apply hm.hasB; (solve | assumption | omega)) | fail)); (case e => rfl)))))
set_option maxHeartbeats 1000000 in
theorem empty_some (bp bq bc bw batch n own saw left : Nat) (ans : Int) (f : Value) (l : List Nat) (w : World) (hP : Has w bp 77 (pend bq own f saw left ans))
    (hQ : Quo w bq bc bw batch n l) (x : Nat) (hi : l[own]? = some x) (hx : ((x : Int) == 0) = false) :
    Calls Tryd.prog 32 #[.pointer (some ⟨bp, 0, none⟩)] w fun e w' =>
      e = .returned (did 4 own x 0 true) ∧ ∃ g1 g2, Has w' bp 77 (pend bq own (cl 46 g1 g2) saw left ans) ∧ Has w' g1 32 #[.pointer (some ⟨bp, 0, none⟩)] ∧ Has w' g2 46 #[.int .u8 4, .int .i64 own, .int .u64 x, .int .u64 0, .bool true] ∧ Has w' bw 99 (wds (l.set own 0)) ∧ Moves [bp, bw] w w' := by
  have hmf : ∀ (fn : Fn) (first cap : Array Value) (w : World), (Instr.makeFunc fn first cap).run Tryd.prog w = .ok (.func fn first cap) w := fun _ _ _ _ => rfl
  have hPc := hP.cell
  have hPf := hP.frozen
  simp only [pend] at hPc
  have hap := hQ.apart hP
  have hapw := hQ.apart_w
  have hlt := hP.lt
  have hwlt := hQ.m.lt
  have nwp : ¬ bp = bw := hap.2.2.1
  have nb0 : ¬ bp = w.heap.size := by omega
  have nb0' : ¬ w.heap.size = bp := by omega
  have nw0 : ¬ w.heap.size = bw := by omega
  have nb1 : ¬ bp = w.heap.size + 1 := by omega
  have nb1' : ¬ w.heap.size + 1 = bp := by omega
  have nw1 : ¬ w.heap.size + 1 = bw := by omega
  have nb2 : ¬ bp = w.heap.size + 1 + 1 := by omega
  have nb2' : ¬ w.heap.size + 1 + 1 = bp := by omega
  have nw2 : ¬ w.heap.size + 1 + 1 = bw := by omega
  have lp1 : bp < w.heap.size + 1 := by omega
  have lp2 : bp < w.heap.size + 1 + 1 := by omega
  have lp3 : bp < w.heap.size + 1 + 1 + 1 := by omega
  have ls02 : w.heap.size < w.heap.size + 1 + 1 := by omega
  have ls03 : w.heap.size < w.heap.size + 1 + 1 + 1 := by omega
  have ls13 : w.heap.size + 1 < w.heap.size + 1 + 1 + 1 := by omega
  have hL := Lib.hid hi
  clear hi
  go_enter Tryd.func32, Tryd.ntmps32
  go_wp2_with fail
  go_region_held3 (fun w' => w'.cell? ⟨w.heap.size, 0, none⟩ = some (.pointer (some ⟨bp, 0, none⟩)) ∧ w'.cell? ⟨bp, 1, none⟩ = some (.int .i64 own)) (first | (refine ⟨?_, ?_⟩ <;> go_simp) | go_keep) (first | (go_at_call 43; go_must (refine (do_any bp bq bc bw batch n 4 own 0 0 x 0 true l _ ?hp0 ?hQ1 (by decide) (DoIs.swap hL.out hQ.len)).mono ?_; (case hp0 => go_simp); (case hQ1 => (repeat (first | with_reducible exact hQ | with_reducible apply Quo.drew | with_reducible apply Quo.alloc | (with_reducible refine Quo.far ?_ ?_ _; rotate_left; (solve | exact hap | (simp; omega)))))); rintro e w1 ⟨rfl, hw1, hm⟩; (have hk := hm.cellB); (have hkf := hm.frozenB); (have hsz := hm.size); (simp only [World.size_alloc, World.size_setCell, World.size_drew] at hsz); (have hP1 : Has w1 bp 77 (pend bq own (f) saw left ans) := hm.has (by apply Has.of_eq; (case h => repeat (first | with_reducible assumption | (with_reducible refine Has.new' ?_; (solve | with_reducible rfl | simp)) | with_reducible apply Has.drew | with_reducible apply Has.drewN | with_reducible apply Has.alloc | with_reducible apply Has.put | (with_reducible apply Has.far'; (solve | assumption | simp | (simp; omega))) | fail)); (case e => rfl)) (by simp; omega)); (have hmm : Moves [bp, bw] w w1 := Moves.trans (b := _) (by (repeat (first | with_reducible exact Moves.refl _ _ | with_reducible apply Moves.drew | with_reducible apply Moves.drewN | with_reducible apply Moves.alloc | (with_reducible refine Moves.setOld ?_ ?_ _; rotate_left; (solve | simp)) | (with_reducible refine Moves.setNew ?_ ?_ _; rotate_left; (solve | simp | (simp; omega))) | fail))) hm (by simp)); (have ne1 : ¬ bp = w1.heap.size := by omega); (have ne1' : ¬ w1.heap.size = bp := by omega); (have na0 : ¬ w.heap.size = w1.heap.size := by omega); (have na0' : ¬ w1.heap.size = w.heap.size := by omega); (have na1 : ¬ w.heap.size + 1 = w1.heap.size := by omega); (have na1' : ¬ w1.heap.size = w.heap.size + 1 := by omega); (first | (refine lay (T := ¬ w.heap.size + 1 + 1 = w1.heap.size) ?_ (fun nz => ?_); (solve | omega)) | skip); (first | (refine lay (T := ¬ w1.heap.size = w.heap.size + 1 + 1) ?_ (fun nz' => ?_); (solve | omega)) | skip); clear hsz; simp only [did])))
  all_goals go_wp2
  all_goals refine bodyPost_ret (v := did 4 own x 0 true) (by simp only [results, Tryd.results32, did]; go_simp) rfl ?_
  all_goals first | (solve | (refine ⟨rfl, w.heap.size, w1.heap.size, ?_, ?_, ?_, ?_, ?_⟩; (all_goals first | (solve | (repeat (first | with_reducible exact hmm | with_reducible exact Moves.refl _ _ | with_reducible apply Moves.drew | with_reducible apply Moves.drewN | with_reducible apply Moves.alloc | (with_reducible refine Moves.setOld ?_ ?_ _; rotate_left; (solve | simp)) | (with_reducible refine Moves.setNew ?_ ?_ _; rotate_left; (solve | simp | (simp; omega))) | fail))) | (apply Has.of_eq; (case h => repeat (first | with_reducible assumption | (with_reducible refine Has.new' ?_; (solve | with_reducible rfl | simp)) | with_reducible apply Has.drew | with_reducible apply Has.drewN | with_reducible apply Has.alloc | with_reducible apply Has.put | (with_reducible apply Has.far'; (solve | assumption | simp | (simp; omega))) | (with_reducible apply hm.hasB; (solve | assumption | omega)) | fail)); (case e => rfl))))) | (solve | (refine ⟨rfl, w.heap.size, w.heap.size + 1 + 1, ?_, ?_, ?_, ?_, ?_⟩; (all_goals first | (solve | (repeat (first | with_reducible exact hmm | with_reducible exact Moves.refl _ _ | with_reducible apply Moves.drew | with_reducible apply Moves.drewN | with_reducible apply Moves.alloc | (with_reducible refine Moves.setOld ?_ ?_ _; rotate_left; (solve | simp)) | (with_reducible refine Moves.setNew ?_ ?_ _; rotate_left; (solve | simp | (simp; omega))) | fail))) | (apply Has.of_eq; (case h => repeat (first | with_reducible assumption | (with_reducible refine Has.new' ?_; (solve | with_reducible rfl | simp)) | with_reducible apply Has.drew | with_reducible apply Has.drewN | with_reducible apply Has.alloc | with_reducible apply Has.put | (with_reducible apply Has.far'; (solve | assumption | simp | (simp; omega))) | (with_reducible apply hm.hasB; (solve | assumption | omega)) | fail)); (case e => rfl)))))
set_option maxHeartbeats 1000000 in
theorem give (bp bq bc bw batch n own saw left : Nat) (x y : Nat) (ans : Int) (f : Value) (l : List Nat) (w : World) (hP : Has w bp 77 (pend bq own f saw left ans))
    (hQ : Quo w bq bc bw batch n l) (g1 g2 : Nat) (hg1 : Has w g1 32 #[.pointer (some ⟨bp, 0, none⟩)]) (hg2 : Has w g2 46 #[.int .u8 4, .int .i64 own, .int .u64 x, .int .u64 0, .bool true]) (hi : l[0]? = some y) (hb : y + x ≤ 1099511627776) :
    Calls Tryd.prog 46 #[.pointer (some ⟨g1, 0, none⟩), .pointer (some ⟨g2, 0, none⟩)] w fun e w' =>
      e = .returned (did 3 0 y (y + x : Nat) true) ∧ Has w' bp 77 (pend bq own Value.nilFunc saw left x) ∧ Has w' bw 99 (wds (l.set 0 (y + x))) ∧ Moves [bp, bw] w w' := by
  have hmf : ∀ (fn : Fn) (first cap : Array Value) (w : World), (Instr.makeFunc fn first cap).run Tryd.prog w = .ok (.func fn first cap) w := fun _ _ _ _ => rfl
  have hPc := hP.cell
  have hPf := hP.frozen
  simp only [pend] at hPc
  have hap := hQ.apart hP
  have hapw := hQ.apart_w
  have hlt := hP.lt
  have hwlt := hQ.m.lt
  have nwp : ¬ bp = bw := hap.2.2.1
  have nb0 : ¬ bp = w.heap.size := by omega
  have nb0' : ¬ w.heap.size = bp := by omega
  have nw0 : ¬ w.heap.size = bw := by omega
  have nb1 : ¬ bp = w.heap.size + 1 := by omega
  have nb1' : ¬ w.heap.size + 1 = bp := by omega
  have nw1 : ¬ w.heap.size + 1 = bw := by omega
  have lp1 : bp < w.heap.size + 1 := by omega
  have lp2 : bp < w.heap.size + 1 + 1 := by omega
  have ls02 : w.heap.size < w.heap.size + 1 + 1 := by omega
  have hL := Lib.hid hi
  clear hi
  have h1c := hg1.cell
  have h2c := hg2.cell
  have g1lt := hg1.lt
  have g2lt := hg2.lt
  have gp1 : ¬ bp = g1 := hP.ne_type hg1 (by decide)
  have gp2 : ¬ bp = g2 := hP.ne_type hg2 (by decide)
  have gw1 : ¬ g1 = bw := hg1.ne_type hQ.m (by decide)
  have gw2 : ¬ g2 = bw := hg2.ne_type hQ.m (by decide)
  have gp1' : ¬ g1 = bp := fun e => gp1 e.symm
  have gp2' : ¬ g2 = bp := fun e => gp2 e.symm
  have gs10 : ¬ g1 = w.heap.size := by omega
  have gs20 : ¬ g2 = w.heap.size := by omega
  have gs10' : ¬ w.heap.size = g1 := by omega
  have gs20' : ¬ w.heap.size = g2 := by omega
  have gs11 : ¬ g1 = w.heap.size + 1 := by omega
  have gs21 : ¬ g2 = w.heap.size + 1 := by omega
  have gs11' : ¬ w.heap.size + 1 = g1 := by omega
  have gs21' : ¬ w.heap.size + 1 = g2 := by omega
  have gl11 : g1 < w.heap.size + 1 := by omega
  have gl21 : g2 < w.heap.size + 1 := by omega
  have gl12 : g1 < w.heap.size + 1 + 1 := by omega
  have gl22 : g2 < w.heap.size + 1 + 1 := by omega
  go_enter Tryd.func46, Tryd.ntmps46
  go_wp2_with (go_at_call 43; go_must (refine (do_any bp bq bc bw batch n 3 0 0 x y (y + x) true l _ ?hp0 ?hQ1 (by decide) (DoIs.add hL.out hQ.len (by omega))).mono ?_; (case hp0 => go_simp); (case hQ1 => (repeat (first | with_reducible exact hQ | with_reducible apply Quo.drew | with_reducible apply Quo.alloc | (with_reducible refine Quo.far ?_ ?_ _; rotate_left; (solve | exact hap | (simp; omega)))))); rintro e w1 ⟨rfl, hw1, hm⟩; (have hk := hm.cellB); (have hkf := hm.frozenB); (have hsz := hm.size); (simp only [World.size_alloc, World.size_setCell, World.size_drew] at hsz); (have hP1 : Has w1 bp 77 (pend bq own (f) saw left ans) := hm.has (by apply Has.of_eq; (case h => repeat (first | with_reducible assumption | (with_reducible refine Has.new' ?_; (solve | with_reducible rfl | simp)) | with_reducible apply Has.drew | with_reducible apply Has.drewN | with_reducible apply Has.alloc | with_reducible apply Has.put | (with_reducible apply Has.far'; (solve | assumption | simp | (simp; omega))) | fail)); (case e => rfl)) (by simp; omega)); (have hmm : Moves [bp, bw] w w1 := Moves.trans (b := _) (by (repeat (first | with_reducible exact Moves.refl _ _ | with_reducible apply Moves.drew | with_reducible apply Moves.drewN | with_reducible apply Moves.alloc | (with_reducible refine Moves.setOld ?_ ?_ _; rotate_left; (solve | simp)) | (with_reducible refine Moves.setNew ?_ ?_ _; rotate_left; (solve | simp | (simp; omega))) | fail))) hm (by simp)); (have ne1 : ¬ bp = w1.heap.size := by omega); (have ne1' : ¬ w1.heap.size = bp := by omega); (have na0 : ¬ w.heap.size = w1.heap.size := by omega); (have na0' : ¬ w1.heap.size = w.heap.size := by omega); (first | (refine lay (T := ¬ w.heap.size + 1 = w1.heap.size) ?_ (fun nz => ?_); (solve | omega)) | skip); (first | (refine lay (T := ¬ w1.heap.size = w.heap.size + 1) ?_ (fun nz' => ?_); (solve | omega)) | skip); (have ga1 : ¬ g1 = w1.heap.size := by omega); (have ga2 : ¬ g2 = w1.heap.size := by omega); (have ga1' : ¬ w1.heap.size = g1 := by omega); (have ga2' : ¬ w1.heap.size = g2 := by omega); clear hsz; simp only [did]))
  all_goals go_wp2
  all_goals go_end0
  all_goals go_wp2
  all_goals refine bodyPost_ret (v := did 3 0 y (y + x : Nat) true) (by simp only [results, Tryd.results46, did]; go_simp) rfl ?_
  all_goals first | (solve | (refine ⟨rfl, ?_, ?_, ?_⟩; (all_goals first | (solve | (repeat (first | with_reducible exact hmm | with_reducible exact Moves.refl _ _ | with_reducible apply Moves.drew | with_reducible apply Moves.drewN | with_reducible apply Moves.alloc | (with_reducible refine Moves.setOld ?_ ?_ _; rotate_left; (solve | simp)) | (with_reducible refine Moves.setNew ?_ ?_ _; rotate_left; (solve | simp | (simp; omega))) | fail))) | (apply Has.of_eq; (case h => repeat (first | with_reducible assumption | (with_reducible refine Has.new' ?_; (solve | with_reducible rfl | simp)) | with_reducible apply Has.drew | with_reducible apply Has.drewN | with_reducible apply Has.alloc | with_reducible apply Has.put | (with_reducible apply Has.far'; (solve | assumption | simp | (simp; omega))) | (with_reducible apply hm.hasB; (solve | assumption | omega)) | fail)); (case e => rfl)))))
set_option maxHeartbeats 1000000 in
theorem keep (bp bq bc bw batch n own saw left : Nat) (b y : Nat) (ans : Int) (f : Value) (l : List Nat) (w : World) (hP : Has w bp 77 (pend bq own f saw left ans))
    (hQ : Quo w bq bc bw batch n l) (g1 g2 : Nat) (hg1 : Has w g1 32 #[.pointer (some ⟨bp, 0, none⟩)]) (hg2 : Has w g2 39 #[.int .u64 b]) (hi : l[own]? = some y) (h1 : 1 ≤ b) (hb : y + b ≤ 1099511627776) :
    Calls Tryd.prog 54 #[.pointer (some ⟨g1, 0, none⟩), .pointer (some ⟨g2, 0, none⟩)] w fun e w' =>
      e = .returned (did 3 own y (y + (b - 1) : Nat) true) ∧ Has w' bp 77 (pend bq own Value.nilFunc saw left 1) ∧ Has w' bw 99 (wds (l.set own (y + (b - 1)))) ∧ Moves [bp, bw] w w' := by
  have hmf : ∀ (fn : Fn) (first cap : Array Value) (w : World), (Instr.makeFunc fn first cap).run Tryd.prog w = .ok (.func fn first cap) w := fun _ _ _ _ => rfl
  have hPc := hP.cell
  have hPf := hP.frozen
  simp only [pend] at hPc
  have hap := hQ.apart hP
  have hapw := hQ.apart_w
  have hlt := hP.lt
  have hwlt := hQ.m.lt
  have nwp : ¬ bp = bw := hap.2.2.1
  have nb0 : ¬ bp = w.heap.size := by omega
  have nb0' : ¬ w.heap.size = bp := by omega
  have nw0 : ¬ w.heap.size = bw := by omega
  have nb1 : ¬ bp = w.heap.size + 1 := by omega
  have nb1' : ¬ w.heap.size + 1 = bp := by omega
  have nw1 : ¬ w.heap.size + 1 = bw := by omega
  have lp1 : bp < w.heap.size + 1 := by omega
  have lp2 : bp < w.heap.size + 1 + 1 := by omega
  have ls02 : w.heap.size < w.heap.size + 1 + 1 := by omega
  have hL := Lib.hid hi
  clear hi
  have h1c := hg1.cell
  have h2c := hg2.cell
  have g1lt := hg1.lt
  have g2lt := hg2.lt
  have gp1 : ¬ bp = g1 := hP.ne_type hg1 (by decide)
  have gp2 : ¬ bp = g2 := hP.ne_type hg2 (by decide)
  have gw1 : ¬ g1 = bw := hg1.ne_type hQ.m (by decide)
  have gw2 : ¬ g2 = bw := hg2.ne_type hQ.m (by decide)
  have gp1' : ¬ g1 = bp := fun e => gp1 e.symm
  have gp2' : ¬ g2 = bp := fun e => gp2 e.symm
  have gs10 : ¬ g1 = w.heap.size := by omega
  have gs20 : ¬ g2 = w.heap.size := by omega
  have gs10' : ¬ w.heap.size = g1 := by omega
  have gs20' : ¬ w.heap.size = g2 := by omega
  have gs11 : ¬ g1 = w.heap.size + 1 := by omega
  have gs21 : ¬ g2 = w.heap.size + 1 := by omega
  have gs11' : ¬ w.heap.size + 1 = g1 := by omega
  have gs21' : ¬ w.heap.size + 1 = g2 := by omega
  have gl11 : g1 < w.heap.size + 1 := by omega
  have gl21 : g2 < w.heap.size + 1 := by omega
  have gl12 : g1 < w.heap.size + 1 + 1 := by omega
  have gl22 : g2 < w.heap.size + 1 + 1 := by omega
  have hw0 : IntKind.u64.wrap ((b : Int) - 1) = ((b - 1 : Nat) : Int) := by rw [IntKind.wrap_u64]; omega
  have HW := Lib.hid hw0
  clear hw0
  go_enter Tryd.func54, Tryd.ntmps54
  go_wp2_with fail
  go_region_held3 (fun w' => w'.cell? ⟨g1, 0, none⟩ = some (.pointer (some ⟨bp, 0, none⟩)) ∧ w'.cell? ⟨bp, 1, none⟩ = some (.int .i64 own) ∧ w'.cell? ⟨g2, 0, none⟩ = some (.int .u64 b)) (first | (refine ⟨?_, ?_, ?_⟩ <;> go_simp) | go_keep) (first | (go_at_call 43; rw [HW.out]; go_must (refine (do_any bp bq bc bw batch n 3 own 0 (b - 1) y (y + (b - 1)) true l _ ?hp0 ?hQ1 (by decide) (DoIs.add hL.out hQ.len (by omega))).mono ?_; (case hp0 => go_simp); (case hQ1 => (repeat (first | with_reducible exact hQ | with_reducible apply Quo.drew | with_reducible apply Quo.alloc | (with_reducible refine Quo.far ?_ ?_ _; rotate_left; (solve | exact hap | (simp; omega)))))); rintro e w1 ⟨rfl, hw1, hm⟩; (have hk := hm.cellB); (have hkf := hm.frozenB); (have hsz := hm.size); (simp only [World.size_alloc, World.size_setCell, World.size_drew] at hsz); (have hP1 : Has w1 bp 77 (pend bq own (f) saw left ans) := hm.has (by apply Has.of_eq; (case h => repeat (first | with_reducible assumption | (with_reducible refine Has.new' ?_; (solve | with_reducible rfl | simp)) | with_reducible apply Has.drew | with_reducible apply Has.drewN | with_reducible apply Has.alloc | with_reducible apply Has.put | (with_reducible apply Has.far'; (solve | assumption | simp | (simp; omega))) | fail)); (case e => rfl)) (by simp; omega)); (have hmm : Moves [bp, bw] w w1 := Moves.trans (b := _) (by (repeat (first | with_reducible exact Moves.refl _ _ | with_reducible apply Moves.drew | with_reducible apply Moves.drewN | with_reducible apply Moves.alloc | (with_reducible refine Moves.setOld ?_ ?_ _; rotate_left; (solve | simp)) | (with_reducible refine Moves.setNew ?_ ?_ _; rotate_left; (solve | simp | (simp; omega))) | fail))) hm (by simp)); (have ne1 : ¬ bp = w1.heap.size := by omega); (have ne1' : ¬ w1.heap.size = bp := by omega); (have na0 : ¬ w.heap.size = w1.heap.size := by omega); (have na0' : ¬ w1.heap.size = w.heap.size := by omega); (first | (refine lay (T := ¬ w.heap.size + 1 = w1.heap.size) ?_ (fun nz => ?_); (solve | omega)) | skip); (first | (refine lay (T := ¬ w1.heap.size = w.heap.size + 1) ?_ (fun nz' => ?_); (solve | omega)) | skip); (have ga1 : ¬ g1 = w1.heap.size := by omega); (have ga2 : ¬ g2 = w1.heap.size := by omega); (have ga1' : ¬ w1.heap.size = g1 := by omega); (have ga2' : ¬ w1.heap.size = g2 := by omega); clear hsz; simp only [did])))
  all_goals go_wp2
  all_goals go_end0
  all_goals go_wp2
  all_goals refine bodyPost_ret (v := did 3 own y (y + (b - 1) : Nat) true) (by simp only [results, Tryd.results54, did]; go_simp) rfl ?_
  all_goals first | (solve | (refine ⟨rfl, ?_, ?_, ?_⟩; (all_goals first | (solve | (repeat (first | with_reducible exact hmm | with_reducible exact Moves.refl _ _ | with_reducible apply Moves.drew | with_reducible apply Moves.drewN | with_reducible apply Moves.alloc | (with_reducible refine Moves.setOld ?_ ?_ _; rotate_left; (solve | simp)) | (with_reducible refine Moves.setNew ?_ ?_ _; rotate_left; (solve | simp | (simp; omega))) | fail))) | (apply Has.of_eq; (case h => repeat (first | with_reducible assumption | (with_reducible refine Has.new' ?_; (solve | with_reducible rfl | simp)) | with_reducible apply Has.drew | with_reducible apply Has.drewN | with_reducible apply Has.alloc | with_reducible apply Has.put | (with_reducible apply Has.far'; (solve | assumption | simp | (simp; omega))) | (with_reducible apply hm.hasB; (solve | assumption | omega)) | fail)); (case e => rfl)))))
end Go.Proofs.YtigacfgoldnoiaaDoor
