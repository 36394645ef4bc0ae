/- The cells' Do, by what it does to a list of words. -/
import Derived.Test.YtigacfgoldnoiaaDoorA2
import Derived.Deep.DeepFit
namespace Go.Proofs.YtigacfgoldnoiaaDoor
open Go.RowKit
set_option linter.unusedVariables false
set_option linter.unusedSimpArgs false

/-- The table of the fields that a kind uses, as it lies. -/
def Uses (w : World) : Prop := ∀ i b, ([false, false, false, false, false, true, false, true, false, true, true, true] : List Bool)[i]? = some b → w.cell? ⟨0, i, none⟩ = some (.bool b)
theorem Uses.keep {w w' : World} (h : Uses w) (hk : ∀ i, w'.cell? ⟨0, i, none⟩ = w.cell? ⟨0, i, none⟩) : Uses w' := fun i b hi => (hk i).trans (h i b hi)
theorem Uses.alloc {w : World} (h : Uses w) (hz : 0 < w.heap.size) (o : Obj) : Uses (w.alloc o) := h.keep fun i => World.cell?_alloc_lt w o ⟨0, i, none⟩ hz

set_option maxHeartbeats 1000000 in
theorem Do_load (bc bw i x n : Nat) (l : List Nat) (w : World) (hw : Has w bw 99 (wds l)) (hi : l[i]? = some x) (hc : Has w bc 87 #[.slice (some ⟨bw, 0, none⟩) n n]) (hl : l.length = n) (hu : Uses w)  :
    Calls Tryd.prog 52 #[.pointer (some ⟨bc, 0, none⟩), .agg #[.int .u8 1, .int .i64 i, .int .u64 0, .int .u64 0]] w fun e w' => e = .returned (.tuple #[did 1 i x x true, .int .i64 0]) ∧ Moves [] w w' := by
  have hz : 0 < w.heap.size := by have := hw.lt; omega
  have u0 : ∀ o1 o2, ((w.alloc o1).alloc o2).cell? ⟨0, 2, none⟩ = some (.bool false) := fun o1 o2 => (hu.alloc hz o1).alloc (by simp) o2 2 _ rfl
  have u1 : ∀ o1 o2, ((w.alloc o1).alloc o2).cell? ⟨0, 3, none⟩ = some (.bool false) := fun o1 o2 => (hu.alloc hz o1).alloc (by simp) o2 3 _ rfl
  have hc0 : w.cell? ⟨bc, 0, none⟩ = some (.slice (some ⟨bw, 0, none⟩) n n) := hc.cell 0
  have hc2 : ∀ o1 o2, ((w.alloc o1).alloc o2).cell? ⟨bc, 0, none⟩ = some (.slice (some ⟨bw, 0, none⟩) n n) := fun o1 o2 => ((hc.alloc o1).alloc o2).cell 0
  have n1 : ¬ bc = w.heap.size := by have := hc.lt; omega
  have n1' : ¬ bc = w.heap.size + 1 := by have := hc.lt; omega
  have hblt := hw.lt
  clear hz
  have hin : (i : Int) < (n : Int) := by have := (List.getElem?_eq_some_iff.1 hi).1; omega
  have hd : decide ((n : Int) ≤ (i : Int)) = false := by simpa using hin
  have hd0 : decide ((i : Int) < 0) = false := by simp
  have hx := Lib.hid hi
  have hl' := Lib.hid hl
  clear hi hl
  go_enter Tryd.func52, Tryd.ntmps52
  go_wp2_with fail
  go_quiet (fail)
  go_wp2_with fail
  go_region_with (go_at_call 55; go_must (refine (done_load bw i x l _ (by repeat (first | with_reducible assumption | with_reducible apply Has.drew | with_reducible apply Has.drewN | with_reducible apply Has.alloc) : Has _ _ _ _) hx.out).mono ?_; rintro e w1 ⟨rfl, hm⟩; (have hq : Has w1 (w.heap.size + 1) 46 #[.int .u8 0, .int .i64 0, .int .u64 0, .int .u64 0, .bool false] := hm.has (Has.drewN (Has.new' (by simp)) _) (by simp; try omega)); (have hmm : Moves [] w w1 := ((((Moves.refl [] w).alloc _).alloc _).drewN _).trans hm (by simp)); (have qc := hq.cell); (have qf := hq.frozen); simp only [did]))
  all_goals go_wp2_with fail
  all_goals refine bodyPost_ret (v := .tuple #[did 1 i x x true, .int .i64 0]) (by simp [results, Tryd.results52, go_sem, did, qc]) rfl ⟨rfl, ?_⟩
  all_goals (repeat (first | with_reducible exact hmm | with_reducible exact Moves.refl _ _ | with_reducible apply Moves.drew | with_reducible apply Moves.alloc | (with_reducible refine Moves.setOld ?_ ?_ _; rotate_left; (solve | simp)) | (with_reducible refine Moves.setNew ?_ ?_ _; rotate_left; (solve | simp | (simp; omega)))))
set_option maxHeartbeats 1000000 in
theorem Do_add (bc bw i x n : Nat) (l : List Nat) (w : World) (hw : Has w bw 99 (wds l)) (hi : l[i]? = some x) (hc : Has w bc 87 #[.slice (some ⟨bw, 0, none⟩) n n]) (hl : l.length = n) (hu : Uses w) (y : Nat) (hxy : x + y ≤ 9223372036854775807) :
    Calls Tryd.prog 52 #[.pointer (some ⟨bc, 0, none⟩), .agg #[.int .u8 3, .int .i64 i, .int .u64 0, .int .u64 y]] w fun e w' => e = .returned (.tuple #[did 3 i x (x + y : Nat) true, .int .i64 0]) ∧ Has w' bw 99 (wds (l.set i ((x + y : Nat)))) ∧ Moves [bw] w w' := by
  have hz : 0 < w.heap.size := by have := hw.lt; omega
  have u0 : ∀ o1 o2, ((w.alloc o1).alloc o2).cell? ⟨0, 6, none⟩ = some (.bool false) := fun o1 o2 => (hu.alloc hz o1).alloc (by simp) o2 6 _ rfl
  have u1 : ∀ o1 o2, ((w.alloc o1).alloc o2).cell? ⟨0, 7, none⟩ = some (.bool true) := fun o1 o2 => (hu.alloc hz o1).alloc (by simp) o2 7 _ rfl
  have hc0 : w.cell? ⟨bc, 0, none⟩ = some (.slice (some ⟨bw, 0, none⟩) n n) := hc.cell 0
  have hc2 : ∀ o1 o2, ((w.alloc o1).alloc o2).cell? ⟨bc, 0, none⟩ = some (.slice (some ⟨bw, 0, none⟩) n n) := fun o1 o2 => ((hc.alloc o1).alloc o2).cell 0
  have n1 : ¬ bc = w.heap.size := by have := hc.lt; omega
  have n1' : ¬ bc = w.heap.size + 1 := by have := hc.lt; omega
  have hblt := hw.lt
  clear hz
  have hin : (i : Int) < (n : Int) := by have := (List.getElem?_eq_some_iff.1 hi).1; omega
  have hd : decide ((n : Int) ≤ (i : Int)) = false := by simpa using hin
  have hd0 : decide ((i : Int) < 0) = false := by simp
  have hx := Lib.hid hi
  have hl' := Lib.hid hl
  clear hi hl
  go_enter Tryd.func52, Tryd.ntmps52
  go_wp2_with fail
  go_quiet (fail)
  go_wp2_with fail
  go_region_with (go_at_call 55; go_must (refine (done_add bw i x l _ (by repeat (first | with_reducible assumption | with_reducible apply Has.drew | with_reducible apply Has.drewN | with_reducible apply Has.alloc) : Has _ _ _ _) hx.out y hxy).mono ?_; rintro e w1 ⟨rfl, hw1, hm⟩; (have hq : Has w1 (w.heap.size + 1) 46 #[.int .u8 0, .int .i64 0, .int .u64 0, .int .u64 0, .bool false] := hm.has (Has.drewN (Has.new' (by simp)) _) (by simp; try omega)); (have hmm : Moves [bw] w w1 := ((((Moves.refl [bw] w).alloc _).alloc _).drewN _).trans hm (by simp)); (have qc := hq.cell); (have qf := hq.frozen); simp only [did]))
  all_goals go_wp2_with fail
  all_goals refine bodyPost_ret (v := .tuple #[did 3 i x (x + y : Nat) true, .int .i64 0]) (by simp [results, Tryd.results52, go_sem, did, qc]) rfl ⟨rfl, ?_, ?_⟩
  all_goals first | (solve | (repeat (first | with_reducible exact hmm | with_reducible exact Moves.refl _ _ | with_reducible apply Moves.drew | with_reducible apply Moves.alloc | (with_reducible refine Moves.setOld ?_ ?_ _; rotate_left; (solve | simp)) | (with_reducible refine Moves.setNew ?_ ?_ _; rotate_left; (solve | simp | (simp; omega)))))) | (repeat (first | with_reducible exact hw1 | with_reducible apply Has.drew | with_reducible apply Has.alloc | (with_reducible refine Has.far ?_ ?_ _; rotate_left; (solve | assumption | simp | (simp; omega)))))
set_option maxHeartbeats 1000000 in
theorem Do_swap (bc bw i x n : Nat) (l : List Nat) (w : World) (hw : Has w bw 99 (wds l)) (hi : l[i]? = some x) (hc : Has w bc 87 #[.slice (some ⟨bw, 0, none⟩) n n]) (hl : l.length = n) (hu : Uses w) (y : Nat) :
    Calls Tryd.prog 52 #[.pointer (some ⟨bc, 0, none⟩), .agg #[.int .u8 4, .int .i64 i, .int .u64 0, .int .u64 y]] w fun e w' => e = .returned (.tuple #[did 4 i x y true, .int .i64 0]) ∧ Has w' bw 99 (wds (l.set i (y))) ∧ Moves [bw] w w' := by
  have hz : 0 < w.heap.size := by have := hw.lt; omega
  have u0 : ∀ o1 o2, ((w.alloc o1).alloc o2).cell? ⟨0, 8, none⟩ = some (.bool false) := fun o1 o2 => (hu.alloc hz o1).alloc (by simp) o2 8 _ rfl
  have u1 : ∀ o1 o2, ((w.alloc o1).alloc o2).cell? ⟨0, 9, none⟩ = some (.bool true) := fun o1 o2 => (hu.alloc hz o1).alloc (by simp) o2 9 _ rfl
  have hc0 : w.cell? ⟨bc, 0, none⟩ = some (.slice (some ⟨bw, 0, none⟩) n n) := hc.cell 0
  have hc2 : ∀ o1 o2, ((w.alloc o1).alloc o2).cell? ⟨bc, 0, none⟩ = some (.slice (some ⟨bw, 0, none⟩) n n) := fun o1 o2 => ((hc.alloc o1).alloc o2).cell 0
  have n1 : ¬ bc = w.heap.size := by have := hc.lt; omega
  have n1' : ¬ bc = w.heap.size + 1 := by have := hc.lt; omega
  have hblt := hw.lt
  clear hz
  have hin : (i : Int) < (n : Int) := by have := (List.getElem?_eq_some_iff.1 hi).1; omega
  have hd : decide ((n : Int) ≤ (i : Int)) = false := by simpa using hin
  have hd0 : decide ((i : Int) < 0) = false := by simp
  have hx := Lib.hid hi
  have hl' := Lib.hid hl
  clear hi hl
  go_enter Tryd.func52, Tryd.ntmps52
  go_wp2_with fail
  go_quiet (fail)
  go_wp2_with fail
  go_region_with (go_at_call 55; go_must (refine (done_swap bw i x l _ (by repeat (first | with_reducible assumption | with_reducible apply Has.drew | with_reducible apply Has.drewN | with_reducible apply Has.alloc) : Has _ _ _ _) hx.out y).mono ?_; rintro e w1 ⟨rfl, hw1, hm⟩; (have hq : Has w1 (w.heap.size + 1) 46 #[.int .u8 0, .int .i64 0, .int .u64 0, .int .u64 0, .bool false] := hm.has (Has.drewN (Has.new' (by simp)) _) (by simp; try omega)); (have hmm : Moves [bw] w w1 := ((((Moves.refl [bw] w).alloc _).alloc _).drewN _).trans hm (by simp)); (have qc := hq.cell); (have qf := hq.frozen); simp only [did]))
  all_goals go_wp2_with fail
  all_goals refine bodyPost_ret (v := .tuple #[did 4 i x y true, .int .i64 0]) (by simp [results, Tryd.results52, go_sem, did, qc]) rfl ⟨rfl, ?_, ?_⟩
  all_goals first | (solve | (repeat (first | with_reducible exact hmm | with_reducible exact Moves.refl _ _ | with_reducible apply Moves.drew | with_reducible apply Moves.alloc | (with_reducible refine Moves.setOld ?_ ?_ _; rotate_left; (solve | simp)) | (with_reducible refine Moves.setNew ?_ ?_ _; rotate_left; (solve | simp | (simp; omega)))))) | (repeat (first | with_reducible exact hw1 | with_reducible apply Has.drew | with_reducible apply Has.alloc | (with_reducible refine Has.far ?_ ?_ _; rotate_left; (solve | assumption | simp | (simp; omega)))))
set_option maxHeartbeats 1000000 in
theorem Do_hit (bc bw i x n : Nat) (l : List Nat) (w : World) (hw : Has w bw 99 (wds l)) (hi : l[i]? = some x) (hc : Has w bc 87 #[.slice (some ⟨bw, 0, none⟩) n n]) (hl : l.length = n) (hu : Uses w) (y : Nat) :
    Calls Tryd.prog 52 #[.pointer (some ⟨bc, 0, none⟩), .agg #[.int .u8 5, .int .i64 i, .int .u64 x, .int .u64 y]] w fun e w' => e = .returned (.tuple #[did 5 i x y true, .int .i64 0]) ∧ Has w' bw 99 (wds (l.set i (y))) ∧ Moves [bw] w w' := by
  have hz : 0 < w.heap.size := by have := hw.lt; omega
  have u0 : ∀ o1 o2, ((w.alloc o1).alloc o2).cell? ⟨0, 10, none⟩ = some (.bool true) := fun o1 o2 => (hu.alloc hz o1).alloc (by simp) o2 10 _ rfl
  have u1 : ∀ o1 o2, ((w.alloc o1).alloc o2).cell? ⟨0, 11, none⟩ = some (.bool true) := fun o1 o2 => (hu.alloc hz o1).alloc (by simp) o2 11 _ rfl
  have hc0 : w.cell? ⟨bc, 0, none⟩ = some (.slice (some ⟨bw, 0, none⟩) n n) := hc.cell 0
  have hc2 : ∀ o1 o2, ((w.alloc o1).alloc o2).cell? ⟨bc, 0, none⟩ = some (.slice (some ⟨bw, 0, none⟩) n n) := fun o1 o2 => ((hc.alloc o1).alloc o2).cell 0
  have n1 : ¬ bc = w.heap.size := by have := hc.lt; omega
  have n1' : ¬ bc = w.heap.size + 1 := by have := hc.lt; omega
  have hblt := hw.lt
  clear hz
  have hin : (i : Int) < (n : Int) := by have := (List.getElem?_eq_some_iff.1 hi).1; omega
  have hd : decide ((n : Int) ≤ (i : Int)) = false := by simpa using hin
  have hd0 : decide ((i : Int) < 0) = false := by simp
  have hx := Lib.hid hi
  have hl' := Lib.hid hl
  clear hi hl
  go_enter Tryd.func52, Tryd.ntmps52
  go_wp2_with fail
  go_quiet (fail)
  go_wp2_with fail
  go_region_with (go_at_call 55; go_must (refine (done_hit bw i x l _ (by repeat (first | with_reducible assumption | with_reducible apply Has.drew | with_reducible apply Has.drewN | with_reducible apply Has.alloc) : Has _ _ _ _) hx.out y).mono ?_; rintro e w1 ⟨rfl, hw1, hm⟩; (have hq : Has w1 (w.heap.size + 1) 46 #[.int .u8 0, .int .i64 0, .int .u64 0, .int .u64 0, .bool false] := hm.has (Has.drewN (Has.new' (by simp)) _) (by simp; try omega)); (have hmm : Moves [bw] w w1 := ((((Moves.refl [bw] w).alloc _).alloc _).drewN _).trans hm (by simp)); (have qc := hq.cell); (have qf := hq.frozen); simp only [did]))
  all_goals go_wp2_with fail
  all_goals refine bodyPost_ret (v := .tuple #[did 5 i x y true, .int .i64 0]) (by simp [results, Tryd.results52, go_sem, did, qc]) rfl ⟨rfl, ?_, ?_⟩
  all_goals first | (solve | (repeat (first | with_reducible exact hmm | with_reducible exact Moves.refl _ _ | with_reducible apply Moves.drew | with_reducible apply Moves.alloc | (with_reducible refine Moves.setOld ?_ ?_ _; rotate_left; (solve | simp)) | (with_reducible refine Moves.setNew ?_ ?_ _; rotate_left; (solve | simp | (simp; omega)))))) | (repeat (first | with_reducible exact hw1 | with_reducible apply Has.drew | with_reducible apply Has.alloc | (with_reducible refine Has.far ?_ ?_ _; rotate_left; (solve | assumption | simp | (simp; omega)))))
set_option maxHeartbeats 1000000 in
theorem Do_miss (bc bw i x n : Nat) (l : List Nat) (w : World) (hw : Has w bw 99 (wds l)) (hi : l[i]? = some x) (hc : Has w bc 87 #[.slice (some ⟨bw, 0, none⟩) n n]) (hl : l.length = n) (hu : Uses w) (z y : Nat) (hne : ¬ (x : Int) = (z : Int)) :
    Calls Tryd.prog 52 #[.pointer (some ⟨bc, 0, none⟩), .agg #[.int .u8 5, .int .i64 i, .int .u64 z, .int .u64 y]] w fun e w' => e = .returned (.tuple #[did 5 i x x false, .int .i64 0]) ∧ Moves [] w w' := by
  have hz : 0 < w.heap.size := by have := hw.lt; omega
  have u0 : ∀ o1 o2, ((w.alloc o1).alloc o2).cell? ⟨0, 10, none⟩ = some (.bool true) := fun o1 o2 => (hu.alloc hz o1).alloc (by simp) o2 10 _ rfl
  have u1 : ∀ o1 o2, ((w.alloc o1).alloc o2).cell? ⟨0, 11, none⟩ = some (.bool true) := fun o1 o2 => (hu.alloc hz o1).alloc (by simp) o2 11 _ rfl
  have hc0 : w.cell? ⟨bc, 0, none⟩ = some (.slice (some ⟨bw, 0, none⟩) n n) := hc.cell 0
  have hc2 : ∀ o1 o2, ((w.alloc o1).alloc o2).cell? ⟨bc, 0, none⟩ = some (.slice (some ⟨bw, 0, none⟩) n n) := fun o1 o2 => ((hc.alloc o1).alloc o2).cell 0
  have n1 : ¬ bc = w.heap.size := by have := hc.lt; omega
  have n1' : ¬ bc = w.heap.size + 1 := by have := hc.lt; omega
  have hblt := hw.lt
  clear hz
  have hin : (i : Int) < (n : Int) := by have := (List.getElem?_eq_some_iff.1 hi).1; omega
  have hd : decide ((n : Int) ≤ (i : Int)) = false := by simpa using hin
  have hd0 : decide ((i : Int) < 0) = false := by simp
  have hx := Lib.hid hi
  have hl' := Lib.hid hl
  clear hi hl
  go_enter Tryd.func52, Tryd.ntmps52
  go_wp2_with fail
  go_quiet (fail)
  go_wp2_with fail
  go_region_with (go_at_call 55; go_must (refine (done_miss bw i x l _ (by repeat (first | with_reducible assumption | with_reducible apply Has.drew | with_reducible apply Has.drewN | with_reducible apply Has.alloc) : Has _ _ _ _) hx.out z y hne).mono ?_; rintro e w1 ⟨rfl, hm⟩; (have hq : Has w1 (w.heap.size + 1) 46 #[.int .u8 0, .int .i64 0, .int .u64 0, .int .u64 0, .bool false] := hm.has (Has.drewN (Has.new' (by simp)) _) (by simp; try omega)); (have hmm : Moves [] w w1 := ((((Moves.refl [] w).alloc _).alloc _).drewN _).trans hm (by simp)); (have qc := hq.cell); (have qf := hq.frozen); simp only [did]))
  all_goals go_wp2_with fail
  all_goals refine bodyPost_ret (v := .tuple #[did 5 i x x false, .int .i64 0]) (by simp [results, Tryd.results52, go_sem, did, qc]) rfl ⟨rfl, ?_⟩
  all_goals (repeat (first | with_reducible exact hmm | with_reducible exact Moves.refl _ _ | with_reducible apply Moves.drew | with_reducible apply Moves.alloc | (with_reducible refine Moves.setOld ?_ ?_ _; rotate_left; (solve | simp)) | (with_reducible refine Moves.setNew ?_ ?_ _; rotate_left; (solve | simp | (simp; omega)))))
end Go.Proofs.YtigacfgoldnoiaaDoor
