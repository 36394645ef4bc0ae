/- The cells' functions, by what they do to a list of words. -/
import Derived.Test.YtigacfgoldnoiaaDoorA1
import Derived.Deep.RegionWith
namespace Go.Proofs.YtigacfgoldnoiaaDoor
open Go.RowKit
set_option linter.unusedVariables false
set_option linter.unusedSimpArgs false

theorem at_any (bc bw n i : Nat) (w : World) (hc : w.cell? ⟨bc, 0, none⟩ = some (.slice (some ⟨bw, 0, none⟩) n n)) (hi : i < n) :
    Calls Tryd.prog 40 #[.pointer (some ⟨bc, 0, none⟩), .int .i64 i] w fun e w' => e = .returned (.pointer (some ⟨bw, i, none⟩)) ∧ w = w' := by
  have h1 : decide ((i : Int) < 0) = false := by simp
  have h2 : decide ((n : Int) ≤ (i : Int)) = false := by simp; omega
  have h3 : (i : Int) < (n : Int) := by omega
  go_enter Tryd.func40, Tryd.ntmps40
  go_wp2
  go_ret
  exact ⟨rfl, rfl⟩
theorem cstore_any (bc bw n i x y : Nat) (w : World) (hc : w.cell? ⟨bc, 0, none⟩ = some (.slice (some ⟨bw, 0, none⟩) n n)) (hi : i < n)
    (hx : w.cell? ⟨bw, i, none⟩ = some (.int .u64 x)) (hz : w.frozen? ⟨bw, i, none⟩ = false) :
    Calls Tryd.prog 30 #[.pointer (some ⟨bc, 0, none⟩), .int .i64 i, .int .u64 y] w fun e w' => e = .returned (.tuple #[]) ∧ w.setCell ⟨bw, i, none⟩ (.int .u64 y) = w' := by
  go_enter Tryd.func30, Tryd.ntmps30
  go_wp2_with (first | (go_at_call 40; refine (at_any bc bw n i _ hc hi).mono ?_; rintro e w' ⟨rfl, rfl⟩) | (go_at_call 41; refine (store_any bw i x y _ hx hz).mono ?_; rintro e w' ⟨rfl, rfl⟩))
  go_end0
  exact ⟨rfl, rfl⟩

/-- What an action did, as a value. -/
def did (k c s p : Int) (ok : Bool) : Value := .agg #[.int .u8 k, .int .i64 c, .int .u64 s, .int .u64 p, .bool ok]

set_option maxHeartbeats 1000000 in
theorem done_load (bw i x : Nat) (l : List Nat) (w : World) (hw : Has w bw 99 (wds l)) (hi : l[i]? = some x)  :
    Calls Tryd.prog 55 #[.pointer (some ⟨bw, i, none⟩), .agg #[.int .u8 1, .int .i64 i, .int .u64 0, .int .u64 0]] w fun e w' => e = .returned (did 1 i x x true) ∧ Moves [] w w' := by
  have hx : (wds l)[i]? = some (.int .u64 x) := by simp [wds, hi]
  have hlt := hw.lt
  have n0 : ¬ bw = w.heap.size := by omega
  have n1 : ¬ bw = w.heap.size + 1 := by omega
  have n2 : ¬ bw = w.heap.size + 1 + 1 := by omega
  clear hlt
  go_enter Tryd.func55, Tryd.ntmps55
  go_wp2_with (go_at_call 49; refine (load_any bw i x _ ((by repeat (first | with_reducible assumption | with_reducible apply Has.drew | with_reducible apply Has.alloc | (with_reducible refine Has.far ?_ ?_ _; rotate_left; assumption)) : Has _ bw 99 (wds l)).cell i |>.trans hx)).mono ?_; rintro e w' ⟨rfl, rfl⟩)
  all_goals refine bodyPost_ret (v := did 1 i x x true) (by simp [results, Tryd.results55, go_sem, did, *]) rfl ⟨rfl, ?_⟩
  all_goals (repeat (first | with_reducible exact Moves.refl _ _ | with_reducible apply Moves.drew | with_reducible apply Moves.alloc | (with_reducible refine Moves.setOld ?_ ?_ _; rotate_left; (solve | simp)) | (with_reducible refine Moves.setNew ?_ ?_ _; rotate_left; (solve | simp | (simp; omega)))))
set_option maxHeartbeats 1000000 in
theorem done_swap (bw i x : Nat) (l : List Nat) (w : World) (hw : Has w bw 99 (wds l)) (hi : l[i]? = some x) (y : Nat) :
    Calls Tryd.prog 55 #[.pointer (some ⟨bw, i, none⟩), .agg #[.int .u8 4, .int .i64 i, .int .u64 0, .int .u64 y]] w fun e w' => e = .returned (did 4 i x y true) ∧ Has w' bw 99 (wds (l.set i (y))) ∧ Moves [bw] w w' := by
  have hx : (wds l)[i]? = some (.int .u64 x) := by simp [wds, hi]
  have hlt := hw.lt
  have n0 : ¬ bw = w.heap.size := by omega
  have n1 : ¬ bw = w.heap.size + 1 := by omega
  have n2 : ¬ bw = w.heap.size + 1 + 1 := by omega
  clear hlt
  go_enter Tryd.func55, Tryd.ntmps55
  go_wp2_with fail
  go_region_with (go_at_call 56; refine (swap_any bw i x y _ (((by repeat (first | with_reducible assumption | with_reducible apply Has.drew | with_reducible apply Has.alloc | (with_reducible refine Has.far ?_ ?_ _; rotate_left; assumption)) : Has _ bw 99 (wds l)).cell i).trans hx) ((by repeat (first | with_reducible assumption | with_reducible apply Has.drew | with_reducible apply Has.alloc | (with_reducible refine Has.far ?_ ?_ _; rotate_left; assumption)) : Has _ bw 99 (wds l)).frozen i)).mono ?_; rintro e w' ⟨rfl, rfl⟩)
  all_goals go_wp2_with fail
  all_goals refine bodyPost_ret (v := did 4 i x y true) (by simp [results, Tryd.results55, go_sem, did, *]) rfl ⟨rfl, ?_, ?_⟩
  all_goals first | (solve | (repeat (first | with_reducible exact Moves.refl _ _ | with_reducible apply Moves.drew | with_reducible apply Moves.alloc | (with_reducible refine Moves.setOld ?_ ?_ _; rotate_left; (solve | simp)) | (with_reducible refine Moves.setNew ?_ ?_ _; rotate_left; (solve | simp | (simp; omega)))))) | (rw [← wds_set]; (try simp only [Int.natCast_add]); repeat (first | with_reducible exact hw | with_reducible apply Has.drew | with_reducible apply Has.alloc | with_reducible apply Has.put | (with_reducible refine Has.far ?_ ?_ _; rotate_left; assumption)))
set_option maxHeartbeats 1000000 in
theorem done_add (bw i x : Nat) (l : List Nat) (w : World) (hw : Has w bw 99 (wds l)) (hi : l[i]? = some x) (y : Nat) (hxy : x + y ≤ 9223372036854775807) :
    Calls Tryd.prog 55 #[.pointer (some ⟨bw, i, none⟩), .agg #[.int .u8 3, .int .i64 i, .int .u64 0, .int .u64 y]] w fun e w' => e = .returned (did 3 i x (x + y : Nat) true) ∧ Has w' bw 99 (wds (l.set i ((x + y : Nat)))) ∧ Moves [bw] w w' := by
  have hx : (wds l)[i]? = some (.int .u64 x) := by simp [wds, hi]
  have hlt := hw.lt
  have n0 : ¬ bw = w.heap.size := by omega
  have n1 : ¬ bw = w.heap.size + 1 := by omega
  have n2 : ¬ bw = w.heap.size + 1 + 1 := by omega
  clear hlt
  go_enter Tryd.func55, Tryd.ntmps55
  go_wp2_with (go_at_call 57; refine (add_any bw i x y _ (((by repeat (first | with_reducible assumption | with_reducible apply Has.drew | with_reducible apply Has.alloc | (with_reducible refine Has.far ?_ ?_ _; rotate_left; assumption)) : Has _ bw 99 (wds l)).cell i).trans hx) ((by repeat (first | with_reducible assumption | with_reducible apply Has.drew | with_reducible apply Has.alloc | (with_reducible refine Has.far ?_ ?_ _; rotate_left; assumption)) : Has _ bw 99 (wds l)).frozen i) (by omega)).mono ?_; rintro e w' ⟨rfl, rfl⟩)
  all_goals refine bodyPost_ret (v := did 3 i x (x + y : Nat) true) (by simp [results, Tryd.results55, go_sem, did, *]) rfl ⟨rfl, ?_, ?_⟩
  all_goals first | (solve | (repeat (first | with_reducible exact Moves.refl _ _ | with_reducible apply Moves.drew | with_reducible apply Moves.alloc | (with_reducible refine Moves.setOld ?_ ?_ _; rotate_left; (solve | simp)) | (with_reducible refine Moves.setNew ?_ ?_ _; rotate_left; (solve | simp | (simp; omega)))))) | (rw [← wds_set]; (try simp only [Int.natCast_add]); repeat (first | with_reducible exact hw | with_reducible apply Has.drew | with_reducible apply Has.alloc | with_reducible apply Has.put | (with_reducible refine Has.far ?_ ?_ _; rotate_left; assumption)))
set_option maxHeartbeats 1000000 in
theorem done_hit (bw i x : Nat) (l : List Nat) (w : World) (hw : Has w bw 99 (wds l)) (hi : l[i]? = some x) (y : Nat) :
    Calls Tryd.prog 55 #[.pointer (some ⟨bw, i, none⟩), .agg #[.int .u8 5, .int .i64 i, .int .u64 x, .int .u64 y]] w fun e w' => e = .returned (did 5 i x y true) ∧ Has w' bw 99 (wds (l.set i (y))) ∧ Moves [bw] w w' := by
  have hx : (wds l)[i]? = some (.int .u64 x) := by simp [wds, hi]
  have hlt := hw.lt
  have n0 : ¬ bw = w.heap.size := by omega
  have n1 : ¬ bw = w.heap.size + 1 := by omega
  have n2 : ¬ bw = w.heap.size + 1 + 1 := by omega
  clear hlt
  go_enter Tryd.func55, Tryd.ntmps55
  go_wp2_with fail
  refine wp_loop_once ?_
  go_wp2_with (go_at_call 58; refine (cas_hit bw i x y _ (((by repeat (first | with_reducible assumption | with_reducible apply Has.drew | with_reducible apply Has.alloc | (with_reducible refine Has.far ?_ ?_ _; rotate_left; assumption)) : Has _ bw 99 (wds l)).cell i).trans hx) ((by repeat (first | with_reducible assumption | with_reducible apply Has.drew | with_reducible apply Has.alloc | (with_reducible refine Has.far ?_ ?_ _; rotate_left; assumption)) : Has _ bw 99 (wds l)).frozen i)).mono ?_; rintro e w' ⟨rfl, rfl⟩)
  go_region
  all_goals go_wp2_with fail
  all_goals refine bodyPost_ret (v := did 5 i x y true) (by simp [results, Tryd.results55, go_sem, did, *]) rfl ⟨rfl, ?_, ?_⟩
  all_goals first | (solve | (repeat (first | with_reducible exact Moves.refl _ _ | with_reducible apply Moves.drew | with_reducible apply Moves.alloc | (with_reducible refine Moves.setOld ?_ ?_ _; rotate_left; (solve | simp)) | (with_reducible refine Moves.setNew ?_ ?_ _; rotate_left; (solve | simp | (simp; omega)))))) | (rw [← wds_set]; (try simp only [Int.natCast_add]); repeat (first | with_reducible exact hw | with_reducible apply Has.drew | with_reducible apply Has.alloc | with_reducible apply Has.put | (with_reducible refine Has.far ?_ ?_ _; rotate_left; assumption)))
set_option maxHeartbeats 1000000 in
theorem done_miss (bw i x : Nat) (l : List Nat) (w : World) (hw : Has w bw 99 (wds l)) (hi : l[i]? = some x) (z y : Nat) (hne : ¬ (x : Int) = (z : Int)) :
    Calls Tryd.prog 55 #[.pointer (some ⟨bw, i, none⟩), .agg #[.int .u8 5, .int .i64 i, .int .u64 z, .int .u64 y]] w fun e w' => e = .returned (did 5 i x x false) ∧ Moves [] w w' := by
  have hx : (wds l)[i]? = some (.int .u64 x) := by simp [wds, hi]
  have hlt := hw.lt
  have n0 : ¬ bw = w.heap.size := by omega
  have n1 : ¬ bw = w.heap.size + 1 := by omega
  have n2 : ¬ bw = w.heap.size + 1 + 1 := by omega
  clear hlt
  go_enter Tryd.func55, Tryd.ntmps55
  go_wp2_with fail
  refine wp_loop_once ?_
  go_wp2_with (first | (go_at_call 58; refine (cas_miss bw i x z y _ (((by repeat (first | with_reducible assumption | with_reducible apply Has.drew | with_reducible apply Has.alloc | (with_reducible refine Has.far ?_ ?_ _; rotate_left; assumption)) : Has _ bw 99 (wds l)).cell i).trans hx) ((by repeat (first | with_reducible assumption | with_reducible apply Has.drew | with_reducible apply Has.alloc | (with_reducible refine Has.far ?_ ?_ _; rotate_left; assumption)) : Has _ bw 99 (wds l)).frozen i) hne).mono ?_; rintro e w' ⟨rfl, rfl⟩) | (go_at_call 49; refine (load_any bw i x _ ((by repeat (first | with_reducible assumption | with_reducible apply Has.drew | with_reducible apply Has.alloc | (with_reducible refine Has.far ?_ ?_ _; rotate_left; assumption)) : Has _ bw 99 (wds l)).cell i |>.trans hx)).mono ?_; rintro e w' ⟨rfl, rfl⟩))
  try go_region
  all_goals go_wp2_with fail
  all_goals refine bodyPost_ret (v := did 5 i x x false) (by simp [results, Tryd.results55, go_sem, did, *]) rfl ⟨rfl, ?_⟩
  all_goals (repeat (first | with_reducible exact Moves.refl _ _ | with_reducible apply Moves.drew | with_reducible apply Moves.alloc | (with_reducible refine Moves.setOld ?_ ?_ _; rotate_left; (solve | simp)) | (with_reducible refine Moves.setNew ?_ ?_ _; rotate_left; (solve | simp | (simp; omega)))))
end Go.Proofs.YtigacfgoldnoiaaDoor
