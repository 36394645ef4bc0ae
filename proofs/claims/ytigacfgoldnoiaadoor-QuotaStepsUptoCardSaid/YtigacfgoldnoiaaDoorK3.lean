/- The document's own Step, a way a theorem. -/
import Derived.Test.YtigacfgoldnoiaaDoorK2
namespace Go.Proofs.YtigacfgoldnoiaaDoor
open Go Go.RowKit
set_option linter.unusedVariables false
set_option linter.unusedSimpArgs false
attribute [local go_sem] World.cell?_alloc_old World.frozen?_alloc_old

set_option maxHeartbeats 2000000 in
set_option maxRecDepth 100000 in
theorem step2a (batch : Int) (l : List Nat) (worker own x saw hand sum ans : Nat) (how : worker + 1 = own) (hx : l[own]? = some x) (hp : x = 0) (hb : l.length ≤ 65) (W : World) (v : Value) (hR : Rds W v l) :
    Calls Tryd.prog 18 #[.int .i64 batch, v, uvl 2 worker 0 saw hand sum false ans] W fun e w' =>
      ∃ v', e = .returned (.tuple #[v', uvl 2 worker 1 saw x x true ans, did 4 own x 0 true]) ∧ w'.ownsRow W.heap.size 39 1 v' l.length (wvs (l.set own 0)) ∧ Moves [] W w' := by
  have hact0 := fun W' (hm : Moves [] W W') => act_swap l own x 0 hx hb W' v (hR.moves hm (fun _ _ => by simp))
  have HA := Lib.hid hact0
  simp only [Int.cast_ofNat_Int] at HA
  have HB := Lib.hid hb
  have hnz : 0 < l.length := by have := (List.getElem?_eq_some_iff.1 hx).1; omega
  have E1 : Hid ((worker : Int) + 1 = (own : Int)) := Lib.hid (by omega)
  have hwk : (worker : Int) + 1 ≤ 65 := by have := (List.getElem?_eq_some_iff.1 hx).1; omega
  have hp2 : ((x : Int) == 0) = true := by simp [hp]
  clear hp
  clear hx how
  clear hact0 hR hb
  obtain ⟨n, hn⟩ : ∃ n, n = l.length := ⟨_, rfl⟩
  rw [← hn] at HA HB hnz ⊢
  have HN := Lib.hid hn
  clear hn
  have z1 : ¬ W.heap.size + 1 = W.heap.size := by omega
  have z2 : ¬ W.heap.size + 2 = W.heap.size := by omega
  have z3 : ¬ W.heap.size + 2 = W.heap.size + 1 := by omega
  have z4 : ¬ W.heap.size = W.heap.size + 1 := by omega
  have z5 : ¬ W.heap.size = W.heap.size + 2 := by omega
  have z6 : ¬ W.heap.size + 1 = W.heap.size + 2 := by omega
  simp only [uvl, did]
  go_enter Tryd.func18, Tryd.ntmps18
  go_wp2_with (go_at_call 35; (try rw [E1.out]); go_must (refine (HA.out _ ?hM).mono ?_; (case hM => (repeat (first | with_reducible exact Moves.refl [] _ | with_reducible apply Moves.drew | with_reducible apply Moves.drewN | with_reducible apply Moves.alloc | fail))); rintro e w1 ⟨v', rfl, hown, hm⟩; (have hsz := hm.size); (simp only [World.size_alloc, World.size_drew] at hsz); (have u1 : Has w1 W.heap.size 41 #[.int .u8 2, .int .i64 (worker : Nat), .int .i64 0, .int .u64 (saw : Nat), .int .u64 (hand : Nat), .int .u64 (sum : Nat), .bool false, .int .i64 (ans : Nat)] := hm.has (by repeat (first | with_reducible apply Has.drew | (with_reducible refine Has.new' ?_; (solve | with_reducible rfl | simp)) | with_reducible apply Has.alloc | fail)) (by simp)); (have u2 : Has w1 (W.heap.size + 1) 41 #[.int .u8 0, .int .i64 0, .int .i64 0, .int .u64 0, .int .u64 0, .int .u64 0, .bool false, .int .i64 0] := hm.has (by repeat (first | with_reducible apply Has.drew | (with_reducible refine Has.new' ?_; (solve | with_reducible rfl | simp)) | with_reducible apply Has.alloc | fail)) (by simp)); (have u3 : Has w1 (W.heap.size + 2) 46 #[.int .u8 0, .int .i64 0, .int .u64 0, .int .u64 0, .bool false] := hm.has (by repeat (first | with_reducible apply Has.drew | (with_reducible refine Has.new' ?_; (solve | with_reducible rfl | simp)) | with_reducible apply Has.alloc | fail)) (by simp)); (have c1 := u1.cell); (have c2 := u2.cell); (have c3 := u3.cell); (have f1 := u1.frozen); (have f2 := u2.frozen); (have f3 := u3.frozen); (have y1 : ¬ W.heap.size = w1.heap.size := by omega); (have y2 : ¬ W.heap.size + 1 = w1.heap.size := by omega); (have y3 : ¬ W.heap.size + 2 = w1.heap.size := by omega); (have y4 : ¬ w1.heap.size = W.heap.size := by omega); (have y5 : ¬ w1.heap.size = W.heap.size + 1 := by omega); (have y6 : ¬ w1.heap.size = W.heap.size + 2 := by omega); simp only [did]))
  all_goals (obtain ⟨g, cap, rfl, hgb, hgl, _, _, _⟩ := own_at hown hnz; simp only [World.size_alloc, World.size_drew] at hgb)
  all_goals (have hm0 : Moves [] W w1 := Moves.trans (by repeat (first | with_reducible exact Moves.refl [] _ | with_reducible apply Moves.drew | with_reducible apply Moves.drewN | with_reducible apply Moves.alloc | fail)) hm (by simp))
  all_goals (have ho1 := own_base (base' := W.heap.size) hown (by simp; omega))
  all_goals (have hz1 := hm0.size)
  all_goals refine wp_named (fun wx => Has wx W.heap.size 41 #[.int .u8 2, .int .i64 (worker : Nat), .int .i64 1, .int .u64 (saw : Nat), .int .u64 (x : Nat), .int .u64 (x : Nat), .bool true, .int .i64 (ans : Nat)] ∧ Has wx (W.heap.size + 1) 41 #[.int .u8 0, .int .i64 0, .int .i64 0, .int .u64 0, .int .u64 0, .int .u64 0, .bool false, .int .i64 0] ∧ Has wx (W.heap.size + 2) 46 #[.int .u8 0, .int .i64 0, .int .u64 0, .int .u64 0, .bool false] ∧ Has wx w1.heap.size 46 #[.int .u8 4, .int .i64 (own : Nat), .int .u64 (x : Nat), .int .u64 0, .bool true] ∧ wx.ownsRow W.heap.size 39 1 (.slice (some ⟨g, 0, none⟩) n cap) n (wvs (l.set own 0)) ∧ Moves [] W wx) ⟨?_, ?_, ?_, ?_, ?_, ?_⟩ ?_
  · apply Has.of_eq
    case h => repeat (first | with_reducible assumption | (with_reducible refine Has.new' ?_; (solve | with_reducible rfl | simp)) | with_reducible apply Has.drew | with_reducible apply Has.alloc | with_reducible apply Has.put | (with_reducible apply Has.far'; (solve | assumption | simp | (simp; omega))) | fail)
    case e => rfl
  · repeat (first | with_reducible assumption | with_reducible apply Has.drew | with_reducible apply Has.alloc | (with_reducible apply Has.far'; (solve | assumption | simp | (simp; omega))) | fail)
  · repeat (first | with_reducible assumption | with_reducible apply Has.drew | with_reducible apply Has.alloc | (with_reducible apply Has.far'; (solve | assumption | simp | (simp; omega))) | fail)
  · apply Has.of_eq
    case h => repeat (first | (with_reducible refine Has.new' ?_; (solve | with_reducible rfl | simp)) | with_reducible apply Has.drew | (with_reducible apply Has.far'; (solve | assumption | simp | (simp; omega))) | fail)
    case e => rfl
  · repeat (first | with_reducible exact ho1 | with_reducible refine own_drew ?_ | with_reducible refine World.ownsRow.alloc ?_ _ | (with_reducible refine own_far ?_ ?_; rotate_left; (solve | simp | (simp; omega))) | fail)
  · repeat (first | with_reducible exact hm0 | with_reducible apply Moves.drew | with_reducible apply Moves.alloc | (with_reducible refine Moves.setNew ?_ ?_ _; rotate_left; (solve | simp | (simp; omega))) | fail)
  rintro wx ⟨x1, x2, x3, x4, xo, xm⟩
  have d1 := x1.cell
  have d2 := x2.cell
  have d3 := x3.cell
  have d4 := x4.cell
  have e1 := x1.frozen
  have e2 := x2.frozen
  have e3 := x3.frozen
  have e4 := x4.frozen
  clear c1 c2 c3 f1 f2 f3
  go_region
  all_goals go_wp2_with fail
  all_goals refine bodyPost_ret (v := .tuple #[.slice (some ⟨g, 0, none⟩) n cap, uvl 2 worker 1 saw x x true ans, did 4 own x 0 true]) (by simp only [results, Tryd.results18, did, uvl]; go_simp) rfl ?_
  all_goals refine ⟨_, rfl, ?_, ?_⟩
  · repeat (first | with_reducible exact xo | with_reducible refine own_drew ?_ | (with_reducible refine own_far ?_ ?_; rotate_left; (solve | simp | (simp; omega))) | fail)
  · repeat (first | with_reducible exact xm | with_reducible apply Moves.drew | (with_reducible refine Moves.setNew ?_ ?_ _; rotate_left; (solve | simp | (simp; omega))) | fail)
set_option maxHeartbeats 2000000 in
set_option maxRecDepth 100000 in
theorem step2b (batch : Int) (l : List Nat) (worker own x saw hand sum ans : Nat) (how : worker + 1 = own) (hx : l[own]? = some x) (hp : ¬ x = 0) (hb : l.length ≤ 65) (W : World) (v : Value) (hR : Rds W v l) :
    Calls Tryd.prog 18 #[.int .i64 batch, v, uvl 2 worker 0 saw hand sum false ans] W fun e w' =>
      ∃ v', e = .returned (.tuple #[v', uvl 2 worker 1 saw x x false ans, did 4 own x 0 true]) ∧ w'.ownsRow W.heap.size 39 1 v' l.length (wvs (l.set own 0)) ∧ Moves [] W w' := by
  have hact0 := fun W' (hm : Moves [] W W') => act_swap l own x 0 hx hb W' v (hR.moves hm (fun _ _ => by simp))
  have HA := Lib.hid hact0
  simp only [Int.cast_ofNat_Int] at HA
  have HB := Lib.hid hb
  have hnz : 0 < l.length := by have := (List.getElem?_eq_some_iff.1 hx).1; omega
  have E1 : Hid ((worker : Int) + 1 = (own : Int)) := Lib.hid (by omega)
  have hwk : (worker : Int) + 1 ≤ 65 := by have := (List.getElem?_eq_some_iff.1 hx).1; omega
  have hp2 : ((x : Int) == 0) = false := by simp; omega
  clear hp
  clear hx how
  clear hact0 hR hb
  obtain ⟨n, hn⟩ : ∃ n, n = l.length := ⟨_, rfl⟩
  rw [← hn] at HA HB hnz ⊢
  have HN := Lib.hid hn
  clear hn
  have z1 : ¬ W.heap.size + 1 = W.heap.size := by omega
  have z2 : ¬ W.heap.size + 2 = W.heap.size := by omega
  have z3 : ¬ W.heap.size + 2 = W.heap.size + 1 := by omega
  have z4 : ¬ W.heap.size = W.heap.size + 1 := by omega
  have z5 : ¬ W.heap.size = W.heap.size + 2 := by omega
  have z6 : ¬ W.heap.size + 1 = W.heap.size + 2 := by omega
  simp only [uvl, did]
  go_enter Tryd.func18, Tryd.ntmps18
  go_wp2_with (go_at_call 35; (try rw [E1.out]); go_must (refine (HA.out _ ?hM).mono ?_; (case hM => (repeat (first | with_reducible exact Moves.refl [] _ | with_reducible apply Moves.drew | with_reducible apply Moves.drewN | with_reducible apply Moves.alloc | fail))); rintro e w1 ⟨v', rfl, hown, hm⟩; (have hsz := hm.size); (simp only [World.size_alloc, World.size_drew] at hsz); (have u1 : Has w1 W.heap.size 41 #[.int .u8 2, .int .i64 (worker : Nat), .int .i64 0, .int .u64 (saw : Nat), .int .u64 (hand : Nat), .int .u64 (sum : Nat), .bool false, .int .i64 (ans : Nat)] := hm.has (by repeat (first | with_reducible apply Has.drew | (with_reducible refine Has.new' ?_; (solve | with_reducible rfl | simp)) | with_reducible apply Has.alloc | fail)) (by simp)); (have u2 : Has w1 (W.heap.size + 1) 41 #[.int .u8 0, .int .i64 0, .int .i64 0, .int .u64 0, .int .u64 0, .int .u64 0, .bool false, .int .i64 0] := hm.has (by repeat (first | with_reducible apply Has.drew | (with_reducible refine Has.new' ?_; (solve | with_reducible rfl | simp)) | with_reducible apply Has.alloc | fail)) (by simp)); (have u3 : Has w1 (W.heap.size + 2) 46 #[.int .u8 0, .int .i64 0, .int .u64 0, .int .u64 0, .bool false] := hm.has (by repeat (first | with_reducible apply Has.drew | (with_reducible refine Has.new' ?_; (solve | with_reducible rfl | simp)) | with_reducible apply Has.alloc | fail)) (by simp)); (have c1 := u1.cell); (have c2 := u2.cell); (have c3 := u3.cell); (have f1 := u1.frozen); (have f2 := u2.frozen); (have f3 := u3.frozen); (have y1 : ¬ W.heap.size = w1.heap.size := by omega); (have y2 : ¬ W.heap.size + 1 = w1.heap.size := by omega); (have y3 : ¬ W.heap.size + 2 = w1.heap.size := by omega); (have y4 : ¬ w1.heap.size = W.heap.size := by omega); (have y5 : ¬ w1.heap.size = W.heap.size + 1 := by omega); (have y6 : ¬ w1.heap.size = W.heap.size + 2 := by omega); simp only [did]))
  all_goals (obtain ⟨g, cap, rfl, hgb, hgl, _, _, _⟩ := own_at hown hnz; simp only [World.size_alloc, World.size_drew] at hgb)
  all_goals (have hm0 : Moves [] W w1 := Moves.trans (by repeat (first | with_reducible exact Moves.refl [] _ | with_reducible apply Moves.drew | with_reducible apply Moves.drewN | with_reducible apply Moves.alloc | fail)) hm (by simp))
  all_goals (have ho1 := own_base (base' := W.heap.size) hown (by simp; omega))
  all_goals (have hz1 := hm0.size)
  all_goals refine wp_named (fun wx => Has wx W.heap.size 41 #[.int .u8 2, .int .i64 (worker : Nat), .int .i64 1, .int .u64 (saw : Nat), .int .u64 (x : Nat), .int .u64 (x : Nat), .bool false, .int .i64 (ans : Nat)] ∧ Has wx (W.heap.size + 1) 41 #[.int .u8 0, .int .i64 0, .int .i64 0, .int .u64 0, .int .u64 0, .int .u64 0, .bool false, .int .i64 0] ∧ Has wx (W.heap.size + 2) 46 #[.int .u8 0, .int .i64 0, .int .u64 0, .int .u64 0, .bool false] ∧ Has wx w1.heap.size 46 #[.int .u8 4, .int .i64 (own : Nat), .int .u64 (x : Nat), .int .u64 0, .bool true] ∧ wx.ownsRow W.heap.size 39 1 (.slice (some ⟨g, 0, none⟩) n cap) n (wvs (l.set own 0)) ∧ Moves [] W wx) ⟨?_, ?_, ?_, ?_, ?_, ?_⟩ ?_
  · apply Has.of_eq
    case h => repeat (first | with_reducible assumption | (with_reducible refine Has.new' ?_; (solve | with_reducible rfl | simp)) | with_reducible apply Has.drew | with_reducible apply Has.alloc | with_reducible apply Has.put | (with_reducible apply Has.far'; (solve | assumption | simp | (simp; omega))) | fail)
    case e => rfl
  · repeat (first | with_reducible assumption | with_reducible apply Has.drew | with_reducible apply Has.alloc | (with_reducible apply Has.far'; (solve | assumption | simp | (simp; omega))) | fail)
  · repeat (first | with_reducible assumption | with_reducible apply Has.drew | with_reducible apply Has.alloc | (with_reducible apply Has.far'; (solve | assumption | simp | (simp; omega))) | fail)
  · apply Has.of_eq
    case h => repeat (first | (with_reducible refine Has.new' ?_; (solve | with_reducible rfl | simp)) | with_reducible apply Has.drew | (with_reducible apply Has.far'; (solve | assumption | simp | (simp; omega))) | fail)
    case e => rfl
  · repeat (first | with_reducible exact ho1 | with_reducible refine own_drew ?_ | with_reducible refine World.ownsRow.alloc ?_ _ | (with_reducible refine own_far ?_ ?_; rotate_left; (solve | simp | (simp; omega))) | fail)
  · repeat (first | with_reducible exact hm0 | with_reducible apply Moves.drew | with_reducible apply Moves.alloc | (with_reducible refine Moves.setNew ?_ ?_ _; rotate_left; (solve | simp | (simp; omega))) | fail)
  rintro wx ⟨x1, x2, x3, x4, xo, xm⟩
  have d1 := x1.cell
  have d2 := x2.cell
  have d3 := x3.cell
  have d4 := x4.cell
  have e1 := x1.frozen
  have e2 := x2.frozen
  have e3 := x3.frozen
  have e4 := x4.frozen
  clear c1 c2 c3 f1 f2 f3
  go_region
  all_goals go_wp2_with fail
  all_goals refine bodyPost_ret (v := .tuple #[.slice (some ⟨g, 0, none⟩) n cap, uvl 2 worker 1 saw x x false ans, did 4 own x 0 true]) (by simp only [results, Tryd.results18, did, uvl]; go_simp) rfl ?_
  all_goals refine ⟨_, rfl, ?_, ?_⟩
  · repeat (first | with_reducible exact xo | with_reducible refine own_drew ?_ | (with_reducible refine own_far ?_ ?_; rotate_left; (solve | simp | (simp; omega))) | fail)
  · repeat (first | with_reducible exact xm | with_reducible apply Moves.drew | (with_reducible refine Moves.setNew ?_ ?_ _; rotate_left; (solve | simp | (simp; omega))) | fail)
set_option maxHeartbeats 2000000 in
set_option maxRecDepth 100000 in
theorem step2c (batch : Int) (l : List Nat) (worker x saw hand sum ans : Nat) (hx : l[0]? = some x) (hxy : x + hand ≤ 18446744073709551615) (hs : sum ≤ 4611686018427387904) (hb : l.length ≤ 65) (W : World) (v : Value) (hR : Rds W v l) :
    Calls Tryd.prog 18 #[.int .i64 batch, v, uvl 2 worker 1 saw hand sum false ans] W fun e w' =>
      ∃ v', e = .returned (.tuple #[v', uvl 2 worker 1 saw 0 sum true sum, did 3 0 x ((x + hand : Nat) : Int) true]) ∧ w'.ownsRow W.heap.size 39 1 v' l.length (wvs (l.set 0 (x + hand))) ∧ Moves [] W w' := by
  have hact0 := fun W' (hm : Moves [] W W') => act_add l 0 x hand hxy hx hb W' v (hR.moves hm (fun _ _ => by simp))
  have HA := Lib.hid hact0
  have HB := Lib.hid hb
  have hnz : 0 < l.length := by have := (List.getElem?_eq_some_iff.1 hx).1; omega
  have hxy' : (x : Int) + (hand : Int) ≤ 18446744073709551615 := by omega
  have hs' : (sum : Int) ≤ 4611686018427387904 := by omega
  clear hxy hs
  clear hx
  clear hact0 hR hb
  obtain ⟨n, hn⟩ : ∃ n, n = l.length := ⟨_, rfl⟩
  rw [← hn] at HA HB hnz ⊢
  have HN := Lib.hid hn
  clear hn
  have z1 : ¬ W.heap.size + 1 = W.heap.size := by omega
  have z2 : ¬ W.heap.size + 2 = W.heap.size := by omega
  have z3 : ¬ W.heap.size + 2 = W.heap.size + 1 := by omega
  have z4 : ¬ W.heap.size = W.heap.size + 1 := by omega
  have z5 : ¬ W.heap.size = W.heap.size + 2 := by omega
  have z6 : ¬ W.heap.size + 1 = W.heap.size + 2 := by omega
  simp only [uvl, did]
  go_enter Tryd.func18, Tryd.ntmps18
  go_wp2_with (go_at_call 35; go_must (refine (HA.out _ ?hM).mono ?_; (case hM => (repeat (first | with_reducible exact Moves.refl [] _ | with_reducible apply Moves.drew | with_reducible apply Moves.drewN | with_reducible apply Moves.alloc | fail))); rintro e w1 ⟨v', rfl, hown, hm⟩; (have hsz := hm.size); (simp only [World.size_alloc, World.size_drew] at hsz); (have u1 : Has w1 W.heap.size 41 #[.int .u8 2, .int .i64 (worker : Nat), .int .i64 1, .int .u64 (saw : Nat), .int .u64 (hand : Nat), .int .u64 (sum : Nat), .bool false, .int .i64 (ans : Nat)] := hm.has (by repeat (first | with_reducible apply Has.drew | (with_reducible refine Has.new' ?_; (solve | with_reducible rfl | simp)) | with_reducible apply Has.alloc | fail)) (by simp)); (have u2 : Has w1 (W.heap.size + 1) 41 #[.int .u8 0, .int .i64 0, .int .i64 0, .int .u64 0, .int .u64 0, .int .u64 0, .bool false, .int .i64 0] := hm.has (by repeat (first | with_reducible apply Has.drew | (with_reducible refine Has.new' ?_; (solve | with_reducible rfl | simp)) | with_reducible apply Has.alloc | fail)) (by simp)); (have u3 : Has w1 (W.heap.size + 2) 46 #[.int .u8 0, .int .i64 0, .int .u64 0, .int .u64 0, .bool false] := hm.has (by repeat (first | with_reducible apply Has.drew | (with_reducible refine Has.new' ?_; (solve | with_reducible rfl | simp)) | with_reducible apply Has.alloc | fail)) (by simp)); (have c1 := u1.cell); (have c2 := u2.cell); (have c3 := u3.cell); (have f1 := u1.frozen); (have f2 := u2.frozen); (have f3 := u3.frozen); (have y1 : ¬ W.heap.size = w1.heap.size := by omega); (have y2 : ¬ W.heap.size + 1 = w1.heap.size := by omega); (have y3 : ¬ W.heap.size + 2 = w1.heap.size := by omega); (have y4 : ¬ w1.heap.size = W.heap.size := by omega); (have y5 : ¬ w1.heap.size = W.heap.size + 1 := by omega); (have y6 : ¬ w1.heap.size = W.heap.size + 2 := by omega); simp only [did]))
  all_goals (obtain ⟨g, cap, rfl, hgb, hgl, _, _, _⟩ := own_at hown hnz; simp only [World.size_alloc, World.size_drew] at hgb)
  all_goals (have hm0 : Moves [] W w1 := Moves.trans (by repeat (first | with_reducible exact Moves.refl [] _ | with_reducible apply Moves.drew | with_reducible apply Moves.drewN | with_reducible apply Moves.alloc | fail)) hm (by simp))
  all_goals (have ho1 := own_base (base' := W.heap.size) hown (by simp; omega))
  all_goals (have hz1 := hm0.size)
  all_goals refine wp_named (fun wx => Has wx W.heap.size 41 #[.int .u8 2, .int .i64 (worker : Nat), .int .i64 1, .int .u64 (saw : Nat), .int .u64 0, .int .u64 (sum : Nat), .bool true, .int .i64 (sum : Nat)] ∧ Has wx (W.heap.size + 1) 41 #[.int .u8 0, .int .i64 0, .int .i64 0, .int .u64 0, .int .u64 0, .int .u64 0, .bool false, .int .i64 0] ∧ Has wx (W.heap.size + 2) 46 #[.int .u8 0, .int .i64 0, .int .u64 0, .int .u64 0, .bool false] ∧ Has wx w1.heap.size 46 #[.int .u8 3, .int .i64 0, .int .u64 (x : Nat), .int .u64 ((x + hand : Nat) : Int), .bool true] ∧ wx.ownsRow W.heap.size 39 1 (.slice (some ⟨g, 0, none⟩) n cap) n (wvs (l.set 0 (x + hand))) ∧ Moves [] W wx) ⟨?_, ?_, ?_, ?_, ?_, ?_⟩ ?_
  · apply Has.of_eq
    case h => repeat (first | with_reducible assumption | (with_reducible refine Has.new' ?_; (solve | with_reducible rfl | simp)) | with_reducible apply Has.drew | with_reducible apply Has.alloc | with_reducible apply Has.put | (with_reducible apply Has.far'; (solve | assumption | simp | (simp; omega))) | fail)
    case e => rfl
  · repeat (first | with_reducible assumption | with_reducible apply Has.drew | with_reducible apply Has.alloc | (with_reducible apply Has.far'; (solve | assumption | simp | (simp; omega))) | fail)
  · repeat (first | with_reducible assumption | with_reducible apply Has.drew | with_reducible apply Has.alloc | (with_reducible apply Has.far'; (solve | assumption | simp | (simp; omega))) | fail)
  · apply Has.of_eq
    case h => repeat (first | (with_reducible refine Has.new' ?_; (solve | with_reducible rfl | simp)) | with_reducible apply Has.drew | (with_reducible apply Has.far'; (solve | assumption | simp | (simp; omega))) | fail)
    case e => rfl
  · repeat (first | with_reducible exact ho1 | with_reducible refine own_drew ?_ | with_reducible refine World.ownsRow.alloc ?_ _ | (with_reducible refine own_far ?_ ?_; rotate_left; (solve | simp | (simp; omega))) | fail)
  · repeat (first | with_reducible exact hm0 | with_reducible apply Moves.drew | with_reducible apply Moves.alloc | (with_reducible refine Moves.setNew ?_ ?_ _; rotate_left; (solve | simp | (simp; omega))) | fail)
  rintro wx ⟨x1, x2, x3, x4, xo, xm⟩
  have d1 := x1.cell
  have d2 := x2.cell
  have d3 := x3.cell
  have d4 := x4.cell
  have e1 := x1.frozen
  have e2 := x2.frozen
  have e3 := x3.frozen
  have e4 := x4.frozen
  clear c1 c2 c3 f1 f2 f3
  go_region
  all_goals go_wp2_with fail
  all_goals refine bodyPost_ret (v := .tuple #[.slice (some ⟨g, 0, none⟩) n cap, uvl 2 worker 1 saw 0 sum true sum, did 3 0 x ((x + hand : Nat) : Int) true]) (by simp only [results, Tryd.results18, did, uvl]; go_simp) rfl ?_
  all_goals refine ⟨_, rfl, ?_, ?_⟩
  · repeat (first | with_reducible exact xo | with_reducible refine own_drew ?_ | (with_reducible refine own_far ?_ ?_; rotate_left; (solve | simp | (simp; omega))) | fail)
  · repeat (first | with_reducible exact xm | with_reducible apply Moves.drew | (with_reducible refine Moves.setNew ?_ ?_ _; rotate_left; (solve | simp | (simp; omega))) | fail)
set_option maxHeartbeats 2000000 in
set_option maxRecDepth 100000 in
theorem step3a (batch : Int) (l : List Nat) (worker at' x saw hand sum ans : Nat) (hx : l[at']? = some x) (hs : sum + x ≤ 4611686018427387904) (he : at' + 1 = l.length) (hb : l.length ≤ 65) (W : World) (v : Value) (hR : Rds W v l) :
    Calls Tryd.prog 18 #[.int .i64 batch, v, uvl 3 worker (at' : Nat) saw hand sum false ans] W fun e w' =>
      ∃ v', e = .returned (.tuple #[v', uvl 3 worker ((at' : Int) + 1) saw hand ((sum : Int) + (x : Int)) true ((sum : Int) + (x : Int)), did 1 at' x x true]) ∧ w'.ownsRow W.heap.size 39 1 v' l.length (wvs (l.set at' x)) ∧ Moves [] W w' := by
  have hact0 := fun W' (hm : Moves [] W W') => act_load l at' x hx hb W' v (hR.moves hm (fun _ _ => by simp))
  obtain ⟨gv, capv, hvv, _⟩ := hR
  subst hvv
  have HA := Lib.hid hact0
  have HB := Lib.hid hb
  have hnz : 0 < l.length := by have := (List.getElem?_eq_some_iff.1 hx).1; omega
  have hs' : (sum : Int) + (x : Int) ≤ 4611686018427387904 := by omega
  have hat : (at' : Int) + 1 ≤ 65 := by have := (List.getElem?_eq_some_iff.1 hx).1; omega
  clear hs
  have he2 : ((at' : Int) + 1 == (l.length : Int)) = true := by simp; omega
  clear hx he
  clear hact0 hb
  obtain ⟨n, hn⟩ : ∃ n, n = l.length := ⟨_, rfl⟩
  rw [← hn] at HA HB hnz he2 ⊢
  have HN := Lib.hid hn
  clear hn
  have z1 : ¬ W.heap.size + 1 = W.heap.size := by omega
  have z2 : ¬ W.heap.size + 2 = W.heap.size := by omega
  have z3 : ¬ W.heap.size + 2 = W.heap.size + 1 := by omega
  have z4 : ¬ W.heap.size = W.heap.size + 1 := by omega
  have z5 : ¬ W.heap.size = W.heap.size + 2 := by omega
  have z6 : ¬ W.heap.size + 1 = W.heap.size + 2 := by omega
  simp only [uvl, did]
  go_enter Tryd.func18, Tryd.ntmps18
  go_wp2_with (go_at_call 35; go_must (refine (HA.out _ ?hM).mono ?_; (case hM => (repeat (first | with_reducible exact Moves.refl [] _ | with_reducible apply Moves.drew | with_reducible apply Moves.drewN | with_reducible apply Moves.alloc | fail))); rintro e w1 ⟨v', rfl, hown, hm⟩; (have hsz := hm.size); (simp only [World.size_alloc, World.size_drew] at hsz); (have u1 : Has w1 W.heap.size 41 #[.int .u8 3, .int .i64 (worker : Nat), .int .i64 (at' : Nat), .int .u64 (saw : Nat), .int .u64 (hand : Nat), .int .u64 (sum : Nat), .bool false, .int .i64 (ans : Nat)] := hm.has (by repeat (first | with_reducible apply Has.drew | (with_reducible refine Has.new' ?_; (solve | with_reducible rfl | simp)) | with_reducible apply Has.alloc | fail)) (by simp)); (have u2 : Has w1 (W.heap.size + 1) 41 #[.int .u8 0, .int .i64 0, .int .i64 0, .int .u64 0, .int .u64 0, .int .u64 0, .bool false, .int .i64 0] := hm.has (by repeat (first | with_reducible apply Has.drew | (with_reducible refine Has.new' ?_; (solve | with_reducible rfl | simp)) | with_reducible apply Has.alloc | fail)) (by simp)); (have u3 : Has w1 (W.heap.size + 2) 46 #[.int .u8 0, .int .i64 0, .int .u64 0, .int .u64 0, .bool false] := hm.has (by repeat (first | with_reducible apply Has.drew | (with_reducible refine Has.new' ?_; (solve | with_reducible rfl | simp)) | with_reducible apply Has.alloc | fail)) (by simp)); (have c1 := u1.cell); (have c2 := u2.cell); (have c3 := u3.cell); (have f1 := u1.frozen); (have f2 := u2.frozen); (have f3 := u3.frozen); (have y1 : ¬ W.heap.size = w1.heap.size := by omega); (have y2 : ¬ W.heap.size + 1 = w1.heap.size := by omega); (have y3 : ¬ W.heap.size + 2 = w1.heap.size := by omega); (have y4 : ¬ w1.heap.size = W.heap.size := by omega); (have y5 : ¬ w1.heap.size = W.heap.size + 1 := by omega); (have y6 : ¬ w1.heap.size = W.heap.size + 2 := by omega); simp only [did]))
  all_goals (obtain ⟨g, cap, rfl, hgb, hgl, _, _, _⟩ := own_at hown hnz; simp only [World.size_alloc, World.size_drew] at hgb)
  all_goals (have hm0 : Moves [] W w1 := Moves.trans (by repeat (first | with_reducible exact Moves.refl [] _ | with_reducible apply Moves.drew | with_reducible apply Moves.drewN | with_reducible apply Moves.alloc | fail)) hm (by simp))
  all_goals (have ho1 := own_base (base' := W.heap.size) hown (by simp; omega))
  all_goals (have hz1 := hm0.size)
  all_goals refine wp_named (fun wx => Has wx W.heap.size 41 #[.int .u8 3, .int .i64 (worker : Nat), .int .i64 ((at' : Int) + 1), .int .u64 (saw : Nat), .int .u64 (hand : Nat), .int .u64 ((sum : Int) + (x : Int)), .bool true, .int .i64 ((sum : Int) + (x : Int))] ∧ Has wx (W.heap.size + 1) 41 #[.int .u8 0, .int .i64 0, .int .i64 0, .int .u64 0, .int .u64 0, .int .u64 0, .bool false, .int .i64 0] ∧ Has wx (W.heap.size + 2) 46 #[.int .u8 0, .int .i64 0, .int .u64 0, .int .u64 0, .bool false] ∧ Has wx w1.heap.size 46 #[.int .u8 1, .int .i64 (at' : Nat), .int .u64 (x : Nat), .int .u64 (x : Nat), .bool true] ∧ wx.ownsRow W.heap.size 39 1 (.slice (some ⟨g, 0, none⟩) n cap) n (wvs (l.set at' x)) ∧ Moves [] W wx) ⟨?_, ?_, ?_, ?_, ?_, ?_⟩ ?_
  · apply Has.of_eq
    case h => repeat (first | with_reducible assumption | (with_reducible refine Has.new' ?_; (solve | with_reducible rfl | simp)) | with_reducible apply Has.drew | with_reducible apply Has.alloc | with_reducible apply Has.put | (with_reducible apply Has.far'; (solve | assumption | simp | (simp; omega))) | fail)
    case e => rfl
  · repeat (first | with_reducible assumption | with_reducible apply Has.drew | with_reducible apply Has.alloc | (with_reducible apply Has.far'; (solve | assumption | simp | (simp; omega))) | fail)
  · repeat (first | with_reducible assumption | with_reducible apply Has.drew | with_reducible apply Has.alloc | (with_reducible apply Has.far'; (solve | assumption | simp | (simp; omega))) | fail)
  · apply Has.of_eq
    case h => repeat (first | (with_reducible refine Has.new' ?_; (solve | with_reducible rfl | simp)) | with_reducible apply Has.drew | (with_reducible apply Has.far'; (solve | assumption | simp | (simp; omega))) | fail)
    case e => rfl
  · repeat (first | with_reducible exact ho1 | with_reducible refine own_drew ?_ | with_reducible refine World.ownsRow.alloc ?_ _ | (with_reducible refine own_far ?_ ?_; rotate_left; (solve | simp | (simp; omega))) | fail)
  · repeat (first | with_reducible exact hm0 | with_reducible apply Moves.drew | with_reducible apply Moves.alloc | (with_reducible refine Moves.setNew ?_ ?_ _; rotate_left; (solve | simp | (simp; omega))) | fail)
  rintro wx ⟨x1, x2, x3, x4, xo, xm⟩
  have d1 := x1.cell
  have d2 := x2.cell
  have d3 := x3.cell
  have d4 := x4.cell
  have e1 := x1.frozen
  have e2 := x2.frozen
  have e3 := x3.frozen
  have e4 := x4.frozen
  clear c1 c2 c3 f1 f2 f3
  go_region
  all_goals go_wp2_with fail
  all_goals refine bodyPost_ret (v := .tuple #[.slice (some ⟨g, 0, none⟩) n cap, uvl 3 worker ((at' : Int) + 1) saw hand ((sum : Int) + (x : Int)) true ((sum : Int) + (x : Int)), did 1 at' x x true]) (by simp only [results, Tryd.results18, did, uvl]; go_simp) rfl ?_
  all_goals refine ⟨_, rfl, ?_, ?_⟩
  · repeat (first | with_reducible exact xo | with_reducible refine own_drew ?_ | (with_reducible refine own_far ?_ ?_; rotate_left; (solve | simp | (simp; omega))) | fail)
  · repeat (first | with_reducible exact xm | with_reducible apply Moves.drew | (with_reducible refine Moves.setNew ?_ ?_ _; rotate_left; (solve | simp | (simp; omega))) | fail)
set_option maxHeartbeats 2000000 in
set_option maxRecDepth 100000 in
theorem step3b (batch : Int) (l : List Nat) (worker at' x saw hand sum ans : Nat) (hx : l[at']? = some x) (hs : sum + x ≤ 4611686018427387904) (he : at' + 1 ≠ l.length) (hb : l.length ≤ 65) (W : World) (v : Value) (hR : Rds W v l) :
    Calls Tryd.prog 18 #[.int .i64 batch, v, uvl 3 worker (at' : Nat) saw hand sum false ans] W fun e w' =>
      ∃ v', e = .returned (.tuple #[v', uvl 3 worker ((at' : Int) + 1) saw hand ((sum : Int) + (x : Int)) false ans, did 1 at' x x true]) ∧ w'.ownsRow W.heap.size 39 1 v' l.length (wvs (l.set at' x)) ∧ Moves [] W w' := by
  have hact0 := fun W' (hm : Moves [] W W') => act_load l at' x hx hb W' v (hR.moves hm (fun _ _ => by simp))
  obtain ⟨gv, capv, hvv, _⟩ := hR
  subst hvv
  have HA := Lib.hid hact0
  have HB := Lib.hid hb
  have hnz : 0 < l.length := by have := (List.getElem?_eq_some_iff.1 hx).1; omega
  have hs' : (sum : Int) + (x : Int) ≤ 4611686018427387904 := by omega
  have hat : (at' : Int) + 1 ≤ 65 := by have := (List.getElem?_eq_some_iff.1 hx).1; omega
  clear hs
  have he2 : ((at' : Int) + 1 == (l.length : Int)) = false := by simp; omega
  clear hx he
  clear hact0 hb
  obtain ⟨n, hn⟩ : ∃ n, n = l.length := ⟨_, rfl⟩
  rw [← hn] at HA HB hnz he2 ⊢
  have HN := Lib.hid hn
  clear hn
  have z1 : ¬ W.heap.size + 1 = W.heap.size := by omega
  have z2 : ¬ W.heap.size + 2 = W.heap.size := by omega
  have z3 : ¬ W.heap.size + 2 = W.heap.size + 1 := by omega
  have z4 : ¬ W.heap.size = W.heap.size + 1 := by omega
  have z5 : ¬ W.heap.size = W.heap.size + 2 := by omega
  have z6 : ¬ W.heap.size + 1 = W.heap.size + 2 := by omega
  simp only [uvl, did]
  go_enter Tryd.func18, Tryd.ntmps18
  go_wp2_with (go_at_call 35; go_must (refine (HA.out _ ?hM).mono ?_; (case hM => (repeat (first | with_reducible exact Moves.refl [] _ | with_reducible apply Moves.drew | with_reducible apply Moves.drewN | with_reducible apply Moves.alloc | fail))); rintro e w1 ⟨v', rfl, hown, hm⟩; (have hsz := hm.size); (simp only [World.size_alloc, World.size_drew] at hsz); (have u1 : Has w1 W.heap.size 41 #[.int .u8 3, .int .i64 (worker : Nat), .int .i64 (at' : Nat), .int .u64 (saw : Nat), .int .u64 (hand : Nat), .int .u64 (sum : Nat), .bool false, .int .i64 (ans : Nat)] := hm.has (by repeat (first | with_reducible apply Has.drew | (with_reducible refine Has.new' ?_; (solve | with_reducible rfl | simp)) | with_reducible apply Has.alloc | fail)) (by simp)); (have u2 : Has w1 (W.heap.size + 1) 41 #[.int .u8 0, .int .i64 0, .int .i64 0, .int .u64 0, .int .u64 0, .int .u64 0, .bool false, .int .i64 0] := hm.has (by repeat (first | with_reducible apply Has.drew | (with_reducible refine Has.new' ?_; (solve | with_reducible rfl | simp)) | with_reducible apply Has.alloc | fail)) (by simp)); (have u3 : Has w1 (W.heap.size + 2) 46 #[.int .u8 0, .int .i64 0, .int .u64 0, .int .u64 0, .bool false] := hm.has (by repeat (first | with_reducible apply Has.drew | (with_reducible refine Has.new' ?_; (solve | with_reducible rfl | simp)) | with_reducible apply Has.alloc | fail)) (by simp)); (have c1 := u1.cell); (have c2 := u2.cell); (have c3 := u3.cell); (have f1 := u1.frozen); (have f2 := u2.frozen); (have f3 := u3.frozen); (have y1 : ¬ W.heap.size = w1.heap.size := by omega); (have y2 : ¬ W.heap.size + 1 = w1.heap.size := by omega); (have y3 : ¬ W.heap.size + 2 = w1.heap.size := by omega); (have y4 : ¬ w1.heap.size = W.heap.size := by omega); (have y5 : ¬ w1.heap.size = W.heap.size + 1 := by omega); (have y6 : ¬ w1.heap.size = W.heap.size + 2 := by omega); simp only [did]))
  all_goals (obtain ⟨g, cap, rfl, hgb, hgl, _, _, _⟩ := own_at hown hnz; simp only [World.size_alloc, World.size_drew] at hgb)
  all_goals (have hm0 : Moves [] W w1 := Moves.trans (by repeat (first | with_reducible exact Moves.refl [] _ | with_reducible apply Moves.drew | with_reducible apply Moves.drewN | with_reducible apply Moves.alloc | fail)) hm (by simp))
  all_goals (have ho1 := own_base (base' := W.heap.size) hown (by simp; omega))
  all_goals (have hz1 := hm0.size)
  all_goals refine wp_named (fun wx => Has wx W.heap.size 41 #[.int .u8 3, .int .i64 (worker : Nat), .int .i64 ((at' : Int) + 1), .int .u64 (saw : Nat), .int .u64 (hand : Nat), .int .u64 ((sum : Int) + (x : Int)), .bool false, .int .i64 (ans : Nat)] ∧ Has wx (W.heap.size + 1) 41 #[.int .u8 0, .int .i64 0, .int .i64 0, .int .u64 0, .int .u64 0, .int .u64 0, .bool false, .int .i64 0] ∧ Has wx (W.heap.size + 2) 46 #[.int .u8 0, .int .i64 0, .int .u64 0, .int .u64 0, .bool false] ∧ Has wx w1.heap.size 46 #[.int .u8 1, .int .i64 (at' : Nat), .int .u64 (x : Nat), .int .u64 (x : Nat), .bool true] ∧ wx.ownsRow W.heap.size 39 1 (.slice (some ⟨g, 0, none⟩) n cap) n (wvs (l.set at' x)) ∧ Moves [] W wx) ⟨?_, ?_, ?_, ?_, ?_, ?_⟩ ?_
  · apply Has.of_eq
    case h => repeat (first | with_reducible assumption | (with_reducible refine Has.new' ?_; (solve | with_reducible rfl | simp)) | with_reducible apply Has.drew | with_reducible apply Has.alloc | with_reducible apply Has.put | (with_reducible apply Has.far'; (solve | assumption | simp | (simp; omega))) | fail)
    case e => rfl
  · repeat (first | with_reducible assumption | with_reducible apply Has.drew | with_reducible apply Has.alloc | (with_reducible apply Has.far'; (solve | assumption | simp | (simp; omega))) | fail)
  · repeat (first | with_reducible assumption | with_reducible apply Has.drew | with_reducible apply Has.alloc | (with_reducible apply Has.far'; (solve | assumption | simp | (simp; omega))) | fail)
  · apply Has.of_eq
    case h => repeat (first | (with_reducible refine Has.new' ?_; (solve | with_reducible rfl | simp)) | with_reducible apply Has.drew | (with_reducible apply Has.far'; (solve | assumption | simp | (simp; omega))) | fail)
    case e => rfl
  · repeat (first | with_reducible exact ho1 | with_reducible refine own_drew ?_ | with_reducible refine World.ownsRow.alloc ?_ _ | (with_reducible refine own_far ?_ ?_; rotate_left; (solve | simp | (simp; omega))) | fail)
  · repeat (first | with_reducible exact hm0 | with_reducible apply Moves.drew | with_reducible apply Moves.alloc | (with_reducible refine Moves.setNew ?_ ?_ _; rotate_left; (solve | simp | (simp; omega))) | fail)
  rintro wx ⟨x1, x2, x3, x4, xo, xm⟩
  have d1 := x1.cell
  have d2 := x2.cell
  have d3 := x3.cell
  have d4 := x4.cell
  have e1 := x1.frozen
  have e2 := x2.frozen
  have e3 := x3.frozen
  have e4 := x4.frozen
  clear c1 c2 c3 f1 f2 f3
  go_region
  all_goals go_wp2_with fail
  all_goals refine bodyPost_ret (v := .tuple #[.slice (some ⟨g, 0, none⟩) n cap, uvl 3 worker ((at' : Int) + 1) saw hand ((sum : Int) + (x : Int)) false ans, did 1 at' x x true]) (by simp only [results, Tryd.results18, did, uvl]; go_simp) rfl ?_
  all_goals refine ⟨_, rfl, ?_, ?_⟩
  · repeat (first | with_reducible exact xo | with_reducible refine own_drew ?_ | (with_reducible refine own_far ?_ ?_; rotate_left; (solve | simp | (simp; omega))) | fail)
  · repeat (first | with_reducible exact xm | with_reducible apply Moves.drew | (with_reducible refine Moves.setNew ?_ ?_ _; rotate_left; (solve | simp | (simp; omega))) | fail)
end Go.Proofs.YtigacfgoldnoiaaDoor
