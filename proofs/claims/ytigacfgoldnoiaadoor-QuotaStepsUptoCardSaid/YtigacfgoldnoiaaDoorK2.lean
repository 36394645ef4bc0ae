/- The document's own step of an operation, a way a theorem. -/
import Derived.Test.YtigacfgoldnoiaaDoorK1
namespace Go.Proofs.YtigacfgoldnoiaaDoor
open Go Go.RowKit
set_option linter.unusedVariables false
set_option linter.unusedSimpArgs false
attribute [local go_sem] World.cell?_alloc_old World.frozen?_alloc_old

/-- An operation under way, as the document has it. -/
structure Un where
  kind : Nat
  worker : Nat
  at' : Nat
  saw : Nat
  hand : Nat
  sum : Nat
  ended : Bool
  ans : Nat
def uvl (kind worker at' saw hand sum : Int) (ended : Bool) (ans : Int) : Value := .agg #[.int .u8 kind, .int .i64 worker, .int .i64 at', .int .u64 saw, .int .u64 hand, .int .u64 sum, .bool ended, .int .i64 ans]
def ucs (kind worker at' saw hand sum : Int) (ended : Bool) (ans : Int) : Array Value := #[.int .u8 kind, .int .i64 worker, .int .i64 at', .int .u64 saw, .int .u64 hand, .int .u64 sum, .bool ended, .int .i64 ans]
/-- The world by a name, with what is known of it. -/
theorem wp_named {P : Program} {c : Code} {Q : Exit → Act → World → Prop} {a : Act} {w : World} (R : World → Prop) (h : R w) (k : ∀ w', R w' → c.wp P Q a w') : c.wp P Q a w := k w h
def Un.val (u : Un) : Value := uvl u.kind u.worker u.at' u.saw u.hand u.sum u.ended u.ans

set_option maxHeartbeats 2000000 in
set_option maxRecDepth 100000 in
theorem take0a (batch : Int) (l : List Nat) (worker own x saw hand sum ans : Nat) (how : worker + 1 = own) (hx : l[own]? = some x) (hp : 0 < x) (hb : l.length ≤ 65) (W : World) (v : Value) (hR : Rds W v l) :
    Calls Tryd.prog 34 #[.int .i64 batch, v, uvl 1 worker 0 saw hand sum false ans] W fun e w' =>
      ∃ v', e = .returned (.tuple #[v', uvl 1 worker 1 x hand sum false ans, did 1 own x x true]) ∧ w'.ownsRow W.heap.size 39 1 v' l.length (wvs (l.set own x)) ∧ Moves [] W w' := by
  have hact0 := fun W' (hm : Moves [] W W') => act_load l own x hx hb W' v (hR.moves hm (fun _ _ => by simp))
  have HA := Lib.hid hact0
  have HB := Lib.hid hb
  have hnz : 0 < l.length := by have := (List.getElem?_eq_some_iff.1 hx).1; omega
  have E1 : Hid ((worker : Int) + 1 = (own : Int)) := Lib.hid (by omega)
  have hwk : (worker : Int) + 1 ≤ 65 := by have := (List.getElem?_eq_some_iff.1 hx).1; omega
  clear hx how
  clear hact0 hR hb
  obtain ⟨n, hn⟩ : ∃ n, n = l.length := ⟨_, rfl⟩
  rw [← hn] at HA HB hnz ⊢
  have HN := Lib.hid hn
  clear hn
  have z1 : ¬ W.heap.size + 1 = W.heap.size := by omega
  have z2 : ¬ W.heap.size + 2 = W.heap.size := by omega
  have z3 : ¬ W.heap.size + 2 = W.heap.size + 1 := by omega
  have z4 : ¬ W.heap.size = W.heap.size + 1 := by omega
  have z5 : ¬ W.heap.size = W.heap.size + 2 := by omega
  have z6 : ¬ W.heap.size + 1 = W.heap.size + 2 := by omega
  simp only [uvl, did]
  go_enter Tryd.func34, Tryd.ntmps34
  go_wp2_with (go_at_call 35; (try rw [E1.out]); go_must (refine (HA.out _ ?hM).mono ?_; (case hM => (repeat (first | with_reducible exact Moves.refl [] _ | with_reducible apply Moves.drew | with_reducible apply Moves.drewN | with_reducible apply Moves.alloc | fail))); rintro e w1 ⟨v', rfl, hown, hm⟩; (have hsz := hm.size); (simp only [World.size_alloc, World.size_drew] at hsz); (have u1 : Has w1 W.heap.size 41 #[.int .u8 1, .int .i64 (worker : Nat), .int .i64 0, .int .u64 (saw : Nat), .int .u64 (hand : Nat), .int .u64 (sum : Nat), .bool false, .int .i64 (ans : Nat)] := hm.has (by repeat (first | with_reducible apply Has.drew | (with_reducible refine Has.new' ?_; (solve | with_reducible rfl | simp)) | with_reducible apply Has.alloc | fail)) (by simp)); (have u2 : Has w1 (W.heap.size + 1) 41 #[.int .u8 0, .int .i64 0, .int .i64 0, .int .u64 0, .int .u64 0, .int .u64 0, .bool false, .int .i64 0] := hm.has (by repeat (first | with_reducible apply Has.drew | (with_reducible refine Has.new' ?_; (solve | with_reducible rfl | simp)) | with_reducible apply Has.alloc | fail)) (by simp)); (have u3 : Has w1 (W.heap.size + 2) 46 #[.int .u8 0, .int .i64 0, .int .u64 0, .int .u64 0, .bool false] := hm.has (by repeat (first | with_reducible apply Has.drew | (with_reducible refine Has.new' ?_; (solve | with_reducible rfl | simp)) | with_reducible apply Has.alloc | fail)) (by simp)); (have c1 := u1.cell); (have c2 := u2.cell); (have c3 := u3.cell); (have f1 := u1.frozen); (have f2 := u2.frozen); (have f3 := u3.frozen); (have y1 : ¬ W.heap.size = w1.heap.size := by omega); (have y2 : ¬ W.heap.size + 1 = w1.heap.size := by omega); (have y3 : ¬ W.heap.size + 2 = w1.heap.size := by omega); (have y4 : ¬ w1.heap.size = W.heap.size := by omega); (have y5 : ¬ w1.heap.size = W.heap.size + 1 := by omega); (have y6 : ¬ w1.heap.size = W.heap.size + 2 := by omega); simp only [did]))
  all_goals (obtain ⟨g, cap, rfl, hgb, hgl, _, _, _⟩ := own_at hown hnz; simp only [World.size_alloc, World.size_drew] at hgb)
  all_goals (have hm0 : Moves [] W w1 := Moves.trans (by repeat (first | with_reducible exact Moves.refl [] _ | with_reducible apply Moves.drew | with_reducible apply Moves.drewN | with_reducible apply Moves.alloc | fail)) hm (by simp))
  all_goals (have ho1 := own_base (base' := W.heap.size) hown (by simp; omega))
  all_goals (have hz1 := hm0.size)
  all_goals refine wp_named (fun wx => Has wx W.heap.size 41 #[.int .u8 1, .int .i64 (worker : Nat), .int .i64 1, .int .u64 (x : Nat), .int .u64 (hand : Nat), .int .u64 (sum : Nat), .bool false, .int .i64 (ans : Nat)] ∧ Has wx (W.heap.size + 1) 41 #[.int .u8 0, .int .i64 0, .int .i64 0, .int .u64 0, .int .u64 0, .int .u64 0, .bool false, .int .i64 0] ∧ Has wx (W.heap.size + 2) 46 #[.int .u8 0, .int .i64 0, .int .u64 0, .int .u64 0, .bool false] ∧ Has wx w1.heap.size 46 #[.int .u8 1, .int .i64 (own : Nat), .int .u64 (x : Nat), .int .u64 (x : Nat), .bool true] ∧ wx.ownsRow W.heap.size 39 1 (.slice (some ⟨g, 0, none⟩) n cap) n (wvs (l.set own x)) ∧ Moves [] W wx) ⟨?_, ?_, ?_, ?_, ?_, ?_⟩ ?_
  · apply Has.of_eq
    case h => repeat (first | with_reducible assumption | (with_reducible refine Has.new' ?_; (solve | with_reducible rfl | simp)) | with_reducible apply Has.drew | with_reducible apply Has.alloc | with_reducible apply Has.put | (with_reducible apply Has.far'; (solve | assumption | simp | (simp; omega))) | fail)
    case e => rfl
  · repeat (first | with_reducible assumption | with_reducible apply Has.drew | with_reducible apply Has.alloc | (with_reducible apply Has.far'; (solve | assumption | simp | (simp; omega))) | fail)
  · repeat (first | with_reducible assumption | with_reducible apply Has.drew | with_reducible apply Has.alloc | (with_reducible apply Has.far'; (solve | assumption | simp | (simp; omega))) | fail)
  · apply Has.of_eq
    case h => repeat (first | (with_reducible refine Has.new' ?_; (solve | with_reducible rfl | simp)) | with_reducible apply Has.drew | (with_reducible apply Has.far'; (solve | assumption | simp | (simp; omega))) | fail)
    case e => rfl
  · repeat (first | with_reducible exact ho1 | with_reducible refine own_drew ?_ | with_reducible refine World.ownsRow.alloc ?_ _ | (with_reducible refine own_far ?_ ?_; rotate_left; (solve | simp | (simp; omega))) | fail)
  · repeat (first | with_reducible exact hm0 | with_reducible apply Moves.drew | with_reducible apply Moves.alloc | (with_reducible refine Moves.setNew ?_ ?_ _; rotate_left; (solve | simp | (simp; omega))) | fail)
  rintro wx ⟨x1, x2, x3, x4, xo, xm⟩
  have d1 := x1.cell
  have d2 := x2.cell
  have d3 := x3.cell
  have d4 := x4.cell
  have e1 := x1.frozen
  have e2 := x2.frozen
  have e3 := x3.frozen
  have e4 := x4.frozen
  clear c1 c2 c3 f1 f2 f3
  go_region
  all_goals go_wp2_with fail
  all_goals refine bodyPost_ret (v := .tuple #[.slice (some ⟨g, 0, none⟩) n cap, uvl 1 worker 1 x hand sum false ans, did 1 own x x true]) (by simp only [results, Tryd.results34, did, uvl]; go_simp) rfl ?_
  all_goals refine ⟨_, rfl, ?_, ?_⟩
  · repeat (first | with_reducible exact xo | with_reducible refine own_drew ?_ | (with_reducible refine own_far ?_ ?_; rotate_left; (solve | simp | (simp; omega))) | fail)
  · repeat (first | with_reducible exact xm | with_reducible apply Moves.drew | (with_reducible refine Moves.setNew ?_ ?_ _; rotate_left; (solve | simp | (simp; omega))) | fail)
set_option maxHeartbeats 2000000 in
set_option maxRecDepth 100000 in
theorem take0b (batch : Int) (l : List Nat) (worker own x saw hand sum ans : Nat) (how : worker + 1 = own) (hx : l[own]? = some x) (hp : ¬ 0 < x) (hb : l.length ≤ 65) (W : World) (v : Value) (hR : Rds W v l) :
    Calls Tryd.prog 34 #[.int .i64 batch, v, uvl 1 worker 0 saw hand sum false ans] W fun e w' =>
      ∃ v', e = .returned (.tuple #[v', uvl 1 worker 2 x hand sum false ans, did 1 own x x true]) ∧ w'.ownsRow W.heap.size 39 1 v' l.length (wvs (l.set own x)) ∧ Moves [] W w' := by
  have hact0 := fun W' (hm : Moves [] W W') => act_load l own x hx hb W' v (hR.moves hm (fun _ _ => by simp))
  have HA := Lib.hid hact0
  have HB := Lib.hid hb
  have hnz : 0 < l.length := by have := (List.getElem?_eq_some_iff.1 hx).1; omega
  have E1 : Hid ((worker : Int) + 1 = (own : Int)) := Lib.hid (by omega)
  have hwk : (worker : Int) + 1 ≤ 65 := by have := (List.getElem?_eq_some_iff.1 hx).1; omega
  have hp2 : x = 0 := by omega
  have hp3 : ¬ (0 : Int) < (x : Int) := by omega
  clear hp hp2
  clear hx how
  clear hact0 hR hb
  obtain ⟨n, hn⟩ : ∃ n, n = l.length := ⟨_, rfl⟩
  rw [← hn] at HA HB hnz ⊢
  have HN := Lib.hid hn
  clear hn
  have z1 : ¬ W.heap.size + 1 = W.heap.size := by omega
  have z2 : ¬ W.heap.size + 2 = W.heap.size := by omega
  have z3 : ¬ W.heap.size + 2 = W.heap.size + 1 := by omega
  have z4 : ¬ W.heap.size = W.heap.size + 1 := by omega
  have z5 : ¬ W.heap.size = W.heap.size + 2 := by omega
  have z6 : ¬ W.heap.size + 1 = W.heap.size + 2 := by omega
  simp only [uvl, did]
  go_enter Tryd.func34, Tryd.ntmps34
  go_wp2_with (go_at_call 35; (try rw [E1.out]); go_must (refine (HA.out _ ?hM).mono ?_; (case hM => (repeat (first | with_reducible exact Moves.refl [] _ | with_reducible apply Moves.drew | with_reducible apply Moves.drewN | with_reducible apply Moves.alloc | fail))); rintro e w1 ⟨v', rfl, hown, hm⟩; (have hsz := hm.size); (simp only [World.size_alloc, World.size_drew] at hsz); (have u1 : Has w1 W.heap.size 41 #[.int .u8 1, .int .i64 (worker : Nat), .int .i64 0, .int .u64 (saw : Nat), .int .u64 (hand : Nat), .int .u64 (sum : Nat), .bool false, .int .i64 (ans : Nat)] := hm.has (by repeat (first | with_reducible apply Has.drew | (with_reducible refine Has.new' ?_; (solve | with_reducible rfl | simp)) | with_reducible apply Has.alloc | fail)) (by simp)); (have u2 : Has w1 (W.heap.size + 1) 41 #[.int .u8 0, .int .i64 0, .int .i64 0, .int .u64 0, .int .u64 0, .int .u64 0, .bool false, .int .i64 0] := hm.has (by repeat (first | with_reducible apply Has.drew | (with_reducible refine Has.new' ?_; (solve | with_reducible rfl | simp)) | with_reducible apply Has.alloc | fail)) (by simp)); (have u3 : Has w1 (W.heap.size + 2) 46 #[.int .u8 0, .int .i64 0, .int .u64 0, .int .u64 0, .bool false] := hm.has (by repeat (first | with_reducible apply Has.drew | (with_reducible refine Has.new' ?_; (solve | with_reducible rfl | simp)) | with_reducible apply Has.alloc | fail)) (by simp)); (have c1 := u1.cell); (have c2 := u2.cell); (have c3 := u3.cell); (have f1 := u1.frozen); (have f2 := u2.frozen); (have f3 := u3.frozen); (have y1 : ¬ W.heap.size = w1.heap.size := by omega); (have y2 : ¬ W.heap.size + 1 = w1.heap.size := by omega); (have y3 : ¬ W.heap.size + 2 = w1.heap.size := by omega); (have y4 : ¬ w1.heap.size = W.heap.size := by omega); (have y5 : ¬ w1.heap.size = W.heap.size + 1 := by omega); (have y6 : ¬ w1.heap.size = W.heap.size + 2 := by omega); simp only [did]))
  all_goals (obtain ⟨g, cap, rfl, hgb, hgl, _, _, _⟩ := own_at hown hnz; simp only [World.size_alloc, World.size_drew] at hgb)
  all_goals (have hm0 : Moves [] W w1 := Moves.trans (by repeat (first | with_reducible exact Moves.refl [] _ | with_reducible apply Moves.drew | with_reducible apply Moves.drewN | with_reducible apply Moves.alloc | fail)) hm (by simp))
  all_goals (have ho1 := own_base (base' := W.heap.size) hown (by simp; omega))
  all_goals (have hz1 := hm0.size)
  all_goals refine wp_named (fun wx => Has wx W.heap.size 41 #[.int .u8 1, .int .i64 (worker : Nat), .int .i64 2, .int .u64 (x : Nat), .int .u64 (hand : Nat), .int .u64 (sum : Nat), .bool false, .int .i64 (ans : Nat)] ∧ Has wx (W.heap.size + 1) 41 #[.int .u8 0, .int .i64 0, .int .i64 0, .int .u64 0, .int .u64 0, .int .u64 0, .bool false, .int .i64 0] ∧ Has wx (W.heap.size + 2) 46 #[.int .u8 0, .int .i64 0, .int .u64 0, .int .u64 0, .bool false] ∧ Has wx w1.heap.size 46 #[.int .u8 1, .int .i64 (own : Nat), .int .u64 (x : Nat), .int .u64 (x : Nat), .bool true] ∧ wx.ownsRow W.heap.size 39 1 (.slice (some ⟨g, 0, none⟩) n cap) n (wvs (l.set own x)) ∧ Moves [] W wx) ⟨?_, ?_, ?_, ?_, ?_, ?_⟩ ?_
  · apply Has.of_eq
    case h => repeat (first | with_reducible assumption | (with_reducible refine Has.new' ?_; (solve | with_reducible rfl | simp)) | with_reducible apply Has.drew | with_reducible apply Has.alloc | with_reducible apply Has.put | (with_reducible apply Has.far'; (solve | assumption | simp | (simp; omega))) | fail)
    case e => rfl
  · repeat (first | with_reducible assumption | with_reducible apply Has.drew | with_reducible apply Has.alloc | (with_reducible apply Has.far'; (solve | assumption | simp | (simp; omega))) | fail)
  · repeat (first | with_reducible assumption | with_reducible apply Has.drew | with_reducible apply Has.alloc | (with_reducible apply Has.far'; (solve | assumption | simp | (simp; omega))) | fail)
  · apply Has.of_eq
    case h => repeat (first | (with_reducible refine Has.new' ?_; (solve | with_reducible rfl | simp)) | with_reducible apply Has.drew | (with_reducible apply Has.far'; (solve | assumption | simp | (simp; omega))) | fail)
    case e => rfl
  · repeat (first | with_reducible exact ho1 | with_reducible refine own_drew ?_ | with_reducible refine World.ownsRow.alloc ?_ _ | (with_reducible refine own_far ?_ ?_; rotate_left; (solve | simp | (simp; omega))) | fail)
  · repeat (first | with_reducible exact hm0 | with_reducible apply Moves.drew | with_reducible apply Moves.alloc | (with_reducible refine Moves.setNew ?_ ?_ _; rotate_left; (solve | simp | (simp; omega))) | fail)
  rintro wx ⟨x1, x2, x3, x4, xo, xm⟩
  have d1 := x1.cell
  have d2 := x2.cell
  have d3 := x3.cell
  have d4 := x4.cell
  have e1 := x1.frozen
  have e2 := x2.frozen
  have e3 := x3.frozen
  have e4 := x4.frozen
  clear c1 c2 c3 f1 f2 f3
  go_region
  all_goals go_wp2_with fail
  all_goals refine bodyPost_ret (v := .tuple #[.slice (some ⟨g, 0, none⟩) n cap, uvl 1 worker 2 x hand sum false ans, did 1 own x x true]) (by simp only [results, Tryd.results34, did, uvl]; go_simp) rfl ?_
  all_goals refine ⟨_, rfl, ?_, ?_⟩
  · repeat (first | with_reducible exact xo | with_reducible refine own_drew ?_ | (with_reducible refine own_far ?_ ?_; rotate_left; (solve | simp | (simp; omega))) | fail)
  · repeat (first | with_reducible exact xm | with_reducible apply Moves.drew | (with_reducible refine Moves.setNew ?_ ?_ _; rotate_left; (solve | simp | (simp; omega))) | fail)
set_option maxHeartbeats 2000000 in
set_option maxRecDepth 100000 in
theorem take1a (batch : Int) (l : List Nat) (worker own x y hand sum ans : Nat) (how : worker + 1 = own) (hx : l[own]? = some x) (hy : y + 1 = x) (hlt : x ≤ 1099511627776) (hb : l.length ≤ 65) (W : World) (v : Value) (hR : Rds W v l) :
    Calls Tryd.prog 34 #[.int .i64 batch, v, uvl 1 worker 1 x hand sum false ans] W fun e w' =>
      ∃ v', e = .returned (.tuple #[v', uvl 1 worker 0 x hand sum true 1, did 5 own x y true]) ∧ w'.ownsRow W.heap.size 39 1 v' l.length (wvs (l.set own y)) ∧ Moves [] W w' := by
  have hact0 := fun W' (hm : Moves [] W W') => act_hit l own x y hx hb W' v (hR.moves hm (fun _ _ => by simp))
  have HA := Lib.hid hact0
  have HB := Lib.hid hb
  have hnz : 0 < l.length := by have := (List.getElem?_eq_some_iff.1 hx).1; omega
  have E1 : Hid ((worker : Int) + 1 = (own : Int)) := Lib.hid (by omega)
  have hwk : (worker : Int) + 1 ≤ 65 := by have := (List.getElem?_eq_some_iff.1 hx).1; omega
  have E2 : Hid ((x : Int) - 1 = (y : Int)) := Lib.hid (by omega)
  have hx1 : 1 ≤ (x : Int) := by omega
  clear hy
  clear hx how
  clear hact0 hR hb
  obtain ⟨n, hn⟩ : ∃ n, n = l.length := ⟨_, rfl⟩
  rw [← hn] at HA HB hnz ⊢
  have HN := Lib.hid hn
  clear hn
  have z1 : ¬ W.heap.size + 1 = W.heap.size := by omega
  have z2 : ¬ W.heap.size + 2 = W.heap.size := by omega
  have z3 : ¬ W.heap.size + 2 = W.heap.size + 1 := by omega
  have z4 : ¬ W.heap.size = W.heap.size + 1 := by omega
  have z5 : ¬ W.heap.size = W.heap.size + 2 := by omega
  have z6 : ¬ W.heap.size + 1 = W.heap.size + 2 := by omega
  simp only [uvl, did]
  go_enter Tryd.func34, Tryd.ntmps34
  go_wp2_with (go_at_call 35; (try rw [E1.out]); (try rw [E2.out]); go_must (refine (HA.out _ ?hM).mono ?_; (case hM => (repeat (first | with_reducible exact Moves.refl [] _ | with_reducible apply Moves.drew | with_reducible apply Moves.drewN | with_reducible apply Moves.alloc | fail))); rintro e w1 ⟨v', rfl, hown, hm⟩; (have hsz := hm.size); (simp only [World.size_alloc, World.size_drew] at hsz); (have u1 : Has w1 W.heap.size 41 #[.int .u8 1, .int .i64 (worker : Nat), .int .i64 1, .int .u64 (x : Nat), .int .u64 (hand : Nat), .int .u64 (sum : Nat), .bool false, .int .i64 (ans : Nat)] := hm.has (by repeat (first | with_reducible apply Has.drew | (with_reducible refine Has.new' ?_; (solve | with_reducible rfl | simp)) | with_reducible apply Has.alloc | fail)) (by simp)); (have u2 : Has w1 (W.heap.size + 1) 41 #[.int .u8 0, .int .i64 0, .int .i64 0, .int .u64 0, .int .u64 0, .int .u64 0, .bool false, .int .i64 0] := hm.has (by repeat (first | with_reducible apply Has.drew | (with_reducible refine Has.new' ?_; (solve | with_reducible rfl | simp)) | with_reducible apply Has.alloc | fail)) (by simp)); (have u3 : Has w1 (W.heap.size + 2) 46 #[.int .u8 0, .int .i64 0, .int .u64 0, .int .u64 0, .bool false] := hm.has (by repeat (first | with_reducible apply Has.drew | (with_reducible refine Has.new' ?_; (solve | with_reducible rfl | simp)) | with_reducible apply Has.alloc | fail)) (by simp)); (have c1 := u1.cell); (have c2 := u2.cell); (have c3 := u3.cell); (have f1 := u1.frozen); (have f2 := u2.frozen); (have f3 := u3.frozen); (have y1 : ¬ W.heap.size = w1.heap.size := by omega); (have y2 : ¬ W.heap.size + 1 = w1.heap.size := by omega); (have y3 : ¬ W.heap.size + 2 = w1.heap.size := by omega); (have y4 : ¬ w1.heap.size = W.heap.size := by omega); (have y5 : ¬ w1.heap.size = W.heap.size + 1 := by omega); (have y6 : ¬ w1.heap.size = W.heap.size + 2 := by omega); simp only [did]))
  all_goals (obtain ⟨g, cap, rfl, hgb, hgl, _, _, _⟩ := own_at hown hnz; simp only [World.size_alloc, World.size_drew] at hgb)
  all_goals (have hm0 : Moves [] W w1 := Moves.trans (by repeat (first | with_reducible exact Moves.refl [] _ | with_reducible apply Moves.drew | with_reducible apply Moves.drewN | with_reducible apply Moves.alloc | fail)) hm (by simp))
  all_goals (have ho1 := own_base (base' := W.heap.size) hown (by simp; omega))
  all_goals (have hz1 := hm0.size)
  all_goals refine wp_named (fun wx => Has wx W.heap.size 41 #[.int .u8 1, .int .i64 (worker : Nat), .int .i64 0, .int .u64 (x : Nat), .int .u64 (hand : Nat), .int .u64 (sum : Nat), .bool true, .int .i64 1] ∧ Has wx (W.heap.size + 1) 41 #[.int .u8 0, .int .i64 0, .int .i64 0, .int .u64 0, .int .u64 0, .int .u64 0, .bool false, .int .i64 0] ∧ Has wx (W.heap.size + 2) 46 #[.int .u8 0, .int .i64 0, .int .u64 0, .int .u64 0, .bool false] ∧ Has wx w1.heap.size 46 #[.int .u8 5, .int .i64 (own : Nat), .int .u64 (x : Nat), .int .u64 (y : Nat), .bool true] ∧ wx.ownsRow W.heap.size 39 1 (.slice (some ⟨g, 0, none⟩) n cap) n (wvs (l.set own y)) ∧ Moves [] W wx) ⟨?_, ?_, ?_, ?_, ?_, ?_⟩ ?_
  · apply Has.of_eq
    case h => repeat (first | with_reducible assumption | (with_reducible refine Has.new' ?_; (solve | with_reducible rfl | simp)) | with_reducible apply Has.drew | with_reducible apply Has.alloc | with_reducible apply Has.put | (with_reducible apply Has.far'; (solve | assumption | simp | (simp; omega))) | fail)
    case e => rfl
  · repeat (first | with_reducible assumption | with_reducible apply Has.drew | with_reducible apply Has.alloc | (with_reducible apply Has.far'; (solve | assumption | simp | (simp; omega))) | fail)
  · repeat (first | with_reducible assumption | with_reducible apply Has.drew | with_reducible apply Has.alloc | (with_reducible apply Has.far'; (solve | assumption | simp | (simp; omega))) | fail)
  · apply Has.of_eq
    case h => repeat (first | (with_reducible refine Has.new' ?_; (solve | with_reducible rfl | simp)) | with_reducible apply Has.drew | (with_reducible apply Has.far'; (solve | assumption | simp | (simp; omega))) | fail)
    case e => rfl
  · repeat (first | with_reducible exact ho1 | with_reducible refine own_drew ?_ | with_reducible refine World.ownsRow.alloc ?_ _ | (with_reducible refine own_far ?_ ?_; rotate_left; (solve | simp | (simp; omega))) | fail)
  · repeat (first | with_reducible exact hm0 | with_reducible apply Moves.drew | with_reducible apply Moves.alloc | (with_reducible refine Moves.setNew ?_ ?_ _; rotate_left; (solve | simp | (simp; omega))) | fail)
  rintro wx ⟨x1, x2, x3, x4, xo, xm⟩
  have d1 := x1.cell
  have d2 := x2.cell
  have d3 := x3.cell
  have d4 := x4.cell
  have e1 := x1.frozen
  have e2 := x2.frozen
  have e3 := x3.frozen
  have e4 := x4.frozen
  clear c1 c2 c3 f1 f2 f3
  go_region
  all_goals go_wp2_with fail
  all_goals refine bodyPost_ret (v := .tuple #[.slice (some ⟨g, 0, none⟩) n cap, uvl 1 worker 0 x hand sum true 1, did 5 own x y true]) (by simp only [results, Tryd.results34, did, uvl]; go_simp) rfl ?_
  all_goals refine ⟨_, rfl, ?_, ?_⟩
  · repeat (first | with_reducible exact xo | with_reducible refine own_drew ?_ | (with_reducible refine own_far ?_ ?_; rotate_left; (solve | simp | (simp; omega))) | fail)
  · repeat (first | with_reducible exact xm | with_reducible apply Moves.drew | (with_reducible refine Moves.setNew ?_ ?_ _; rotate_left; (solve | simp | (simp; omega))) | fail)
set_option maxHeartbeats 2000000 in
set_option maxRecDepth 100000 in
theorem take1b (batch : Int) (l : List Nat) (worker own x y saw hand sum ans : Nat) (how : worker + 1 = own) (hx : l[own]? = some x) (hne : x ≠ saw) (hy : y + 1 = saw) (hlt : saw ≤ 1099511627776) (hb : l.length ≤ 65) (W : World) (v : Value) (hR : Rds W v l) :
    Calls Tryd.prog 34 #[.int .i64 batch, v, uvl 1 worker 1 saw hand sum false ans] W fun e w' =>
      ∃ v', e = .returned (.tuple #[v', uvl 1 worker 0 saw hand sum false ans, did 5 own x x false]) ∧ w'.ownsRow W.heap.size 39 1 v' l.length (wvs (l.set own x)) ∧ Moves [] W w' := by
  have hact0 := fun W' (hm : Moves [] W W') => act_miss l own x y saw hne hx hb W' v (hR.moves hm (fun _ _ => by simp))
  have HA := Lib.hid hact0
  have HB := Lib.hid hb
  have hnz : 0 < l.length := by have := (List.getElem?_eq_some_iff.1 hx).1; omega
  have E1 : Hid ((worker : Int) + 1 = (own : Int)) := Lib.hid (by omega)
  have hwk : (worker : Int) + 1 ≤ 65 := by have := (List.getElem?_eq_some_iff.1 hx).1; omega
  have E2 : Hid ((saw : Int) - 1 = (y : Int)) := Lib.hid (by omega)
  have hx1 : 1 ≤ (saw : Int) := by omega
  clear hy hne
  clear hx how
  clear hact0 hR hb
  obtain ⟨n, hn⟩ : ∃ n, n = l.length := ⟨_, rfl⟩
  rw [← hn] at HA HB hnz ⊢
  have HN := Lib.hid hn
  clear hn
  have z1 : ¬ W.heap.size + 1 = W.heap.size := by omega
  have z2 : ¬ W.heap.size + 2 = W.heap.size := by omega
  have z3 : ¬ W.heap.size + 2 = W.heap.size + 1 := by omega
  have z4 : ¬ W.heap.size = W.heap.size + 1 := by omega
  have z5 : ¬ W.heap.size = W.heap.size + 2 := by omega
  have z6 : ¬ W.heap.size + 1 = W.heap.size + 2 := by omega
  simp only [uvl, did]
  go_enter Tryd.func34, Tryd.ntmps34
  go_wp2_with (go_at_call 35; (try rw [E1.out]); (try rw [E2.out]); go_must (refine (HA.out _ ?hM).mono ?_; (case hM => (repeat (first | with_reducible exact Moves.refl [] _ | with_reducible apply Moves.drew | with_reducible apply Moves.drewN | with_reducible apply Moves.alloc | fail))); rintro e w1 ⟨v', rfl, hown, hm⟩; (have hsz := hm.size); (simp only [World.size_alloc, World.size_drew] at hsz); (have u1 : Has w1 W.heap.size 41 #[.int .u8 1, .int .i64 (worker : Nat), .int .i64 1, .int .u64 (saw : Nat), .int .u64 (hand : Nat), .int .u64 (sum : Nat), .bool false, .int .i64 (ans : Nat)] := hm.has (by repeat (first | with_reducible apply Has.drew | (with_reducible refine Has.new' ?_; (solve | with_reducible rfl | simp)) | with_reducible apply Has.alloc | fail)) (by simp)); (have u2 : Has w1 (W.heap.size + 1) 41 #[.int .u8 0, .int .i64 0, .int .i64 0, .int .u64 0, .int .u64 0, .int .u64 0, .bool false, .int .i64 0] := hm.has (by repeat (first | with_reducible apply Has.drew | (with_reducible refine Has.new' ?_; (solve | with_reducible rfl | simp)) | with_reducible apply Has.alloc | fail)) (by simp)); (have u3 : Has w1 (W.heap.size + 2) 46 #[.int .u8 0, .int .i64 0, .int .u64 0, .int .u64 0, .bool false] := hm.has (by repeat (first | with_reducible apply Has.drew | (with_reducible refine Has.new' ?_; (solve | with_reducible rfl | simp)) | with_reducible apply Has.alloc | fail)) (by simp)); (have c1 := u1.cell); (have c2 := u2.cell); (have c3 := u3.cell); (have f1 := u1.frozen); (have f2 := u2.frozen); (have f3 := u3.frozen); (have y1 : ¬ W.heap.size = w1.heap.size := by omega); (have y2 : ¬ W.heap.size + 1 = w1.heap.size := by omega); (have y3 : ¬ W.heap.size + 2 = w1.heap.size := by omega); (have y4 : ¬ w1.heap.size = W.heap.size := by omega); (have y5 : ¬ w1.heap.size = W.heap.size + 1 := by omega); (have y6 : ¬ w1.heap.size = W.heap.size + 2 := by omega); simp only [did]))
  all_goals (obtain ⟨g, cap, rfl, hgb, hgl, _, _, _⟩ := own_at hown hnz; simp only [World.size_alloc, World.size_drew] at hgb)
  all_goals (have hm0 : Moves [] W w1 := Moves.trans (by repeat (first | with_reducible exact Moves.refl [] _ | with_reducible apply Moves.drew | with_reducible apply Moves.drewN | with_reducible apply Moves.alloc | fail)) hm (by simp))
  all_goals (have ho1 := own_base (base' := W.heap.size) hown (by simp; omega))
  all_goals (have hz1 := hm0.size)
  all_goals refine wp_named (fun wx => Has wx W.heap.size 41 #[.int .u8 1, .int .i64 (worker : Nat), .int .i64 0, .int .u64 (saw : Nat), .int .u64 (hand : Nat), .int .u64 (sum : Nat), .bool false, .int .i64 (ans : Nat)] ∧ Has wx (W.heap.size + 1) 41 #[.int .u8 0, .int .i64 0, .int .i64 0, .int .u64 0, .int .u64 0, .int .u64 0, .bool false, .int .i64 0] ∧ Has wx (W.heap.size + 2) 46 #[.int .u8 0, .int .i64 0, .int .u64 0, .int .u64 0, .bool false] ∧ Has wx w1.heap.size 46 #[.int .u8 5, .int .i64 (own : Nat), .int .u64 (x : Nat), .int .u64 (x : Nat), .bool false] ∧ wx.ownsRow W.heap.size 39 1 (.slice (some ⟨g, 0, none⟩) n cap) n (wvs (l.set own x)) ∧ Moves [] W wx) ⟨?_, ?_, ?_, ?_, ?_, ?_⟩ ?_
  · apply Has.of_eq
    case h => repeat (first | with_reducible assumption | (with_reducible refine Has.new' ?_; (solve | with_reducible rfl | simp)) | with_reducible apply Has.drew | with_reducible apply Has.alloc | with_reducible apply Has.put | (with_reducible apply Has.far'; (solve | assumption | simp | (simp; omega))) | fail)
    case e => rfl
  · repeat (first | with_reducible assumption | with_reducible apply Has.drew | with_reducible apply Has.alloc | (with_reducible apply Has.far'; (solve | assumption | simp | (simp; omega))) | fail)
  · repeat (first | with_reducible assumption | with_reducible apply Has.drew | with_reducible apply Has.alloc | (with_reducible apply Has.far'; (solve | assumption | simp | (simp; omega))) | fail)
  · apply Has.of_eq
    case h => repeat (first | (with_reducible refine Has.new' ?_; (solve | with_reducible rfl | simp)) | with_reducible apply Has.drew | (with_reducible apply Has.far'; (solve | assumption | simp | (simp; omega))) | fail)
    case e => rfl
  · repeat (first | with_reducible exact ho1 | with_reducible refine own_drew ?_ | with_reducible refine World.ownsRow.alloc ?_ _ | (with_reducible refine own_far ?_ ?_; rotate_left; (solve | simp | (simp; omega))) | fail)
  · repeat (first | with_reducible exact hm0 | with_reducible apply Moves.drew | with_reducible apply Moves.alloc | (with_reducible refine Moves.setNew ?_ ?_ _; rotate_left; (solve | simp | (simp; omega))) | fail)
  rintro wx ⟨x1, x2, x3, x4, xo, xm⟩
  have d1 := x1.cell
  have d2 := x2.cell
  have d3 := x3.cell
  have d4 := x4.cell
  have e1 := x1.frozen
  have e2 := x2.frozen
  have e3 := x3.frozen
  have e4 := x4.frozen
  clear c1 c2 c3 f1 f2 f3
  go_region
  all_goals go_wp2_with fail
  all_goals refine bodyPost_ret (v := .tuple #[.slice (some ⟨g, 0, none⟩) n cap, uvl 1 worker 0 saw hand sum false ans, did 5 own x x false]) (by simp only [results, Tryd.results34, did, uvl]; go_simp) rfl ?_
  all_goals refine ⟨_, rfl, ?_, ?_⟩
  · repeat (first | with_reducible exact xo | with_reducible refine own_drew ?_ | (with_reducible refine own_far ?_ ?_; rotate_left; (solve | simp | (simp; omega))) | fail)
  · repeat (first | with_reducible exact xm | with_reducible apply Moves.drew | (with_reducible refine Moves.setNew ?_ ?_ _; rotate_left; (solve | simp | (simp; omega))) | fail)
set_option maxHeartbeats 2000000 in
set_option maxRecDepth 100000 in
theorem take2a (batch : Int) (l : List Nat) (worker x saw hand sum ans : Nat) (how : worker + 1 ≤ 65) (hx : l[0]? = some x) (hp : x = 0) (hb : l.length ≤ 65) (W : World) (v : Value) (hR : Rds W v l) :
    Calls Tryd.prog 34 #[.int .i64 batch, v, uvl 1 worker 2 saw hand sum false ans] W fun e w' =>
      ∃ v', e = .returned (.tuple #[v', uvl 1 worker 3 x hand sum true ans, did 1 0 x x true]) ∧ w'.ownsRow W.heap.size 39 1 v' l.length (wvs (l.set 0 x)) ∧ Moves [] W w' := by
  have hact0 := fun W' (hm : Moves [] W W') => act_load l 0 x hx hb W' v (hR.moves hm (fun _ _ => by simp))
  have HA := Lib.hid hact0
  have HB := Lib.hid hb
  have hnz : 0 < l.length := by have := (List.getElem?_eq_some_iff.1 hx).1; omega
  have hp2 : ((x : Int) == 0) = true := by simp [hp]
  clear hp
  have hwk : (worker : Int) + 1 ≤ 65 := by omega
  clear hx how
  clear hact0 hR hb
  obtain ⟨n, hn⟩ : ∃ n, n = l.length := ⟨_, rfl⟩
  rw [← hn] at HA HB hnz ⊢
  have HN := Lib.hid hn
  clear hn
  have z1 : ¬ W.heap.size + 1 = W.heap.size := by omega
  have z2 : ¬ W.heap.size + 2 = W.heap.size := by omega
  have z3 : ¬ W.heap.size + 2 = W.heap.size + 1 := by omega
  have z4 : ¬ W.heap.size = W.heap.size + 1 := by omega
  have z5 : ¬ W.heap.size = W.heap.size + 2 := by omega
  have z6 : ¬ W.heap.size + 1 = W.heap.size + 2 := by omega
  simp only [uvl, did]
  go_enter Tryd.func34, Tryd.ntmps34
  go_wp2_with (go_at_call 35; go_must (refine (HA.out _ ?hM).mono ?_; (case hM => (repeat (first | with_reducible exact Moves.refl [] _ | with_reducible apply Moves.drew | with_reducible apply Moves.drewN | with_reducible apply Moves.alloc | fail))); rintro e w1 ⟨v', rfl, hown, hm⟩; (have hsz := hm.size); (simp only [World.size_alloc, World.size_drew] at hsz); (have u1 : Has w1 W.heap.size 41 #[.int .u8 1, .int .i64 (worker : Nat), .int .i64 2, .int .u64 (saw : Nat), .int .u64 (hand : Nat), .int .u64 (sum : Nat), .bool false, .int .i64 (ans : Nat)] := hm.has (by repeat (first | with_reducible apply Has.drew | (with_reducible refine Has.new' ?_; (solve | with_reducible rfl | simp)) | with_reducible apply Has.alloc | fail)) (by simp)); (have u2 : Has w1 (W.heap.size + 1) 41 #[.int .u8 0, .int .i64 0, .int .i64 0, .int .u64 0, .int .u64 0, .int .u64 0, .bool false, .int .i64 0] := hm.has (by repeat (first | with_reducible apply Has.drew | (with_reducible refine Has.new' ?_; (solve | with_reducible rfl | simp)) | with_reducible apply Has.alloc | fail)) (by simp)); (have u3 : Has w1 (W.heap.size + 2) 46 #[.int .u8 0, .int .i64 0, .int .u64 0, .int .u64 0, .bool false] := hm.has (by repeat (first | with_reducible apply Has.drew | (with_reducible refine Has.new' ?_; (solve | with_reducible rfl | simp)) | with_reducible apply Has.alloc | fail)) (by simp)); (have c1 := u1.cell); (have c2 := u2.cell); (have c3 := u3.cell); (have f1 := u1.frozen); (have f2 := u2.frozen); (have f3 := u3.frozen); (have y1 : ¬ W.heap.size = w1.heap.size := by omega); (have y2 : ¬ W.heap.size + 1 = w1.heap.size := by omega); (have y3 : ¬ W.heap.size + 2 = w1.heap.size := by omega); (have y4 : ¬ w1.heap.size = W.heap.size := by omega); (have y5 : ¬ w1.heap.size = W.heap.size + 1 := by omega); (have y6 : ¬ w1.heap.size = W.heap.size + 2 := by omega); simp only [did]))
  all_goals (obtain ⟨g, cap, rfl, hgb, hgl, _, _, _⟩ := own_at hown hnz; simp only [World.size_alloc, World.size_drew] at hgb)
  all_goals (have hm0 : Moves [] W w1 := Moves.trans (by repeat (first | with_reducible exact Moves.refl [] _ | with_reducible apply Moves.drew | with_reducible apply Moves.drewN | with_reducible apply Moves.alloc | fail)) hm (by simp))
  all_goals (have ho1 := own_base (base' := W.heap.size) hown (by simp; omega))
  all_goals (have hz1 := hm0.size)
  all_goals refine wp_named (fun wx => Has wx W.heap.size 41 #[.int .u8 1, .int .i64 (worker : Nat), .int .i64 3, .int .u64 (x : Nat), .int .u64 (hand : Nat), .int .u64 (sum : Nat), .bool true, .int .i64 (ans : Nat)] ∧ Has wx (W.heap.size + 1) 41 #[.int .u8 0, .int .i64 0, .int .i64 0, .int .u64 0, .int .u64 0, .int .u64 0, .bool false, .int .i64 0] ∧ Has wx (W.heap.size + 2) 46 #[.int .u8 0, .int .i64 0, .int .u64 0, .int .u64 0, .bool false] ∧ Has wx w1.heap.size 46 #[.int .u8 1, .int .i64 0, .int .u64 (x : Nat), .int .u64 (x : Nat), .bool true] ∧ wx.ownsRow W.heap.size 39 1 (.slice (some ⟨g, 0, none⟩) n cap) n (wvs (l.set 0 x)) ∧ Moves [] W wx) ⟨?_, ?_, ?_, ?_, ?_, ?_⟩ ?_
  · apply Has.of_eq
    case h => repeat (first | with_reducible assumption | (with_reducible refine Has.new' ?_; (solve | with_reducible rfl | simp)) | with_reducible apply Has.drew | with_reducible apply Has.alloc | with_reducible apply Has.put | (with_reducible apply Has.far'; (solve | assumption | simp | (simp; omega))) | fail)
    case e => rfl
  · repeat (first | with_reducible assumption | with_reducible apply Has.drew | with_reducible apply Has.alloc | (with_reducible apply Has.far'; (solve | assumption | simp | (simp; omega))) | fail)
  · repeat (first | with_reducible assumption | with_reducible apply Has.drew | with_reducible apply Has.alloc | (with_reducible apply Has.far'; (solve | assumption | simp | (simp; omega))) | fail)
  · apply Has.of_eq
    case h => repeat (first | (with_reducible refine Has.new' ?_; (solve | with_reducible rfl | simp)) | with_reducible apply Has.drew | (with_reducible apply Has.far'; (solve | assumption | simp | (simp; omega))) | fail)
    case e => rfl
  · repeat (first | with_reducible exact ho1 | with_reducible refine own_drew ?_ | with_reducible refine World.ownsRow.alloc ?_ _ | (with_reducible refine own_far ?_ ?_; rotate_left; (solve | simp | (simp; omega))) | fail)
  · repeat (first | with_reducible exact hm0 | with_reducible apply Moves.drew | with_reducible apply Moves.alloc | (with_reducible refine Moves.setNew ?_ ?_ _; rotate_left; (solve | simp | (simp; omega))) | fail)
  rintro wx ⟨x1, x2, x3, x4, xo, xm⟩
  have d1 := x1.cell
  have d2 := x2.cell
  have d3 := x3.cell
  have d4 := x4.cell
  have e1 := x1.frozen
  have e2 := x2.frozen
  have e3 := x3.frozen
  have e4 := x4.frozen
  clear c1 c2 c3 f1 f2 f3
  go_region
  all_goals go_wp2_with fail
  all_goals refine bodyPost_ret (v := .tuple #[.slice (some ⟨g, 0, none⟩) n cap, uvl 1 worker 3 x hand sum true ans, did 1 0 x x true]) (by simp only [results, Tryd.results34, did, uvl]; go_simp) rfl ?_
  all_goals refine ⟨_, rfl, ?_, ?_⟩
  · repeat (first | with_reducible exact xo | with_reducible refine own_drew ?_ | (with_reducible refine own_far ?_ ?_; rotate_left; (solve | simp | (simp; omega))) | fail)
  · repeat (first | with_reducible exact xm | with_reducible apply Moves.drew | (with_reducible refine Moves.setNew ?_ ?_ _; rotate_left; (solve | simp | (simp; omega))) | fail)
set_option maxHeartbeats 2000000 in
set_option maxRecDepth 100000 in
theorem take2b (batch : Int) (l : List Nat) (worker x saw hand sum ans : Nat) (how : worker + 1 ≤ 65) (hx : l[0]? = some x) (hp : ¬ x = 0) (hb : l.length ≤ 65) (W : World) (v : Value) (hR : Rds W v l) :
    Calls Tryd.prog 34 #[.int .i64 batch, v, uvl 1 worker 2 saw hand sum false ans] W fun e w' =>
      ∃ v', e = .returned (.tuple #[v', uvl 1 worker 3 x hand sum false ans, did 1 0 x x true]) ∧ w'.ownsRow W.heap.size 39 1 v' l.length (wvs (l.set 0 x)) ∧ Moves [] W w' := by
  have hact0 := fun W' (hm : Moves [] W W') => act_load l 0 x hx hb W' v (hR.moves hm (fun _ _ => by simp))
  have HA := Lib.hid hact0
  have HB := Lib.hid hb
  have hnz : 0 < l.length := by have := (List.getElem?_eq_some_iff.1 hx).1; omega
  have hp2 : ((x : Int) == 0) = false := by simp; omega
  clear hp
  have hwk : (worker : Int) + 1 ≤ 65 := by omega
  clear hx how
  clear hact0 hR hb
  obtain ⟨n, hn⟩ : ∃ n, n = l.length := ⟨_, rfl⟩
  rw [← hn] at HA HB hnz ⊢
  have HN := Lib.hid hn
  clear hn
  have z1 : ¬ W.heap.size + 1 = W.heap.size := by omega
  have z2 : ¬ W.heap.size + 2 = W.heap.size := by omega
  have z3 : ¬ W.heap.size + 2 = W.heap.size + 1 := by omega
  have z4 : ¬ W.heap.size = W.heap.size + 1 := by omega
  have z5 : ¬ W.heap.size = W.heap.size + 2 := by omega
  have z6 : ¬ W.heap.size + 1 = W.heap.size + 2 := by omega
  simp only [uvl, did]
  go_enter Tryd.func34, Tryd.ntmps34
  go_wp2_with (go_at_call 35; go_must (refine (HA.out _ ?hM).mono ?_; (case hM => (repeat (first | with_reducible exact Moves.refl [] _ | with_reducible apply Moves.drew | with_reducible apply Moves.drewN | with_reducible apply Moves.alloc | fail))); rintro e w1 ⟨v', rfl, hown, hm⟩; (have hsz := hm.size); (simp only [World.size_alloc, World.size_drew] at hsz); (have u1 : Has w1 W.heap.size 41 #[.int .u8 1, .int .i64 (worker : Nat), .int .i64 2, .int .u64 (saw : Nat), .int .u64 (hand : Nat), .int .u64 (sum : Nat), .bool false, .int .i64 (ans : Nat)] := hm.has (by repeat (first | with_reducible apply Has.drew | (with_reducible refine Has.new' ?_; (solve | with_reducible rfl | simp)) | with_reducible apply Has.alloc | fail)) (by simp)); (have u2 : Has w1 (W.heap.size + 1) 41 #[.int .u8 0, .int .i64 0, .int .i64 0, .int .u64 0, .int .u64 0, .int .u64 0, .bool false, .int .i64 0] := hm.has (by repeat (first | with_reducible apply Has.drew | (with_reducible refine Has.new' ?_; (solve | with_reducible rfl | simp)) | with_reducible apply Has.alloc | fail)) (by simp)); (have u3 : Has w1 (W.heap.size + 2) 46 #[.int .u8 0, .int .i64 0, .int .u64 0, .int .u64 0, .bool false] := hm.has (by repeat (first | with_reducible apply Has.drew | (with_reducible refine Has.new' ?_; (solve | with_reducible rfl | simp)) | with_reducible apply Has.alloc | fail)) (by simp)); (have c1 := u1.cell); (have c2 := u2.cell); (have c3 := u3.cell); (have f1 := u1.frozen); (have f2 := u2.frozen); (have f3 := u3.frozen); (have y1 : ¬ W.heap.size = w1.heap.size := by omega); (have y2 : ¬ W.heap.size + 1 = w1.heap.size := by omega); (have y3 : ¬ W.heap.size + 2 = w1.heap.size := by omega); (have y4 : ¬ w1.heap.size = W.heap.size := by omega); (have y5 : ¬ w1.heap.size = W.heap.size + 1 := by omega); (have y6 : ¬ w1.heap.size = W.heap.size + 2 := by omega); simp only [did]))
  all_goals (obtain ⟨g, cap, rfl, hgb, hgl, _, _, _⟩ := own_at hown hnz; simp only [World.size_alloc, World.size_drew] at hgb)
  all_goals (have hm0 : Moves [] W w1 := Moves.trans (by repeat (first | with_reducible exact Moves.refl [] _ | with_reducible apply Moves.drew | with_reducible apply Moves.drewN | with_reducible apply Moves.alloc | fail)) hm (by simp))
  all_goals (have ho1 := own_base (base' := W.heap.size) hown (by simp; omega))
  all_goals (have hz1 := hm0.size)
  all_goals refine wp_named (fun wx => Has wx W.heap.size 41 #[.int .u8 1, .int .i64 (worker : Nat), .int .i64 3, .int .u64 (x : Nat), .int .u64 (hand : Nat), .int .u64 (sum : Nat), .bool false, .int .i64 (ans : Nat)] ∧ Has wx (W.heap.size + 1) 41 #[.int .u8 0, .int .i64 0, .int .i64 0, .int .u64 0, .int .u64 0, .int .u64 0, .bool false, .int .i64 0] ∧ Has wx (W.heap.size + 2) 46 #[.int .u8 0, .int .i64 0, .int .u64 0, .int .u64 0, .bool false] ∧ Has wx w1.heap.size 46 #[.int .u8 1, .int .i64 0, .int .u64 (x : Nat), .int .u64 (x : Nat), .bool true] ∧ wx.ownsRow W.heap.size 39 1 (.slice (some ⟨g, 0, none⟩) n cap) n (wvs (l.set 0 x)) ∧ Moves [] W wx) ⟨?_, ?_, ?_, ?_, ?_, ?_⟩ ?_
  · apply Has.of_eq
    case h => repeat (first | with_reducible assumption | (with_reducible refine Has.new' ?_; (solve | with_reducible rfl | simp)) | with_reducible apply Has.drew | with_reducible apply Has.alloc | with_reducible apply Has.put | (with_reducible apply Has.far'; (solve | assumption | simp | (simp; omega))) | fail)
    case e => rfl
  · repeat (first | with_reducible assumption | with_reducible apply Has.drew | with_reducible apply Has.alloc | (with_reducible apply Has.far'; (solve | assumption | simp | (simp; omega))) | fail)
  · repeat (first | with_reducible assumption | with_reducible apply Has.drew | with_reducible apply Has.alloc | (with_reducible apply Has.far'; (solve | assumption | simp | (simp; omega))) | fail)
  · apply Has.of_eq
    case h => repeat (first | (with_reducible refine Has.new' ?_; (solve | with_reducible rfl | simp)) | with_reducible apply Has.drew | (with_reducible apply Has.far'; (solve | assumption | simp | (simp; omega))) | fail)
    case e => rfl
  · repeat (first | with_reducible exact ho1 | with_reducible refine own_drew ?_ | with_reducible refine World.ownsRow.alloc ?_ _ | (with_reducible refine own_far ?_ ?_; rotate_left; (solve | simp | (simp; omega))) | fail)
  · repeat (first | with_reducible exact hm0 | with_reducible apply Moves.drew | with_reducible apply Moves.alloc | (with_reducible refine Moves.setNew ?_ ?_ _; rotate_left; (solve | simp | (simp; omega))) | fail)
  rintro wx ⟨x1, x2, x3, x4, xo, xm⟩
  have d1 := x1.cell
  have d2 := x2.cell
  have d3 := x3.cell
  have d4 := x4.cell
  have e1 := x1.frozen
  have e2 := x2.frozen
  have e3 := x3.frozen
  have e4 := x4.frozen
  clear c1 c2 c3 f1 f2 f3
  go_region
  all_goals go_wp2_with fail
  all_goals refine bodyPost_ret (v := .tuple #[.slice (some ⟨g, 0, none⟩) n cap, uvl 1 worker 3 x hand sum false ans, did 1 0 x x true]) (by simp only [results, Tryd.results34, did, uvl]; go_simp) rfl ?_
  all_goals refine ⟨_, rfl, ?_, ?_⟩
  · repeat (first | with_reducible exact xo | with_reducible refine own_drew ?_ | (with_reducible refine own_far ?_ ?_; rotate_left; (solve | simp | (simp; omega))) | fail)
  · repeat (first | with_reducible exact xm | with_reducible apply Moves.drew | (with_reducible refine Moves.setNew ?_ ?_ _; rotate_left; (solve | simp | (simp; omega))) | fail)
set_option maxHeartbeats 2000000 in
set_option maxRecDepth 100000 in
theorem take3ms (l : List Nat) (batch worker x saw hand sum ans : Nat) (how : worker + 1 ≤ 65) (hx : l[0]? = some x) (hbt : saw < batch) (hlt : saw ≤ 1099511627776) (hbp : 1 ≤ batch) (hbl : batch ≤ 1048576) (hsp : 1 ≤ saw) (hne : x ≠ saw) (hb : l.length ≤ 65) (W : World) (v : Value) (hR : Rds W v l) :
    Calls Tryd.prog 34 #[.int .i64 batch, v, uvl 1 worker 3 saw hand sum false ans] W fun e w' =>
      ∃ v', e = .returned (.tuple #[v', uvl 1 worker 2 saw hand sum false ans, did 5 0 x x false]) ∧ w'.ownsRow W.heap.size 39 1 v' l.length (wvs (l.set 0 x)) ∧ Moves [] W w' := by
  have hact0 := fun W' (hm : Moves [] W W') => act_miss l 0 x 0 saw hne hx hb W' v (hR.moves hm (fun _ _ => by simp))
  have HA := Lib.hid hact0
  simp only [Int.cast_ofNat_Int] at HA
  have HB := Lib.hid hb
  have hnz : 0 < l.length := by have := (List.getElem?_eq_some_iff.1 hx).1; omega
  have hbd : (saw : Int) < (batch : Int) := by omega
  clear hne
  have hwk : (worker : Int) + 1 ≤ 65 := by omega
  clear hx how
  clear hact0 hR hb
  obtain ⟨n, hn⟩ : ∃ n, n = l.length := ⟨_, rfl⟩
  rw [← hn] at HA HB hnz ⊢
  have HN := Lib.hid hn
  clear hn
  have z1 : ¬ W.heap.size + 1 = W.heap.size := by omega
  have z2 : ¬ W.heap.size + 2 = W.heap.size := by omega
  have z3 : ¬ W.heap.size + 2 = W.heap.size + 1 := by omega
  have z4 : ¬ W.heap.size = W.heap.size + 1 := by omega
  have z5 : ¬ W.heap.size = W.heap.size + 2 := by omega
  have z6 : ¬ W.heap.size + 1 = W.heap.size + 2 := by omega
  simp only [uvl, did]
  go_enter Tryd.func34, Tryd.ntmps34
  go_wp2_with (go_at_call 35; go_must (refine (HA.out _ ?hM).mono ?_; (case hM => (repeat (first | with_reducible exact Moves.refl [] _ | with_reducible apply Moves.drew | with_reducible apply Moves.drewN | with_reducible apply Moves.alloc | fail))); rintro e w1 ⟨v', rfl, hown, hm⟩; (have hsz := hm.size); (simp only [World.size_alloc, World.size_drew] at hsz); (have u1 : Has w1 W.heap.size 41 #[.int .u8 1, .int .i64 (worker : Nat), .int .i64 3, .int .u64 (saw : Nat), .int .u64 (hand : Nat), .int .u64 (sum : Nat), .bool false, .int .i64 (ans : Nat)] := hm.has (by repeat (first | with_reducible apply Has.drew | (with_reducible refine Has.new' ?_; (solve | with_reducible rfl | simp)) | with_reducible apply Has.alloc | fail)) (by simp)); (have u2 : Has w1 (W.heap.size + 1) 41 #[.int .u8 0, .int .i64 0, .int .i64 0, .int .u64 0, .int .u64 0, .int .u64 0, .bool false, .int .i64 0] := hm.has (by repeat (first | with_reducible apply Has.drew | (with_reducible refine Has.new' ?_; (solve | with_reducible rfl | simp)) | with_reducible apply Has.alloc | fail)) (by simp)); (have u3 : Has w1 (W.heap.size + 2) 46 #[.int .u8 0, .int .i64 0, .int .u64 0, .int .u64 0, .bool false] := hm.has (by repeat (first | with_reducible apply Has.drew | (with_reducible refine Has.new' ?_; (solve | with_reducible rfl | simp)) | with_reducible apply Has.alloc | fail)) (by simp)); (have c1 := u1.cell); (have c2 := u2.cell); (have c3 := u3.cell); (have f1 := u1.frozen); (have f2 := u2.frozen); (have f3 := u3.frozen); (have y1 : ¬ W.heap.size = w1.heap.size := by omega); (have y2 : ¬ W.heap.size + 1 = w1.heap.size := by omega); (have y3 : ¬ W.heap.size + 2 = w1.heap.size := by omega); (have y4 : ¬ w1.heap.size = W.heap.size := by omega); (have y5 : ¬ w1.heap.size = W.heap.size + 1 := by omega); (have y6 : ¬ w1.heap.size = W.heap.size + 2 := by omega); simp only [did]))
  all_goals (obtain ⟨g, cap, rfl, hgb, hgl, _, _, _⟩ := own_at hown hnz; simp only [World.size_alloc, World.size_drew] at hgb)
  all_goals (have hm0 : Moves [] W w1 := Moves.trans (by repeat (first | with_reducible exact Moves.refl [] _ | with_reducible apply Moves.drew | with_reducible apply Moves.drewN | with_reducible apply Moves.alloc | fail)) hm (by simp))
  all_goals (have ho1 := own_base (base' := W.heap.size) hown (by simp; omega))
  all_goals (have hz1 := hm0.size)
  all_goals refine wp_named (fun wx => Has wx W.heap.size 41 #[.int .u8 1, .int .i64 (worker : Nat), .int .i64 2, .int .u64 (saw : Nat), .int .u64 (hand : Nat), .int .u64 (sum : Nat), .bool false, .int .i64 (ans : Nat)] ∧ Has wx (W.heap.size + 1) 41 #[.int .u8 0, .int .i64 0, .int .i64 0, .int .u64 0, .int .u64 0, .int .u64 0, .bool false, .int .i64 0] ∧ Has wx (W.heap.size + 2) 46 #[.int .u8 0, .int .i64 0, .int .u64 0, .int .u64 0, .bool false] ∧ Has wx w1.heap.size 46 #[.int .u8 5, .int .i64 0, .int .u64 (x : Nat), .int .u64 (x : Nat), .bool false] ∧ wx.ownsRow W.heap.size 39 1 (.slice (some ⟨g, 0, none⟩) n cap) n (wvs (l.set 0 x)) ∧ Moves [] W wx) ⟨?_, ?_, ?_, ?_, ?_, ?_⟩ ?_
  · apply Has.of_eq
    case h => repeat (first | with_reducible assumption | (with_reducible refine Has.new' ?_; (solve | with_reducible rfl | simp)) | with_reducible apply Has.drew | with_reducible apply Has.alloc | with_reducible apply Has.put | (with_reducible apply Has.far'; (solve | assumption | simp | (simp; omega))) | fail)
    case e => rfl
  · repeat (first | with_reducible assumption | with_reducible apply Has.drew | with_reducible apply Has.alloc | (with_reducible apply Has.far'; (solve | assumption | simp | (simp; omega))) | fail)
  · repeat (first | with_reducible assumption | with_reducible apply Has.drew | with_reducible apply Has.alloc | (with_reducible apply Has.far'; (solve | assumption | simp | (simp; omega))) | fail)
  · apply Has.of_eq
    case h => repeat (first | (with_reducible refine Has.new' ?_; (solve | with_reducible rfl | simp)) | with_reducible apply Has.drew | (with_reducible apply Has.far'; (solve | assumption | simp | (simp; omega))) | fail)
    case e => rfl
  · repeat (first | with_reducible exact ho1 | with_reducible refine own_drew ?_ | with_reducible refine World.ownsRow.alloc ?_ _ | (with_reducible refine own_far ?_ ?_; rotate_left; (solve | simp | (simp; omega))) | fail)
  · repeat (first | with_reducible exact hm0 | with_reducible apply Moves.drew | with_reducible apply Moves.alloc | (with_reducible refine Moves.setNew ?_ ?_ _; rotate_left; (solve | simp | (simp; omega))) | fail)
  rintro wx ⟨x1, x2, x3, x4, xo, xm⟩
  have d1 := x1.cell
  have d2 := x2.cell
  have d3 := x3.cell
  have d4 := x4.cell
  have e1 := x1.frozen
  have e2 := x2.frozen
  have e3 := x3.frozen
  have e4 := x4.frozen
  clear c1 c2 c3 f1 f2 f3
  go_region
  all_goals go_wp2_with fail
  all_goals refine bodyPost_ret (v := .tuple #[.slice (some ⟨g, 0, none⟩) n cap, uvl 1 worker 2 saw hand sum false ans, did 5 0 x x false]) (by simp only [results, Tryd.results34, did, uvl]; go_simp) rfl ?_
  all_goals refine ⟨_, rfl, ?_, ?_⟩
  · repeat (first | with_reducible exact xo | with_reducible refine own_drew ?_ | (with_reducible refine own_far ?_ ?_; rotate_left; (solve | simp | (simp; omega))) | fail)
  · repeat (first | with_reducible exact xm | with_reducible apply Moves.drew | (with_reducible refine Moves.setNew ?_ ?_ _; rotate_left; (solve | simp | (simp; omega))) | fail)
set_option maxHeartbeats 2000000 in
set_option maxRecDepth 100000 in
theorem take3os (l : List Nat) (batch worker saw hand sum ans : Nat) (how : worker + 1 ≤ 65) (hx : l[0]? = some saw) (hbt : saw < batch) (hlt : saw ≤ 1099511627776) (hbp : 1 ≤ batch) (hbl : batch ≤ 1048576) (hsp : 1 ≤ saw) (hb1 : saw = 1) (hb : l.length ≤ 65) (W : World) (v : Value) (hR : Rds W v l) :
    Calls Tryd.prog 34 #[.int .i64 batch, v, uvl 1 worker 3 saw hand sum false ans] W fun e w' =>
      ∃ v', e = .returned (.tuple #[v', uvl 1 worker 4 saw 0 sum true 1, did 5 0 saw 0 true]) ∧ w'.ownsRow W.heap.size 39 1 v' l.length (wvs (l.set 0 0)) ∧ Moves [] W w' := by
  have hact0 := fun W' (hm : Moves [] W W') => act_hit l 0 saw 0 hx hb W' v (hR.moves hm (fun _ _ => by simp))
  have HA := Lib.hid hact0
  simp only [Int.cast_ofNat_Int] at HA
  have HB := Lib.hid hb
  have hnz : 0 < l.length := by have := (List.getElem?_eq_some_iff.1 hx).1; omega
  have hbd : (saw : Int) < (batch : Int) := by omega
  have hb2 : ((saw : Int) == 1) = true := by simp [hb1]
  clear hb1
  have hwk : (worker : Int) + 1 ≤ 65 := by omega
  clear hx how
  clear hact0 hR hb
  obtain ⟨n, hn⟩ : ∃ n, n = l.length := ⟨_, rfl⟩
  rw [← hn] at HA HB hnz ⊢
  have HN := Lib.hid hn
  clear hn
  have z1 : ¬ W.heap.size + 1 = W.heap.size := by omega
  have z2 : ¬ W.heap.size + 2 = W.heap.size := by omega
  have z3 : ¬ W.heap.size + 2 = W.heap.size + 1 := by omega
  have z4 : ¬ W.heap.size = W.heap.size + 1 := by omega
  have z5 : ¬ W.heap.size = W.heap.size + 2 := by omega
  have z6 : ¬ W.heap.size + 1 = W.heap.size + 2 := by omega
  simp only [uvl, did]
  go_enter Tryd.func34, Tryd.ntmps34
  go_wp2_with (go_at_call 35; go_must (refine (HA.out _ ?hM).mono ?_; (case hM => (repeat (first | with_reducible exact Moves.refl [] _ | with_reducible apply Moves.drew | with_reducible apply Moves.drewN | with_reducible apply Moves.alloc | fail))); rintro e w1 ⟨v', rfl, hown, hm⟩; (have hsz := hm.size); (simp only [World.size_alloc, World.size_drew] at hsz); (have u1 : Has w1 W.heap.size 41 #[.int .u8 1, .int .i64 (worker : Nat), .int .i64 3, .int .u64 (saw : Nat), .int .u64 (hand : Nat), .int .u64 (sum : Nat), .bool false, .int .i64 (ans : Nat)] := hm.has (by repeat (first | with_reducible apply Has.drew | (with_reducible refine Has.new' ?_; (solve | with_reducible rfl | simp)) | with_reducible apply Has.alloc | fail)) (by simp)); (have u2 : Has w1 (W.heap.size + 1) 41 #[.int .u8 0, .int .i64 0, .int .i64 0, .int .u64 0, .int .u64 0, .int .u64 0, .bool false, .int .i64 0] := hm.has (by repeat (first | with_reducible apply Has.drew | (with_reducible refine Has.new' ?_; (solve | with_reducible rfl | simp)) | with_reducible apply Has.alloc | fail)) (by simp)); (have u3 : Has w1 (W.heap.size + 2) 46 #[.int .u8 0, .int .i64 0, .int .u64 0, .int .u64 0, .bool false] := hm.has (by repeat (first | with_reducible apply Has.drew | (with_reducible refine Has.new' ?_; (solve | with_reducible rfl | simp)) | with_reducible apply Has.alloc | fail)) (by simp)); (have c1 := u1.cell); (have c2 := u2.cell); (have c3 := u3.cell); (have f1 := u1.frozen); (have f2 := u2.frozen); (have f3 := u3.frozen); (have y1 : ¬ W.heap.size = w1.heap.size := by omega); (have y2 : ¬ W.heap.size + 1 = w1.heap.size := by omega); (have y3 : ¬ W.heap.size + 2 = w1.heap.size := by omega); (have y4 : ¬ w1.heap.size = W.heap.size := by omega); (have y5 : ¬ w1.heap.size = W.heap.size + 1 := by omega); (have y6 : ¬ w1.heap.size = W.heap.size + 2 := by omega); simp only [did]))
  all_goals (obtain ⟨g, cap, rfl, hgb, hgl, _, _, _⟩ := own_at hown hnz; simp only [World.size_alloc, World.size_drew] at hgb)
  all_goals (have hm0 : Moves [] W w1 := Moves.trans (by repeat (first | with_reducible exact Moves.refl [] _ | with_reducible apply Moves.drew | with_reducible apply Moves.drewN | with_reducible apply Moves.alloc | fail)) hm (by simp))
  all_goals (have ho1 := own_base (base' := W.heap.size) hown (by simp; omega))
  all_goals (have hz1 := hm0.size)
  all_goals refine wp_named (fun wx => Has wx W.heap.size 41 #[.int .u8 1, .int .i64 (worker : Nat), .int .i64 4, .int .u64 (saw : Nat), .int .u64 0, .int .u64 (sum : Nat), .bool true, .int .i64 1] ∧ Has wx (W.heap.size + 1) 41 #[.int .u8 0, .int .i64 0, .int .i64 0, .int .u64 0, .int .u64 0, .int .u64 0, .bool false, .int .i64 0] ∧ Has wx (W.heap.size + 2) 46 #[.int .u8 0, .int .i64 0, .int .u64 0, .int .u64 0, .bool false] ∧ Has wx w1.heap.size 46 #[.int .u8 5, .int .i64 0, .int .u64 (saw : Nat), .int .u64 0, .bool true] ∧ wx.ownsRow W.heap.size 39 1 (.slice (some ⟨g, 0, none⟩) n cap) n (wvs (l.set 0 0)) ∧ Moves [] W wx) ⟨?_, ?_, ?_, ?_, ?_, ?_⟩ ?_
  · apply Has.of_eq
    case h => repeat (first | with_reducible assumption | (with_reducible refine Has.new' ?_; (solve | with_reducible rfl | simp)) | with_reducible apply Has.drew | with_reducible apply Has.alloc | with_reducible apply Has.put | (with_reducible apply Has.far'; (solve | assumption | simp | (simp; omega))) | fail)
    case e => rfl
  · repeat (first | with_reducible assumption | with_reducible apply Has.drew | with_reducible apply Has.alloc | (with_reducible apply Has.far'; (solve | assumption | simp | (simp; omega))) | fail)
  · repeat (first | with_reducible assumption | with_reducible apply Has.drew | with_reducible apply Has.alloc | (with_reducible apply Has.far'; (solve | assumption | simp | (simp; omega))) | fail)
  · apply Has.of_eq
    case h => repeat (first | (with_reducible refine Has.new' ?_; (solve | with_reducible rfl | simp)) | with_reducible apply Has.drew | (with_reducible apply Has.far'; (solve | assumption | simp | (simp; omega))) | fail)
    case e => rfl
  · repeat (first | with_reducible exact ho1 | with_reducible refine own_drew ?_ | with_reducible refine World.ownsRow.alloc ?_ _ | (with_reducible refine own_far ?_ ?_; rotate_left; (solve | simp | (simp; omega))) | fail)
  · repeat (first | with_reducible exact hm0 | with_reducible apply Moves.drew | with_reducible apply Moves.alloc | (with_reducible refine Moves.setNew ?_ ?_ _; rotate_left; (solve | simp | (simp; omega))) | fail)
  rintro wx ⟨x1, x2, x3, x4, xo, xm⟩
  have d1 := x1.cell
  have d2 := x2.cell
  have d3 := x3.cell
  have d4 := x4.cell
  have e1 := x1.frozen
  have e2 := x2.frozen
  have e3 := x3.frozen
  have e4 := x4.frozen
  clear c1 c2 c3 f1 f2 f3
  go_region
  all_goals go_wp2_with fail
  all_goals refine bodyPost_ret (v := .tuple #[.slice (some ⟨g, 0, none⟩) n cap, uvl 1 worker 4 saw 0 sum true 1, did 5 0 saw 0 true]) (by simp only [results, Tryd.results34, did, uvl]; go_simp) rfl ?_
  all_goals refine ⟨_, rfl, ?_, ?_⟩
  · repeat (first | with_reducible exact xo | with_reducible refine own_drew ?_ | (with_reducible refine own_far ?_ ?_; rotate_left; (solve | simp | (simp; omega))) | fail)
  · repeat (first | with_reducible exact xm | with_reducible apply Moves.drew | (with_reducible refine Moves.setNew ?_ ?_ _; rotate_left; (solve | simp | (simp; omega))) | fail)
set_option maxHeartbeats 2000000 in
set_option maxRecDepth 100000 in
theorem take3ks (l : List Nat) (batch worker saw hand sum ans : Nat) (how : worker + 1 ≤ 65) (hx : l[0]? = some saw) (hbt : saw < batch) (hlt : saw ≤ 1099511627776) (hbp : 1 ≤ batch) (hbl : batch ≤ 1048576) (hsp : 1 ≤ saw) (hb1 : saw ≠ 1) (hb : l.length ≤ 65) (W : World) (v : Value) (hR : Rds W v l) :
    Calls Tryd.prog 34 #[.int .i64 batch, v, uvl 1 worker 3 saw hand sum false ans] W fun e w' =>
      ∃ v', e = .returned (.tuple #[v', uvl 1 worker 4 saw saw sum false ans, did 5 0 saw 0 true]) ∧ w'.ownsRow W.heap.size 39 1 v' l.length (wvs (l.set 0 0)) ∧ Moves [] W w' := by
  have hact0 := fun W' (hm : Moves [] W W') => act_hit l 0 saw 0 hx hb W' v (hR.moves hm (fun _ _ => by simp))
  have HA := Lib.hid hact0
  simp only [Int.cast_ofNat_Int] at HA
  have HB := Lib.hid hb
  have hnz : 0 < l.length := by have := (List.getElem?_eq_some_iff.1 hx).1; omega
  have hbd : (saw : Int) < (batch : Int) := by omega
  have hb2 : ((saw : Int) == 1) = false := by simp; omega
  clear hb1
  have hwk : (worker : Int) + 1 ≤ 65 := by omega
  clear hx how
  clear hact0 hR hb
  obtain ⟨n, hn⟩ : ∃ n, n = l.length := ⟨_, rfl⟩
  rw [← hn] at HA HB hnz ⊢
  have HN := Lib.hid hn
  clear hn
  have z1 : ¬ W.heap.size + 1 = W.heap.size := by omega
  have z2 : ¬ W.heap.size + 2 = W.heap.size := by omega
  have z3 : ¬ W.heap.size + 2 = W.heap.size + 1 := by omega
  have z4 : ¬ W.heap.size = W.heap.size + 1 := by omega
  have z5 : ¬ W.heap.size = W.heap.size + 2 := by omega
  have z6 : ¬ W.heap.size + 1 = W.heap.size + 2 := by omega
  simp only [uvl, did]
  go_enter Tryd.func34, Tryd.ntmps34
  go_wp2_with (go_at_call 35; go_must (refine (HA.out _ ?hM).mono ?_; (case hM => (repeat (first | with_reducible exact Moves.refl [] _ | with_reducible apply Moves.drew | with_reducible apply Moves.drewN | with_reducible apply Moves.alloc | fail))); rintro e w1 ⟨v', rfl, hown, hm⟩; (have hsz := hm.size); (simp only [World.size_alloc, World.size_drew] at hsz); (have u1 : Has w1 W.heap.size 41 #[.int .u8 1, .int .i64 (worker : Nat), .int .i64 3, .int .u64 (saw : Nat), .int .u64 (hand : Nat), .int .u64 (sum : Nat), .bool false, .int .i64 (ans : Nat)] := hm.has (by repeat (first | with_reducible apply Has.drew | (with_reducible refine Has.new' ?_; (solve | with_reducible rfl | simp)) | with_reducible apply Has.alloc | fail)) (by simp)); (have u2 : Has w1 (W.heap.size + 1) 41 #[.int .u8 0, .int .i64 0, .int .i64 0, .int .u64 0, .int .u64 0, .int .u64 0, .bool false, .int .i64 0] := hm.has (by repeat (first | with_reducible apply Has.drew | (with_reducible refine Has.new' ?_; (solve | with_reducible rfl | simp)) | with_reducible apply Has.alloc | fail)) (by simp)); (have u3 : Has w1 (W.heap.size + 2) 46 #[.int .u8 0, .int .i64 0, .int .u64 0, .int .u64 0, .bool false] := hm.has (by repeat (first | with_reducible apply Has.drew | (with_reducible refine Has.new' ?_; (solve | with_reducible rfl | simp)) | with_reducible apply Has.alloc | fail)) (by simp)); (have c1 := u1.cell); (have c2 := u2.cell); (have c3 := u3.cell); (have f1 := u1.frozen); (have f2 := u2.frozen); (have f3 := u3.frozen); (have y1 : ¬ W.heap.size = w1.heap.size := by omega); (have y2 : ¬ W.heap.size + 1 = w1.heap.size := by omega); (have y3 : ¬ W.heap.size + 2 = w1.heap.size := by omega); (have y4 : ¬ w1.heap.size = W.heap.size := by omega); (have y5 : ¬ w1.heap.size = W.heap.size + 1 := by omega); (have y6 : ¬ w1.heap.size = W.heap.size + 2 := by omega); simp only [did]))
  all_goals (obtain ⟨g, cap, rfl, hgb, hgl, _, _, _⟩ := own_at hown hnz; simp only [World.size_alloc, World.size_drew] at hgb)
  all_goals (have hm0 : Moves [] W w1 := Moves.trans (by repeat (first | with_reducible exact Moves.refl [] _ | with_reducible apply Moves.drew | with_reducible apply Moves.drewN | with_reducible apply Moves.alloc | fail)) hm (by simp))
  all_goals (have ho1 := own_base (base' := W.heap.size) hown (by simp; omega))
  all_goals (have hz1 := hm0.size)
  all_goals refine wp_named (fun wx => Has wx W.heap.size 41 #[.int .u8 1, .int .i64 (worker : Nat), .int .i64 4, .int .u64 (saw : Nat), .int .u64 (saw : Nat), .int .u64 (sum : Nat), .bool false, .int .i64 (ans : Nat)] ∧ Has wx (W.heap.size + 1) 41 #[.int .u8 0, .int .i64 0, .int .i64 0, .int .u64 0, .int .u64 0, .int .u64 0, .bool false, .int .i64 0] ∧ Has wx (W.heap.size + 2) 46 #[.int .u8 0, .int .i64 0, .int .u64 0, .int .u64 0, .bool false] ∧ Has wx w1.heap.size 46 #[.int .u8 5, .int .i64 0, .int .u64 (saw : Nat), .int .u64 0, .bool true] ∧ wx.ownsRow W.heap.size 39 1 (.slice (some ⟨g, 0, none⟩) n cap) n (wvs (l.set 0 0)) ∧ Moves [] W wx) ⟨?_, ?_, ?_, ?_, ?_, ?_⟩ ?_
  · apply Has.of_eq
    case h => repeat (first | with_reducible assumption | (with_reducible refine Has.new' ?_; (solve | with_reducible rfl | simp)) | with_reducible apply Has.drew | with_reducible apply Has.alloc | with_reducible apply Has.put | (with_reducible apply Has.far'; (solve | assumption | simp | (simp; omega))) | fail)
    case e => rfl
  · repeat (first | with_reducible assumption | with_reducible apply Has.drew | with_reducible apply Has.alloc | (with_reducible apply Has.far'; (solve | assumption | simp | (simp; omega))) | fail)
  · repeat (first | with_reducible assumption | with_reducible apply Has.drew | with_reducible apply Has.alloc | (with_reducible apply Has.far'; (solve | assumption | simp | (simp; omega))) | fail)
  · apply Has.of_eq
    case h => repeat (first | (with_reducible refine Has.new' ?_; (solve | with_reducible rfl | simp)) | with_reducible apply Has.drew | (with_reducible apply Has.far'; (solve | assumption | simp | (simp; omega))) | fail)
    case e => rfl
  · repeat (first | with_reducible exact ho1 | with_reducible refine own_drew ?_ | with_reducible refine World.ownsRow.alloc ?_ _ | (with_reducible refine own_far ?_ ?_; rotate_left; (solve | simp | (simp; omega))) | fail)
  · repeat (first | with_reducible exact hm0 | with_reducible apply Moves.drew | with_reducible apply Moves.alloc | (with_reducible refine Moves.setNew ?_ ?_ _; rotate_left; (solve | simp | (simp; omega))) | fail)
  rintro wx ⟨x1, x2, x3, x4, xo, xm⟩
  have d1 := x1.cell
  have d2 := x2.cell
  have d3 := x3.cell
  have d4 := x4.cell
  have e1 := x1.frozen
  have e2 := x2.frozen
  have e3 := x3.frozen
  have e4 := x4.frozen
  clear c1 c2 c3 f1 f2 f3
  go_region
  all_goals go_wp2_with fail
  all_goals refine bodyPost_ret (v := .tuple #[.slice (some ⟨g, 0, none⟩) n cap, uvl 1 worker 4 saw saw sum false ans, did 5 0 saw 0 true]) (by simp only [results, Tryd.results34, did, uvl]; go_simp) rfl ?_
  all_goals refine ⟨_, rfl, ?_, ?_⟩
  · repeat (first | with_reducible exact xo | with_reducible refine own_drew ?_ | (with_reducible refine own_far ?_ ?_; rotate_left; (solve | simp | (simp; omega))) | fail)
  · repeat (first | with_reducible exact xm | with_reducible apply Moves.drew | (with_reducible refine Moves.setNew ?_ ?_ _; rotate_left; (solve | simp | (simp; omega))) | fail)
set_option maxHeartbeats 2000000 in
set_option maxRecDepth 100000 in
theorem take3mb (l : List Nat) (batch worker x y saw hand sum ans : Nat) (how : worker + 1 ≤ 65) (hx : l[0]? = some x) (hbt : batch ≤ saw) (hlt : saw ≤ 1099511627776) (hbp : 1 ≤ batch) (hbl : batch ≤ 1048576) (hsp : 1 ≤ saw) (hne : x ≠ saw) (hy : y + batch = saw) (hb : l.length ≤ 65) (W : World) (v : Value) (hR : Rds W v l) :
    Calls Tryd.prog 34 #[.int .i64 batch, v, uvl 1 worker 3 saw hand sum false ans] W fun e w' =>
      ∃ v', e = .returned (.tuple #[v', uvl 1 worker 2 saw hand sum false ans, did 5 0 x x false]) ∧ w'.ownsRow W.heap.size 39 1 v' l.length (wvs (l.set 0 x)) ∧ Moves [] W w' := by
  have hact0 := fun W' (hm : Moves [] W W') => act_miss l 0 x y saw hne hx hb W' v (hR.moves hm (fun _ _ => by simp))
  have HA := Lib.hid hact0
  have HB := Lib.hid hb
  have hnz : 0 < l.length := by have := (List.getElem?_eq_some_iff.1 hx).1; omega
  have hbd : ¬ ((saw : Int) < (batch : Int)) := by omega
  have E2 : Hid ((saw : Int) - (batch : Int) = (y : Int)) := Lib.hid (by omega)
  have hs0 : (batch : Int) ≤ (saw : Int) := by omega
  clear hy
  clear hne
  have hwk : (worker : Int) + 1 ≤ 65 := by omega
  clear hx how
  clear hact0 hR hb
  obtain ⟨n, hn⟩ : ∃ n, n = l.length := ⟨_, rfl⟩
  rw [← hn] at HA HB hnz ⊢
  have HN := Lib.hid hn
  clear hn
  have z1 : ¬ W.heap.size + 1 = W.heap.size := by omega
  have z2 : ¬ W.heap.size + 2 = W.heap.size := by omega
  have z3 : ¬ W.heap.size + 2 = W.heap.size + 1 := by omega
  have z4 : ¬ W.heap.size = W.heap.size + 1 := by omega
  have z5 : ¬ W.heap.size = W.heap.size + 2 := by omega
  have z6 : ¬ W.heap.size + 1 = W.heap.size + 2 := by omega
  simp only [uvl, did]
  go_enter Tryd.func34, Tryd.ntmps34
  go_wp2_with (go_at_call 35; (try rw [E2.out]); go_must (refine (HA.out _ ?hM).mono ?_; (case hM => (repeat (first | with_reducible exact Moves.refl [] _ | with_reducible apply Moves.drew | with_reducible apply Moves.drewN | with_reducible apply Moves.alloc | fail))); rintro e w1 ⟨v', rfl, hown, hm⟩; (have hsz := hm.size); (simp only [World.size_alloc, World.size_drew] at hsz); (have u1 : Has w1 W.heap.size 41 #[.int .u8 1, .int .i64 (worker : Nat), .int .i64 3, .int .u64 (saw : Nat), .int .u64 (hand : Nat), .int .u64 (sum : Nat), .bool false, .int .i64 (ans : Nat)] := hm.has (by repeat (first | with_reducible apply Has.drew | (with_reducible refine Has.new' ?_; (solve | with_reducible rfl | simp)) | with_reducible apply Has.alloc | fail)) (by simp)); (have u2 : Has w1 (W.heap.size + 1) 41 #[.int .u8 0, .int .i64 0, .int .i64 0, .int .u64 0, .int .u64 0, .int .u64 0, .bool false, .int .i64 0] := hm.has (by repeat (first | with_reducible apply Has.drew | (with_reducible refine Has.new' ?_; (solve | with_reducible rfl | simp)) | with_reducible apply Has.alloc | fail)) (by simp)); (have u3 : Has w1 (W.heap.size + 2) 46 #[.int .u8 0, .int .i64 0, .int .u64 0, .int .u64 0, .bool false] := hm.has (by repeat (first | with_reducible apply Has.drew | (with_reducible refine Has.new' ?_; (solve | with_reducible rfl | simp)) | with_reducible apply Has.alloc | fail)) (by simp)); (have c1 := u1.cell); (have c2 := u2.cell); (have c3 := u3.cell); (have f1 := u1.frozen); (have f2 := u2.frozen); (have f3 := u3.frozen); (have y1 : ¬ W.heap.size = w1.heap.size := by omega); (have y2 : ¬ W.heap.size + 1 = w1.heap.size := by omega); (have y3 : ¬ W.heap.size + 2 = w1.heap.size := by omega); (have y4 : ¬ w1.heap.size = W.heap.size := by omega); (have y5 : ¬ w1.heap.size = W.heap.size + 1 := by omega); (have y6 : ¬ w1.heap.size = W.heap.size + 2 := by omega); simp only [did]))
  all_goals (obtain ⟨g, cap, rfl, hgb, hgl, _, _, _⟩ := own_at hown hnz; simp only [World.size_alloc, World.size_drew] at hgb)
  all_goals (have hm0 : Moves [] W w1 := Moves.trans (by repeat (first | with_reducible exact Moves.refl [] _ | with_reducible apply Moves.drew | with_reducible apply Moves.drewN | with_reducible apply Moves.alloc | fail)) hm (by simp))
  all_goals (have ho1 := own_base (base' := W.heap.size) hown (by simp; omega))
  all_goals (have hz1 := hm0.size)
  all_goals refine wp_named (fun wx => Has wx W.heap.size 41 #[.int .u8 1, .int .i64 (worker : Nat), .int .i64 2, .int .u64 (saw : Nat), .int .u64 (hand : Nat), .int .u64 (sum : Nat), .bool false, .int .i64 (ans : Nat)] ∧ Has wx (W.heap.size + 1) 41 #[.int .u8 0, .int .i64 0, .int .i64 0, .int .u64 0, .int .u64 0, .int .u64 0, .bool false, .int .i64 0] ∧ Has wx (W.heap.size + 2) 46 #[.int .u8 0, .int .i64 0, .int .u64 0, .int .u64 0, .bool false] ∧ Has wx w1.heap.size 46 #[.int .u8 5, .int .i64 0, .int .u64 (x : Nat), .int .u64 (x : Nat), .bool false] ∧ wx.ownsRow W.heap.size 39 1 (.slice (some ⟨g, 0, none⟩) n cap) n (wvs (l.set 0 x)) ∧ Moves [] W wx) ⟨?_, ?_, ?_, ?_, ?_, ?_⟩ ?_
  · apply Has.of_eq
    case h => repeat (first | with_reducible assumption | (with_reducible refine Has.new' ?_; (solve | with_reducible rfl | simp)) | with_reducible apply Has.drew | with_reducible apply Has.alloc | with_reducible apply Has.put | (with_reducible apply Has.far'; (solve | assumption | simp | (simp; omega))) | fail)
    case e => rfl
  · repeat (first | with_reducible assumption | with_reducible apply Has.drew | with_reducible apply Has.alloc | (with_reducible apply Has.far'; (solve | assumption | simp | (simp; omega))) | fail)
  · repeat (first | with_reducible assumption | with_reducible apply Has.drew | with_reducible apply Has.alloc | (with_reducible apply Has.far'; (solve | assumption | simp | (simp; omega))) | fail)
  · apply Has.of_eq
    case h => repeat (first | (with_reducible refine Has.new' ?_; (solve | with_reducible rfl | simp)) | with_reducible apply Has.drew | (with_reducible apply Has.far'; (solve | assumption | simp | (simp; omega))) | fail)
    case e => rfl
  · repeat (first | with_reducible exact ho1 | with_reducible refine own_drew ?_ | with_reducible refine World.ownsRow.alloc ?_ _ | (with_reducible refine own_far ?_ ?_; rotate_left; (solve | simp | (simp; omega))) | fail)
  · repeat (first | with_reducible exact hm0 | with_reducible apply Moves.drew | with_reducible apply Moves.alloc | (with_reducible refine Moves.setNew ?_ ?_ _; rotate_left; (solve | simp | (simp; omega))) | fail)
  rintro wx ⟨x1, x2, x3, x4, xo, xm⟩
  have d1 := x1.cell
  have d2 := x2.cell
  have d3 := x3.cell
  have d4 := x4.cell
  have e1 := x1.frozen
  have e2 := x2.frozen
  have e3 := x3.frozen
  have e4 := x4.frozen
  clear c1 c2 c3 f1 f2 f3
  go_region
  all_goals go_wp2_with fail
  all_goals refine bodyPost_ret (v := .tuple #[.slice (some ⟨g, 0, none⟩) n cap, uvl 1 worker 2 saw hand sum false ans, did 5 0 x x false]) (by simp only [results, Tryd.results34, did, uvl]; go_simp) rfl ?_
  all_goals refine ⟨_, rfl, ?_, ?_⟩
  · repeat (first | with_reducible exact xo | with_reducible refine own_drew ?_ | (with_reducible refine own_far ?_ ?_; rotate_left; (solve | simp | (simp; omega))) | fail)
  · repeat (first | with_reducible exact xm | with_reducible apply Moves.drew | (with_reducible refine Moves.setNew ?_ ?_ _; rotate_left; (solve | simp | (simp; omega))) | fail)
set_option maxHeartbeats 2000000 in
set_option maxRecDepth 100000 in
theorem take3ob (l : List Nat) (batch worker y saw hand sum ans : Nat) (how : worker + 1 ≤ 65) (hx : l[0]? = some saw) (hbt : batch ≤ saw) (hlt : saw ≤ 1099511627776) (hbp : 1 ≤ batch) (hbl : batch ≤ 1048576) (hsp : 1 ≤ saw) (hb1 : batch = 1) (hy : y + batch = saw) (hb : l.length ≤ 65) (W : World) (v : Value) (hR : Rds W v l) :
    Calls Tryd.prog 34 #[.int .i64 batch, v, uvl 1 worker 3 saw hand sum false ans] W fun e w' =>
      ∃ v', e = .returned (.tuple #[v', uvl 1 worker 4 saw 0 sum true 1, did 5 0 saw y true]) ∧ w'.ownsRow W.heap.size 39 1 v' l.length (wvs (l.set 0 y)) ∧ Moves [] W w' := by
  have hact0 := fun W' (hm : Moves [] W W') => act_hit l 0 saw y hx hb W' v (hR.moves hm (fun _ _ => by simp))
  have HA := Lib.hid hact0
  have HB := Lib.hid hb
  have hnz : 0 < l.length := by have := (List.getElem?_eq_some_iff.1 hx).1; omega
  have hbd : ¬ ((saw : Int) < (batch : Int)) := by omega
  have E2 : Hid ((saw : Int) - (batch : Int) = (y : Int)) := Lib.hid (by omega)
  have hs0 : (batch : Int) ≤ (saw : Int) := by omega
  clear hy
  have hb2 : ((batch : Int) == 1) = true := by simp [hb1]
  clear hb1
  have hwk : (worker : Int) + 1 ≤ 65 := by omega
  clear hx how
  clear hact0 hR hb
  obtain ⟨n, hn⟩ : ∃ n, n = l.length := ⟨_, rfl⟩
  rw [← hn] at HA HB hnz ⊢
  have HN := Lib.hid hn
  clear hn
  have z1 : ¬ W.heap.size + 1 = W.heap.size := by omega
  have z2 : ¬ W.heap.size + 2 = W.heap.size := by omega
  have z3 : ¬ W.heap.size + 2 = W.heap.size + 1 := by omega
  have z4 : ¬ W.heap.size = W.heap.size + 1 := by omega
  have z5 : ¬ W.heap.size = W.heap.size + 2 := by omega
  have z6 : ¬ W.heap.size + 1 = W.heap.size + 2 := by omega
  simp only [uvl, did]
  go_enter Tryd.func34, Tryd.ntmps34
  go_wp2_with (go_at_call 35; (try rw [E2.out]); go_must (refine (HA.out _ ?hM).mono ?_; (case hM => (repeat (first | with_reducible exact Moves.refl [] _ | with_reducible apply Moves.drew | with_reducible apply Moves.drewN | with_reducible apply Moves.alloc | fail))); rintro e w1 ⟨v', rfl, hown, hm⟩; (have hsz := hm.size); (simp only [World.size_alloc, World.size_drew] at hsz); (have u1 : Has w1 W.heap.size 41 #[.int .u8 1, .int .i64 (worker : Nat), .int .i64 3, .int .u64 (saw : Nat), .int .u64 (hand : Nat), .int .u64 (sum : Nat), .bool false, .int .i64 (ans : Nat)] := hm.has (by repeat (first | with_reducible apply Has.drew | (with_reducible refine Has.new' ?_; (solve | with_reducible rfl | simp)) | with_reducible apply Has.alloc | fail)) (by simp)); (have u2 : Has w1 (W.heap.size + 1) 41 #[.int .u8 0, .int .i64 0, .int .i64 0, .int .u64 0, .int .u64 0, .int .u64 0, .bool false, .int .i64 0] := hm.has (by repeat (first | with_reducible apply Has.drew | (with_reducible refine Has.new' ?_; (solve | with_reducible rfl | simp)) | with_reducible apply Has.alloc | fail)) (by simp)); (have u3 : Has w1 (W.heap.size + 2) 46 #[.int .u8 0, .int .i64 0, .int .u64 0, .int .u64 0, .bool false] := hm.has (by repeat (first | with_reducible apply Has.drew | (with_reducible refine Has.new' ?_; (solve | with_reducible rfl | simp)) | with_reducible apply Has.alloc | fail)) (by simp)); (have c1 := u1.cell); (have c2 := u2.cell); (have c3 := u3.cell); (have f1 := u1.frozen); (have f2 := u2.frozen); (have f3 := u3.frozen); (have y1 : ¬ W.heap.size = w1.heap.size := by omega); (have y2 : ¬ W.heap.size + 1 = w1.heap.size := by omega); (have y3 : ¬ W.heap.size + 2 = w1.heap.size := by omega); (have y4 : ¬ w1.heap.size = W.heap.size := by omega); (have y5 : ¬ w1.heap.size = W.heap.size + 1 := by omega); (have y6 : ¬ w1.heap.size = W.heap.size + 2 := by omega); simp only [did]))
  all_goals (obtain ⟨g, cap, rfl, hgb, hgl, _, _, _⟩ := own_at hown hnz; simp only [World.size_alloc, World.size_drew] at hgb)
  all_goals (have hm0 : Moves [] W w1 := Moves.trans (by repeat (first | with_reducible exact Moves.refl [] _ | with_reducible apply Moves.drew | with_reducible apply Moves.drewN | with_reducible apply Moves.alloc | fail)) hm (by simp))
  all_goals (have ho1 := own_base (base' := W.heap.size) hown (by simp; omega))
  all_goals (have hz1 := hm0.size)
  all_goals refine wp_named (fun wx => Has wx W.heap.size 41 #[.int .u8 1, .int .i64 (worker : Nat), .int .i64 4, .int .u64 (saw : Nat), .int .u64 0, .int .u64 (sum : Nat), .bool true, .int .i64 1] ∧ Has wx (W.heap.size + 1) 41 #[.int .u8 0, .int .i64 0, .int .i64 0, .int .u64 0, .int .u64 0, .int .u64 0, .bool false, .int .i64 0] ∧ Has wx (W.heap.size + 2) 46 #[.int .u8 0, .int .i64 0, .int .u64 0, .int .u64 0, .bool false] ∧ Has wx w1.heap.size 46 #[.int .u8 5, .int .i64 0, .int .u64 (saw : Nat), .int .u64 (y : Nat), .bool true] ∧ wx.ownsRow W.heap.size 39 1 (.slice (some ⟨g, 0, none⟩) n cap) n (wvs (l.set 0 y)) ∧ Moves [] W wx) ⟨?_, ?_, ?_, ?_, ?_, ?_⟩ ?_
  · apply Has.of_eq
    case h => repeat (first | with_reducible assumption | (with_reducible refine Has.new' ?_; (solve | with_reducible rfl | simp)) | with_reducible apply Has.drew | with_reducible apply Has.alloc | with_reducible apply Has.put | (with_reducible apply Has.far'; (solve | assumption | simp | (simp; omega))) | fail)
    case e => rfl
  · repeat (first | with_reducible assumption | with_reducible apply Has.drew | with_reducible apply Has.alloc | (with_reducible apply Has.far'; (solve | assumption | simp | (simp; omega))) | fail)
  · repeat (first | with_reducible assumption | with_reducible apply Has.drew | with_reducible apply Has.alloc | (with_reducible apply Has.far'; (solve | assumption | simp | (simp; omega))) | fail)
  · apply Has.of_eq
    case h => repeat (first | (with_reducible refine Has.new' ?_; (solve | with_reducible rfl | simp)) | with_reducible apply Has.drew | (with_reducible apply Has.far'; (solve | assumption | simp | (simp; omega))) | fail)
    case e => rfl
  · repeat (first | with_reducible exact ho1 | with_reducible refine own_drew ?_ | with_reducible refine World.ownsRow.alloc ?_ _ | (with_reducible refine own_far ?_ ?_; rotate_left; (solve | simp | (simp; omega))) | fail)
  · repeat (first | with_reducible exact hm0 | with_reducible apply Moves.drew | with_reducible apply Moves.alloc | (with_reducible refine Moves.setNew ?_ ?_ _; rotate_left; (solve | simp | (simp; omega))) | fail)
  rintro wx ⟨x1, x2, x3, x4, xo, xm⟩
  have d1 := x1.cell
  have d2 := x2.cell
  have d3 := x3.cell
  have d4 := x4.cell
  have e1 := x1.frozen
  have e2 := x2.frozen
  have e3 := x3.frozen
  have e4 := x4.frozen
  clear c1 c2 c3 f1 f2 f3
  go_region
  all_goals go_wp2_with fail
  all_goals refine bodyPost_ret (v := .tuple #[.slice (some ⟨g, 0, none⟩) n cap, uvl 1 worker 4 saw 0 sum true 1, did 5 0 saw y true]) (by simp only [results, Tryd.results34, did, uvl]; go_simp) rfl ?_
  all_goals refine ⟨_, rfl, ?_, ?_⟩
  · repeat (first | with_reducible exact xo | with_reducible refine own_drew ?_ | (with_reducible refine own_far ?_ ?_; rotate_left; (solve | simp | (simp; omega))) | fail)
  · repeat (first | with_reducible exact xm | with_reducible apply Moves.drew | (with_reducible refine Moves.setNew ?_ ?_ _; rotate_left; (solve | simp | (simp; omega))) | fail)
set_option maxHeartbeats 2000000 in
set_option maxRecDepth 100000 in
theorem take3kb (l : List Nat) (batch worker y saw hand sum ans : Nat) (how : worker + 1 ≤ 65) (hx : l[0]? = some saw) (hbt : batch ≤ saw) (hlt : saw ≤ 1099511627776) (hbp : 1 ≤ batch) (hbl : batch ≤ 1048576) (hsp : 1 ≤ saw) (hb1 : batch ≠ 1) (hy : y + batch = saw) (hb : l.length ≤ 65) (W : World) (v : Value) (hR : Rds W v l) :
    Calls Tryd.prog 34 #[.int .i64 batch, v, uvl 1 worker 3 saw hand sum false ans] W fun e w' =>
      ∃ v', e = .returned (.tuple #[v', uvl 1 worker 4 saw batch sum false ans, did 5 0 saw y true]) ∧ w'.ownsRow W.heap.size 39 1 v' l.length (wvs (l.set 0 y)) ∧ Moves [] W w' := by
  have hact0 := fun W' (hm : Moves [] W W') => act_hit l 0 saw y hx hb W' v (hR.moves hm (fun _ _ => by simp))
  have HA := Lib.hid hact0
  have HB := Lib.hid hb
  have hnz : 0 < l.length := by have := (List.getElem?_eq_some_iff.1 hx).1; omega
  have hbd : ¬ ((saw : Int) < (batch : Int)) := by omega
  have E2 : Hid ((saw : Int) - (batch : Int) = (y : Int)) := Lib.hid (by omega)
  have hs0 : (batch : Int) ≤ (saw : Int) := by omega
  clear hy
  have hb2 : ((batch : Int) == 1) = false := by simp; omega
  clear hb1
  have hwk : (worker : Int) + 1 ≤ 65 := by omega
  clear hx how
  clear hact0 hR hb
  obtain ⟨n, hn⟩ : ∃ n, n = l.length := ⟨_, rfl⟩
  rw [← hn] at HA HB hnz ⊢
  have HN := Lib.hid hn
  clear hn
  have z1 : ¬ W.heap.size + 1 = W.heap.size := by omega
  have z2 : ¬ W.heap.size + 2 = W.heap.size := by omega
  have z3 : ¬ W.heap.size + 2 = W.heap.size + 1 := by omega
  have z4 : ¬ W.heap.size = W.heap.size + 1 := by omega
  have z5 : ¬ W.heap.size = W.heap.size + 2 := by omega
  have z6 : ¬ W.heap.size + 1 = W.heap.size + 2 := by omega
  simp only [uvl, did]
  go_enter Tryd.func34, Tryd.ntmps34
  go_wp2_with (go_at_call 35; (try rw [E2.out]); go_must (refine (HA.out _ ?hM).mono ?_; (case hM => (repeat (first | with_reducible exact Moves.refl [] _ | with_reducible apply Moves.drew | with_reducible apply Moves.drewN | with_reducible apply Moves.alloc | fail))); rintro e w1 ⟨v', rfl, hown, hm⟩; (have hsz := hm.size); (simp only [World.size_alloc, World.size_drew] at hsz); (have u1 : Has w1 W.heap.size 41 #[.int .u8 1, .int .i64 (worker : Nat), .int .i64 3, .int .u64 (saw : Nat), .int .u64 (hand : Nat), .int .u64 (sum : Nat), .bool false, .int .i64 (ans : Nat)] := hm.has (by repeat (first | with_reducible apply Has.drew | (with_reducible refine Has.new' ?_; (solve | with_reducible rfl | simp)) | with_reducible apply Has.alloc | fail)) (by simp)); (have u2 : Has w1 (W.heap.size + 1) 41 #[.int .u8 0, .int .i64 0, .int .i64 0, .int .u64 0, .int .u64 0, .int .u64 0, .bool false, .int .i64 0] := hm.has (by repeat (first | with_reducible apply Has.drew | (with_reducible refine Has.new' ?_; (solve | with_reducible rfl | simp)) | with_reducible apply Has.alloc | fail)) (by simp)); (have u3 : Has w1 (W.heap.size + 2) 46 #[.int .u8 0, .int .i64 0, .int .u64 0, .int .u64 0, .bool false] := hm.has (by repeat (first | with_reducible apply Has.drew | (with_reducible refine Has.new' ?_; (solve | with_reducible rfl | simp)) | with_reducible apply Has.alloc | fail)) (by simp)); (have c1 := u1.cell); (have c2 := u2.cell); (have c3 := u3.cell); (have f1 := u1.frozen); (have f2 := u2.frozen); (have f3 := u3.frozen); (have y1 : ¬ W.heap.size = w1.heap.size := by omega); (have y2 : ¬ W.heap.size + 1 = w1.heap.size := by omega); (have y3 : ¬ W.heap.size + 2 = w1.heap.size := by omega); (have y4 : ¬ w1.heap.size = W.heap.size := by omega); (have y5 : ¬ w1.heap.size = W.heap.size + 1 := by omega); (have y6 : ¬ w1.heap.size = W.heap.size + 2 := by omega); simp only [did]))
  all_goals (obtain ⟨g, cap, rfl, hgb, hgl, _, _, _⟩ := own_at hown hnz; simp only [World.size_alloc, World.size_drew] at hgb)
  all_goals (have hm0 : Moves [] W w1 := Moves.trans (by repeat (first | with_reducible exact Moves.refl [] _ | with_reducible apply Moves.drew | with_reducible apply Moves.drewN | with_reducible apply Moves.alloc | fail)) hm (by simp))
  all_goals (have ho1 := own_base (base' := W.heap.size) hown (by simp; omega))
  all_goals (have hz1 := hm0.size)
  all_goals refine wp_named (fun wx => Has wx W.heap.size 41 #[.int .u8 1, .int .i64 (worker : Nat), .int .i64 4, .int .u64 (saw : Nat), .int .u64 (batch : Nat), .int .u64 (sum : Nat), .bool false, .int .i64 (ans : Nat)] ∧ Has wx (W.heap.size + 1) 41 #[.int .u8 0, .int .i64 0, .int .i64 0, .int .u64 0, .int .u64 0, .int .u64 0, .bool false, .int .i64 0] ∧ Has wx (W.heap.size + 2) 46 #[.int .u8 0, .int .i64 0, .int .u64 0, .int .u64 0, .bool false] ∧ Has wx w1.heap.size 46 #[.int .u8 5, .int .i64 0, .int .u64 (saw : Nat), .int .u64 (y : Nat), .bool true] ∧ wx.ownsRow W.heap.size 39 1 (.slice (some ⟨g, 0, none⟩) n cap) n (wvs (l.set 0 y)) ∧ Moves [] W wx) ⟨?_, ?_, ?_, ?_, ?_, ?_⟩ ?_
  · apply Has.of_eq
    case h => repeat (first | with_reducible assumption | (with_reducible refine Has.new' ?_; (solve | with_reducible rfl | simp)) | with_reducible apply Has.drew | with_reducible apply Has.alloc | with_reducible apply Has.put | (with_reducible apply Has.far'; (solve | assumption | simp | (simp; omega))) | fail)
    case e => rfl
  · repeat (first | with_reducible assumption | with_reducible apply Has.drew | with_reducible apply Has.alloc | (with_reducible apply Has.far'; (solve | assumption | simp | (simp; omega))) | fail)
  · repeat (first | with_reducible assumption | with_reducible apply Has.drew | with_reducible apply Has.alloc | (with_reducible apply Has.far'; (solve | assumption | simp | (simp; omega))) | fail)
  · apply Has.of_eq
    case h => repeat (first | (with_reducible refine Has.new' ?_; (solve | with_reducible rfl | simp)) | with_reducible apply Has.drew | (with_reducible apply Has.far'; (solve | assumption | simp | (simp; omega))) | fail)
    case e => rfl
  · repeat (first | with_reducible exact ho1 | with_reducible refine own_drew ?_ | with_reducible refine World.ownsRow.alloc ?_ _ | (with_reducible refine own_far ?_ ?_; rotate_left; (solve | simp | (simp; omega))) | fail)
  · repeat (first | with_reducible exact hm0 | with_reducible apply Moves.drew | with_reducible apply Moves.alloc | (with_reducible refine Moves.setNew ?_ ?_ _; rotate_left; (solve | simp | (simp; omega))) | fail)
  rintro wx ⟨x1, x2, x3, x4, xo, xm⟩
  have d1 := x1.cell
  have d2 := x2.cell
  have d3 := x3.cell
  have d4 := x4.cell
  have e1 := x1.frozen
  have e2 := x2.frozen
  have e3 := x3.frozen
  have e4 := x4.frozen
  clear c1 c2 c3 f1 f2 f3
  go_region
  all_goals go_wp2_with fail
  all_goals refine bodyPost_ret (v := .tuple #[.slice (some ⟨g, 0, none⟩) n cap, uvl 1 worker 4 saw batch sum false ans, did 5 0 saw y true]) (by simp only [results, Tryd.results34, did, uvl]; go_simp) rfl ?_
  all_goals refine ⟨_, rfl, ?_, ?_⟩
  · repeat (first | with_reducible exact xo | with_reducible refine own_drew ?_ | (with_reducible refine own_far ?_ ?_; rotate_left; (solve | simp | (simp; omega))) | fail)
  · repeat (first | with_reducible exact xm | with_reducible apply Moves.drew | (with_reducible refine Moves.setNew ?_ ?_ _; rotate_left; (solve | simp | (simp; omega))) | fail)
set_option maxHeartbeats 2000000 in
set_option maxRecDepth 100000 in
theorem take4 (batch : Int) (l : List Nat) (worker own x y saw hand sum ans : Nat) (how : worker + 1 = own) (hx : l[own]? = some x) (hy : y + 1 = hand) (hlt : hand ≤ 1099511627776) (hxy : x + y ≤ 18446744073709551615) (hb : l.length ≤ 65) (W : World) (v : Value) (hR : Rds W v l) :
    Calls Tryd.prog 34 #[.int .i64 batch, v, uvl 1 worker 4 saw hand sum false ans] W fun e w' =>
      ∃ v', e = .returned (.tuple #[v', uvl 1 worker 4 saw 0 sum true 1, did 3 own x ((x + y : Nat) : Int) true]) ∧ w'.ownsRow W.heap.size 39 1 v' l.length (wvs (l.set own (x + y))) ∧ Moves [] W w' := by
  have hact0 := fun W' (hm : Moves [] W W') => act_add l own x y hxy hx hb W' v (hR.moves hm (fun _ _ => by simp))
  have HA := Lib.hid hact0
  have HB := Lib.hid hb
  have hnz : 0 < l.length := by have := (List.getElem?_eq_some_iff.1 hx).1; omega
  have E1 : Hid ((worker : Int) + 1 = (own : Int)) := Lib.hid (by omega)
  have hwk : (worker : Int) + 1 ≤ 65 := by have := (List.getElem?_eq_some_iff.1 hx).1; omega
  have E2 : Hid ((hand : Int) - 1 = (y : Int)) := Lib.hid (by omega)
  have hx1 : 1 ≤ (hand : Int) := by omega
  have hxy' : (x : Int) + (y : Int) ≤ 18446744073709551615 := by omega
  clear hy hxy
  clear hx how
  clear hact0 hR hb
  obtain ⟨n, hn⟩ : ∃ n, n = l.length := ⟨_, rfl⟩
  rw [← hn] at HA HB hnz ⊢
  have HN := Lib.hid hn
  clear hn
  have z1 : ¬ W.heap.size + 1 = W.heap.size := by omega
  have z2 : ¬ W.heap.size + 2 = W.heap.size := by omega
  have z3 : ¬ W.heap.size + 2 = W.heap.size + 1 := by omega
  have z4 : ¬ W.heap.size = W.heap.size + 1 := by omega
  have z5 : ¬ W.heap.size = W.heap.size + 2 := by omega
  have z6 : ¬ W.heap.size + 1 = W.heap.size + 2 := by omega
  simp only [uvl, did]
  go_enter Tryd.func34, Tryd.ntmps34
  go_wp2_with (go_at_call 35; (try rw [E1.out]); (try rw [E2.out]); go_must (refine (HA.out _ ?hM).mono ?_; (case hM => (repeat (first | with_reducible exact Moves.refl [] _ | with_reducible apply Moves.drew | with_reducible apply Moves.drewN | with_reducible apply Moves.alloc | fail))); rintro e w1 ⟨v', rfl, hown, hm⟩; (have hsz := hm.size); (simp only [World.size_alloc, World.size_drew] at hsz); (have u1 : Has w1 W.heap.size 41 #[.int .u8 1, .int .i64 (worker : Nat), .int .i64 4, .int .u64 (saw : Nat), .int .u64 (hand : Nat), .int .u64 (sum : Nat), .bool false, .int .i64 (ans : Nat)] := hm.has (by repeat (first | with_reducible apply Has.drew | (with_reducible refine Has.new' ?_; (solve | with_reducible rfl | simp)) | with_reducible apply Has.alloc | fail)) (by simp)); (have u2 : Has w1 (W.heap.size + 1) 41 #[.int .u8 0, .int .i64 0, .int .i64 0, .int .u64 0, .int .u64 0, .int .u64 0, .bool false, .int .i64 0] := hm.has (by repeat (first | with_reducible apply Has.drew | (with_reducible refine Has.new' ?_; (solve | with_reducible rfl | simp)) | with_reducible apply Has.alloc | fail)) (by simp)); (have u3 : Has w1 (W.heap.size + 2) 46 #[.int .u8 0, .int .i64 0, .int .u64 0, .int .u64 0, .bool false] := hm.has (by repeat (first | with_reducible apply Has.drew | (with_reducible refine Has.new' ?_; (solve | with_reducible rfl | simp)) | with_reducible apply Has.alloc | fail)) (by simp)); (have c1 := u1.cell); (have c2 := u2.cell); (have c3 := u3.cell); (have f1 := u1.frozen); (have f2 := u2.frozen); (have f3 := u3.frozen); (have y1 : ¬ W.heap.size = w1.heap.size := by omega); (have y2 : ¬ W.heap.size + 1 = w1.heap.size := by omega); (have y3 : ¬ W.heap.size + 2 = w1.heap.size := by omega); (have y4 : ¬ w1.heap.size = W.heap.size := by omega); (have y5 : ¬ w1.heap.size = W.heap.size + 1 := by omega); (have y6 : ¬ w1.heap.size = W.heap.size + 2 := by omega); simp only [did]))
  all_goals (obtain ⟨g, cap, rfl, hgb, hgl, _, _, _⟩ := own_at hown hnz; simp only [World.size_alloc, World.size_drew] at hgb)
  all_goals (have hm0 : Moves [] W w1 := Moves.trans (by repeat (first | with_reducible exact Moves.refl [] _ | with_reducible apply Moves.drew | with_reducible apply Moves.drewN | with_reducible apply Moves.alloc | fail)) hm (by simp))
  all_goals (have ho1 := own_base (base' := W.heap.size) hown (by simp; omega))
  all_goals (have hz1 := hm0.size)
  all_goals refine wp_named (fun wx => Has wx W.heap.size 41 #[.int .u8 1, .int .i64 (worker : Nat), .int .i64 4, .int .u64 (saw : Nat), .int .u64 0, .int .u64 (sum : Nat), .bool true, .int .i64 1] ∧ Has wx (W.heap.size + 1) 41 #[.int .u8 0, .int .i64 0, .int .i64 0, .int .u64 0, .int .u64 0, .int .u64 0, .bool false, .int .i64 0] ∧ Has wx (W.heap.size + 2) 46 #[.int .u8 0, .int .i64 0, .int .u64 0, .int .u64 0, .bool false] ∧ Has wx w1.heap.size 46 #[.int .u8 3, .int .i64 (own : Nat), .int .u64 (x : Nat), .int .u64 ((x + y : Nat) : Int), .bool true] ∧ wx.ownsRow W.heap.size 39 1 (.slice (some ⟨g, 0, none⟩) n cap) n (wvs (l.set own (x + y))) ∧ Moves [] W wx) ⟨?_, ?_, ?_, ?_, ?_, ?_⟩ ?_
  · apply Has.of_eq
    case h => repeat (first | with_reducible assumption | (with_reducible refine Has.new' ?_; (solve | with_reducible rfl | simp)) | with_reducible apply Has.drew | with_reducible apply Has.alloc | with_reducible apply Has.put | (with_reducible apply Has.far'; (solve | assumption | simp | (simp; omega))) | fail)
    case e => rfl
  · repeat (first | with_reducible assumption | with_reducible apply Has.drew | with_reducible apply Has.alloc | (with_reducible apply Has.far'; (solve | assumption | simp | (simp; omega))) | fail)
  · repeat (first | with_reducible assumption | with_reducible apply Has.drew | with_reducible apply Has.alloc | (with_reducible apply Has.far'; (solve | assumption | simp | (simp; omega))) | fail)
  · apply Has.of_eq
    case h => repeat (first | (with_reducible refine Has.new' ?_; (solve | with_reducible rfl | simp)) | with_reducible apply Has.drew | (with_reducible apply Has.far'; (solve | assumption | simp | (simp; omega))) | fail)
    case e => rfl
  · repeat (first | with_reducible exact ho1 | with_reducible refine own_drew ?_ | with_reducible refine World.ownsRow.alloc ?_ _ | (with_reducible refine own_far ?_ ?_; rotate_left; (solve | simp | (simp; omega))) | fail)
  · repeat (first | with_reducible exact hm0 | with_reducible apply Moves.drew | with_reducible apply Moves.alloc | (with_reducible refine Moves.setNew ?_ ?_ _; rotate_left; (solve | simp | (simp; omega))) | fail)
  rintro wx ⟨x1, x2, x3, x4, xo, xm⟩
  have d1 := x1.cell
  have d2 := x2.cell
  have d3 := x3.cell
  have d4 := x4.cell
  have e1 := x1.frozen
  have e2 := x2.frozen
  have e3 := x3.frozen
  have e4 := x4.frozen
  clear c1 c2 c3 f1 f2 f3
  go_region
  all_goals go_wp2_with fail
  all_goals refine bodyPost_ret (v := .tuple #[.slice (some ⟨g, 0, none⟩) n cap, uvl 1 worker 4 saw 0 sum true 1, did 3 own x ((x + y : Nat) : Int) true]) (by simp only [results, Tryd.results34, did, uvl]; go_simp) rfl ?_
  all_goals refine ⟨_, rfl, ?_, ?_⟩
  · repeat (first | with_reducible exact xo | with_reducible refine own_drew ?_ | (with_reducible refine own_far ?_ ?_; rotate_left; (solve | simp | (simp; omega))) | fail)
  · repeat (first | with_reducible exact xm | with_reducible apply Moves.drew | (with_reducible refine Moves.setNew ?_ ?_ _; rotate_left; (solve | simp | (simp; omega))) | fail)
end Go.Proofs.YtigacfgoldnoiaaDoor
