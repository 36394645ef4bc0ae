/- The machine of an operation under way; Step does one action of it. -/
import Derived.Test.YtigacfgoldnoiaaDoorA6
import Derived.Test.YtigacfgoldnoiaaDoorA8
namespace Go.Proofs.YtigacfgoldnoiaaDoor
open Go.RowKit
set_option linter.unusedVariables false
set_option linter.unusedSimpArgs false
attribute [local go_sem] World.cell?_alloc_old World.frozen?_alloc_old

/-- What an operation does next. -/
inductive Nx where
  | fin | look | use | pool | borrow | keep (b : Nat) | empty | give (x : Nat) | sum

/-- An operation under way. -/
structure Pn where
  nx : Nx
  own : Nat
  saw : Nat
  left : Nat
  ans : Nat

/-- What an action did. -/
structure Dd where
  kind : Nat
  cell : Nat
  saw : Nat
  put : Nat
  ok : Bool

def Dd.val (d : Dd) : Value := did d.kind d.cell d.saw d.put d.ok

/-- One action of an operation. -/
def qstep (batch n : Nat) (l : List Nat) (p : Pn) : List Nat × Pn × Dd :=
  match p.nx with
  | .fin => (l, p, ⟨0, 0, 0, 0, false⟩)
  | .look => if 0 < l.getD p.own 0 then (l, { p with nx := .use, saw := l.getD p.own 0 }, ⟨1, p.own, l.getD p.own 0, l.getD p.own 0, true⟩)
      else (l, { p with nx := .pool, saw := l.getD p.own 0 }, ⟨1, p.own, l.getD p.own 0, l.getD p.own 0, true⟩)
  | .use => if l.getD p.own 0 = p.saw then (l.set p.own (p.saw - 1), { p with nx := .fin, ans := 1 }, ⟨5, p.own, p.saw, p.saw - 1, true⟩)
      else (l, { p with nx := .look }, ⟨5, p.own, l.getD p.own 0, l.getD p.own 0, false⟩)
  | .pool => if 0 < l.getD 0 0 then (l, { p with nx := .borrow, saw := l.getD 0 0 }, ⟨1, 0, l.getD 0 0, l.getD 0 0, true⟩)
      else (l, { p with nx := .fin, saw := l.getD 0 0, ans := 0 }, ⟨1, 0, l.getD 0 0, l.getD 0 0, true⟩)
  | .borrow => if l.getD 0 0 = p.saw then
        (if min batch p.saw = 1 then (l.set 0 (p.saw - min batch p.saw), { p with nx := .fin, ans := 1 }, ⟨5, 0, p.saw, p.saw - min batch p.saw, true⟩)
         else (l.set 0 (p.saw - min batch p.saw), { p with nx := .keep (min batch p.saw) }, ⟨5, 0, p.saw, p.saw - min batch p.saw, true⟩))
      else (l, { p with nx := .pool }, ⟨5, 0, l.getD 0 0, l.getD 0 0, false⟩)
  | .keep b => (l.set p.own (l.getD p.own 0 + (b - 1)), { p with nx := .fin, ans := 1 }, ⟨3, p.own, l.getD p.own 0, l.getD p.own 0 + (b - 1), true⟩)
  | .empty => if l.getD p.own 0 = 0 then (l.set p.own 0, { p with nx := .fin, ans := 0 }, ⟨4, p.own, l.getD p.own 0, 0, true⟩)
      else (l.set p.own 0, { p with nx := .give (l.getD p.own 0) }, ⟨4, p.own, l.getD p.own 0, 0, true⟩)
  | .give x => (l.set 0 (l.getD 0 0 + x), { p with nx := .fin, ans := x }, ⟨3, 0, l.getD 0 0, l.getD 0 0 + x, true⟩)
  | .sum => if n < p.left + 1 then (l, { p with nx := .fin, left := p.left + 1, ans := p.ans + l.getD p.left 0 }, ⟨1, p.left, l.getD p.left 0, l.getD p.left 0, true⟩)
      else (l, { p with nx := .sum, left := p.left + 1, ans := p.ans + l.getD p.left 0 }, ⟨1, p.left, l.getD p.left 0, l.getD p.left 0, true⟩)

def Nx.ended : Nx → Bool
  | .fin => true
  | _ => false

/-- What keeps an action within the numbers' bounds. -/
def Wf (batch n : Nat) (l : List Nat) (p : Pn) : Prop :=
  1 ≤ batch ∧ n ≤ 64 ∧ p.own ≤ n ∧ (∀ i, l.getD i 0 ≤ 1099511627776) ∧
  match p.nx with
  | .use => 1 ≤ p.saw ∧ p.saw ≤ 1099511627776
  | .borrow => 1 ≤ p.saw ∧ p.saw ≤ 1099511627776
  | .keep b => 1 ≤ b ∧ l.getD p.own 0 + b ≤ 1099511627776
  | .give x => l.getD 0 0 + x ≤ 1099511627776
  | .sum => p.left ≤ n ∧ p.ans + l.getD p.left 0 ≤ 4611686018427387904
  | _ => True

/-- What an operation does next, as a value; and what that value has captured. -/
def NxAt (w : World) (bp own : Nat) : Nx → Value → Prop
  | .fin, f => f = .nilFunc
  | .look, f => f = mv 31 bp
  | .use, f => f = mv 44 bp
  | .pool, f => f = mv 42 bp
  | .borrow, f => f = mv 51 bp
  | .empty, f => f = mv 32 bp
  | .sum, f => f = mv 33 bp
  | .keep b, f => ∃ g1 g2, f = cl 54 g1 g2 ∧ Has w g1 32 #[.pointer (some ⟨bp, 0, none⟩)] ∧ Has w g2 39 #[.int .u64 b]
  | .give x, f => ∃ g1 g2, f = cl 46 g1 g2 ∧ Has w g1 32 #[.pointer (some ⟨bp, 0, none⟩)] ∧ Has w g2 46 #[.int .u8 4, .int .i64 own, .int .u64 x, .int .u64 0, .bool true]

/-- An operation under way lies at bp. -/
def PendAt (w : World) (bp bq : Nat) (p : Pn) : Prop := ∃ f, Has w bp 77 (pend bq p.own f p.saw p.left p.ans) ∧ NxAt w bp p.own p.nx f

theorem NxAt.moves {S : List Nat} {a w : World} {bp own : Nat} {nx : Nx} {f : Value} (h : NxAt a bp own nx f) (hm : Moves S a w)
    (hS : ∀ g cs, (Has a g 32 cs ∨ Has a g 39 cs ∨ Has a g 46 cs) → g ∉ S) : NxAt w bp own nx f := by
  cases nx <;> first
    | exact h
    | (obtain ⟨g1, g2, hf, h1, h2⟩ := h
       exact ⟨g1, g2, hf, hm.has h1 (hS g1 _ (.inl h1)), hm.has h2 (hS g2 _ (by first | exact .inr (.inl h2) | exact .inr (.inr h2)))⟩)
theorem PendAt.moves {S : List Nat} {a w : World} {bp bq : Nat} {p : Pn} (h : PendAt a bp bq p) (hm : Moves S a w)
    (hS : ∀ g cs, (Has a g 32 cs ∨ Has a g 39 cs ∨ Has a g 46 cs) → g ∉ S) (hbp : bp ∉ S) : PendAt w bp bq p := by
  obtain ⟨f, h1, h2⟩ := h
  exact ⟨f, hm.has h1 hbp, h2.moves hm hS⟩

theorem eqf (fn : Fn) (a c : Array Value) (w : World) : (binOp .eql 75 (.func fn a c) .nilFunc).run Tryd.prog w = .ok (.bool false) w := by kernel_rfl
theorem eqn (w : World) : (binOp .eql 75 .nilFunc .nilFunc).run Tryd.prog w = .ok (.bool true) w := by kernel_rfl
theorem nef (fn : Fn) (a c : Array Value) (w : World) : (binOp .neq 75 (.func fn a c) .nilFunc).run Tryd.prog w = .ok (.bool true) w := by kernel_rfl
theorem nen (w : World) : (binOp .neq 75 .nilFunc .nilFunc).run Tryd.prog w = .ok (.bool false) w := by kernel_rfl
theorem getD_of {l : List Nat} {i : Nat} (h : i < l.length) : l[i]? = some (l.getD i 0) := by simp [List.getD, h]

set_option maxRecDepth 100000 in
set_option maxHeartbeats 1000000 in
theorem step_look_some (bp bq bc bw batch n own saw left : Nat) (ans : Nat) (x : Nat) (l : List Nat) (w : World) (hP : Has w bp 77 (pend bq own (mv 31 bp) saw left ans))
    (hQ : Quo w bq bc bw batch n l) (hi : l[own]? = some x) (hx : 0 < x) :
    Calls Tryd.prog 17 #[.pointer (some ⟨bp, 0, none⟩)] w fun e w' => e = .returned (.tuple #[did 1 own x x true, .bool false]) ∧ Has w' bp 77 (pend bq own (mv 44 bp) x left ans) ∧ Has w' bw 99 (wds (l.set own x)) ∧ Moves [bp, bw] w w' := by
  have hPc := hP.cell
  simp only [pend, mv, cl] at hPc
  have hap := hQ.apart hP
  have hapw := hQ.apart_w
  have hlt := hP.lt
  have hwlt := hQ.m.lt
  have hHP := Lib.hid hP
  have nb0 : ¬ bp = w.heap.size := by omega
  have nb0' : ¬ w.heap.size = bp := by omega
  have lawf := eqf
  have lawn := eqn
  go_enter Tryd.func17, Tryd.ntmps17
  go_wp2_with (go_at_call 31; go_must (refine (look_some bp bq bc bw batch n own saw left ans _ l _ (hP.alloc _) (hQ.alloc _) x hi hx).mono ?_; rintro e w1 ⟨rfl, hP1, hw1, hm⟩; (have hsz := hm.size); (simp only [World.size_alloc] at hsz); (have hd1 : Has w1 w.heap.size 46 #[.int .u8 0, .int .i64 0, .int .u64 0, .int .u64 0, .bool false] := hm.has (Has.new' rfl) (by simp; omega)); (have h1c := hP1.cell); (simp only [pend, mv, cl] at h1c); (have d1c := hd1.cell); (have d1f := hd1.frozen); (have hmm : Moves [bp, bw] w w1 := ((Moves.refl [bp, bw] w).alloc _).trans hm (by simp)); (have ne1 : ¬ bp = w1.heap.size := by omega); (have ne1' : ¬ w1.heap.size = bp := by omega); (have ne2 : ¬ w.heap.size = w1.heap.size := by omega); (have ne2' : ¬ w1.heap.size = w.heap.size := by omega); simp only [did]))
  go_region
  all_goals go_wp2_with fail
  all_goals refine bodyPost_ret (v := .tuple #[did 1 own x x true, .bool false]) (by simp only [results, Tryd.results17, did]; go_simp) rfl ?_
  all_goals first | (solve | (refine ⟨rfl, ?_, ?_, ?_⟩; (all_goals first | (solve | (repeat (first | with_reducible exact hmm | with_reducible exact Moves.refl _ _ | with_reducible apply Moves.drew | with_reducible apply Moves.drewN | with_reducible apply Moves.alloc | (with_reducible refine Moves.setOld ?_ ?_ _; rotate_left; (solve | simp)) | (with_reducible refine Moves.setNew ?_ ?_ _; rotate_left; (solve | simp | (simp; omega))) | fail))) | (apply Has.of_eq; (case h => repeat (first | with_reducible assumption | (with_reducible refine Has.new' ?_; (solve | with_reducible rfl | simp)) | with_reducible apply Has.drew | with_reducible apply Has.drewN | with_reducible apply Has.alloc | with_reducible apply Has.put | (with_reducible apply Has.far'; (solve | assumption | simp | (simp; omega))) | fail)); (case e => rfl)))))
set_option maxRecDepth 100000 in
set_option maxHeartbeats 1000000 in
theorem step_look_none (bp bq bc bw batch n own saw left : Nat) (ans : Nat) (x : Nat) (l : List Nat) (w : World) (hP : Has w bp 77 (pend bq own (mv 31 bp) saw left ans))
    (hQ : Quo w bq bc bw batch n l) (hi : l[own]? = some x) (hx : ¬ 0 < x) :
    Calls Tryd.prog 17 #[.pointer (some ⟨bp, 0, none⟩)] w fun e w' => e = .returned (.tuple #[did 1 own x x true, .bool false]) ∧ Has w' bp 77 (pend bq own (mv 42 bp) x left ans) ∧ Has w' bw 99 (wds (l.set own x)) ∧ Moves [bp, bw] w w' := by
  have hPc := hP.cell
  simp only [pend, mv, cl] at hPc
  have hap := hQ.apart hP
  have hapw := hQ.apart_w
  have hlt := hP.lt
  have hwlt := hQ.m.lt
  have hHP := Lib.hid hP
  have nb0 : ¬ bp = w.heap.size := by omega
  have nb0' : ¬ w.heap.size = bp := by omega
  have lawf := eqf
  have lawn := eqn
  go_enter Tryd.func17, Tryd.ntmps17
  go_wp2_with (go_at_call 31; go_must (refine (look_none bp bq bc bw batch n own saw left ans _ l _ (hP.alloc _) (hQ.alloc _) x hi hx).mono ?_; rintro e w1 ⟨rfl, hP1, hw1, hm⟩; (have hsz := hm.size); (simp only [World.size_alloc] at hsz); (have hd1 : Has w1 w.heap.size 46 #[.int .u8 0, .int .i64 0, .int .u64 0, .int .u64 0, .bool false] := hm.has (Has.new' rfl) (by simp; omega)); (have h1c := hP1.cell); (simp only [pend, mv, cl] at h1c); (have d1c := hd1.cell); (have d1f := hd1.frozen); (have hmm : Moves [bp, bw] w w1 := ((Moves.refl [bp, bw] w).alloc _).trans hm (by simp)); (have ne1 : ¬ bp = w1.heap.size := by omega); (have ne1' : ¬ w1.heap.size = bp := by omega); (have ne2 : ¬ w.heap.size = w1.heap.size := by omega); (have ne2' : ¬ w1.heap.size = w.heap.size := by omega); simp only [did]))
  go_region
  all_goals go_wp2_with fail
  all_goals refine bodyPost_ret (v := .tuple #[did 1 own x x true, .bool false]) (by simp only [results, Tryd.results17, did]; go_simp) rfl ?_
  all_goals first | (solve | (refine ⟨rfl, ?_, ?_, ?_⟩; (all_goals first | (solve | (repeat (first | with_reducible exact hmm | with_reducible exact Moves.refl _ _ | with_reducible apply Moves.drew | with_reducible apply Moves.drewN | with_reducible apply Moves.alloc | (with_reducible refine Moves.setOld ?_ ?_ _; rotate_left; (solve | simp)) | (with_reducible refine Moves.setNew ?_ ?_ _; rotate_left; (solve | simp | (simp; omega))) | fail))) | (apply Has.of_eq; (case h => repeat (first | with_reducible assumption | (with_reducible refine Has.new' ?_; (solve | with_reducible rfl | simp)) | with_reducible apply Has.drew | with_reducible apply Has.drewN | with_reducible apply Has.alloc | with_reducible apply Has.put | (with_reducible apply Has.far'; (solve | assumption | simp | (simp; omega))) | fail)); (case e => rfl)))))
set_option maxRecDepth 100000 in
set_option maxHeartbeats 1000000 in
theorem step_use_hit (bp bq bc bw batch n own saw left : Nat) (ans : Nat) (x : Nat) (l : List Nat) (w : World) (hP : Has w bp 77 (pend bq own (mv 44 bp) saw left ans))
    (hQ : Quo w bq bc bw batch n l) (hi : l[own]? = some saw) (hx : x + 1 = saw) (hb : saw ≤ 1099511627776) :
    Calls Tryd.prog 17 #[.pointer (some ⟨bp, 0, none⟩)] w fun e w' => e = .returned (.tuple #[did 5 own saw x true, .bool true]) ∧ Has w' bp 77 (pend bq own (Value.nilFunc) saw left (1 : Nat)) ∧ Has w' bw 99 (wds (l.set own x)) ∧ Moves [bp, bw] w w' := by
  have hPc := hP.cell
  simp only [pend, mv, cl] at hPc
  have hap := hQ.apart hP
  have hapw := hQ.apart_w
  have hlt := hP.lt
  have hwlt := hQ.m.lt
  have hHP := Lib.hid hP
  have nb0 : ¬ bp = w.heap.size := by omega
  have nb0' : ¬ w.heap.size = bp := by omega
  have lawf := eqf
  have lawn := eqn
  go_enter Tryd.func17, Tryd.ntmps17
  go_wp2_with (go_at_call 44; go_must (refine (use_hit bp bq bc bw batch n own saw left ans _ l _ (hP.alloc _) (hQ.alloc _) x hi hx hb).mono ?_; rintro e w1 ⟨rfl, hP1, hw1, hm⟩; (have hsz := hm.size); (simp only [World.size_alloc] at hsz); (have hd1 : Has w1 w.heap.size 46 #[.int .u8 0, .int .i64 0, .int .u64 0, .int .u64 0, .bool false] := hm.has (Has.new' rfl) (by simp; omega)); (have h1c := hP1.cell); (simp only [pend, mv, cl] at h1c); (have d1c := hd1.cell); (have d1f := hd1.frozen); (have hmm : Moves [bp, bw] w w1 := ((Moves.refl [bp, bw] w).alloc _).trans hm (by simp)); (have ne1 : ¬ bp = w1.heap.size := by omega); (have ne1' : ¬ w1.heap.size = bp := by omega); (have ne2 : ¬ w.heap.size = w1.heap.size := by omega); (have ne2' : ¬ w1.heap.size = w.heap.size := by omega); simp only [did]))
  go_region
  all_goals go_wp2_with fail
  all_goals refine bodyPost_ret (v := .tuple #[did 5 own saw x true, .bool true]) (by simp only [results, Tryd.results17, did]; go_simp) rfl ?_
  all_goals first | (solve | (refine ⟨rfl, ?_, ?_, ?_⟩; (all_goals first | (solve | (repeat (first | with_reducible exact hmm | with_reducible exact Moves.refl _ _ | with_reducible apply Moves.drew | with_reducible apply Moves.drewN | with_reducible apply Moves.alloc | (with_reducible refine Moves.setOld ?_ ?_ _; rotate_left; (solve | simp)) | (with_reducible refine Moves.setNew ?_ ?_ _; rotate_left; (solve | simp | (simp; omega))) | fail))) | (apply Has.of_eq; (case h => repeat (first | with_reducible assumption | (with_reducible refine Has.new' ?_; (solve | with_reducible rfl | simp)) | with_reducible apply Has.drew | with_reducible apply Has.drewN | with_reducible apply Has.alloc | with_reducible apply Has.put | (with_reducible apply Has.far'; (solve | assumption | simp | (simp; omega))) | fail)); (case e => rfl)))))
set_option maxRecDepth 100000 in
set_option maxHeartbeats 1000000 in
theorem step_use_miss (bp bq bc bw batch n own saw left : Nat) (ans : Nat) (x z : Nat) (l : List Nat) (w : World) (hP : Has w bp 77 (pend bq own (mv 44 bp) saw left ans))
    (hQ : Quo w bq bc bw batch n l) (hi : l[own]? = some z) (hz : z ≠ saw) (hx : x + 1 = saw) (hb : saw ≤ 1099511627776) :
    Calls Tryd.prog 17 #[.pointer (some ⟨bp, 0, none⟩)] w fun e w' => e = .returned (.tuple #[did 5 own z z false, .bool false]) ∧ Has w' bp 77 (pend bq own (mv 31 bp) saw left ans) ∧ Has w' bw 99 (wds (l.set own z)) ∧ Moves [bp, bw] w w' := by
  have hPc := hP.cell
  simp only [pend, mv, cl] at hPc
  have hap := hQ.apart hP
  have hapw := hQ.apart_w
  have hlt := hP.lt
  have hwlt := hQ.m.lt
  have hHP := Lib.hid hP
  have nb0 : ¬ bp = w.heap.size := by omega
  have nb0' : ¬ w.heap.size = bp := by omega
  have lawf := eqf
  have lawn := eqn
  go_enter Tryd.func17, Tryd.ntmps17
  go_wp2_with (go_at_call 44; go_must (refine (use_miss bp bq bc bw batch n own saw left ans _ l _ (hP.alloc _) (hQ.alloc _) x z hi hz hx hb).mono ?_; rintro e w1 ⟨rfl, hP1, hw1, hm⟩; (have hsz := hm.size); (simp only [World.size_alloc] at hsz); (have hd1 : Has w1 w.heap.size 46 #[.int .u8 0, .int .i64 0, .int .u64 0, .int .u64 0, .bool false] := hm.has (Has.new' rfl) (by simp; omega)); (have h1c := hP1.cell); (simp only [pend, mv, cl] at h1c); (have d1c := hd1.cell); (have d1f := hd1.frozen); (have hmm : Moves [bp, bw] w w1 := ((Moves.refl [bp, bw] w).alloc _).trans hm (by simp)); (have ne1 : ¬ bp = w1.heap.size := by omega); (have ne1' : ¬ w1.heap.size = bp := by omega); (have ne2 : ¬ w.heap.size = w1.heap.size := by omega); (have ne2' : ¬ w1.heap.size = w.heap.size := by omega); simp only [did]))
  go_region
  all_goals go_wp2_with fail
  all_goals refine bodyPost_ret (v := .tuple #[did 5 own z z false, .bool false]) (by simp only [results, Tryd.results17, did]; go_simp) rfl ?_
  all_goals first | (solve | (refine ⟨rfl, ?_, ?_, ?_⟩; (all_goals first | (solve | (repeat (first | with_reducible exact hmm | with_reducible exact Moves.refl _ _ | with_reducible apply Moves.drew | with_reducible apply Moves.drewN | with_reducible apply Moves.alloc | (with_reducible refine Moves.setOld ?_ ?_ _; rotate_left; (solve | simp)) | (with_reducible refine Moves.setNew ?_ ?_ _; rotate_left; (solve | simp | (simp; omega))) | fail))) | (apply Has.of_eq; (case h => repeat (first | with_reducible assumption | (with_reducible refine Has.new' ?_; (solve | with_reducible rfl | simp)) | with_reducible apply Has.drew | with_reducible apply Has.drewN | with_reducible apply Has.alloc | with_reducible apply Has.put | (with_reducible apply Has.far'; (solve | assumption | simp | (simp; omega))) | fail)); (case e => rfl)))))
set_option maxRecDepth 100000 in
set_option maxHeartbeats 1000000 in
theorem step_pool_some (bp bq bc bw batch n own saw left : Nat) (ans : Nat) (x : Nat) (l : List Nat) (w : World) (hP : Has w bp 77 (pend bq own (mv 42 bp) saw left ans))
    (hQ : Quo w bq bc bw batch n l) (hi : l[0]? = some x) (hx : 0 < x) :
    Calls Tryd.prog 17 #[.pointer (some ⟨bp, 0, none⟩)] w fun e w' => e = .returned (.tuple #[did 1 0 x x true, .bool false]) ∧ Has w' bp 77 (pend bq own (mv 51 bp) x left ans) ∧ Has w' bw 99 (wds (l.set 0 x)) ∧ Moves [bp, bw] w w' := by
  have hPc := hP.cell
  simp only [pend, mv, cl] at hPc
  have hap := hQ.apart hP
  have hapw := hQ.apart_w
  have hlt := hP.lt
  have hwlt := hQ.m.lt
  have hHP := Lib.hid hP
  have nb0 : ¬ bp = w.heap.size := by omega
  have nb0' : ¬ w.heap.size = bp := by omega
  have lawf := eqf
  have lawn := eqn
  go_enter Tryd.func17, Tryd.ntmps17
  go_wp2_with (go_at_call 42; go_must (refine (pool_some bp bq bc bw batch n own saw left ans _ l _ (hP.alloc _) (hQ.alloc _) x hi hx).mono ?_; rintro e w1 ⟨rfl, hP1, hw1, hm⟩; (have hsz := hm.size); (simp only [World.size_alloc] at hsz); (have hd1 : Has w1 w.heap.size 46 #[.int .u8 0, .int .i64 0, .int .u64 0, .int .u64 0, .bool false] := hm.has (Has.new' rfl) (by simp; omega)); (have h1c := hP1.cell); (simp only [pend, mv, cl] at h1c); (have d1c := hd1.cell); (have d1f := hd1.frozen); (have hmm : Moves [bp, bw] w w1 := ((Moves.refl [bp, bw] w).alloc _).trans hm (by simp)); (have ne1 : ¬ bp = w1.heap.size := by omega); (have ne1' : ¬ w1.heap.size = bp := by omega); (have ne2 : ¬ w.heap.size = w1.heap.size := by omega); (have ne2' : ¬ w1.heap.size = w.heap.size := by omega); simp only [did]))
  go_region
  all_goals go_wp2_with fail
  all_goals refine bodyPost_ret (v := .tuple #[did 1 0 x x true, .bool false]) (by simp only [results, Tryd.results17, did]; go_simp) rfl ?_
  all_goals first | (solve | (refine ⟨rfl, ?_, ?_, ?_⟩; (all_goals first | (solve | (repeat (first | with_reducible exact hmm | with_reducible exact Moves.refl _ _ | with_reducible apply Moves.drew | with_reducible apply Moves.drewN | with_reducible apply Moves.alloc | (with_reducible refine Moves.setOld ?_ ?_ _; rotate_left; (solve | simp)) | (with_reducible refine Moves.setNew ?_ ?_ _; rotate_left; (solve | simp | (simp; omega))) | fail))) | (apply Has.of_eq; (case h => repeat (first | with_reducible assumption | (with_reducible refine Has.new' ?_; (solve | with_reducible rfl | simp)) | with_reducible apply Has.drew | with_reducible apply Has.drewN | with_reducible apply Has.alloc | with_reducible apply Has.put | (with_reducible apply Has.far'; (solve | assumption | simp | (simp; omega))) | fail)); (case e => rfl)))))
set_option maxRecDepth 100000 in
set_option maxHeartbeats 1000000 in
theorem step_pool_none (bp bq bc bw batch n own saw left : Nat) (ans : Nat) (x : Nat) (l : List Nat) (w : World) (hP : Has w bp 77 (pend bq own (mv 42 bp) saw left ans))
    (hQ : Quo w bq bc bw batch n l) (hi : l[0]? = some x) (hx : ((x : Int) == 0) = true) :
    Calls Tryd.prog 17 #[.pointer (some ⟨bp, 0, none⟩)] w fun e w' => e = .returned (.tuple #[did 1 0 x x true, .bool true]) ∧ Has w' bp 77 (pend bq own (Value.nilFunc) x left (0 : Nat)) ∧ Has w' bw 99 (wds (l.set 0 x)) ∧ Moves [bp, bw] w w' := by
  have hPc := hP.cell
  simp only [pend, mv, cl] at hPc
  have hap := hQ.apart hP
  have hapw := hQ.apart_w
  have hlt := hP.lt
  have hwlt := hQ.m.lt
  have hHP := Lib.hid hP
  have nb0 : ¬ bp = w.heap.size := by omega
  have nb0' : ¬ w.heap.size = bp := by omega
  have lawf := eqf
  have lawn := eqn
  go_enter Tryd.func17, Tryd.ntmps17
  go_wp2_with (go_at_call 42; go_must (refine (pool_none bp bq bc bw batch n own saw left ans _ l _ (hP.alloc _) (hQ.alloc _) x hi hx).mono ?_; rintro e w1 ⟨rfl, hP1, hw1, hm⟩; (have hsz := hm.size); (simp only [World.size_alloc] at hsz); (have hd1 : Has w1 w.heap.size 46 #[.int .u8 0, .int .i64 0, .int .u64 0, .int .u64 0, .bool false] := hm.has (Has.new' rfl) (by simp; omega)); (have h1c := hP1.cell); (simp only [pend, mv, cl] at h1c); (have d1c := hd1.cell); (have d1f := hd1.frozen); (have hmm : Moves [bp, bw] w w1 := ((Moves.refl [bp, bw] w).alloc _).trans hm (by simp)); (have ne1 : ¬ bp = w1.heap.size := by omega); (have ne1' : ¬ w1.heap.size = bp := by omega); (have ne2 : ¬ w.heap.size = w1.heap.size := by omega); (have ne2' : ¬ w1.heap.size = w.heap.size := by omega); simp only [did]))
  go_region
  all_goals go_wp2_with fail
  all_goals refine bodyPost_ret (v := .tuple #[did 1 0 x x true, .bool true]) (by simp only [results, Tryd.results17, did]; go_simp) rfl ?_
  all_goals first | (solve | (refine ⟨rfl, ?_, ?_, ?_⟩; (all_goals first | (solve | (repeat (first | with_reducible exact hmm | with_reducible exact Moves.refl _ _ | with_reducible apply Moves.drew | with_reducible apply Moves.drewN | with_reducible apply Moves.alloc | (with_reducible refine Moves.setOld ?_ ?_ _; rotate_left; (solve | simp)) | (with_reducible refine Moves.setNew ?_ ?_ _; rotate_left; (solve | simp | (simp; omega))) | fail))) | (apply Has.of_eq; (case h => repeat (first | with_reducible assumption | (with_reducible refine Has.new' ?_; (solve | with_reducible rfl | simp)) | with_reducible apply Has.drew | with_reducible apply Has.drewN | with_reducible apply Has.alloc | with_reducible apply Has.put | (with_reducible apply Has.far'; (solve | assumption | simp | (simp; omega))) | fail)); (case e => rfl)))))
set_option maxRecDepth 100000 in
set_option maxHeartbeats 1000000 in
theorem step_borrow_miss_s (bp bq bc bw batch n own saw left : Nat) (ans : Nat) (z : Nat) (l : List Nat) (w : World) (hP : Has w bp 77 (pend bq own (mv 51 bp) saw left ans))
    (hQ : Quo w bq bc bw batch n l) (hi : l[0]? = some z) (hz : z ≠ saw) (hc : saw < batch) (hs : saw ≤ 1099511627776) (h1 : 1 ≤ saw) :
    Calls Tryd.prog 17 #[.pointer (some ⟨bp, 0, none⟩)] w fun e w' => e = .returned (.tuple #[did 5 0 z z false, .bool false]) ∧ Has w' bp 77 (pend bq own (mv 42 bp) saw left ans) ∧ Has w' bw 99 (wds (l.set 0 z)) ∧ Moves [bp, bw] w w' := by
  have hPc := hP.cell
  simp only [pend, mv, cl] at hPc
  have hap := hQ.apart hP
  have hapw := hQ.apart_w
  have hlt := hP.lt
  have hwlt := hQ.m.lt
  have hHP := Lib.hid hP
  have nb0 : ¬ bp = w.heap.size := by omega
  have nb0' : ¬ w.heap.size = bp := by omega
  have lawf := eqf
  have lawn := eqn
  go_enter Tryd.func17, Tryd.ntmps17
  go_wp2_with (go_at_call 51; go_must (refine (borrow_miss_s bp bq bc bw batch n own saw left z ans _ l _ (hP.alloc _) (hQ.alloc _) hi hz hc hs h1).mono ?_; rintro e w1 ⟨rfl, hP1, hw1, hm⟩; (have hsz := hm.size); (simp only [World.size_alloc] at hsz); (have hd1 : Has w1 w.heap.size 46 #[.int .u8 0, .int .i64 0, .int .u64 0, .int .u64 0, .bool false] := hm.has (Has.new' rfl) (by simp; omega)); (have h1c := hP1.cell); (simp only [pend, mv, cl] at h1c); (have d1c := hd1.cell); (have d1f := hd1.frozen); (have hmm : Moves [bp, bw] w w1 := ((Moves.refl [bp, bw] w).alloc _).trans hm (by simp)); (have ne1 : ¬ bp = w1.heap.size := by omega); (have ne1' : ¬ w1.heap.size = bp := by omega); (have ne2 : ¬ w.heap.size = w1.heap.size := by omega); (have ne2' : ¬ w1.heap.size = w.heap.size := by omega); simp only [did]))
  go_region
  all_goals go_wp2_with fail
  all_goals refine bodyPost_ret (v := .tuple #[did 5 0 z z false, .bool false]) (by simp only [results, Tryd.results17, did]; go_simp) rfl ?_
  all_goals first | (solve | (refine ⟨rfl, ?_, ?_, ?_⟩; (all_goals first | (solve | (repeat (first | with_reducible exact hmm | with_reducible exact Moves.refl _ _ | with_reducible apply Moves.drew | with_reducible apply Moves.drewN | with_reducible apply Moves.alloc | (with_reducible refine Moves.setOld ?_ ?_ _; rotate_left; (solve | simp)) | (with_reducible refine Moves.setNew ?_ ?_ _; rotate_left; (solve | simp | (simp; omega))) | fail))) | (apply Has.of_eq; (case h => repeat (first | with_reducible assumption | (with_reducible refine Has.new' ?_; (solve | with_reducible rfl | simp)) | with_reducible apply Has.drew | with_reducible apply Has.drewN | with_reducible apply Has.alloc | with_reducible apply Has.put | (with_reducible apply Has.far'; (solve | assumption | simp | (simp; omega))) | fail)); (case e => rfl)))))
set_option maxRecDepth 100000 in
set_option maxHeartbeats 1000000 in
theorem step_borrow_one_s (bp bq bc bw batch n own saw left : Nat) (ans : Nat) (l : List Nat) (w : World) (hP : Has w bp 77 (pend bq own (mv 51 bp) saw left ans))
    (hQ : Quo w bq bc bw batch n l) (hi : l[0]? = some saw) (hc : saw < batch) (hs : saw ≤ 1099511627776) (h1 : 1 ≤ saw) (hb1 : ((saw : Int) == 1) = true) :
    Calls Tryd.prog 17 #[.pointer (some ⟨bp, 0, none⟩)] w fun e w' => e = .returned (.tuple #[did 5 0 saw (saw - saw : Nat) true, .bool true]) ∧ Has w' bp 77 (pend bq own (Value.nilFunc) saw left (1 : Nat)) ∧ Has w' bw 99 (wds (l.set 0 (saw - saw))) ∧ Moves [bp, bw] w w' := by
  have hPc := hP.cell
  simp only [pend, mv, cl] at hPc
  have hap := hQ.apart hP
  have hapw := hQ.apart_w
  have hlt := hP.lt
  have hwlt := hQ.m.lt
  have hHP := Lib.hid hP
  have nb0 : ¬ bp = w.heap.size := by omega
  have nb0' : ¬ w.heap.size = bp := by omega
  have lawf := eqf
  have lawn := eqn
  go_enter Tryd.func17, Tryd.ntmps17
  go_wp2_with (go_at_call 51; go_must (refine (borrow_one_s bp bq bc bw batch n own saw left ans _ l _ (hP.alloc _) (hQ.alloc _) hi hc hs h1 hb1).mono ?_; rintro e w1 ⟨rfl, hP1, hw1, hm⟩; (have hsz := hm.size); (simp only [World.size_alloc] at hsz); (have hd1 : Has w1 w.heap.size 46 #[.int .u8 0, .int .i64 0, .int .u64 0, .int .u64 0, .bool false] := hm.has (Has.new' rfl) (by simp; omega)); (have h1c := hP1.cell); (simp only [pend, mv, cl] at h1c); (have d1c := hd1.cell); (have d1f := hd1.frozen); (have hmm : Moves [bp, bw] w w1 := ((Moves.refl [bp, bw] w).alloc _).trans hm (by simp)); (have ne1 : ¬ bp = w1.heap.size := by omega); (have ne1' : ¬ w1.heap.size = bp := by omega); (have ne2 : ¬ w.heap.size = w1.heap.size := by omega); (have ne2' : ¬ w1.heap.size = w.heap.size := by omega); simp only [did]))
  go_region
  all_goals go_wp2_with fail
  all_goals refine bodyPost_ret (v := .tuple #[did 5 0 saw (saw - saw : Nat) true, .bool true]) (by simp only [results, Tryd.results17, did]; go_simp) rfl ?_
  all_goals first | (solve | (refine ⟨rfl, ?_, ?_, ?_⟩; (all_goals first | (solve | (repeat (first | with_reducible exact hmm | with_reducible exact Moves.refl _ _ | with_reducible apply Moves.drew | with_reducible apply Moves.drewN | with_reducible apply Moves.alloc | (with_reducible refine Moves.setOld ?_ ?_ _; rotate_left; (solve | simp)) | (with_reducible refine Moves.setNew ?_ ?_ _; rotate_left; (solve | simp | (simp; omega))) | fail))) | (apply Has.of_eq; (case h => repeat (first | with_reducible assumption | (with_reducible refine Has.new' ?_; (solve | with_reducible rfl | simp)) | with_reducible apply Has.drew | with_reducible apply Has.drewN | with_reducible apply Has.alloc | with_reducible apply Has.put | (with_reducible apply Has.far'; (solve | assumption | simp | (simp; omega))) | fail)); (case e => rfl)))))
set_option maxRecDepth 100000 in
set_option maxHeartbeats 1000000 in
theorem step_borrow_more_s (bp bq bc bw batch n own saw left : Nat) (ans : Nat) (l : List Nat) (w : World) (hP : Has w bp 77 (pend bq own (mv 51 bp) saw left ans))
    (hQ : Quo w bq bc bw batch n l) (hi : l[0]? = some saw) (hc : saw < batch) (hs : saw ≤ 1099511627776) (h1 : 1 ≤ saw) (hb1 : ((saw : Int) == 1) = false) :
    Calls Tryd.prog 17 #[.pointer (some ⟨bp, 0, none⟩)] w fun e w' => e = .returned (.tuple #[did 5 0 saw (saw - saw : Nat) true, .bool false]) ∧ ∃ g1 g2, Has w' bp 77 (pend bq own (cl 54 g1 g2) saw left ans) ∧ Has w' g1 32 #[.pointer (some ⟨bp, 0, none⟩)] ∧ Has w' g2 39 #[.int .u64 saw] ∧ Has w' bw 99 (wds (l.set 0 (saw - saw))) ∧ Moves [bp, bw] w w' := by
  have hPc := hP.cell
  simp only [pend, mv, cl] at hPc
  have hap := hQ.apart hP
  have hapw := hQ.apart_w
  have hlt := hP.lt
  have hwlt := hQ.m.lt
  have hHP := Lib.hid hP
  have nb0 : ¬ bp = w.heap.size := by omega
  have nb0' : ¬ w.heap.size = bp := by omega
  have lawf := eqf
  have lawn := eqn
  go_enter Tryd.func17, Tryd.ntmps17
  go_wp2_with (go_at_call 51; go_must (refine (borrow_more_s bp bq bc bw batch n own saw left ans _ l _ (hP.alloc _) (hQ.alloc _) hi hc hs h1 hb1).mono ?_; rintro e w1 ⟨rfl, g1, g2, hP1, hG1, hG2, hw1, hm⟩; (have nG1 : ¬ g1 = w.heap.size := hG1.ne_type (hm.has (Has.new' rfl : Has (w.alloc _) w.heap.size 46 _) (by simp; omega)) (by decide)); (have nG2 : ¬ g2 = w.heap.size := hG2.ne_type (hm.has (Has.new' rfl : Has (w.alloc _) w.heap.size 46 _) (by simp; omega)) (by decide)); (have hsz := hm.size); (simp only [World.size_alloc] at hsz); (have hd1 : Has w1 w.heap.size 46 #[.int .u8 0, .int .i64 0, .int .u64 0, .int .u64 0, .bool false] := hm.has (Has.new' rfl) (by simp; omega)); (have h1c := hP1.cell); (simp only [pend, mv, cl] at h1c); (have d1c := hd1.cell); (have d1f := hd1.frozen); (have hmm : Moves [bp, bw] w w1 := ((Moves.refl [bp, bw] w).alloc _).trans hm (by simp)); (have ne1 : ¬ bp = w1.heap.size := by omega); (have ne1' : ¬ w1.heap.size = bp := by omega); (have ne2 : ¬ w.heap.size = w1.heap.size := by omega); (have ne2' : ¬ w1.heap.size = w.heap.size := by omega); simp only [did]))
  go_region
  all_goals go_wp2_with fail
  all_goals refine bodyPost_ret (v := .tuple #[did 5 0 saw (saw - saw : Nat) true, .bool false]) (by simp only [results, Tryd.results17, did]; go_simp) rfl ?_
  all_goals first | (solve | (refine ⟨rfl, g1, g2, ?_, ?_, ?_, ?_, ?_⟩; (all_goals first | (solve | (repeat (first | with_reducible exact hmm | with_reducible exact Moves.refl _ _ | with_reducible apply Moves.drew | with_reducible apply Moves.drewN | with_reducible apply Moves.alloc | (with_reducible refine Moves.setOld ?_ ?_ _; rotate_left; (solve | simp)) | (with_reducible refine Moves.setNew ?_ ?_ _; rotate_left; (solve | simp | (simp; omega))) | fail))) | (apply Has.of_eq; (case h => repeat (first | with_reducible assumption | (with_reducible refine Has.new' ?_; (solve | with_reducible rfl | simp)) | with_reducible apply Has.drew | with_reducible apply Has.drewN | with_reducible apply Has.alloc | with_reducible apply Has.put | (with_reducible apply Has.far'; (solve | assumption | simp | (simp; omega))) | fail)); (case e => rfl)))))
set_option maxRecDepth 100000 in
set_option maxHeartbeats 1000000 in
theorem step_borrow_miss_b (bp bq bc bw batch n own saw left : Nat) (ans : Nat) (z : Nat) (l : List Nat) (w : World) (hP : Has w bp 77 (pend bq own (mv 51 bp) saw left ans))
    (hQ : Quo w bq bc bw batch n l) (hi : l[0]? = some z) (hz : z ≠ saw) (hc : batch ≤ saw) (hs : saw ≤ 1099511627776) (h1 : 1 ≤ batch) :
    Calls Tryd.prog 17 #[.pointer (some ⟨bp, 0, none⟩)] w fun e w' => e = .returned (.tuple #[did 5 0 z z false, .bool false]) ∧ Has w' bp 77 (pend bq own (mv 42 bp) saw left ans) ∧ Has w' bw 99 (wds (l.set 0 z)) ∧ Moves [bp, bw] w w' := by
  have hPc := hP.cell
  simp only [pend, mv, cl] at hPc
  have hap := hQ.apart hP
  have hapw := hQ.apart_w
  have hlt := hP.lt
  have hwlt := hQ.m.lt
  have hHP := Lib.hid hP
  have nb0 : ¬ bp = w.heap.size := by omega
  have nb0' : ¬ w.heap.size = bp := by omega
  have lawf := eqf
  have lawn := eqn
  go_enter Tryd.func17, Tryd.ntmps17
  go_wp2_with (go_at_call 51; go_must (refine (borrow_miss_b bp bq bc bw batch n own saw left z ans _ l _ (hP.alloc _) (hQ.alloc _) hi hz hc hs h1).mono ?_; rintro e w1 ⟨rfl, hP1, hw1, hm⟩; (have hsz := hm.size); (simp only [World.size_alloc] at hsz); (have hd1 : Has w1 w.heap.size 46 #[.int .u8 0, .int .i64 0, .int .u64 0, .int .u64 0, .bool false] := hm.has (Has.new' rfl) (by simp; omega)); (have h1c := hP1.cell); (simp only [pend, mv, cl] at h1c); (have d1c := hd1.cell); (have d1f := hd1.frozen); (have hmm : Moves [bp, bw] w w1 := ((Moves.refl [bp, bw] w).alloc _).trans hm (by simp)); (have ne1 : ¬ bp = w1.heap.size := by omega); (have ne1' : ¬ w1.heap.size = bp := by omega); (have ne2 : ¬ w.heap.size = w1.heap.size := by omega); (have ne2' : ¬ w1.heap.size = w.heap.size := by omega); simp only [did]))
  go_region
  all_goals go_wp2_with fail
  all_goals refine bodyPost_ret (v := .tuple #[did 5 0 z z false, .bool false]) (by simp only [results, Tryd.results17, did]; go_simp) rfl ?_
  all_goals first | (solve | (refine ⟨rfl, ?_, ?_, ?_⟩; (all_goals first | (solve | (repeat (first | with_reducible exact hmm | with_reducible exact Moves.refl _ _ | with_reducible apply Moves.drew | with_reducible apply Moves.drewN | with_reducible apply Moves.alloc | (with_reducible refine Moves.setOld ?_ ?_ _; rotate_left; (solve | simp)) | (with_reducible refine Moves.setNew ?_ ?_ _; rotate_left; (solve | simp | (simp; omega))) | fail))) | (apply Has.of_eq; (case h => repeat (first | with_reducible assumption | (with_reducible refine Has.new' ?_; (solve | with_reducible rfl | simp)) | with_reducible apply Has.drew | with_reducible apply Has.drewN | with_reducible apply Has.alloc | with_reducible apply Has.put | (with_reducible apply Has.far'; (solve | assumption | simp | (simp; omega))) | fail)); (case e => rfl)))))
set_option maxRecDepth 100000 in
set_option maxHeartbeats 1000000 in
theorem step_borrow_one_b (bp bq bc bw batch n own saw left : Nat) (ans : Nat) (l : List Nat) (w : World) (hP : Has w bp 77 (pend bq own (mv 51 bp) saw left ans))
    (hQ : Quo w bq bc bw batch n l) (hi : l[0]? = some saw) (hc : batch ≤ saw) (hs : saw ≤ 1099511627776) (h1 : 1 ≤ batch) (hb1 : ((batch : Int) == 1) = true) :
    Calls Tryd.prog 17 #[.pointer (some ⟨bp, 0, none⟩)] w fun e w' => e = .returned (.tuple #[did 5 0 saw (saw - batch : Nat) true, .bool true]) ∧ Has w' bp 77 (pend bq own (Value.nilFunc) saw left (1 : Nat)) ∧ Has w' bw 99 (wds (l.set 0 (saw - batch))) ∧ Moves [bp, bw] w w' := by
  have hPc := hP.cell
  simp only [pend, mv, cl] at hPc
  have hap := hQ.apart hP
  have hapw := hQ.apart_w
  have hlt := hP.lt
  have hwlt := hQ.m.lt
  have hHP := Lib.hid hP
  have nb0 : ¬ bp = w.heap.size := by omega
  have nb0' : ¬ w.heap.size = bp := by omega
  have lawf := eqf
  have lawn := eqn
  go_enter Tryd.func17, Tryd.ntmps17
  go_wp2_with (go_at_call 51; go_must (refine (borrow_one_b bp bq bc bw batch n own saw left ans _ l _ (hP.alloc _) (hQ.alloc _) hi hc hs h1 hb1).mono ?_; rintro e w1 ⟨rfl, hP1, hw1, hm⟩; (have hsz := hm.size); (simp only [World.size_alloc] at hsz); (have hd1 : Has w1 w.heap.size 46 #[.int .u8 0, .int .i64 0, .int .u64 0, .int .u64 0, .bool false] := hm.has (Has.new' rfl) (by simp; omega)); (have h1c := hP1.cell); (simp only [pend, mv, cl] at h1c); (have d1c := hd1.cell); (have d1f := hd1.frozen); (have hmm : Moves [bp, bw] w w1 := ((Moves.refl [bp, bw] w).alloc _).trans hm (by simp)); (have ne1 : ¬ bp = w1.heap.size := by omega); (have ne1' : ¬ w1.heap.size = bp := by omega); (have ne2 : ¬ w.heap.size = w1.heap.size := by omega); (have ne2' : ¬ w1.heap.size = w.heap.size := by omega); simp only [did]))
  go_region
  all_goals go_wp2_with fail
  all_goals refine bodyPost_ret (v := .tuple #[did 5 0 saw (saw - batch : Nat) true, .bool true]) (by simp only [results, Tryd.results17, did]; go_simp) rfl ?_
  all_goals first | (solve | (refine ⟨rfl, ?_, ?_, ?_⟩; (all_goals first | (solve | (repeat (first | with_reducible exact hmm | with_reducible exact Moves.refl _ _ | with_reducible apply Moves.drew | with_reducible apply Moves.drewN | with_reducible apply Moves.alloc | (with_reducible refine Moves.setOld ?_ ?_ _; rotate_left; (solve | simp)) | (with_reducible refine Moves.setNew ?_ ?_ _; rotate_left; (solve | simp | (simp; omega))) | fail))) | (apply Has.of_eq; (case h => repeat (first | with_reducible assumption | (with_reducible refine Has.new' ?_; (solve | with_reducible rfl | simp)) | with_reducible apply Has.drew | with_reducible apply Has.drewN | with_reducible apply Has.alloc | with_reducible apply Has.put | (with_reducible apply Has.far'; (solve | assumption | simp | (simp; omega))) | fail)); (case e => rfl)))))
set_option maxRecDepth 100000 in
set_option maxHeartbeats 1000000 in
theorem step_borrow_more_b (bp bq bc bw batch n own saw left : Nat) (ans : Nat) (l : List Nat) (w : World) (hP : Has w bp 77 (pend bq own (mv 51 bp) saw left ans))
    (hQ : Quo w bq bc bw batch n l) (hi : l[0]? = some saw) (hc : batch ≤ saw) (hs : saw ≤ 1099511627776) (h1 : 1 ≤ batch) (hb1 : ((batch : Int) == 1) = false) :
    Calls Tryd.prog 17 #[.pointer (some ⟨bp, 0, none⟩)] w fun e w' => e = .returned (.tuple #[did 5 0 saw (saw - batch : Nat) true, .bool false]) ∧ ∃ g1 g2, Has w' bp 77 (pend bq own (cl 54 g1 g2) saw left ans) ∧ Has w' g1 32 #[.pointer (some ⟨bp, 0, none⟩)] ∧ Has w' g2 39 #[.int .u64 batch] ∧ Has w' bw 99 (wds (l.set 0 (saw - batch))) ∧ Moves [bp, bw] w w' := by
  have hPc := hP.cell
  simp only [pend, mv, cl] at hPc
  have hap := hQ.apart hP
  have hapw := hQ.apart_w
  have hlt := hP.lt
  have hwlt := hQ.m.lt
  have hHP := Lib.hid hP
  have nb0 : ¬ bp = w.heap.size := by omega
  have nb0' : ¬ w.heap.size = bp := by omega
  have lawf := eqf
  have lawn := eqn
  go_enter Tryd.func17, Tryd.ntmps17
  go_wp2_with (go_at_call 51; go_must (refine (borrow_more_b bp bq bc bw batch n own saw left ans _ l _ (hP.alloc _) (hQ.alloc _) hi hc hs h1 hb1).mono ?_; rintro e w1 ⟨rfl, g1, g2, hP1, hG1, hG2, hw1, hm⟩; (have nG1 : ¬ g1 = w.heap.size := hG1.ne_type (hm.has (Has.new' rfl : Has (w.alloc _) w.heap.size 46 _) (by simp; omega)) (by decide)); (have nG2 : ¬ g2 = w.heap.size := hG2.ne_type (hm.has (Has.new' rfl : Has (w.alloc _) w.heap.size 46 _) (by simp; omega)) (by decide)); (have hsz := hm.size); (simp only [World.size_alloc] at hsz); (have hd1 : Has w1 w.heap.size 46 #[.int .u8 0, .int .i64 0, .int .u64 0, .int .u64 0, .bool false] := hm.has (Has.new' rfl) (by simp; omega)); (have h1c := hP1.cell); (simp only [pend, mv, cl] at h1c); (have d1c := hd1.cell); (have d1f := hd1.frozen); (have hmm : Moves [bp, bw] w w1 := ((Moves.refl [bp, bw] w).alloc _).trans hm (by simp)); (have ne1 : ¬ bp = w1.heap.size := by omega); (have ne1' : ¬ w1.heap.size = bp := by omega); (have ne2 : ¬ w.heap.size = w1.heap.size := by omega); (have ne2' : ¬ w1.heap.size = w.heap.size := by omega); simp only [did]))
  go_region
  all_goals go_wp2_with fail
  all_goals refine bodyPost_ret (v := .tuple #[did 5 0 saw (saw - batch : Nat) true, .bool false]) (by simp only [results, Tryd.results17, did]; go_simp) rfl ?_
  all_goals first | (solve | (refine ⟨rfl, g1, g2, ?_, ?_, ?_, ?_, ?_⟩; (all_goals first | (solve | (repeat (first | with_reducible exact hmm | with_reducible exact Moves.refl _ _ | with_reducible apply Moves.drew | with_reducible apply Moves.drewN | with_reducible apply Moves.alloc | (with_reducible refine Moves.setOld ?_ ?_ _; rotate_left; (solve | simp)) | (with_reducible refine Moves.setNew ?_ ?_ _; rotate_left; (solve | simp | (simp; omega))) | fail))) | (apply Has.of_eq; (case h => repeat (first | with_reducible assumption | (with_reducible refine Has.new' ?_; (solve | with_reducible rfl | simp)) | with_reducible apply Has.drew | with_reducible apply Has.drewN | with_reducible apply Has.alloc | with_reducible apply Has.put | (with_reducible apply Has.far'; (solve | assumption | simp | (simp; omega))) | fail)); (case e => rfl)))))
set_option maxRecDepth 100000 in
set_option maxHeartbeats 1000000 in
theorem step_keep (bp bq bc bw batch n own saw left : Nat) (ans : Nat) (b y g1 g2 : Nat) (l : List Nat) (w : World) (hP : Has w bp 77 (pend bq own (cl 54 g1 g2) saw left ans))
    (hQ : Quo w bq bc bw batch n l) (hg1 : Has w g1 32 #[.pointer (some ⟨bp, 0, none⟩)]) (hg2 : Has w g2 39 #[.int .u64 b]) (hi : l[own]? = some y) (h1 : 1 ≤ b) (hb : y + b ≤ 1099511627776) :
    Calls Tryd.prog 17 #[.pointer (some ⟨bp, 0, none⟩)] w fun e w' => e = .returned (.tuple #[did 3 own y (y + (b - 1) : Nat) true, .bool true]) ∧ Has w' bp 77 (pend bq own (Value.nilFunc) saw left (1 : Nat)) ∧ Has w' bw 99 (wds (l.set own (y + (b - 1)))) ∧ Moves [bp, bw] w w' := by
  have hPc := hP.cell
  simp only [pend, mv, cl] at hPc
  have hap := hQ.apart hP
  have hapw := hQ.apart_w
  have hlt := hP.lt
  have hwlt := hQ.m.lt
  have hHP := Lib.hid hP
  have nb0 : ¬ bp = w.heap.size := by omega
  have nb0' : ¬ w.heap.size = bp := by omega
  have lawf := eqf
  have lawn := eqn
  go_enter Tryd.func17, Tryd.ntmps17
  go_wp2_with (go_at_call 54; go_must (refine (keep bp bq bc bw batch n own saw left b y ans _ l _ (hP.alloc _) (hQ.alloc _) g1 g2 (hg1.alloc _) (hg2.alloc _) hi h1 hb).mono ?_; rintro e w1 ⟨rfl, hP1, hw1, hm⟩; (have hsz := hm.size); (simp only [World.size_alloc] at hsz); (have hd1 : Has w1 w.heap.size 46 #[.int .u8 0, .int .i64 0, .int .u64 0, .int .u64 0, .bool false] := hm.has (Has.new' rfl) (by simp; omega)); (have h1c := hP1.cell); (simp only [pend, mv, cl] at h1c); (have d1c := hd1.cell); (have d1f := hd1.frozen); (have hmm : Moves [bp, bw] w w1 := ((Moves.refl [bp, bw] w).alloc _).trans hm (by simp)); (have ne1 : ¬ bp = w1.heap.size := by omega); (have ne1' : ¬ w1.heap.size = bp := by omega); (have ne2 : ¬ w.heap.size = w1.heap.size := by omega); (have ne2' : ¬ w1.heap.size = w.heap.size := by omega); simp only [did]))
  go_region
  all_goals go_wp2_with fail
  all_goals refine bodyPost_ret (v := .tuple #[did 3 own y (y + (b - 1) : Nat) true, .bool true]) (by simp only [results, Tryd.results17, did]; go_simp) rfl ?_
  all_goals first | (solve | (refine ⟨rfl, ?_, ?_, ?_⟩; (all_goals first | (solve | (repeat (first | with_reducible exact hmm | with_reducible exact Moves.refl _ _ | with_reducible apply Moves.drew | with_reducible apply Moves.drewN | with_reducible apply Moves.alloc | (with_reducible refine Moves.setOld ?_ ?_ _; rotate_left; (solve | simp)) | (with_reducible refine Moves.setNew ?_ ?_ _; rotate_left; (solve | simp | (simp; omega))) | fail))) | (apply Has.of_eq; (case h => repeat (first | with_reducible assumption | (with_reducible refine Has.new' ?_; (solve | with_reducible rfl | simp)) | with_reducible apply Has.drew | with_reducible apply Has.drewN | with_reducible apply Has.alloc | with_reducible apply Has.put | (with_reducible apply Has.far'; (solve | assumption | simp | (simp; omega))) | fail)); (case e => rfl)))))
set_option maxRecDepth 100000 in
set_option maxHeartbeats 1000000 in
theorem step_give (bp bq bc bw batch n own saw left : Nat) (ans : Nat) (x y g1 g2 : Nat) (l : List Nat) (w : World) (hP : Has w bp 77 (pend bq own (cl 46 g1 g2) saw left ans))
    (hQ : Quo w bq bc bw batch n l) (hg1 : Has w g1 32 #[.pointer (some ⟨bp, 0, none⟩)]) (hg2 : Has w g2 46 #[.int .u8 4, .int .i64 own, .int .u64 x, .int .u64 0, .bool true]) (hi : l[0]? = some y) (hb : y + x ≤ 1099511627776) :
    Calls Tryd.prog 17 #[.pointer (some ⟨bp, 0, none⟩)] w fun e w' => e = .returned (.tuple #[did 3 0 y (y + x : Nat) true, .bool true]) ∧ Has w' bp 77 (pend bq own (Value.nilFunc) saw left x) ∧ Has w' bw 99 (wds (l.set 0 (y + x))) ∧ Moves [bp, bw] w w' := by
  have hPc := hP.cell
  simp only [pend, mv, cl] at hPc
  have hap := hQ.apart hP
  have hapw := hQ.apart_w
  have hlt := hP.lt
  have hwlt := hQ.m.lt
  have hHP := Lib.hid hP
  have nb0 : ¬ bp = w.heap.size := by omega
  have nb0' : ¬ w.heap.size = bp := by omega
  have lawf := eqf
  have lawn := eqn
  go_enter Tryd.func17, Tryd.ntmps17
  go_wp2_with (go_at_call 46; go_must (refine (give bp bq bc bw batch n own saw left x y ans _ l _ (hP.alloc _) (hQ.alloc _) g1 g2 (hg1.alloc _) (hg2.alloc _) hi hb).mono ?_; rintro e w1 ⟨rfl, hP1, hw1, hm⟩; (have hsz := hm.size); (simp only [World.size_alloc] at hsz); (have hd1 : Has w1 w.heap.size 46 #[.int .u8 0, .int .i64 0, .int .u64 0, .int .u64 0, .bool false] := hm.has (Has.new' rfl) (by simp; omega)); (have h1c := hP1.cell); (simp only [pend, mv, cl] at h1c); (have d1c := hd1.cell); (have d1f := hd1.frozen); (have hmm : Moves [bp, bw] w w1 := ((Moves.refl [bp, bw] w).alloc _).trans hm (by simp)); (have ne1 : ¬ bp = w1.heap.size := by omega); (have ne1' : ¬ w1.heap.size = bp := by omega); (have ne2 : ¬ w.heap.size = w1.heap.size := by omega); (have ne2' : ¬ w1.heap.size = w.heap.size := by omega); simp only [did]))
  go_region
  all_goals go_wp2_with fail
  all_goals refine bodyPost_ret (v := .tuple #[did 3 0 y (y + x : Nat) true, .bool true]) (by simp only [results, Tryd.results17, did]; go_simp) rfl ?_
  all_goals first | (solve | (refine ⟨rfl, ?_, ?_, ?_⟩; (all_goals first | (solve | (repeat (first | with_reducible exact hmm | with_reducible exact Moves.refl _ _ | with_reducible apply Moves.drew | with_reducible apply Moves.drewN | with_reducible apply Moves.alloc | (with_reducible refine Moves.setOld ?_ ?_ _; rotate_left; (solve | simp)) | (with_reducible refine Moves.setNew ?_ ?_ _; rotate_left; (solve | simp | (simp; omega))) | fail))) | (apply Has.of_eq; (case h => repeat (first | with_reducible assumption | (with_reducible refine Has.new' ?_; (solve | with_reducible rfl | simp)) | with_reducible apply Has.drew | with_reducible apply Has.drewN | with_reducible apply Has.alloc | with_reducible apply Has.put | (with_reducible apply Has.far'; (solve | assumption | simp | (simp; omega))) | fail)); (case e => rfl)))))
set_option maxRecDepth 100000 in
set_option maxHeartbeats 1000000 in
theorem step_empty_none (bp bq bc bw batch n own saw left : Nat) (ans : Nat) (x : Nat) (l : List Nat) (w : World) (hP : Has w bp 77 (pend bq own (mv 32 bp) saw left ans))
    (hQ : Quo w bq bc bw batch n l) (hi : l[own]? = some x) (hx : ((x : Int) == 0) = true) :
    Calls Tryd.prog 17 #[.pointer (some ⟨bp, 0, none⟩)] w fun e w' => e = .returned (.tuple #[did 4 own x 0 true, .bool true]) ∧ Has w' bp 77 (pend bq own (Value.nilFunc) saw left (0 : Nat)) ∧ Has w' bw 99 (wds (l.set own 0)) ∧ Moves [bp, bw] w w' := by
  have hPc := hP.cell
  simp only [pend, mv, cl] at hPc
  have hap := hQ.apart hP
  have hapw := hQ.apart_w
  have hlt := hP.lt
  have hwlt := hQ.m.lt
  have hHP := Lib.hid hP
  have nb0 : ¬ bp = w.heap.size := by omega
  have nb0' : ¬ w.heap.size = bp := by omega
  have lawf := eqf
  have lawn := eqn
  go_enter Tryd.func17, Tryd.ntmps17
  go_wp2_with (go_at_call 32; go_must (refine (empty_none bp bq bc bw batch n own saw left ans _ l _ (hP.alloc _) (hQ.alloc _) x hi hx).mono ?_; rintro e w1 ⟨rfl, hP1, hw1, hm⟩; (have hsz := hm.size); (simp only [World.size_alloc] at hsz); (have hd1 : Has w1 w.heap.size 46 #[.int .u8 0, .int .i64 0, .int .u64 0, .int .u64 0, .bool false] := hm.has (Has.new' rfl) (by simp; omega)); (have h1c := hP1.cell); (simp only [pend, mv, cl] at h1c); (have d1c := hd1.cell); (have d1f := hd1.frozen); (have hmm : Moves [bp, bw] w w1 := ((Moves.refl [bp, bw] w).alloc _).trans hm (by simp)); (have ne1 : ¬ bp = w1.heap.size := by omega); (have ne1' : ¬ w1.heap.size = bp := by omega); (have ne2 : ¬ w.heap.size = w1.heap.size := by omega); (have ne2' : ¬ w1.heap.size = w.heap.size := by omega); simp only [did]))
  go_region
  all_goals go_wp2_with fail
  all_goals refine bodyPost_ret (v := .tuple #[did 4 own x 0 true, .bool true]) (by simp only [results, Tryd.results17, did]; go_simp) rfl ?_
  all_goals first | (solve | (refine ⟨rfl, ?_, ?_, ?_⟩; (all_goals first | (solve | (repeat (first | with_reducible exact hmm | with_reducible exact Moves.refl _ _ | with_reducible apply Moves.drew | with_reducible apply Moves.drewN | with_reducible apply Moves.alloc | (with_reducible refine Moves.setOld ?_ ?_ _; rotate_left; (solve | simp)) | (with_reducible refine Moves.setNew ?_ ?_ _; rotate_left; (solve | simp | (simp; omega))) | fail))) | (apply Has.of_eq; (case h => repeat (first | with_reducible assumption | (with_reducible refine Has.new' ?_; (solve | with_reducible rfl | simp)) | with_reducible apply Has.drew | with_reducible apply Has.drewN | with_reducible apply Has.alloc | with_reducible apply Has.put | (with_reducible apply Has.far'; (solve | assumption | simp | (simp; omega))) | fail)); (case e => rfl)))))
set_option maxRecDepth 100000 in
set_option maxHeartbeats 1000000 in
theorem step_empty_some (bp bq bc bw batch n own saw left : Nat) (ans : Nat) (x : Nat) (l : List Nat) (w : World) (hP : Has w bp 77 (pend bq own (mv 32 bp) saw left ans))
    (hQ : Quo w bq bc bw batch n l) (hi : l[own]? = some x) (hx : ((x : Int) == 0) = false) :
    Calls Tryd.prog 17 #[.pointer (some ⟨bp, 0, none⟩)] w fun e w' => e = .returned (.tuple #[did 4 own x 0 true, .bool false]) ∧ ∃ g1 g2, Has w' bp 77 (pend bq own (cl 46 g1 g2) saw left ans) ∧ Has w' g1 32 #[.pointer (some ⟨bp, 0, none⟩)] ∧ Has w' g2 46 #[.int .u8 4, .int .i64 own, .int .u64 x, .int .u64 0, .bool true] ∧ Has w' bw 99 (wds (l.set own 0)) ∧ Moves [bp, bw] w w' := by
  have hPc := hP.cell
  simp only [pend, mv, cl] at hPc
  have hap := hQ.apart hP
  have hapw := hQ.apart_w
  have hlt := hP.lt
  have hwlt := hQ.m.lt
  have hHP := Lib.hid hP
  have nb0 : ¬ bp = w.heap.size := by omega
  have nb0' : ¬ w.heap.size = bp := by omega
  have lawf := eqf
  have lawn := eqn
  go_enter Tryd.func17, Tryd.ntmps17
  go_wp2_with (go_at_call 32; go_must (refine (empty_some bp bq bc bw batch n own saw left ans _ l _ (hP.alloc _) (hQ.alloc _) x hi hx).mono ?_; rintro e w1 ⟨rfl, g1, g2, hP1, hG1, hG2, hw1, hm⟩; (have nG1 : ¬ g1 = w.heap.size := hG1.ne_type (hm.has (Has.new' rfl : Has (w.alloc _) w.heap.size 46 _) (by simp; omega)) (by decide)); (have nG2 : ¬ g2 = w.heap.size := fun e => by have h0 := (hm.has (Has.new' rfl : Has (w.alloc (.cells #[.int .u8 0, .int .i64 0, .int .u64 0, .int .u64 0, .bool false] 46)) w.heap.size 46 _) (by simp; omega)); rw [← e] at h0; have h1 := (h0.inj hG2).2; simp at h1); (have hsz := hm.size); (simp only [World.size_alloc] at hsz); (have hd1 : Has w1 w.heap.size 46 #[.int .u8 0, .int .i64 0, .int .u64 0, .int .u64 0, .bool false] := hm.has (Has.new' rfl) (by simp; omega)); (have h1c := hP1.cell); (simp only [pend, mv, cl] at h1c); (have d1c := hd1.cell); (have d1f := hd1.frozen); (have hmm : Moves [bp, bw] w w1 := ((Moves.refl [bp, bw] w).alloc _).trans hm (by simp)); (have ne1 : ¬ bp = w1.heap.size := by omega); (have ne1' : ¬ w1.heap.size = bp := by omega); (have ne2 : ¬ w.heap.size = w1.heap.size := by omega); (have ne2' : ¬ w1.heap.size = w.heap.size := by omega); simp only [did]))
  go_region
  all_goals go_wp2_with fail
  all_goals refine bodyPost_ret (v := .tuple #[did 4 own x 0 true, .bool false]) (by simp only [results, Tryd.results17, did]; go_simp) rfl ?_
  all_goals first | (solve | (refine ⟨rfl, g1, g2, ?_, ?_, ?_, ?_, ?_⟩; (all_goals first | (solve | (repeat (first | with_reducible exact hmm | with_reducible exact Moves.refl _ _ | with_reducible apply Moves.drew | with_reducible apply Moves.drewN | with_reducible apply Moves.alloc | (with_reducible refine Moves.setOld ?_ ?_ _; rotate_left; (solve | simp)) | (with_reducible refine Moves.setNew ?_ ?_ _; rotate_left; (solve | simp | (simp; omega))) | fail))) | (apply Has.of_eq; (case h => repeat (first | with_reducible assumption | (with_reducible refine Has.new' ?_; (solve | with_reducible rfl | simp)) | with_reducible apply Has.drew | with_reducible apply Has.drewN | with_reducible apply Has.alloc | with_reducible apply Has.put | (with_reducible apply Has.far'; (solve | assumption | simp | (simp; omega))) | fail)); (case e => rfl)))))
set_option maxRecDepth 100000 in
set_option maxHeartbeats 1000000 in
theorem step_sum_more (bp bq bc bw batch n own saw left : Nat) (ans : Nat) (x : Nat) (l : List Nat) (w : World) (hP : Has w bp 77 (pend bq own (mv 33 bp) saw left ans))
    (hQ : Quo w bq bc bw batch n l) (hi : l[left]? = some x) (hb : ans + x ≤ 4611686018427387904) (hln : left ≤ 1000) (hlt2 : left + 1 ≤ n) :
    Calls Tryd.prog 17 #[.pointer (some ⟨bp, 0, none⟩)] w fun e w' => e = .returned (.tuple #[did 1 left x x true, .bool false]) ∧ Has w' bp 77 (pend bq own (mv 33 bp) saw (left + 1) (ans + x : Nat)) ∧ Has w' bw 99 (wds (l.set left x)) ∧ Moves [bp, bw] w w' := by
  have hPc := hP.cell
  simp only [pend, mv, cl] at hPc
  have hap := hQ.apart hP
  have hapw := hQ.apart_w
  have hlt := hP.lt
  have hwlt := hQ.m.lt
  have hHP := Lib.hid hP
  have nb0 : ¬ bp = w.heap.size := by omega
  have nb0' : ¬ w.heap.size = bp := by omega
  have lawf := eqf
  have lawn := eqn
  go_enter Tryd.func17, Tryd.ntmps17
  go_wp2_with (go_at_call 33; go_must (refine (sum_more bp bq bc bw batch n own saw left ans _ l _ (hP.alloc _) (hQ.alloc _) x hi hb hln hlt2).mono ?_; rintro e w1 ⟨rfl, hP1, hw1, hm⟩; (have hsz := hm.size); (simp only [World.size_alloc] at hsz); (have hd1 : Has w1 w.heap.size 46 #[.int .u8 0, .int .i64 0, .int .u64 0, .int .u64 0, .bool false] := hm.has (Has.new' rfl) (by simp; omega)); (have h1c := hP1.cell); (simp only [pend, mv, cl] at h1c); (have d1c := hd1.cell); (have d1f := hd1.frozen); (have hmm : Moves [bp, bw] w w1 := ((Moves.refl [bp, bw] w).alloc _).trans hm (by simp)); (have ne1 : ¬ bp = w1.heap.size := by omega); (have ne1' : ¬ w1.heap.size = bp := by omega); (have ne2 : ¬ w.heap.size = w1.heap.size := by omega); (have ne2' : ¬ w1.heap.size = w.heap.size := by omega); simp only [did]))
  go_region
  all_goals go_wp2_with fail
  all_goals refine bodyPost_ret (v := .tuple #[did 1 left x x true, .bool false]) (by simp only [results, Tryd.results17, did]; go_simp) rfl ?_
  all_goals first | (solve | (refine ⟨rfl, ?_, ?_, ?_⟩; (all_goals first | (solve | (repeat (first | with_reducible exact hmm | with_reducible exact Moves.refl _ _ | with_reducible apply Moves.drew | with_reducible apply Moves.drewN | with_reducible apply Moves.alloc | (with_reducible refine Moves.setOld ?_ ?_ _; rotate_left; (solve | simp)) | (with_reducible refine Moves.setNew ?_ ?_ _; rotate_left; (solve | simp | (simp; omega))) | fail))) | (apply Has.of_eq; (case h => repeat (first | with_reducible assumption | (with_reducible refine Has.new' ?_; (solve | with_reducible rfl | simp)) | with_reducible apply Has.drew | with_reducible apply Has.drewN | with_reducible apply Has.alloc | with_reducible apply Has.put | (with_reducible apply Has.far'; (solve | assumption | simp | (simp; omega))) | fail)); (case e => rfl)))))
set_option maxRecDepth 100000 in
set_option maxHeartbeats 1000000 in
theorem step_sum_last (bp bq bc bw batch n own saw left : Nat) (ans : Nat) (x : Nat) (l : List Nat) (w : World) (hP : Has w bp 77 (pend bq own (mv 33 bp) saw left ans))
    (hQ : Quo w bq bc bw batch n l) (hi : l[left]? = some x) (hb : ans + x ≤ 4611686018427387904) (hln : left ≤ 1000) (hlt2 : n < left + 1) :
    Calls Tryd.prog 17 #[.pointer (some ⟨bp, 0, none⟩)] w fun e w' => e = .returned (.tuple #[did 1 left x x true, .bool true]) ∧ Has w' bp 77 (pend bq own (Value.nilFunc) saw (left + 1) (ans + x : Nat)) ∧ Has w' bw 99 (wds (l.set left x)) ∧ Moves [bp, bw] w w' := by
  have hPc := hP.cell
  simp only [pend, mv, cl] at hPc
  have hap := hQ.apart hP
  have hapw := hQ.apart_w
  have hlt := hP.lt
  have hwlt := hQ.m.lt
  have hHP := Lib.hid hP
  have nb0 : ¬ bp = w.heap.size := by omega
  have nb0' : ¬ w.heap.size = bp := by omega
  have lawf := eqf
  have lawn := eqn
  go_enter Tryd.func17, Tryd.ntmps17
  go_wp2_with (go_at_call 33; go_must (refine (sum_last bp bq bc bw batch n own saw left ans _ l _ (hP.alloc _) (hQ.alloc _) x hi hb hln hlt2).mono ?_; rintro e w1 ⟨rfl, hP1, hw1, hm⟩; (have hsz := hm.size); (simp only [World.size_alloc] at hsz); (have hd1 : Has w1 w.heap.size 46 #[.int .u8 0, .int .i64 0, .int .u64 0, .int .u64 0, .bool false] := hm.has (Has.new' rfl) (by simp; omega)); (have h1c := hP1.cell); (simp only [pend, mv, cl] at h1c); (have d1c := hd1.cell); (have d1f := hd1.frozen); (have hmm : Moves [bp, bw] w w1 := ((Moves.refl [bp, bw] w).alloc _).trans hm (by simp)); (have ne1 : ¬ bp = w1.heap.size := by omega); (have ne1' : ¬ w1.heap.size = bp := by omega); (have ne2 : ¬ w.heap.size = w1.heap.size := by omega); (have ne2' : ¬ w1.heap.size = w.heap.size := by omega); simp only [did]))
  go_region
  all_goals go_wp2_with fail
  all_goals refine bodyPost_ret (v := .tuple #[did 1 left x x true, .bool true]) (by simp only [results, Tryd.results17, did]; go_simp) rfl ?_
  all_goals first | (solve | (refine ⟨rfl, ?_, ?_, ?_⟩; (all_goals first | (solve | (repeat (first | with_reducible exact hmm | with_reducible exact Moves.refl _ _ | with_reducible apply Moves.drew | with_reducible apply Moves.drewN | with_reducible apply Moves.alloc | (with_reducible refine Moves.setOld ?_ ?_ _; rotate_left; (solve | simp)) | (with_reducible refine Moves.setNew ?_ ?_ _; rotate_left; (solve | simp | (simp; omega))) | fail))) | (apply Has.of_eq; (case h => repeat (first | with_reducible assumption | (with_reducible refine Has.new' ?_; (solve | with_reducible rfl | simp)) | with_reducible apply Has.drew | with_reducible apply Has.drewN | with_reducible apply Has.alloc | with_reducible apply Has.put | (with_reducible apply Has.far'; (solve | assumption | simp | (simp; omega))) | fail)); (case e => rfl)))))
end Go.Proofs.YtigacfgoldnoiaaDoor
