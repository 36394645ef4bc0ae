/- The plain calls: an operation done whole. -/
import Derived.Test.YtigacfgoldnoiaaDoorB3
import Derived.Test.YtigacfgoldnoiaaDoorB4
import Derived.Deep.LoopGhost
namespace Go.Proofs.YtigacfgoldnoiaaDoor
open Go.RowKit
set_option linter.unusedVariables false
set_option linter.unusedSimpArgs false
attribute [local go_sem] World.cell?_alloc_old World.frozen?_alloc_old

/-- What the start of an operation comes to. -/
def StartIs (bq n : Nat) (kind worker : Int) (p : Pn) : Prop :=
  ∀ W : World, W.cell? ⟨bq, 2, none⟩ = some (.int .i64 n) → Calls Tryd.prog 14 #[.pointer (some ⟨bq, 0, none⟩), .agg #[.int .u8 kind, .int .i64 worker]] W fun e w' =>
    ∃ bp, e = .returned (.tuple #[.pointer (some ⟨bp, 0, none⟩), .int .i64 0]) ∧ W.heap.size ≤ bp ∧ PendAt w' bp bq p ∧ Moves [] W w'

theorem StartIs.take {bq n worker : Nat} (h : worker < n) (hn : n ≤ 64) : StartIs bq n 1 worker ⟨.look, worker + 1, 0, 0, 0⟩ := fun W hq =>
  (start_take bq n worker W hq h hn).mono fun e w' ⟨bp, he, hb, hp, hm⟩ => ⟨bp, he, hb, ⟨_, hp, rfl⟩, hm⟩
theorem StartIs.back {bq n worker : Nat} (h : worker < n) (hn : n ≤ 64) : StartIs bq n 2 worker ⟨.empty, worker + 1, 0, 0, 0⟩ := fun W hq =>
  (start_back bq n worker W hq h hn).mono fun e w' ⟨bp, he, hb, hp, hm⟩ => ⟨bp, he, hb, ⟨_, hp, rfl⟩, hm⟩
theorem StartIs.sum {bq n : Nat} (h : 0 < n) (hn : n ≤ 64) : StartIs bq n 3 ((0 : Nat) : Int) ⟨.sum, 1, 0, 0, 0⟩ := fun W hq =>
  (start_sum bq n 0 W hq h hn (by decide)).mono fun e w' ⟨bp, he, hb, hp, hm⟩ => ⟨bp, he, hb, ⟨_, hp, rfl⟩, hm⟩

set_option maxHeartbeats 1000000 in
set_option maxRecDepth 100000 in
theorem whole_any (bq bc bw batch n m k : Nat) (l : List Nat) (kind worker : Int) (p : Pn) (w : World) (hQ : Quo w bq bc bw batch n l) (hS0 : StartIs bq n kind worker p) (hn : n ≤ 64) (hb : 1 ≤ batch)
    (hm : m ≤ 1099511627776) (hst : Still l p) (hloc : Loc n m p) (htot : l.sum + p.nx.hand ≤ m) (hk : toGo n p ≤ k) :
    Calls Tryd.prog 37 #[.pointer (some ⟨bq, 0, none⟩), .agg #[.int .u8 kind, .int .i64 worker]] w fun e w' =>
      e = .returned (.tuple #[.int .i64 (qiter batch n k l p).2.ans, .int .i64 0]) ∧ Quo w' bq bc bw batch n (qiter batch n k l p).1 ∧ Moves [bw] w w' := by
  have hS := Lib.hid hS0
  clear hS0
  have hend := qiter_ends batch n m k l p hst hloc hb hQ.len htot hk
  obtain ⟨F, hF⟩ : ∃ F, F = qiter batch n k l p := ⟨_, rfl⟩
  rw [← hF] at hend ⊢
  have HF := Lib.hid hF
  have HE := Lib.hid hend
  clear hF hend
  have hq2 : w.cell? ⟨bq, 2, none⟩ = some (.int .i64 n) := hQ.q.cell 2
  have hqlt := hQ.q.lt
  have nq0 : ¬ bq = w.heap.size := by omega
  go_enter Tryd.func37, Tryd.ntmps37
  go_wp2_with (go_at_call 14; go_must (refine (hS.out _ ?hq).mono ?_; (case hq => go_simp); rintro e w1 ⟨bp, rfl, gbp, hP1, hm1⟩; (have gb : w.heap.size ≤ bp := by simp at gbp; omega)))
  go_loopg [] k (fun g wr => ∃ l' p', qiter batch n g l' p' = F ∧ Still l' p' ∧ Loc n m p' ∧ l'.sum + p'.nx.hand ≤ m ∧ l'.length = n + 1 ∧ PendAt wr bp bq p' ∧ Quo wr bq bc bw batch n l' ∧ Moves [bw] w wr)
  case atStart =>
    refine ⟨l, p, HF.out.symm, hst, hloc, htot, hQ.len, hP1, ?_, ?_⟩
    · exact (hQ.alloc _).moves hm1 (by simp) (hm1.has (hQ.m.alloc _) (by simp)) rfl
    · exact ((Moves.refl [bw] w).alloc _).trans hm1 (fun x hx => by cases hx)
  case round =>
    obtain ⟨l', p', hF', hst', hloc', htot', hlen', hP', hQ', hmw'⟩ := hrel
    have HF' := Lib.hid hF'
    have HL := Lib.hid hlen'
    clear hF' hlen'
    have hdone := done_any bp bq p' wr hP'
    cases he : p'.nx.ended with
    | true =>
      rw [he] at hdone
      have hans := answer_any bp bq p' wr hP'
      have han : p'.answer = p'.ans := by simp [Pn.answer, he]
      rw [han] at hans
      have HA := Lib.hid hans
      have HD := Lib.hid hdone
      have hfin := Lib.hid ((qiter_ended batch n gk l' p' he).symm.trans HF'.out)
      clear hans hdone he han
      go_wp2_with (first | (go_at_call 19; refine (HD.out).mono ?_; rintro e w' ⟨rfl, rfl⟩) | (go_at_call 20; refine (HA.out).mono ?_; rintro e w' ⟨rfl, rfl⟩))
      go_ret2
      rw [← hfin.out]
      exact ⟨rfl, hQ', hmw'⟩
    | false =>
      rw [he] at hdone
      have HD := Lib.hid hdone
      have hstep := Lib.hid (step_any bp bq bc bw batch n l' p' wr hP' hQ' (hloc'.wf hb hn hm htot'))
      have HE' := Lib.hid he
      clear hdone he
      go_wp2_with (first | (go_at_call 19; refine (HD.out).mono ?_; rintro e w' ⟨rfl, rfl⟩) | (go_at_call 17; go_must (refine (hstep.out).mono ?_; rintro e w2 ⟨rfl, hP2, hQ2, hm2⟩)))
      cases gk with
      | zero =>
        exfalso
        have h1 := HF'.out
        simp only [qiter] at h1
        have h2 := HE.out
        rw [← h1] at h2
        rw [HE'.out] at h2
        cases h2
      | succ g =>
        have h3 := qstep_total batch n m l' p' HL.out hloc' hb
        have hsum : p'.nx = .sum → p'.left ≤ n := fun e => by have := hloc'.2.2; rw [e] at this; exact this.1
        go_roundg g
        case measure => omega
        case rel =>
          refine ⟨_, _, ?_, (qstep_still batch n l' p' hst' hsum HE'.out).1, qstep_loc batch n m l' p' hloc' hb (by omega), by omega, by rw [qstep_length, HL.out], hP2, hQ2, ?_⟩
          · rw [← HF'.out, qiter_succ _ _ _ _ _ HE'.out]
          · exact hmw'.trans hm2 (fun x hx => by
              simp only [List.mem_cons, List.not_mem_nil, or_false] at hx
              rcases hx with h | h
              · subst h; right; omega
              · subst h; left; simp)

/-- Where no operation is started: the error alone. -/
theorem whole_bad (q : Option Addr) (kind worker : Int) (why : Nat) (hw : ((why : Int) == 0) = false) (w : World)
    (hS0 : ∀ W : World, W = w.alloc (.cells #[.int .u8 kind, .int .i64 worker] 37) → Calls Tryd.prog 14 #[.pointer q, .agg #[.int .u8 kind, .int .i64 worker]] W fun e w' => e = .returned (.tuple #[.pointer none, .int .i64 why]) ∧ Moves [] W w') :
    Calls Tryd.prog 37 #[.pointer q, .agg #[.int .u8 kind, .int .i64 worker]] w fun e w' => e = .returned (.tuple #[.int .i64 0, .int .i64 why]) ∧ Moves [] w w' := by
  have hS := Lib.hid hS0
  clear hS0
  go_enter Tryd.func37, Tryd.ntmps37
  go_wp2_with (go_at_call 14; go_must (refine (hS.out _ rfl).mono ?_; rintro e w1 ⟨rfl, hm1⟩))
  refine wp_loop_once ?_
  go_wp2
  go_ret2
  exact ⟨rfl, ((Moves.refl [] w).alloc _).trans hm1 (by simp)⟩

theorem Quo.q2 {w : World} {bq bc bw batch n : Nat} {l : List Nat} (h : Quo w bq bc bw batch n l) : w.cell? ⟨bq, 2, none⟩ = some (.int .i64 n) := h.q.cell 2

theorem start_range (bq bc bw batch n : Nat) (l : List Nat) (kind worker : Int) (W w : World) (hQ : Quo w bq bc bw batch n l) (hn : n ≤ 64) (h : ¬ (0 ≤ worker ∧ worker < n ∧ (kind = 1 ∨ kind = 2 ∨ (kind = 3 ∧ worker = 0))))
    (o : Obj) (hW : W = w.alloc o) :
    Calls Tryd.prog 14 #[.pointer (some ⟨bq, 0, none⟩), .agg #[.int .u8 kind, .int .i64 worker]] W fun e w' => e = .returned (.tuple #[.pointer none, .int .i64 2]) ∧ Moves [] W w' := by
  subst hW
  have hq := (hQ.alloc o).q2
  by_cases h0 : worker < 0
  · exact start_neg bq n kind worker _ hq h0
  · by_cases h1 : (n : Int) ≤ worker
    · exact start_high bq n kind worker _ hq (by omega) h1
    · by_cases h2 : kind = 3
      · subst h2
        have h3 : worker ≠ 0 := fun e => h ⟨by omega, by omega, .inr (.inr ⟨rfl, e⟩)⟩
        exact start_left bq n worker _ hq (by omega) (by omega) (by simpa using h3)
      · refine start_other bq n kind worker _ hq (by omega) (by omega) ?_ ?_ ?_
        · exact beq_eq_false_iff_ne.2 (fun e => h ⟨by omega, by omega, .inl e⟩)
        · exact beq_eq_false_iff_ne.2 (fun e => h ⟨by omega, by omega, .inr (.inl e)⟩)
        · exact beq_eq_false_iff_ne.2 h2

theorem take_bad (bq bc bw batch n : Nat) (l : List Nat) (worker : Int) (w : World) (hQ : Quo w bq bc bw batch n l) (hn : n ≤ 64) (h : ¬ (0 ≤ worker ∧ worker < n)) :
    Calls Tryd.prog 23 #[.pointer (some ⟨bq, 0, none⟩), .int .i64 worker] w fun e w' => e = .returned (.tuple #[.bool false, .int .i64 2]) ∧ Moves [] w w' := by
  have hc := Lib.hid (fun W => whole_bad (some ⟨bq, 0, none⟩) 1 worker 2 rfl W)
  have hs := Lib.hid (fun (W : World) o (hW : W = w.alloc o) => start_range bq bc bw batch n l 1 worker W w hQ hn (fun x => h ⟨x.1, x.2.1⟩) o hW)
  go_enter Tryd.func23, Tryd.ntmps23
  go_wp2_with (go_at_call 37; go_must (refine (hc.out _ (fun W hW => hs.out W _ hW)).mono ?_; rintro e w1 ⟨rfl, hm1⟩))
  go_ret2
  exact ⟨rfl, hm1⟩
theorem back_bad (bq bc bw batch n : Nat) (l : List Nat) (worker : Int) (w : World) (hQ : Quo w bq bc bw batch n l) (hn : n ≤ 64) (h : ¬ (0 ≤ worker ∧ worker < n)) :
    Calls Tryd.prog 24 #[.pointer (some ⟨bq, 0, none⟩), .int .i64 worker] w fun e w' => e = .returned (.tuple #[.int .i64 0, .int .i64 2]) ∧ Moves [] w w' := by
  have hc := Lib.hid (fun W => whole_bad (some ⟨bq, 0, none⟩) 2 worker 2 rfl W)
  have hs := Lib.hid (fun (W : World) o (hW : W = w.alloc o) => start_range bq bc bw batch n l 2 worker W w hQ hn (fun x => h ⟨x.1, x.2.1⟩) o hW)
  go_enter Tryd.func24, Tryd.ntmps24
  go_wp2_with (go_at_call 37; go_must (refine (hc.out _ (fun W hW => hs.out W _ hW)).mono ?_; rintro e w1 ⟨rfl, hm1⟩))
  go_ret2
  exact ⟨rfl, hm1⟩

/-- An operation of a worker done whole: what it answers, and what the cells have behind it. -/
def qtake (batch n : Nat) (l : List Nat) (worker : Nat) : List Nat × Pn := qiter batch n 5 l ⟨.look, worker + 1, 0, 0, 0⟩
def qback (batch n : Nat) (l : List Nat) (worker : Nat) : List Nat × Pn := qiter batch n 2 l ⟨.empty, worker + 1, 0, 0, 0⟩
def qleft (batch n : Nat) (l : List Nat) : List Nat × Pn := qiter batch n (n + 1) l ⟨.sum, 1, 0, 0, 0⟩

theorem take_good (bq bc bw batch n : Nat) (l : List Nat) (worker : Nat) (w : World) (hQ : Quo w bq bc bw batch n l) (hn : n ≤ 64) (hb : 1 ≤ batch) (hl : l.sum ≤ 1099511627776) (h : worker < n) :
    Calls Tryd.prog 23 #[.pointer (some ⟨bq, 0, none⟩), .int .i64 worker] w fun e w' => e = .returned (.tuple #[.bool (((qtake batch n l worker).2.ans : Int) == 1), .int .i64 0]) ∧ Quo w' bq bc bw batch n (qtake batch n l worker).1 ∧ Moves [bw] w w' := by
  have hc := Lib.hid (whole_any bq bc bw batch n l.sum 5 l 1 worker _ w hQ (StartIs.take h hn) hn hb hl trivial ⟨by simp, by simp only; omega, trivial⟩ (by simp [Nx.hand]) (by simp [toGo]))
  unfold qtake
  go_enter Tryd.func23, Tryd.ntmps23
  go_wp2_with (go_at_call 37; go_must (refine (hc.out).mono ?_; rintro e w1 ⟨rfl, hQ1, hm1⟩))
  go_ret2
  exact ⟨rfl, hQ1, hm1⟩
theorem back_good (bq bc bw batch n : Nat) (l : List Nat) (worker : Nat) (w : World) (hQ : Quo w bq bc bw batch n l) (hn : n ≤ 64) (hb : 1 ≤ batch) (hl : l.sum ≤ 1099511627776) (h : worker < n) :
    Calls Tryd.prog 24 #[.pointer (some ⟨bq, 0, none⟩), .int .i64 worker] w fun e w' => e = .returned (.tuple #[.int .i64 (qback batch n l worker).2.ans, .int .i64 0]) ∧ Quo w' bq bc bw batch n (qback batch n l worker).1 ∧ Moves [bw] w w' := by
  have hc := Lib.hid (whole_any bq bc bw batch n l.sum 2 l 2 worker _ w hQ (StartIs.back h hn) hn hb hl trivial ⟨by simp, by simp only; omega, trivial⟩ (by simp [Nx.hand]) (by simp [toGo]))
  unfold qback
  go_enter Tryd.func24, Tryd.ntmps24
  go_wp2_with (go_at_call 37; go_must (refine (hc.out).mono ?_; rintro e w1 ⟨rfl, hQ1, hm1⟩))
  go_ret2
  exact ⟨rfl, hQ1, hm1⟩
theorem left_good (bq bc bw batch n : Nat) (l : List Nat) (w : World) (hQ : Quo w bq bc bw batch n l) (hn : n ≤ 64) (h0 : 0 < n) (hb : 1 ≤ batch) (hl : l.sum ≤ 1099511627776) :
    Calls Tryd.prog 25 #[.pointer (some ⟨bq, 0, none⟩)] w fun e w' => e = .returned (.int .i64 (qleft batch n l).2.ans) ∧ Quo w' bq bc bw batch n (qleft batch n l).1 ∧ Moves [bw] w w' := by
  have hc := Lib.hid (whole_any bq bc bw batch n l.sum (n + 1) l 3 ((0 : Nat) : Int) _ w hQ (StartIs.sum h0 hn) hn hb hl trivial ⟨by simp, by simp only; omega, by simp, by simp⟩ (by simp [Nx.hand]) (by simp [toGo]))
  unfold qleft
  go_enter Tryd.func25, Tryd.ntmps25
  go_wp2_with (go_at_call 37; go_must (refine (hc.out).mono ?_; rintro e w1 ⟨rfl, hQ1, hm1⟩))
  go_ret
  exact ⟨rfl, hQ1, hm1⟩
end Go.Proofs.YtigacfgoldnoiaaDoor
