/- QuotaSpent: the walk. -/
import Derived.Test.YtigacfgoldnoiaaDoorE1
import Derived.Test.YtigacfgoldnoiaaDoorD2
namespace Go.Proofs.YtigacfgoldnoiaaDoor
open Go.RowKit
set_option linter.unusedVariables false
set_option linter.unusedSimpArgs false
attribute [local go_sem] World.cell?_alloc_old World.frozen?_alloc_old

set_option maxHeartbeats 2000000 in
set_option maxRecDepth 100000 in
theorem spent_bad (limit batch workers : Int) (w : World) (hu : Uses w) (hz : 0 < w.heap.size) (h : fitsB limit batch workers = false) :
    Calls Tryd.prog 8 #[.int .i64 limit, .int .i64 batch, .int .i64 workers] w fun e w' => e = .returned (.bool true) ∧ Moves [] w w' := by
  have hbg := Lib.hid (fun W hu hz => begins_any W hu hz)
  have hnw := Lib.hid (fun W => new_bad limit batch workers W h)
  clear h
  go_enter Tryd.func8, Tryd.ntmps8
  go_wp2_with (first | (go_at_call 13; go_must (refine (hbg.out _ hu hz).mono ?_; rintro e w1 ⟨rfl, hm1⟩)) | (go_at_call 11; go_must (refine (hnw.out _).mono ?_; rintro e w2 ⟨rfl, hm2⟩)))
  go_ret
  exact ⟨rfl, hm1.trans hm2 (by simp)⟩

theorem take_in (bq bc bw batch n : Nat) (l : List Nat) (worker : Nat) (w : World) (hQ : Quo w bq bc bw batch n l) (hn : n ≤ 64) (hb : 1 ≤ batch) (hl : l.sum ≤ 1099511627776) (h : worker < n) :
    Calls Tryd.prog 23 #[.pointer (some ⟨bq, 0, none⟩), .int .i64 worker] w fun e w' => ∃ (ok : Bool) (l' : List Nat), e = .returned (.tuple #[.bool ok, .int .i64 0]) ∧ Quo w' bq bc bw batch n l' ∧ Moves [bw] w w' ∧
      ((ok = false ∧ l' = l ∧ l.getD (worker + 1) 0 = 0 ∧ l.getD 0 0 = 0) ∨ (ok = true ∧ l'.sum + 1 = l.sum ∧ ∀ j, j ≠ 0 → j ≠ worker + 1 → l'.getD j 0 = l.getD j 0)) := by
  refine (take_good bq bc bw batch n l worker w hQ hn hb hl h).mono ?_
  rintro e w' ⟨rfl, hQ', hm⟩
  refine ⟨_, _, rfl, hQ', hm, ?_⟩
  rcases qtake_cases batch n l worker hb hQ.len h with ⟨a, b, c, d⟩ | ⟨a, b, c, d⟩
  · exact .inl ⟨by rw [a]; rfl, b, c, d⟩
  · exact .inr ⟨by rw [a]; rfl, b, d⟩
theorem left_in (bq bc bw batch n : Nat) (l : List Nat) (w : World) (hQ : Quo w bq bc bw batch n l) (hn : n ≤ 64) (h0 : 0 < n) (hb : 1 ≤ batch) (hl : l.sum ≤ 1099511627776) :
    Calls Tryd.prog 25 #[.pointer (some ⟨bq, 0, none⟩)] w fun e w' => e = .returned (.int .i64 l.sum) ∧ Quo w' bq bc bw batch n l ∧ Moves [bw] w w' := by
  have := left_good bq bc bw batch n l w hQ hn h0 hb hl
  rwa [(qleft_eq batch n l hQ.len).1, (qleft_eq batch n l hQ.len).2] at this
theorem left_zero (bq bc bw batch n : Nat) (l : List Nat) (w : World) (hs : l.sum = 0) (hQ : Quo w bq bc bw batch n l) (hn : n ≤ 64) (h0 : 0 < n) (hb : 1 ≤ batch) :
    Calls Tryd.prog 25 #[.pointer (some ⟨bq, 0, none⟩)] w fun e w' => e = .returned (.int .i64 0) ∧ Quo w' bq bc bw batch n l ∧ Moves [bw] w w' := by
  refine (left_in bq bc bw batch n l w hQ hn h0 hb (by omega)).mono ?_
  rintro e w' ⟨rfl, h⟩
  exact ⟨by rw [hs]; rfl, h⟩
theorem back_in (bq bc bw batch n : Nat) (l : List Nat) (worker : Nat) (w : World) (hQ : Quo w bq bc bw batch n l) (hn : n ≤ 64) (hb : 1 ≤ batch) (hl : l.sum ≤ 1099511627776) (h : worker < n) :
    Calls Tryd.prog 24 #[.pointer (some ⟨bq, 0, none⟩), .int .i64 worker] w fun e w' => ∃ (z : Int) (l' : List Nat), e = .returned (.tuple #[.int .i64 z, .int .i64 0]) ∧ Quo w' bq bc bw batch n l' ∧ Moves [bw] w w' ∧
      l'.sum = l.sum ∧ l'.getD (worker + 1) 0 = 0 ∧ ∀ j, j ≠ 0 → j ≠ worker + 1 → l'.getD j 0 = l.getD j 0 := by
  refine (back_good bq bc bw batch n l worker w hQ hn hb hl h).mono ?_
  rintro e w' ⟨rfl, hQ', hm⟩
  have h1 := qback_cases batch n l worker hQ.len h
  exact ⟨_, _, rfl, hQ', hm, h1.1, h1.2.2⟩

set_option maxHeartbeats 2000000 in
set_option maxRecDepth 100000 in
theorem spent_big (limit batch n : Nat) (w : World) (hu : Uses w) (hz : 0 < w.heap.size) (hf : fitsB limit batch n = true) (hf1 : limit ≤ 1099511627776) (hf2 : batch ≤ 1048576) (hf3 : n ≤ 64) (hbig : 1000 < limit) :
    Calls Tryd.prog 8 #[.int .i64 limit, .int .i64 batch, .int .i64 n] w fun e w' => e = .returned (.bool true) ∧ Moves [] w w' := by
  have hbg := Lib.hid (fun W hu hz => begins_any W hu hz)
  have hnw := Lib.hid (fun W hu hz => new_good limit batch n W hf hf1 hf2 hf3 hu hz)
  have hb1 : 1 ≤ batch := by have := hf; simp only [fitsB, decide_eq_true_eq] at this; omega
  have hn1 : 1 ≤ n := by have := hf; simp only [fitsB, decide_eq_true_eq] at this; omega
  clear hf
  have hbig' : (1000 : Int) < (limit : Int) := by omega
  go_enter Tryd.func8, Tryd.ntmps8
  go_wp2_with (first | (go_at_call 13; go_must (refine (hbg.out _ hu hz).mono ?_; rintro e w1 ⟨rfl, hm1⟩)) | (go_at_call 11; go_must (refine (hnw.out _ (hu.moves hm1 hz (by simp)) (Nat.lt_of_lt_of_le hz hm1.size)).mono ?_; rintro e w2 ⟨bq, bc, bw, rfl, gq, gc, gw, hQ, hm2⟩)))
  have hlf := left_in bq bc bw batch n _ w2 hQ hf3 hn1 hb1 (by simp; exact hf1)
  rw [show (limit :: List.replicate n 0).sum = limit by simp] at hlf
  have HL := Lib.hid hlf
  clear hlf
  go_wp2_with (go_at_call 25; go_must (refine (HL.out).mono ?_; rintro e w3 ⟨rfl, hQ3, hm3⟩))
  go_ret
  exact ⟨rfl, (hm1.trans hm2 (by simp)).trans hm3 (fun x hx => by simp at hx; have := hm1.size; right; omega)⟩

theorem made_u64 (n : Nat) : madeCells (Value.cells (.int .u64 0)) (n * 1) = wds (List.replicate n 0) := by
  have h := toList_madeCells_one (.int .u64 0) n
  have e : Value.cells (.int .u64 0) = #[.int .u64 0] := rfl
  rw [e, Nat.mul_one]
  apply Array.toList_inj.1
  rw [h]
  simp [wds]
theorem make_u64 (n : Nat) (hn : n ≤ 64) (w : World) : (Instr.makeSlice 42 (.int .i64 ((n : Int) + 1)) (.int .i64 ((n : Int) + 1))).run Tryd.prog w = .ok (.slice (some ⟨w.heap.size, 0, none⟩) (n + 1) (n + 1)) (w.alloc (.cells (wds (List.replicate (n + 1) 0)) 39)) := by
  obtain ⟨i0, hi, hz0, hz1, hz2⟩ := info_parts info39
  have h := run_make (P := Tryd.prog) w 42 39 i0 _ Tryd.underlying42 hi hz0 .i64 .i64 ((n + 1 : Nat) : Int) ((n + 1 : Nat) : Int) (by omega) (Int.le_refl _) (by rw [hz2]; omega) (by omega)
  have e : ((n + 1 : Nat) : Int) = (n : Int) + 1 := by omega
  rw [e] at h
  rw [h, hz1]
  have e2 : ((n : Int) + 1).toNat = n + 1 := by omega
  simp only [e2, made_u64]
theorem make_u64w (n : Nat) (hn : n ≤ 64) (w : World) : (Instr.makeSlice 42 (.int .i64 (IntKind.i64.wrap ((n : Int) + 1))) (.int .i64 (IntKind.i64.wrap ((n : Int) + 1)))).run Tryd.prog w = .ok (.slice (some ⟨w.heap.size, 0, none⟩) (n + 1) (n + 1)) (w.alloc (.cells (wds (List.replicate (n + 1) 0)) 39)) := by
  rw [show IntKind.i64.wrap ((n : Int) + 1) = (n : Int) + 1 by rw [IntKind.wrap_i64]; omega]
  exact make_u64 n hn w
theorem words_zero (n : Nat) (l : List Nat) (hl : l = List.replicate (n + 1) 0) (hn : n ≤ 64) (v : Value) (g base : Nat) (W : World) (hv : W.ownsRow base 39 1 v (n + 1) (wvs l)) (hg : Has W g 39 (wds (List.replicate (n + 1) 0))) :
    Calls Tryd.prog 21 #[v, .slice (some ⟨g, 0, none⟩) (n + 1) (n + 1)] W fun e w' => e = .returned (.bool true) ∧ Moves [] W w' := by
  have hlen : l.length = n + 1 := by rw [hl]; simp
  have h2 : Rds W (.slice (some ⟨g, 0, none⟩) (n + 1) (n + 1)) (List.replicate (n + 1) 0) := ⟨g, n + 1, by rw [List.length_replicate], by rw [List.length_replicate]; exact Nat.le_refl _, hg.lt, fun i x hx => by
    rw [hg.cell i]
    simp only [wds, List.getElem?_toArray, List.getElem?_map, hx, Option.map_some]⟩
  have := words_any v _ l _ W (Rds.of_own hv (by omega) hlen) h2 (by rw [hlen, List.length_replicate]) (by omega)
  rwa [decide_eq_true hl] at this

theorem words_zeroA (n : Nat) (l : List Nat) (hl : l = List.replicate (n + 1) 0) (hn : n ≤ 64) (v : Value) (base : Nat) (w : World) (hv : w.ownsRow base 39 1 v (n + 1) (wvs l)) :
    Calls Tryd.prog 21 #[v, .slice (some ⟨w.heap.size, 0, none⟩) (n + 1) (n + 1)] (w.alloc (.cells (wds (List.replicate (n + 1) 0)) 39)) fun e w' => e = .returned (.bool true) ∧ Moves [] w w' := by
  refine (words_zero n l hl hn v _ base _ (own_moves hv ((Moves.refl [] w).alloc _) (fun k _ h => by cases h)) (Has.new w 39 _)).mono ?_
  rintro e w' ⟨rfl, hm⟩
  exact ⟨rfl, ((Moves.refl [] w).alloc _).trans hm (fun x hx => by cases hx)⟩
theorem words_zeroB (n : Nat) (l : List Nat) (hl : l = List.replicate (n + 1) 0) (hn : n ≤ 64) (v : Value) (base : Nat) (a w : World) (hv : w.ownsRow base 39 1 v (n + 1) (wvs l)) (hm : Moves [] (a.alloc (.cells (wds (List.replicate (n + 1) 0)) 39)) w) :
    Calls Tryd.prog 21 #[v, .slice (some ⟨a.heap.size, 0, none⟩) (n + 1) (n + 1)] w fun e w' => e = .returned (.bool true) ∧ Moves [] w w' :=
  words_zero n l hl hn v _ base _ hv (hm.has (Has.new a 39 _) (fun h => by cases h))

/-- A flag, as a number. -/
def okN : Value → Nat
  | .bool true => 1
  | _ => 0
theorem okN_true : okN (.bool true) = 1 := rfl
theorem okN_false : okN (.bool false) = 0 := rfl

set_option maxHeartbeats 4000000 in
set_option maxRecDepth 100000 in
theorem spent_small (limit batch n : Nat) (w : World) (hu : Uses w) (hz : 0 < w.heap.size) (hf : fitsB limit batch n = true) (hf1 : limit ≤ 1099511627776) (hf2 : batch ≤ 1048576) (hf3 : n ≤ 64) (hbig : limit ≤ 1000) :
    Calls Tryd.prog 8 #[.int .i64 limit, .int .i64 batch, .int .i64 n] w fun e w' => e = .returned (.bool true) ∧ Moves [] w w' := by
  have hbg := Lib.hid (fun W hu hz => begins_any W hu hz)
  have hnw := Lib.hid (fun W hu hz => new_good limit batch n W hf hf1 hf2 hf3 hu hz)
  have hb1 : 1 ≤ batch := by have := hf; simp only [fitsB, decide_eq_true_eq] at this; omega
  have hn1 : 1 ≤ n := by have := hf; simp only [fitsB, decide_eq_true_eq] at this; omega
  clear hf
  have hbig' : (limit : Int) ≤ 1000 := by omega
  go_enter Tryd.func8, Tryd.ntmps8
  go_wp2_with (first | (go_at_call 13; go_must (refine (hbg.out _ hu hz).mono ?_; rintro e w1 ⟨rfl, hm1⟩)) | (go_at_call 11; go_must (refine (hnw.out _ (hu.moves hm1 hz (by simp)) (Nat.lt_of_lt_of_le hz hm1.size)).mono ?_; rintro e w2 ⟨bq, bc, bw, rfl, gq, gc, gw, hQ, hm2⟩)))
  have hsum0 : (limit :: List.replicate n 0).sum = limit := by simp
  have hm02 : Moves [] w w2 := hm1.trans hm2 (by simp)
  have gbw : w.heap.size ≤ bw := by have := hm1.size; omega
  have TK := Lib.hid (fun l k W hQ hl hk => take_in bq bc bw batch n l k W hQ hf3 hb1 hl hk)
  have LF := Lib.hid (fun l W hQ hl => left_in bq bc bw batch n l W hQ hf3 hn1 hb1 hl)
  have BK := Lib.hid (fun l k W hQ hl hk => back_in bq bc bw batch n l k W hQ hf3 hb1 hl hk)
  have TR := Lib.hid (fun (A B : World) (h1 : Moves [] w A) (h2 : Moves [bw] A B) => (h1.trans h2 (fun x hx => by simp at hx; right; omega) : Moves [] w B))
  go_loopw [9, 10] (fun t i wr => ∃ (k : Nat) (s : Nat) (l : List Nat), k ≤ n ∧ i = .int .i64 (k : Nat) ∧ t = .int .i64 (s : Nat) ∧ l.sum + s = limit ∧ Quo wr bq bc bw batch n l ∧ Moves [] w wr) (fun _ i _ => n - (intOf i).toNat)
  case atStart => exact ⟨0, 0, _, Nat.zero_le _, rfl, rfl, by rw [hsum0]; rfl, hQ, hm02⟩
  case round =>
    obtain ⟨k, s, l, hk, rfl, rfl, hs, hQr, hmr⟩ := hrel
    by_cases hlt : k < n
    · have hi : (k : Int) < (n : Int) := by omega
      go_wp2_with fail
      go_loopw [9, 11] (fun t j wr => ∃ (m : Nat) (s : Nat) (l : List Nat), m ≤ 3 ∧ j = .int .i64 (m : Nat) ∧ t = .int .i64 (s : Nat) ∧ l.sum + s = limit ∧ Quo wr bq bc bw batch n l ∧ Moves [] w wr) (fun _ j _ => 3 - (intOf j).toNat)
      case atStart => exact ⟨0, s, l, by omega, rfl, rfl, hs, hQr, hmr⟩
      case round =>
        obtain ⟨m, s1, l1, hm1', rfl, rfl, hs1, hQ1, hmr1⟩ := hrel
        by_cases hm3 : m < 3
        · have hi3 : (m : Int) < 3 := by omega
          have T1 := Lib.hid (TK.out l1 k wr hQ1 (by omega) hlt)
          go_wp2_with (go_at_call 23; go_must (refine (T1.out).mono ?_; rintro e w4 ⟨ok, l4, rfl, hQ4, hm4, hc4⟩; (have HC := Lib.hid hc4); clear hc4; cases ok))
          all_goals go_roundw
          all_goals (try (simp [intOf]; omega))
          · rcases HC.out with ⟨_, rfl, _, _⟩ | ⟨h, _⟩
            · exact ⟨m + 1, s1, l4, by omega, by go_num, rfl, hs1, hQ4, TR.out _ _ hmr1 hm4⟩
            · cases h
          · rcases HC.out with ⟨h, _⟩ | ⟨_, h, _⟩
            · cases h
            · exact ⟨m + 1, s1 + 1, l4, by omega, by go_num, by go_num, by omega, hQ4, TR.out _ _ hmr1 hm4⟩
        · obtain rfl : m = 3 := by omega
          go_wp2_with fail
          exact ⟨⟨k + 1, s1, l1, by omega, by go_num, rfl, hs1, hQ1, hmr1⟩, by simp [intOf]; omega⟩
    · obtain rfl : n = k := by omega
      obtain ⟨wa, hwa⟩ : ∃ wa, wa = wr := ⟨_, rfl⟩
      subst hwa
      have L1 := Lib.hid (LF.out l wa hQr (by omega))
      have hs' : (l.sum : Int) = (limit : Int) - (s : Int) := by omega
      have hsb : s ≤ 1000 := by omega
      go_wp2_with (go_at_call 25; go_must (refine (L1.out).mono ?_; rintro e w5 ⟨rfl, hQ5, hm5⟩))
      have hm05 := TR.out _ _ hmr hm5
      clear L1 hs'
      go_loopw [14] (fun i wr => ∃ (k : Nat) (l : List Nat), k ≤ n ∧ i = .int .i64 (k : Nat) ∧ l.sum + s = limit ∧ (∀ j, 1 ≤ j → j ≤ k → l.getD j 0 = 0) ∧ Quo wr bq bc bw batch n l ∧ Moves [] w wr) (fun i _ => n - (intOf i).toNat)
      case atStart => exact ⟨0, l, Nat.zero_le _, rfl, hs, fun j h1 h2 => by omega, hQ5, hm05⟩
      case round =>
        obtain ⟨k3, l3, hk3, rfl, hs3, hz3, hQ3, hm3⟩ := hrel
        by_cases hlt3 : k3 < n
        · have hi3 : (k3 : Int) < (n : Int) := by omega
          have B1 := Lib.hid (BK.out l3 k3 wr hQ3 (by omega) hlt3)
          go_wp2_with (go_at_call 24; go_must (refine (B1.out).mono ?_; rintro e w6 ⟨z6, l6, rfl, hQ6, hm6, hs6, hz6, hr6⟩))
          go_roundw
          case rel =>
            refine ⟨k3 + 1, l6, by omega, by go_num, by omega, fun j h1 h2 => ?_, hQ6, TR.out _ _ hm3 hm6⟩
            by_cases hj : j = k3 + 1
            · subst hj; exact hz6
            · rw [hr6 j (by omega) hj]; exact hz3 j h1 (by omega)
          case measure => simp [intOf]; omega
        · obtain rfl : n = k3 := by omega
          obtain ⟨wb, hwb⟩ : ∃ wb, wb = wr := ⟨_, rfl⟩
          subst hwb
          go_wp2_with fail
          go_loopw [9, 15] (fun t i wr => ∃ (k : Nat) (s : Nat) (l : List Nat), k ≤ n ∧ i = .int .i64 (k : Nat) ∧ t = .int .i64 (s : Nat) ∧ l.sum + s = limit ∧ (∀ j, 1 ≤ j → j ≤ n → l.getD j 0 = 0) ∧ (0 < k → l.getD 0 0 = 0) ∧ Quo wr bq bc bw batch n l ∧ Moves [] w wr) (fun _ i _ => n - (intOf i).toNat)
          case atStart => exact ⟨0, s, l3, Nat.zero_le _, rfl, rfl, hs3, hz3, fun h => by omega, hQ3, hm3⟩
          case round =>
            obtain ⟨k4, s4, l4, hk4, rfl, rfl, hs4, hz4, hp4, hQ4, hm4⟩ := hrel
            by_cases hlt4 : k4 < n
            · have hi4 : (k4 : Int) < (n : Int) := by omega
              go_wp2_with fail
              go_loopw [9, 16] (fun t ok wr => ∃ (o : Bool) (s : Nat) (l : List Nat), ok = .bool o ∧ t = .int .i64 (s : Nat) ∧ l.sum + s = limit ∧ (∀ j, 1 ≤ j → j ≤ n → j ≠ k4 + 1 → l.getD j 0 = 0) ∧ (o = false → l.getD (k4 + 1) 0 = 0 ∧ l.getD 0 0 = 0) ∧ Quo wr bq bc bw batch n l ∧ Moves [] w wr) (fun t ok _ => 2 * (limit - (intOf t).toNat) + okN ok)
              case atStart => exact ⟨true, s4, l4, rfl, rfl, hs4, fun j h1 h2 _ => hz4 j h1 h2, (fun h => by cases h), hQ4, hm4⟩
              case round =>
                obtain ⟨o, s5, l5, rfl, rfl, hs5, hz5, hp5, hQ5', hm5'⟩ := hrel
                have hsl : (s5 : Int) ≤ (limit : Int) := by omega
                have hsb5 : s5 ≤ 1000 := by omega
                have HZ := Lib.hid hz5
                have HP := Lib.hid hp5
                clear hz5 hp5
                cases o with
                | false =>
                  go_wp2_with fail
                  refine ⟨⟨k4 + 1, s5, l5, by omega, by go_num, rfl, hs5, fun j h1 h2 => ?_, fun _ => (HP.out rfl).2, hQ5', hm5'⟩, by simp [intOf]; omega⟩
                  by_cases hj : j = k4 + 1
                  · subst hj; exact (HP.out rfl).1
                  · exact HZ.out j h1 h2 hj
                | true =>
                  have T5 := Lib.hid (TK.out l5 k4 wr hQ5' (by omega) hlt4)
                  go_wp2_with (go_at_call 23; go_must (refine (T5.out).mono ?_; rintro e w8 ⟨ok, l8, rfl, hQ8, hm8, hc8⟩; (have HC := Lib.hid hc8); clear hc8; cases ok))
                  all_goals go_roundw
                  all_goals (try (simp [intOf, okN_true, okN_false]; omega))
                  all_goals (try (simp [intOf, okN_true, okN_false]; done))
                  · rcases HC.out with ⟨_, rfl, h1, h2⟩ | ⟨h, _⟩
                    · exact ⟨false, s5, l8, rfl, rfl, hs5, HZ.out, fun _ => ⟨h1, h2⟩, hQ8, TR.out _ _ hm5' hm8⟩
                    · cases h
                  · rcases HC.out with ⟨h, _⟩ | ⟨_, h, hr⟩
                    · cases h
                    · exact ⟨true, s5 + 1, l8, rfl, by go_num, by omega, fun j h1 h2 h3 => by rw [hr j (by omega) h3]; exact HZ.out j h1 h2 h3, (fun h => by cases h), hQ8, TR.out _ _ hm5' hm8⟩
                  · rcases HC.out with ⟨h, _⟩ | ⟨_, h, hr⟩
                    · cases h
                    · simp only [intOf, okN_true]; omega
            · obtain rfl : n = k4 := by omega
              obtain ⟨wd, hwd⟩ : ∃ wd, wd = wr := ⟨_, rfl⟩
              subst hwd
              have hzz := sum_zero l4 (fun j => by
                by_cases h0 : j = 0
                · subst h0; exact hp4 (by omega)
                · by_cases h1 : j ≤ n
                  · exact hz4 j (by omega) h1
                  · have := hQ4.len
                    simp [List.getD, List.getElem?_eq_none (show l4.length ≤ j by omega)])
              obtain rfl : s4 = limit := by omega
              have HL0 := Lib.hid (fun W h => left_zero bq bc bw batch n l4 W hzz.1 h hf3 hn1 hb1)
              have hrep : l4 = List.replicate (n + 1) 0 := by rw [← hQ4.len]; exact hzz.2
              have HA := Lib.hid (fun W h => all_any bq bc bw batch n l4 W h hf3)
              have hmk := make_u64w n hf3
              go_wp2_with fail
              go_region_with (first | (go_at_call 25; go_must (refine (HL0.out _ hQ4.drew).mono ?_; rintro e w9 ⟨rfl, hQ9, hm9⟩)) | (go_at_call 22; go_must (refine (HA.out _ (by first | with_reducible exact hQ9 | with_reducible exact hQ9.alloc _)).mono ?_; rintro e w10 ⟨v10, rfl, hown10, hm10⟩)) | (go_at_call 21; go_must (first | (with_reducible refine (words_zeroA n l4 hrep hf3 v10 _ w10 hown10).mono ?_; rintro e w11 ⟨rfl, hm11⟩) | (with_reducible refine (words_zeroB n l4 hrep hf3 v10 _ w9 w10 hown10 hm10).mono ?_; rintro e w11 ⟨rfl, hm11⟩))))
              · go_wp2_with fail
                go_ret
                exact ⟨rfl, ((TR.out _ _ hm4.drew hm9).trans hm10 (fun x hx => by cases hx)).trans hm11 (fun x hx => by cases hx)⟩
              · go_wp2_with fail
                go_ret
                exact ⟨rfl, (((TR.out _ _ hm4.drew hm9).alloc _).trans hm10 (fun x hx => by cases hx)).trans hm11 (fun x hx => by cases hx)⟩
end Go.Proofs.YtigacfgoldnoiaaDoor
