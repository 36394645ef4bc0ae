/- Words, and the plain calls for every worker. -/
import Derived.Test.YtigacfgoldnoiaaDoorB7
import Derived.Test.YtigacfgoldnoiaaDoorB8
namespace Go.Proofs.YtigacfgoldnoiaaDoor
open Go.RowKit
set_option linter.unusedVariables false
set_option linter.unusedSimpArgs false
attribute [local go_sem] World.cell?_alloc_old World.frozen?_alloc_old

theorem ret_bool {a b : Bool} (h : a = b) : Ending.returned (.bool a) = Ending.returned (.bool b) := by rw [h]

/-- A slice that reads as these words. -/
def Rds (w : World) (v : Value) (l : List Nat) : Prop := ∃ g cap, v = .slice (some ⟨g, 0, none⟩) l.length cap ∧ l.length ≤ cap ∧ g < w.heap.size ∧ ∀ (i x : Nat), l[i]? = some x → w.cell? ⟨g, i, none⟩ = some (.int .u64 x)
theorem Rds.of_own {w : World} {base n : Nat} {v : Value} {l : List Nat} (h : w.ownsRow base 39 1 v n (wvs l)) (hn : 0 < n) (hl : l.length = n) : Rds w v l := by
  obtain ⟨g, cap, rfl, _, hg, hc, _, hcell⟩ := own_form h hn
  subst hl
  exact ⟨g, cap, rfl, hc, hg, fun i x hx => hcell i _ (by simp [wvs, hx])⟩
theorem Rds.moves {S : List Nat} {a w : World} {v : Value} {l : List Nat} (h : Rds a v l) (hm : Moves S a w) (hS : ∀ g, v.ownBlock = some g → g ∉ S) : Rds w v l := by
  obtain ⟨g, cap, rfl, hc, hg, hcell⟩ := h
  refine ⟨g, cap, rfl, hc, Nat.lt_of_lt_of_le hg hm.size, fun i x hx => ?_⟩
  have := hcell i x hx
  simp only [World.cell?] at this ⊢
  rw [hm.block g hg (hS g rfl)]
  exact this

set_option maxHeartbeats 1000000 in
theorem words_any (v1 v2 : Value) (l1 l2 : List Nat) (w : World) (h1 : Rds w v1 l1) (h2 : Rds w v2 l2) (hl : l1.length = l2.length) (hb : l1.length ≤ 65) :
    Calls Tryd.prog 21 #[v1, v2] w fun e w' => e = .returned (.bool (decide (l1 = l2))) ∧ Moves [] w w' := by
  obtain ⟨g1, c1, rfl, k1, _, r1⟩ := h1
  obtain ⟨g2, c2, rfl, k2, _, r2⟩ := h2
  rw [← hl] at k2 ⊢
  obtain ⟨n, hn⟩ : ∃ n, n = l1.length := ⟨_, rfl⟩
  rw [← hn] at k1 k2 hb ⊢
  have R1 := Lib.hid r1
  have R2 := Lib.hid r2
  have HN := Lib.hid hn
  have HL := Lib.hid hl
  clear r1 r2 hn hl
  go_enter Tryd.func21, Tryd.ntmps21
  go_wp2
  go_loopw [5] (fun i wr => ∃ k : Nat, k ≤ n ∧ i = .int .i64 k ∧ l1.take k = l2.take k ∧ ∃ q, wr = w.drewN q) (fun i _ => n - (intOf i).toNat)
  case atStart => exact ⟨0, Nat.zero_le _, rfl, rfl, 0, rfl⟩
  case round =>
    obtain ⟨k, hk, rfl, htk, q, rfl⟩ := hrel
    have HT := Lib.hid htk
    clear htk
    by_cases hlt : k < n
    · obtain ⟨x, hx⟩ : ∃ x, l1[k]? = some x := ⟨_, getD_of (by have := HN.out; omega)⟩
      obtain ⟨y, hy⟩ : ∃ y, l2[k]? = some y := ⟨_, getD_of (by have := HN.out; have := HL.out; omega)⟩
      have cx : w.cell? ⟨g1, k, none⟩ = some (.int .u64 (x : Int)) := R1.out k x hx
      have cy : w.cell? ⟨g2, k, none⟩ = some (.int .u64 (y : Int)) := R2.out k y hy
      have HX := Lib.hid hx
      have HY := Lib.hid hy
      clear hx hy
      have hi : (k : Int) < (n : Int) := by omega
      by_cases hxy : x = y
      · have hne : ((x : Int) != (y : Int)) = false := by simp [hxy]
        have HXY := Lib.hid hxy
        clear hxy
        go_wp2_with fail
        go_quiet (fail)
        go_wp2
        go_roundw
        case rel =>
          refine ⟨k + 1, by omega, by go_num, ?_, _, rfl⟩
          have e1 := HX.out
          have e2 := HY.out
          rw [HXY.out] at e1
          rw [List.take_add_one, List.take_add_one, HT.out, e1, e2]
        case measure => simp [intOf]; omega
      · have hne : ((x : Int) != (y : Int)) = true := by simp; omega
        have HXY := Lib.hid hxy
        clear hxy
        go_wp2_with fail
        go_quiet (fail)
        go_wp2
        go_ret
        refine ⟨ret_bool (decide_eq_false (fun e => ?_)).symm, ?_⟩
        · have e1 := HX.out
          rw [e, HY.out] at e1
          exact HXY.out (Option.some.inj e1).symm
        · repeat (first | with_reducible exact Moves.refl _ _ | with_reducible apply Moves.drewN | with_reducible apply Moves.drew | fail)
    · obtain rfl : k = n := by omega
      go_wp2
      go_ret
      refine ⟨ret_bool (decide_eq_true ?_).symm, ?_⟩
      · have := HT.out
        rw [List.take_of_length_le (by rw [HN.out]; exact Nat.le_refl _), List.take_of_length_le (by rw [HN.out, HL.out]; exact Nat.le_refl _)] at this
        exact this
      · repeat (first | with_reducible exact Moves.refl _ _ | with_reducible apply Moves.drewN | with_reducible apply Moves.drew | fail)

/-- Take of whatever worker: what the cells have behind it, whether it was given one, the error. -/
def takeZ (batch n : Nat) (l : List Nat) (worker : Int) : List Nat × Bool × Nat :=
  if 0 ≤ worker ∧ worker < n then ((qtake batch n l worker.toNat).1, ((qtake batch n l worker.toNat).2.ans : Int) == 1, 0) else (l, false, 2)
theorem takeZ_inv {batch n : Nat} {l : List Nat} {worker : Int} (hb : 1 ≤ batch) (hl : l.length = n + 1) : (takeZ batch n l worker).1.length = n + 1 ∧ (takeZ batch n l worker).1.sum ≤ l.sum := by
  unfold takeZ
  split
  · rename_i h
    have := qiter_inv batch n l.sum hb 5 l ⟨.look, worker.toNat + 1, 0, 0, 0⟩ (loc_look (by omega)) hl (by simp [Nx.hand])
    refine ⟨this.1, ?_⟩
    have h2 := this.2.2
    simp only [Nx.hand] at h2
    exact Nat.le_trans (Nat.le_add_right _ _) h2
  · exact ⟨hl, Nat.le_refl _⟩
theorem take_any (bq bc bw batch n : Nat) (l : List Nat) (worker : Int) (w : World) (hQ : Quo w bq bc bw batch n l) (hn : n ≤ 64) (hb : 1 ≤ batch) (hl : l.sum ≤ 1099511627776) :
    Calls Tryd.prog 23 #[.pointer (some ⟨bq, 0, none⟩), .int .i64 worker] w fun e w' => e = .returned (.tuple #[.bool (takeZ batch n l worker).2.1, .int .i64 (takeZ batch n l worker).2.2]) ∧
      Quo w' bq bc bw batch n (takeZ batch n l worker).1 ∧ Moves [bw] w w' := by
  by_cases h : 0 ≤ worker ∧ worker < n
  · obtain ⟨k, rfl⟩ := Int.eq_ofNat_of_zero_le h.1
    have := take_good bq bc bw batch n l k w hQ hn hb hl (by omega)
    unfold takeZ
    rw [if_pos h]
    simpa using this
  · refine (take_bad bq bc bw batch n l worker w hQ hn h).mono ?_
    rintro e w' ⟨rfl, hm⟩
    unfold takeZ
    rw [if_neg h]
    have hm' : Moves [bw] w w' := hm.more (fun x hx => by cases hx)
    obtain ⟨a1, a2, a3⟩ := hQ.apart_w
    exact ⟨rfl, hQ.moves hm (by simp) (hm.has hQ.m (by simp)) rfl, hm'⟩
end Go.Proofs.YtigacfgoldnoiaaDoor
