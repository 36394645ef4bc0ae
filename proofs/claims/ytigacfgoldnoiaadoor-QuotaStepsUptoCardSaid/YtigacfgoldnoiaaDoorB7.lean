/- The statements' own first question: a quota is taken from, by batches. -/
import Derived.Test.YtigacfgoldnoiaaDoorB6
namespace Go.Proofs.YtigacfgoldnoiaaDoor
open Go.RowKit
set_option linter.unusedVariables false
set_option linter.unusedSimpArgs false
attribute [local go_sem] World.cell?_alloc_old World.frozen?_alloc_old

theorem own_form {w : World} {base e n : Nat} {v : Value} {xs : List Value} (h : w.ownsRow base e 1 v n xs) (hn : 0 < n) :
    ∃ g cap, v = .slice (some ⟨g, 0, none⟩) n cap ∧ base ≤ g ∧ g < w.heap.size ∧ n ≤ cap ∧ cap ≤ maxLen ∧ ∀ i u, xs[i]? = some u → w.cell? ⟨g, i, none⟩ = some u := by
  rcases h.2 with ⟨_, h0⟩ | ⟨g, cap, cur, rfl, hb, hh, hnc, hcm, hs, ht⟩
  · omega
  · refine ⟨g, cap, rfl, hb, Has.lt (g := g) hh, hnc, hcm, fun i u hu => ?_⟩
    rw [Has.cell (g := g) hh i]
    rw [← ht, List.getElem?_take] at hu
    split at hu
    · simpa using hu
    · cases hu

set_option maxHeartbeats 2000000 in
set_option maxRecDepth 100000 in
theorem begins_any (w : World) (hu : Uses w) (hz : 0 < w.heap.size) :
    Calls Tryd.prog 13 #[] w fun e w' => e = .returned (.bool true) ∧ Moves [] w w' := by
  have hnew := Lib.hid (fun W hu hz => new_good 5 2 2 W rfl (by decide) (by decide) (by decide) hu hz)
  go_enter Tryd.func13, Tryd.ntmps13
  go_wp2_with (go_at_call 11; go_must (refine (hnew.out _ hu hz).mono ?_; rintro e w1 ⟨bq, bc, bw, rfl, gbq, gbc, gbw, hQ1, hm1⟩))
  have htake := take_good bq bc bw 2 2 [5, 0, 0] 0 w1 hQ1 (by decide) (by decide) (by decide) (by decide)
  rw [show qtake 2 2 [5, 0, 0] 0 = ([3, 1, 0], ⟨.fin, 1, 5, 0, 1⟩) from rfl] at htake
  have hT := Lib.hid htake
  clear htake
  go_wp2_with (go_at_call 23; go_must (refine (hT.out).mono ?_; rintro e w2 ⟨rfl, hQ2, hm2⟩))
  have hA := Lib.hid (all_any bq bc bw 2 2 [3, 1, 0] w2 hQ2 (by decide))
  go_wp2_with (go_at_call 22; go_must (refine (hA.out).mono ?_; rintro e w3 ⟨v, rfl, hown, hm3⟩))
  obtain ⟨g, cap, rfl, hgb, hgl, hnc, hcm, hcell⟩ := own_form hown (by decide)
  have hQ3 : Quo w3 bq bc bw 2 2 [3, 1, 0] := hQ2.moves hm3 (by simp) (hm3.has hQ2.m (by simp)) rfl
  have hback := back_good bq bc bw 2 2 [3, 1, 0] 0 w3 hQ3 (by decide) (by decide) (by decide) (by decide)
  rw [show qback 2 2 [3, 1, 0] 0 = ([4, 0, 0], ⟨.fin, 1, 0, 0, 1⟩) from rfl] at hback
  have hB := Lib.hid hback
  clear hback
  go_wp2_with (go_at_call 24; go_must (refine (hB.out).mono ?_; rintro e w4 ⟨rfl, hQ4, hm4⟩; (have hgw : ¬ g = bw := by have := hQ2.m.lt; omega); (have k0 : w4.cell? ⟨g, 0, none⟩ = some (.int .u64 3) := (hm4.cellB g 0 hgl hgw).trans (hcell 0 _ rfl)); (have k1 : w4.cell? ⟨g, 1, none⟩ = some (.int .u64 1) := (hm4.cellB g 1 hgl hgw).trans (hcell 1 _ rfl))))
  have hleft := left_good bq bc bw 2 2 [4, 0, 0] w4 hQ4 (by decide) (by decide) (by decide) (by decide)
  rw [show qleft 2 2 [4, 0, 0] = ([4, 0, 0], ⟨.fin, 1, 0, 3, 4⟩) from rfl] at hleft
  have hL := Lib.hid hleft
  clear hleft
  go_wp2_with (go_at_call 25; go_must (refine (hL.out).mono ?_; rintro e w5 ⟨rfl, hQ5, hm5⟩))
  go_ret
  refine ⟨rfl, ?_⟩
  have hs1 := hm1.size
  have hS : ∀ x, x ∈ [bw] → x ∈ ([] : List Nat) ∨ w.heap.size ≤ x := fun x hx => by simp at hx; subst hx; exact .inr gbw
  exact (((hm1.trans hm2 hS).trans hm3 (fun x hx => by cases hx)).trans hm4 hS).trans hm5 hS
end Go.Proofs.YtigacfgoldnoiaaDoor
