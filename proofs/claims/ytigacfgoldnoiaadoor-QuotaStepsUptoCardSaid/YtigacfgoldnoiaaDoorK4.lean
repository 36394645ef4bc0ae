/- The document's Step follows the machine. -/
import Derived.Test.YtigacfgoldnoiaaDoorK3
namespace Go.Proofs.YtigacfgoldnoiaaDoor
open Go Go.RowKit
set_option linter.unusedVariables false
set_option linter.unusedSimpArgs false
attribute [local go_sem] World.cell?_alloc_old World.frozen?_alloc_old

/-- What a step comes to, whatever the world. -/
def StepIs (fn : FuncId) (batch : Int) (l : List Nat) (uin uout dd : Value) (lout : List Nat) : Prop :=
  ∀ (W : World) (v : Value), Rds W v l → Calls Tryd.prog fn #[.int .i64 batch, v, uin] W fun e w' =>
    ∃ v', e = .returned (.tuple #[v', uout, dd]) ∧ w'.ownsRow W.heap.size 39 1 v' l.length (wvs lout) ∧ Moves [] W w'

set_option maxHeartbeats 2000000 in
set_option maxRecDepth 100000 in
theorem step1 (batch worker at' saw hand sum ans : Int) (l lout : List Nat) (k2 w2 a2 s2 h2 m2 n2 : Int) (e2 : Bool) (dk dc ds dp : Int) (dok : Bool) (hnz : 0 < l.length)
    (HT : StepIs 34 batch l (uvl 1 worker at' saw hand sum false ans) (uvl k2 w2 a2 s2 h2 m2 e2 n2) (did dk dc ds dp dok) lout) :
    StepIs 18 batch l (uvl 1 worker at' saw hand sum false ans) (uvl k2 w2 a2 s2 h2 m2 e2 n2) (did dk dc ds dp dok) lout := by
  intro W v hR
  have hT0 := fun W' (hm : Moves [] W W') => HT W' v (hR.moves hm (fun _ _ => by simp))
  have HA := Lib.hid hT0
  clear hT0 HT hR
  obtain ⟨n, hn⟩ : ∃ n, n = l.length := ⟨_, rfl⟩
  rw [← hn] at HA hnz ⊢
  have HN := Lib.hid hn
  clear hn
  have z1 : ¬ W.heap.size + 1 = W.heap.size := by omega
  have z2 : ¬ W.heap.size + 2 = W.heap.size := by omega
  have z3 : ¬ W.heap.size + 2 = W.heap.size + 1 := by omega
  have z4 : ¬ W.heap.size = W.heap.size + 1 := by omega
  have z5 : ¬ W.heap.size = W.heap.size + 2 := by omega
  have z6 : ¬ W.heap.size + 1 = W.heap.size + 2 := by omega
  simp only [uvl, did] at HA ⊢
  go_enter Tryd.func18, Tryd.ntmps18
  go_wp2_with (go_at_call 34; go_must (refine (HA.out _ ?hM).mono ?_; (case hM => repeat (first | with_reducible exact Moves.refl [] _ | with_reducible apply Moves.drew | with_reducible apply Moves.drewN | with_reducible apply Moves.alloc | fail)); rintro e w1 ⟨v', rfl, hown, hm⟩; (have hsz := hm.size); (simp only [World.size_alloc, World.size_drew] at hsz); (have u2 : Has w1 (W.heap.size + 1) 41 #[.int .u8 0, .int .i64 0, .int .i64 0, .int .u64 0, .int .u64 0, .int .u64 0, .bool false, .int .i64 0] := hm.has (by repeat (first | with_reducible apply Has.drew | (with_reducible refine Has.new' ?_; (solve | with_reducible rfl | simp)) | with_reducible apply Has.alloc | fail)) (by simp)); (have u3 : Has w1 (W.heap.size + 2) 46 #[.int .u8 0, .int .i64 0, .int .u64 0, .int .u64 0, .bool false] := hm.has (by repeat (first | with_reducible apply Has.drew | (with_reducible refine Has.new' ?_; (solve | with_reducible rfl | simp)) | with_reducible apply Has.alloc | fail)) (by simp)); (have c2 := u2.cell); (have c3 := u3.cell); (have f2 := u2.frozen); (have f3 := u3.frozen)))
  all_goals (obtain ⟨g, cap, rfl, hgb, hgl, _, _, _⟩ := own_at hown hnz; simp only [World.size_alloc, World.size_drew] at hgb)
  all_goals (have hm0 : Moves [] W w1 := Moves.trans (by repeat (first | with_reducible exact Moves.refl [] _ | with_reducible apply Moves.drew | with_reducible apply Moves.drewN | with_reducible apply Moves.alloc | fail)) hm (by simp))
  all_goals (have ho1 := own_base (base' := W.heap.size) hown (by simp; omega))
  all_goals (try (go_region; all_goals go_wp2_with fail))
  all_goals refine bodyPost_ret (v := .tuple #[.slice (some ⟨g, 0, none⟩) n cap, uvl k2 w2 a2 s2 h2 m2 e2 n2, did dk dc ds dp dok]) (by simp only [results, Tryd.results18, did, uvl]; go_simp) rfl ?_
  all_goals refine ⟨_, rfl, ?_, ?_⟩
  · repeat (first | with_reducible exact ho1 | with_reducible refine own_drew ?_ | (with_reducible refine own_far ?_ ?_; rotate_left; (solve | simp | (simp; omega))) | fail)
  · repeat (first | with_reducible exact hm0 | with_reducible apply Moves.drew | (with_reducible refine Moves.setNew ?_ ?_ _; rotate_left; (solve | simp | (simp; omega))) | fail)

/-- The document's operation stands where the machine's does. -/
def Sim (p : Pn) (u : Un) : Prop :=
  match p.nx with
  | .fin => u.ended = true ∧ u.ans = p.ans
  | .look => u.ended = false ∧ u.ans = 0 ∧ u.kind = 1 ∧ u.worker + 1 = p.own ∧ u.at' = 0
  | .use => u.ended = false ∧ u.ans = 0 ∧ u.kind = 1 ∧ u.worker + 1 = p.own ∧ u.at' = 1 ∧ u.saw = p.saw
  | .pool => u.ended = false ∧ u.ans = 0 ∧ u.kind = 1 ∧ u.worker + 1 = p.own ∧ u.at' = 2
  | .borrow => u.ended = false ∧ u.ans = 0 ∧ u.kind = 1 ∧ u.worker + 1 = p.own ∧ u.at' = 3 ∧ u.saw = p.saw
  | .keep b => u.ended = false ∧ u.ans = 0 ∧ u.kind = 1 ∧ u.worker + 1 = p.own ∧ u.at' = 4 ∧ u.hand = b
  | .empty => u.ended = false ∧ u.ans = 0 ∧ u.kind = 2 ∧ u.worker + 1 = p.own ∧ u.at' = 0
  | .give x => u.ended = false ∧ u.ans = 0 ∧ u.kind = 2 ∧ u.worker + 1 = p.own ∧ u.at' = 1 ∧ u.hand = x ∧ u.sum = x
  | .sum => u.ended = false ∧ u.ans = 0 ∧ u.kind = 3 ∧ u.at' = p.left ∧ u.sum = p.ans
theorem Sim.ended {p : Pn} {u : Un} (h : Sim p u) : u.ended = p.nx.ended ∧ u.ans = p.answer := by
  obtain ⟨nx, own, saw, left, ans⟩ := p
  cases nx <;> simp only [Sim] at h <;> simp [Nx.ended, Pn.answer, h]

/-- The document's step, as a value: what it comes to is what the machine comes to. -/
theorem rstep_any (batch n : Nat) (l : List Nat) (p : Pn) (u : Un) (hS : Sim p u) (hl : l.length = n + 1) (hW : Wf batch n l p) (hb2 : batch ≤ 1048576) (he : p.nx.ended = false) :
    ∃ u' : Un, Sim (qstep batch n l p).2.1 u' ∧ StepIs 18 batch l u.val u'.val (qstep batch n l p).2.2.val (qstep batch n l p).1 := by
  obtain ⟨nx, own, saw, left, ans⟩ := p
  obtain ⟨uk, uw, ua, us, uh, um, ue, un⟩ := u
  obtain ⟨wb, wn, wo, wl, wx⟩ := hW
  simp only at wo
  have h65 : l.length ≤ 65 := by omega
  have hnz : 0 < l.length := by omega
  have hown : l[own]? = some (l.getD own 0) := getD_of (by omega)
  have h0 : l[0]? = some (l.getD 0 0) := getD_of (by omega)
  cases nx with
  | fin => cases he
  | look =>
    simp only [Sim] at hS
    obtain ⟨rfl, rfl, rfl, hw, rfl⟩ := hS
    by_cases hx : 0 < l.getD own 0
    · simp only [qstep, if_pos hx]
      refine ⟨⟨1, uw, 1, l.getD own 0, uh, um, false, 0⟩, ⟨rfl, rfl, rfl, hw, rfl, rfl⟩, ?_⟩
      have h := step1 batch uw 0 us uh um 0 l _ 1 uw 1 ((l.getD own 0 : Nat) : Int) uh um 0 false 1 own ((l.getD own 0 : Nat) : Int) ((l.getD own 0 : Nat) : Int) true hnz (fun W v hR => take0a batch l uw own (l.getD own 0) us uh um 0 hw hown hx h65 W v hR)
      rw [set_same _ _ _ hown] at h
      exact h
    · simp only [qstep, if_neg hx]
      refine ⟨⟨1, uw, 2, l.getD own 0, uh, um, false, 0⟩, ⟨rfl, rfl, rfl, hw, rfl⟩, ?_⟩
      have h := step1 batch uw 0 us uh um 0 l _ 1 uw 2 ((l.getD own 0 : Nat) : Int) uh um 0 false 1 own ((l.getD own 0 : Nat) : Int) ((l.getD own 0 : Nat) : Int) true hnz (fun W v hR => take0b batch l uw own (l.getD own 0) us uh um 0 hw hown hx h65 W v hR)
      rw [set_same _ _ _ hown] at h
      exact h
  | use =>
    simp only [Sim] at hS
    obtain ⟨rfl, rfl, rfl, hw, rfl, rfl⟩ := hS
    simp only at wx
    by_cases hx : l.getD own 0 = us
    · simp only [qstep, if_pos hx]
      refine ⟨⟨1, uw, 0, us, uh, um, true, 1⟩, ⟨rfl, rfl⟩, ?_⟩
      exact step1 batch uw 1 us uh um 0 l _ 1 uw 0 us uh um 1 true 5 own us ((us - 1 : Nat) : Int) true hnz (fun W v hR => take1a batch l uw own us (us - 1) uh um 0 hw (by rw [hown, hx]) (by omega) wx.2 h65 W v hR)
    · simp only [qstep, if_neg hx]
      refine ⟨⟨1, uw, 0, us, uh, um, false, 0⟩, ⟨rfl, rfl, rfl, hw, rfl⟩, ?_⟩
      have h := step1 batch uw 1 us uh um 0 l _ 1 uw 0 us uh um 0 false 5 own ((l.getD own 0 : Nat) : Int) ((l.getD own 0 : Nat) : Int) false hnz (fun W v hR => take1b batch l uw own (l.getD own 0) (us - 1) us uh um 0 hw hown hx (by omega) wx.2 h65 W v hR)
      rw [set_same _ _ _ hown] at h
      exact h
  | pool =>
    simp only [Sim] at hS
    obtain ⟨rfl, rfl, rfl, hw, rfl⟩ := hS
    by_cases hx : 0 < l.getD 0 0
    · simp only [qstep, if_pos hx]
      refine ⟨⟨1, uw, 3, l.getD 0 0, uh, um, false, 0⟩, ⟨rfl, rfl, rfl, hw, rfl, rfl⟩, ?_⟩
      have h := step1 batch uw 2 us uh um 0 l _ 1 uw 3 ((l.getD 0 0 : Nat) : Int) uh um 0 false 1 0 ((l.getD 0 0 : Nat) : Int) ((l.getD 0 0 : Nat) : Int) true hnz (fun W v hR => take2b batch l uw (l.getD 0 0) us uh um 0 (by omega) h0 (by omega) h65 W v hR)
      rw [set_same _ _ _ h0] at h
      exact h
    · simp only [qstep, if_neg hx]
      refine ⟨⟨1, uw, 3, l.getD 0 0, uh, um, true, 0⟩, ⟨rfl, rfl⟩, ?_⟩
      have h := step1 batch uw 2 us uh um 0 l _ 1 uw 3 ((l.getD 0 0 : Nat) : Int) uh um 0 true 1 0 ((l.getD 0 0 : Nat) : Int) ((l.getD 0 0 : Nat) : Int) true hnz (fun W v hR => take2a batch l uw (l.getD 0 0) us uh um 0 (by omega) h0 (by omega) h65 W v hR)
      rw [set_same _ _ _ h0] at h
      exact h
  | borrow =>
    simp only [Sim] at hS
    obtain ⟨rfl, rfl, rfl, hw, rfl, rfl⟩ := hS
    simp only at wx
    rcases Nat.lt_or_ge us batch with hc | hc
    · have hmin : min batch us = us := by omega
      by_cases hx : l.getD 0 0 = us
      · have hx0 : l[0]? = some us := by rw [h0, hx]
        by_cases hb : us = 1
        · simp only [qstep, if_pos hx, hmin, if_pos hb, Nat.sub_self]
          refine ⟨⟨1, uw, 4, us, 0, um, true, 1⟩, ⟨rfl, rfl⟩, ?_⟩
          exact step1 batch uw 3 us uh um 0 l _ 1 uw 4 us 0 um 1 true 5 0 us 0 true hnz (fun W v hR => take3os l batch uw us uh um 0 (by omega) hx0 hc wx.2 wb hb2 wx.1 hb h65 W v hR)
        · simp only [qstep, if_pos hx, hmin, if_neg hb, Nat.sub_self]
          refine ⟨⟨1, uw, 4, us, us, um, false, 0⟩, ⟨rfl, rfl, rfl, hw, rfl, rfl⟩, ?_⟩
          exact step1 batch uw 3 us uh um 0 l _ 1 uw 4 us us um 0 false 5 0 us 0 true hnz (fun W v hR => take3ks l batch uw us uh um 0 (by omega) hx0 hc wx.2 wb hb2 wx.1 hb h65 W v hR)
      · simp only [qstep, if_neg hx]
        refine ⟨⟨1, uw, 2, us, uh, um, false, 0⟩, ⟨rfl, rfl, rfl, hw, rfl⟩, ?_⟩
        have h := step1 batch uw 3 us uh um 0 l _ 1 uw 2 us uh um 0 false 5 0 ((l.getD 0 0 : Nat) : Int) ((l.getD 0 0 : Nat) : Int) false hnz (fun W v hR => take3ms l batch uw (l.getD 0 0) us uh um 0 (by omega) h0 hc wx.2 wb hb2 wx.1 hx h65 W v hR)
        rw [set_same _ _ _ h0] at h
        exact h
    · have hmin : min batch us = batch := by omega
      by_cases hx : l.getD 0 0 = us
      · have hx0 : l[0]? = some us := by rw [h0, hx]
        by_cases hb : batch = 1
        · simp only [qstep, if_pos hx, hmin, if_pos hb]
          refine ⟨⟨1, uw, 4, us, 0, um, true, 1⟩, ⟨rfl, rfl⟩, ?_⟩
          exact step1 batch uw 3 us uh um 0 l _ 1 uw 4 us 0 um 1 true 5 0 us ((us - batch : Nat) : Int) true hnz (fun W v hR => take3ob l batch uw (us - batch) us uh um 0 (by omega) hx0 hc wx.2 wb hb2 wx.1 hb (by omega) h65 W v hR)
        · simp only [qstep, if_pos hx, hmin, if_neg hb]
          refine ⟨⟨1, uw, 4, us, batch, um, false, 0⟩, ⟨rfl, rfl, rfl, hw, rfl, rfl⟩, ?_⟩
          exact step1 batch uw 3 us uh um 0 l _ 1 uw 4 us batch um 0 false 5 0 us ((us - batch : Nat) : Int) true hnz (fun W v hR => take3kb l batch uw (us - batch) us uh um 0 (by omega) hx0 hc wx.2 wb hb2 wx.1 hb (by omega) h65 W v hR)
      · simp only [qstep, if_neg hx]
        refine ⟨⟨1, uw, 2, us, uh, um, false, 0⟩, ⟨rfl, rfl, rfl, hw, rfl⟩, ?_⟩
        have h := step1 batch uw 3 us uh um 0 l _ 1 uw 2 us uh um 0 false 5 0 ((l.getD 0 0 : Nat) : Int) ((l.getD 0 0 : Nat) : Int) false hnz (fun W v hR => take3mb l batch uw (l.getD 0 0) (us - batch) us uh um 0 (by omega) h0 hc wx.2 wb hb2 wx.1 hx (by omega) h65 W v hR)
        rw [set_same _ _ _ h0] at h
        exact h
  | keep b =>
    simp only [Sim] at hS
    obtain ⟨rfl, rfl, rfl, hw, rfl, rfl⟩ := hS
    simp only at wx
    simp only [qstep]
    refine ⟨⟨1, uw, 4, us, 0, um, true, 1⟩, ⟨rfl, rfl⟩, ?_⟩
    exact step1 batch uw 4 us uh um 0 l _ 1 uw 4 us 0 um 1 true 3 own ((l.getD own 0 : Nat) : Int) ((l.getD own 0 + (uh - 1) : Nat) : Int) true hnz (fun W v hR => take4 batch l uw own (l.getD own 0) (uh - 1) us uh um 0 hw hown (by omega) (by omega) (by omega) h65 W v hR)
  | empty =>
    simp only [Sim] at hS
    obtain ⟨rfl, rfl, rfl, hw, rfl⟩ := hS
    by_cases hx : l.getD own 0 = 0
    · simp only [qstep, if_pos hx]
      exact ⟨⟨2, uw, 1, us, l.getD own 0, l.getD own 0, true, 0⟩, ⟨rfl, rfl⟩, fun W v hR => step2a batch l uw own (l.getD own 0) us uh um 0 hw hown hx h65 W v hR⟩
    · simp only [qstep, if_neg hx]
      exact ⟨⟨2, uw, 1, us, l.getD own 0, l.getD own 0, false, 0⟩, ⟨rfl, rfl, rfl, hw, rfl, rfl, rfl⟩, fun W v hR => step2b batch l uw own (l.getD own 0) us uh um 0 hw hown hx h65 W v hR⟩
  | give x =>
    simp only [Sim] at hS
    obtain ⟨rfl, rfl, rfl, hw, rfl, rfl, rfl⟩ := hS
    simp only at wx
    simp only [qstep]
    exact ⟨⟨2, uw, 1, us, 0, um, true, um⟩, ⟨rfl, rfl⟩, fun W v hR => step2c batch l uw (l.getD 0 0) us um um 0 h0 (by omega) (by omega) h65 W v hR⟩
  | sum =>
    simp only [Sim] at hS
    obtain ⟨rfl, rfl, rfl, rfl, rfl⟩ := hS
    simp only at wx
    have hat : l[ua]? = some (l.getD ua 0) := getD_of (by omega)
    by_cases hx : n < ua + 1
    · simp only [qstep, if_pos hx]
      refine ⟨⟨3, uw, ua + 1, us, uh, um + l.getD ua 0, true, um + l.getD ua 0⟩, ⟨rfl, rfl⟩, ?_⟩
      intro W v hR
      have h := step3a batch l uw ua (l.getD ua 0) us uh um 0 hat wx.2 (by omega) h65 W v hR
      rw [set_same _ _ _ hat] at h
      exact h
    · simp only [qstep, if_neg hx]
      refine ⟨⟨3, uw, ua + 1, us, uh, um + l.getD ua 0, false, 0⟩, ⟨rfl, rfl, rfl, rfl, rfl⟩, ?_⟩
      intro W v hR
      have h := step3b batch l uw ua (l.getD ua 0) us uh um 0 hat wx.2 (by omega) h65 W v hR
      rw [set_same _ _ _ hat] at h
      exact h
end Go.Proofs.YtigacfgoldnoiaaDoor
