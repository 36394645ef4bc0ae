/- Step, Done and Answer of an operation under way, by its machine. -/
import Derived.Test.YtigacfgoldnoiaaDoorA9
namespace Go.Proofs.YtigacfgoldnoiaaDoor
open Go.RowKit
set_option linter.unusedVariables false
set_option linter.unusedSimpArgs false
attribute [local go_sem] World.cell?_alloc_old World.frozen?_alloc_old

set_option maxRecDepth 100000 in
theorem step_fin (bp bq own saw left ans : Nat) (w : World) (hP : Has w bp 77 (pend bq own .nilFunc saw left ans)) :
    Calls Tryd.prog 17 #[.pointer (some ⟨bp, 0, none⟩)] w fun e w' => e = .returned (.tuple #[did 0 0 0 0 false, .bool true]) ∧ Moves [] w w' := by
  have hPc := hP.cell
  simp only [pend] at hPc
  have hlt := hP.lt
  have nb0 : ¬ bp = w.heap.size := by omega
  have nb0' : ¬ w.heap.size = bp := by omega
  have lawn := eqn
  go_enter Tryd.func17, Tryd.ntmps17
  go_wp2
  refine bodyPost_ret (v := .tuple #[did 0 0 0 0 false, .bool true]) (by simp only [results, Tryd.results17, did]; go_simp) rfl ⟨rfl, ?_⟩
  repeat (first | with_reducible exact Moves.refl _ _ | with_reducible apply Moves.drew | with_reducible apply Moves.alloc | (with_reducible refine Moves.setNew ?_ ?_ _; rotate_left; (solve | simp | (simp; omega))) | fail)

theorem done_any (bp bq : Nat) (p : Pn) (w : World) (hP : PendAt w bp bq p) :
    Calls Tryd.prog 19 #[.pointer (some ⟨bp, 0, none⟩)] w fun e w' => e = .returned (.bool p.nx.ended) ∧ w = w' := by
  obtain ⟨f, h1, h2⟩ := hP
  have hPc := h1.cell
  have lawf := eqf
  have lawn := eqn
  obtain ⟨nx, own, saw, left, ans⟩ := p
  cases nx <;> simp only [NxAt] at h2 <;> (first | subst h2 | (obtain ⟨g1, g2, h2, _, _⟩ := h2; subst h2)) <;> simp only [pend, mv, cl] at hPc
  all_goals (go_enter Tryd.func19, Tryd.ntmps19; go_wp2; go_ret; exact ⟨rfl, rfl⟩)

/-- What an operation answers. -/
def Pn.answer (p : Pn) : Nat := if p.nx.ended then p.ans else 0
theorem answer_any (bp bq : Nat) (p : Pn) (w : World) (hP : PendAt w bp bq p) :
    Calls Tryd.prog 20 #[.pointer (some ⟨bp, 0, none⟩)] w fun e w' => e = .returned (.int .i64 p.answer) ∧ w = w' := by
  obtain ⟨f, h1, h2⟩ := hP
  have hPc := h1.cell
  have lawf := nef
  have lawn := nen
  obtain ⟨nx, own, saw, left, ans⟩ := p
  cases nx <;> simp only [NxAt] at h2 <;> (first | subst h2 | (obtain ⟨g1, g2, h2, _, _⟩ := h2; subst h2)) <;> simp only [pend, mv, cl] at hPc
  all_goals (go_enter Tryd.func20, Tryd.ntmps20; go_wp2; go_ret; exact ⟨rfl, rfl⟩)

theorem PendAt.mk {w : World} {bp bq own saw left ans : Nat} {nx : Nx} {f : Value} (h1 : Has w bp 77 (pend bq own f saw left ans)) (h2 : NxAt w bp own nx f) : PendAt w bp bq ⟨nx, own, saw, left, ans⟩ := ⟨f, h1, h2⟩

/-- Step does one action of the operation, and tells what it did, and whether it has ended. -/
theorem step_any (bp bq bc bw batch n : Nat) (l : List Nat) (p : Pn) (w : World) (hP : PendAt w bp bq p) (hQ : Quo w bq bc bw batch n l) (hW : Wf batch n l p) :
    Calls Tryd.prog 17 #[.pointer (some ⟨bp, 0, none⟩)] w fun e w' => e = .returned (.tuple #[(qstep batch n l p).2.2.val, .bool (qstep batch n l p).2.1.nx.ended]) ∧
      PendAt w' bp bq (qstep batch n l p).2.1 ∧ Quo w' bq bc bw batch n (qstep batch n l p).1 ∧ Moves [bp, bw] w w' := by
  obtain ⟨f, h1, h2⟩ := hP
  obtain ⟨nx, own, saw, left, ans⟩ := p
  obtain ⟨wb, wn, wo, wl, wx⟩ := hW
  have hap := hQ.apart h1
  have hapw := hQ.apart_w
  have hlen := hQ.len
  simp only at wo
  have hown : l[own]? = some (l.getD own 0) := getD_of (by omega)
  have h0 : l[0]? = some (l.getD 0 0) := getD_of (by omega)
  have quo : ∀ {w' : World} {l' : List Nat}, Moves [bp, bw] w w' → Has w' bw 99 (wds l') → l'.length = l.length → Quo w' bq bc bw batch n l' := fun hm hw hl =>
    hQ.moves hm (by simp only [List.mem_cons, List.not_mem_nil, or_false, not_or]; exact ⟨⟨Ne.symm hap.1, Ne.symm hapw.1⟩, ⟨Ne.symm hap.2.1, Ne.symm hapw.2.1⟩, ⟨Ne.symm hap.2.2.2, Ne.symm hapw.2.2⟩⟩) hw hl
  cases nx with
  | fin =>
    simp only [NxAt] at h2
    subst h2
    refine (step_fin bp bq own saw left ans w h1).mono ?_
    rintro e w' ⟨rfl, hm⟩
    have hm' : Moves [bp, bw] w w' := hm.more (fun x hx => by cases hx)
    exact ⟨rfl, ⟨_, hm.has h1 (by simp), rfl⟩, quo hm' (hm.has hQ.m (by simp)) rfl, hm'⟩
  | look =>
    simp only [NxAt] at h2
    subst h2
    by_cases hx : 0 < l.getD own 0
    · refine (step_look_some bp bq bc bw batch n own saw left ans _ l w h1 hQ hown hx).mono ?_
      rintro e w' ⟨rfl, hp, hw, hm⟩
      rw [set_same _ _ _ hown] at hw
      simp only [qstep, if_pos hx]
      exact ⟨rfl, ⟨_, hp, rfl⟩, quo hm hw rfl, hm⟩
    · refine (step_look_none bp bq bc bw batch n own saw left ans _ l w h1 hQ hown hx).mono ?_
      rintro e w' ⟨rfl, hp, hw, hm⟩
      rw [set_same _ _ _ hown] at hw
      simp only [qstep, if_neg hx]
      exact ⟨rfl, ⟨_, hp, rfl⟩, quo hm hw rfl, hm⟩
  | use =>
    simp only [NxAt] at h2
    subst h2
    simp only at wx
    by_cases hx : l.getD own 0 = saw
    · refine (step_use_hit bp bq bc bw batch n own saw left ans (saw - 1) l w h1 hQ (by rw [hown, hx]) (by omega) wx.2).mono ?_
      rintro e w' ⟨rfl, hp, hw, hm⟩
      simp only [qstep, if_pos hx]
      exact ⟨rfl, ⟨_, hp, rfl⟩, quo hm hw (by simp), hm⟩
    · refine (step_use_miss bp bq bc bw batch n own saw left ans (saw - 1) _ l w h1 hQ hown hx (by omega) wx.2).mono ?_
      rintro e w' ⟨rfl, hp, hw, hm⟩
      rw [set_same _ _ _ hown] at hw
      simp only [qstep, if_neg hx]
      exact ⟨rfl, ⟨_, hp, rfl⟩, quo hm hw rfl, hm⟩
  | pool =>
    simp only [NxAt] at h2
    subst h2
    by_cases hx : 0 < l.getD 0 0
    · refine (step_pool_some bp bq bc bw batch n own saw left ans _ l w h1 hQ h0 hx).mono ?_
      rintro e w' ⟨rfl, hp, hw, hm⟩
      rw [set_same _ _ _ h0] at hw
      simp only [qstep, if_pos hx]
      exact ⟨rfl, ⟨_, hp, rfl⟩, quo hm hw rfl, hm⟩
    · refine (step_pool_none bp bq bc bw batch n own saw left ans _ l w h1 hQ h0 (by rw [beq_iff_eq]; omega)).mono ?_
      rintro e w' ⟨rfl, hp, hw, hm⟩
      rw [set_same _ _ _ h0] at hw
      simp only [qstep, if_neg hx]
      exact ⟨rfl, ⟨_, hp, rfl⟩, quo hm hw rfl, hm⟩
  | borrow =>
    simp only [NxAt] at h2
    subst h2
    simp only at wx
    rcases Nat.lt_or_ge saw batch with hc | hc
    · have hmin : min batch saw = saw := by omega
      by_cases hx : l.getD 0 0 = saw
      · by_cases hb : saw = 1
        · refine (step_borrow_one_s bp bq bc bw batch n own saw left ans l w h1 hQ (by rw [h0, hx]) hc wx.2 wx.1 (by simp; omega)).mono ?_
          rintro e w' ⟨rfl, hp, hw, hm⟩
          simp only [qstep, if_pos hx, hmin, if_pos hb]
          exact ⟨rfl, ⟨_, hp, rfl⟩, quo hm hw (by simp), hm⟩
        · refine (step_borrow_more_s bp bq bc bw batch n own saw left ans l w h1 hQ (by rw [h0, hx]) hc wx.2 wx.1 (by simp; omega)).mono ?_
          rintro e w' ⟨rfl, g1, g2, hp, hg1, hg2, hw, hm⟩
          simp only [qstep, if_pos hx, hmin, if_neg hb]
          exact ⟨rfl, ⟨_, hp, g1, g2, rfl, hg1, hg2⟩, quo hm hw (by simp), hm⟩
      · refine (step_borrow_miss_s bp bq bc bw batch n own saw left ans _ l w h1 hQ h0 hx hc wx.2 wx.1).mono ?_
        rintro e w' ⟨rfl, hp, hw, hm⟩
        rw [set_same _ _ _ h0] at hw
        simp only [qstep, if_neg hx]
        exact ⟨rfl, ⟨_, hp, rfl⟩, quo hm hw rfl, hm⟩
    · have hmin : min batch saw = batch := by omega
      by_cases hx : l.getD 0 0 = saw
      · by_cases hb : batch = 1
        · refine (step_borrow_one_b bp bq bc bw batch n own saw left ans l w h1 hQ (by rw [h0, hx]) hc wx.2 wb (by simp; omega)).mono ?_
          rintro e w' ⟨rfl, hp, hw, hm⟩
          simp only [qstep, if_pos hx, hmin, if_pos hb]
          exact ⟨rfl, ⟨_, hp, rfl⟩, quo hm hw (by simp), hm⟩
        · refine (step_borrow_more_b bp bq bc bw batch n own saw left ans l w h1 hQ (by rw [h0, hx]) hc wx.2 wb (by simp; omega)).mono ?_
          rintro e w' ⟨rfl, g1, g2, hp, hg1, hg2, hw, hm⟩
          simp only [qstep, if_pos hx, hmin, if_neg hb]
          exact ⟨rfl, ⟨_, hp, g1, g2, rfl, hg1, hg2⟩, quo hm hw (by simp), hm⟩
      · refine (step_borrow_miss_b bp bq bc bw batch n own saw left ans _ l w h1 hQ h0 hx hc wx.2 wb).mono ?_
        rintro e w' ⟨rfl, hp, hw, hm⟩
        rw [set_same _ _ _ h0] at hw
        simp only [qstep, if_neg hx]
        exact ⟨rfl, ⟨_, hp, rfl⟩, quo hm hw rfl, hm⟩
  | keep b =>
    obtain ⟨g1, g2, rfl, hg1, hg2⟩ := h2
    simp only at wx
    refine (step_keep bp bq bc bw batch n own saw left ans b _ g1 g2 l w h1 hQ hg1 hg2 hown wx.1 wx.2).mono ?_
    rintro e w' ⟨rfl, hp, hw, hm⟩
    simp only [qstep]
    exact ⟨rfl, ⟨_, hp, rfl⟩, quo hm hw (by simp), hm⟩
  | empty =>
    simp only [NxAt] at h2
    subst h2
    by_cases hx : l.getD own 0 = 0
    · refine (step_empty_none bp bq bc bw batch n own saw left ans _ l w h1 hQ hown (by rw [beq_iff_eq]; omega)).mono ?_
      rintro e w' ⟨rfl, hp, hw, hm⟩
      simp only [qstep, if_pos hx]
      exact ⟨rfl, ⟨_, hp, rfl⟩, quo hm hw (by simp), hm⟩
    · refine (step_empty_some bp bq bc bw batch n own saw left ans _ l w h1 hQ hown (by rw [beq_eq_false_iff_ne]; omega)).mono ?_
      rintro e w' ⟨rfl, g1, g2, hp, hg1, hg2, hw, hm⟩
      simp only [qstep, if_neg hx]
      exact ⟨rfl, ⟨_, hp, g1, g2, rfl, hg1, hg2⟩, quo hm hw (by simp), hm⟩
  | give x =>
    obtain ⟨g1, g2, rfl, hg1, hg2⟩ := h2
    simp only at wx
    refine (step_give bp bq bc bw batch n own saw left ans x _ g1 g2 l w h1 hQ hg1 hg2 h0 wx).mono ?_
    rintro e w' ⟨rfl, hp, hw, hm⟩
    simp only [qstep]
    exact ⟨rfl, ⟨_, hp, rfl⟩, quo hm hw (by simp), hm⟩
  | sum =>
    simp only [NxAt] at h2
    subst h2
    simp only at wx
    have hleft : l[left]? = some (l.getD left 0) := getD_of (by omega)
    by_cases hx : n < left + 1
    · refine (step_sum_last bp bq bc bw batch n own saw left ans _ l w h1 hQ hleft wx.2 (by omega) hx).mono ?_
      rintro e w' ⟨rfl, hp, hw, hm⟩
      rw [set_same _ _ _ hleft] at hw
      simp only [qstep, if_pos hx]
      exact ⟨rfl, ⟨_, hp, rfl⟩, quo hm hw rfl, hm⟩
    · refine (step_sum_more bp bq bc bw batch n own saw left ans _ l w h1 hQ hleft wx.2 (by omega) (by omega)).mono ?_
      rintro e w' ⟨rfl, hp, hw, hm⟩
      rw [set_same _ _ _ hleft] at hw
      simp only [qstep, if_neg hx]
      exact ⟨rfl, ⟨_, hp, rfl⟩, quo hm hw rfl, hm⟩
end Go.Proofs.YtigacfgoldnoiaaDoor
