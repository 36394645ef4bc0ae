/- The document's Whole: an operation done whole. -/
import Derived.Test.YtigacfgoldnoiaaDoorK5
namespace Go.Proofs.YtigacfgoldnoiaaDoor
open Go Go.RowKit
set_option linter.unusedVariables false
set_option linter.unusedSimpArgs false
attribute [local go_sem] World.cell?_alloc_old World.frozen?_alloc_old

/-- An operation's cells. -/
def Un.cells (u : Un) : Array Value := #[.int .u8 u.kind, .int .i64 u.worker, .int .i64 u.at', .int .u64 u.saw, .int .u64 u.hand, .int .u64 u.sum, .bool u.ended, .int .i64 u.ans]

set_option maxHeartbeats 2000000 in
set_option maxRecDepth 100000 in
theorem rwhole_any (batch n m k : Nat) (l : List Nat) (kind worker : Nat) (p : Pn) (v : Value) (W : World) (hS : Sim p ⟨kind, worker, 0, 0, 0, 0, false, 0⟩) (hR : Rds W v l) (hl : l.length = n + 1) (hn : n ≤ 64) (hb : 1 ≤ batch) (hb2 : batch ≤ 1048576)
    (hm : m ≤ 1099511627776) (hst : Still l p) (hloc : Loc n m p) (htot : l.sum + p.nx.hand ≤ m) (hk : toGo n p ≤ k) (hne : p.nx.ended = false) :
    Calls Tryd.prog 26 #[.int .i64 batch, v, .agg #[.int .u8 kind, .int .i64 worker]] W fun e w' =>
      ∃ v', e = .returned (.tuple #[v', .int .i64 (qiter batch n k l p).2.ans]) ∧ w'.ownsRow W.heap.size 39 1 v' (n + 1) (wvs (qiter batch n k l p).1) ∧ Moves [] W w' := by
  have hend := qiter_ends batch n m k l p hst hloc hb hl htot hk
  obtain ⟨F, hF⟩ : ∃ F, F = qiter batch n k l p := ⟨_, rfl⟩
  rw [← hF] at hend ⊢
  have HF := Lib.hid hF
  have HE := Lib.hid hend
  clear hF hend
  have hvb : ∀ g, v.ownBlock = some g → g < W.heap.size := by
    intro g hg
    obtain ⟨g', cap, rfl, _, hlt, _⟩ := hR
    cases hg
    exact hlt
  have HS := Lib.hid hS
  have HNE := Lib.hid hne
  clear hS hne
  go_enter Tryd.func26, Tryd.ntmps26
  go_wp2
  go_loopg [1] k (fun g s1 wr => ∃ (l' : List Nat) (p' : Pn) (u' : Un), qiter batch n g l' p' = F ∧ Still l' p' ∧ Loc n m p' ∧ l'.sum + p'.nx.hand ≤ m ∧ l'.length = n + 1 ∧ Sim p' u' ∧ Has wr (W.heap.size + 1) 41 u'.cells ∧ Rds wr s1 l' ∧ (∀ g, s1.ownBlock = some g → g ≠ W.heap.size + 1) ∧ (p'.nx.ended = true → wr.ownsRow W.heap.size 39 1 s1 (n + 1) (wvs l')) ∧ Moves [] W wr)
  case atStart =>
    refine ⟨l, p, ⟨kind, worker, 0, 0, 0, 0, false, 0⟩, HF.out.symm, hst, hloc, htot, hl, HS.out, ?_, ?_, (fun g hg => by have := hvb g hg; omega), (fun h => by rw [HNE.out] at h; cases h), ?_⟩
    · exact Has.new' (by simp)
    · exact hR.moves (((Moves.refl [] W).alloc _).alloc _) (fun _ _ => by simp)
    · exact ((Moves.refl [] W).alloc _).alloc _
  case round =>
    obtain ⟨l', p', u', hF', hst', hloc', htot', hlen', hS', hU, hR', hfar, hown', hmw'⟩ := hrel
    obtain ⟨he1, he2⟩ := hS'.ended
    have hUc := hU.cell
    have hUf := hU.frozen
    have hsz := hmw'.size
    cases he : p'.nx.ended with
    | true =>
      have hown := hown' he
      have hfin := Lib.hid ((qiter_ended batch n gk l' p' he).symm.trans hF')
      have han : p'.answer = p'.ans := by simp [Pn.answer, he]
      rw [he] at he1
      rw [han] at he2
      obtain ⟨uk, uw, ua, us, uh, um, ue, un⟩ := u'
      simp only at he1 he2
      subst he1 he2
      have HMW := Lib.hid hmw'
      have HOWN := Lib.hid hown
      simp only [Un.cells] at hUc
      clear hF' hst' hloc' htot' hlen' hS' hU hR' hfar hown' hmw' he han hown
      go_wp2_with fail
      go_quiet (fail)
      go_wp2_with fail
      go_ret2
      rw [← hfin.out]
      refine ⟨_, rfl, ?_, ?_⟩
      · exact HOWN.out
      · repeat (first | with_reducible exact HMW.out | with_reducible apply Moves.drew | with_reducible apply Moves.drewN | fail)
    | false =>
      obtain ⟨u2, hS2, hst2⟩ := rstep_any batch n l' p' u' hS' hlen' (hloc'.wf hb hn hm htot') hb2 he
      have h3 := qstep_total batch n m l' p' hlen' hloc' hb
      have hsum : p'.nx = .sum → p'.left ≤ n := fun e => by have := hloc'.2.2; rw [e] at this; exact this.1
      have hq1 := (qstep_still batch n l' p' hst' hsum he).1
      have hq2 := qstep_loc batch n m l' p' hloc' hb (by omega)
      have hq3 : (qstep batch n l' p').1.sum + (qstep batch n l' p').2.1.nx.hand ≤ m := by omega
      have hq4 : (qstep batch n l' p').1.length = n + 1 := by rw [qstep_length, hlen']
      have hcall := hst2 wr u1 hR'
      rw [hlen'] at hcall
      have hF2 : ∃ g, gk = g + 1 ∧ qiter batch n g (qstep batch n l' p').1 (qstep batch n l' p').2.1 = F := by
        cases gk with
        | zero =>
          exfalso
          simp only [qiter] at hF'
          have h2 := HE.out
          rw [← hF'] at h2
          rw [he] at h2
          cases h2
        | succ g => exact ⟨g, rfl, by rw [← hF', qiter_succ _ _ _ _ _ he]⟩
      obtain ⟨g, rfl, hF2⟩ := hF2
      obtain ⟨R, hRe⟩ : ∃ R, R = qstep batch n l' p' := ⟨_, rfl⟩
      rw [← hRe] at hF2 hcall hS2 hq1 hq2 hq3 hq4
      clear hRe hF' hst' hloc' htot' hS' hst2 h3 hsum hown'
      rw [he] at he1
      obtain ⟨uk, uw, ua, us, uh, um, ue, un⟩ := u'
      simp only at he1
      subst he1
      obtain ⟨xk, xw, xa, xs, xh, xm, xe, xn⟩ := u2
      have HF2 := Lib.hid hF2
      have HS2 := Lib.hid hS2
      have HQ1 := Lib.hid hq1
      have HQ2 := Lib.hid hq2
      have HQ4 := Lib.hid hq4
      have HQ3 := Lib.hid hq3
      have HMW := Lib.hid hmw'
      have HU := Lib.hid hU
      have HFAR := Lib.hid hfar
      have HR2 := Lib.hid hR'
      have HLEN := Lib.hid hlen'
      simp only [Un.val, uvl] at hcall
      simp only [Un.cells] at hUc
      have HC := Lib.hid hcall
      clear hF2 hS2 hq1 hq2 hq4 hq3 hmw' hU hfar hR' hlen' hcall he he2
      go_wp2_with (go_at_call 18; go_must (refine (HC.out).mono ?_; rintro e w2 ⟨v', rfl, hown2, hm2⟩; (have U2 := hm2.has HU.out (by simp)); (have U2c := U2.cell); (have U2f := U2.frozen); (simp only [Un.cells] at U2c); (have hl2 := U2.lt); (have hs2 := hm2.size)))
      go_roundg g
      case measure => omega
      case rel =>
        obtain ⟨gv, cap, rfl, hgb, hgl, _, _, _⟩ := own_at hown2 (by omega)
        have hgt : gv ≠ W.heap.size + 1 := by
          obtain ⟨cs, h1⟩ := (own_has hown2 gv rfl).2
          exact h1.ne_type U2 (by decide)
        have hm02 : Moves [] W w2 := HMW.out.trans hm2 (by simp)
        have hownF : ∀ w3, Moves [W.heap.size + 1] w2 w3 → w3.ownsRow W.heap.size 39 1 (.slice (some ⟨gv, 0, none⟩) (n + 1) cap) (n + 1) (wvs R.1) := fun w3 h3 =>
          own_moves (own_base (base' := W.heap.size) hown2 (by omega)) h3 (fun k hk => by cases hk; simpa using hgt)
        have hmv : ∀ w3, Moves [W.heap.size + 1] w2 w3 → Moves [] W w3 := fun w3 h3 => hm02.trans h3 (fun y hy => by simp at hy; subst hy; right; omega)
        refine ⟨R.1, R.2.1, ⟨xk, xw, xa, xs, xh, xm, xe, xn⟩, HF2.out, HQ1.out, HQ2.out, HQ3.out, HQ4.out, HS2.out, ?_, Rds.of_own (hownF _ ?_) (by omega) HQ4.out, (fun g hg => by cases hg; exact hgt), (fun _ => hownF _ ?_), hmv _ ?_⟩
        · apply Has.of_eq
          case h => repeat (first | with_reducible exact U2 | with_reducible apply Has.put | fail)
          case e => rfl
        all_goals (repeat (first | with_reducible exact Moves.refl _ _ | (with_reducible refine Moves.setOld ?_ ?_ _; rotate_left; (solve | simp)) | fail))
end Go.Proofs.YtigacfgoldnoiaaDoor
