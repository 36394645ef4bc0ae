/- The document's read. -/
import Derived.Test.YtogegkfefpgbcaaDoorZXPLx0
import Derived.Test.YtogegkfefpgbcaaDoorZXQ1
import Derived.Test.YtogegkfefpgbcaaDoorZXQ2
import Derived.Test.YtogegkfefpgbcaaDoorZXQ3
import Derived.Test.YtogegkfefpgbcaaDoorZXQ4
import Derived.Test.YtogegkfefpgbcaaDoorZXQ5
import Derived.Test.YtogegkfefpgbcaaDoorZXQ6
import Derived.Test.YtogegkfefpgbcaaDoorZXHI
import Derived.Lib.Hide
import Derived.WalkLawsBesides
import Derived.Outline
namespace Go.Proofs.YtogegkfefpgbcaaDoor.PL
open Go.RowKit Go.Proofs.YtogegkfefpgbcaaDoorW.PrintWords Go.Proofs.YtogegkfefpgbcaaDoorW.PrintLast Go.Proofs.YtogegkfefpgbcaaDoorW.PrintMore
set_option linter.unusedVariables false
set_option linter.unusedSimpArgs false
def abacusref12_read.f (k : Nat) (a0 : ByteArray) (a1 : Bool) : Option ((List (S36)) × Int × Int) :=
  (abacusref12_reading_all.f k a0 0 a1 (-1) 0).bind fun r =>
    if r.2.2.2.2.1 < 0 then (if r.2.2.1 < (a0.size : Int) then (if 0 ≤ r.2.2.1 then some (([] : List S36), 120, r.2.2.1) else none) else some (r.1, 0, 0)) else some (([] : List S36), r.2.2.2.2.2, r.2.2.2.2.1)
set_option maxHeartbeats 800000 in
set_option maxRecDepth 100000 in
theorem abacusref12_read.calls (k : Nat) (a0 : ByteArray) (a1 : Bool) (r1 : List (S36)) (r2 : Int) (r3 : Int) (w : World) (h : abacusref12_read.f k a0 a1 = some (r1, r2, r3)) :
    Calls Tryd.prog 52 #[.string a0, .bool a1] w fun e w' => ∃ v0_ : Value, e = .returned (.tuple #[v0_, .int .i64 r2, .int .i64 r3]) ∧ Kd.R k36 36 w' w.heap.size (fun _ => True) v0_ r1 ∧ Below w.heap.size w w' := by
  unfold abacusref12_read.f at h; obtain ⟨⟨l, s, i, m, bad, why⟩, hA, h⟩ := Option.bind_eq_some_iff.1 h; dsimp only at h; have HA := Lib.hid hA; have hu99 := Tryd.underlying99; have HI0 := Lib.hid (IsS99.new w w a0 0 a1 (-1) 0 (Below.refl _ _)); have HB0 := Lib.hid (Below.refl w.heap.size w); clear hA; by_cases hb : bad < 0
  · rw [if_pos hb] at h
    have hb9 : decide (bad < 0) = true := decide_eq_true hb; by_cases hi : i < (a0.size : Int)
    · rw [if_pos hi] at h
      have hi9 : decide (i < (a0.size : Int)) = true := decide_eq_true hi; by_cases h0 : 0 ≤ i
      · rw [if_pos h0] at h
        have h09 : decide (i ≥ 0) = true := decide_eq_true h0
        cases h; have HF : Hid (abacusref12_reading_fail.f s r3 m bad why 120 r3 = some (s, r3, m, r3, 120)) := Lib.hid (by unfold abacusref12_reading_fail.f; rw [if_pos hb]); clear hb hi h0; go_enter Tryd.func52, Tryd.ntmps52; go_wp2_with (first | (go_at_call 85; (with_reducible refine (abacusref12_reading_all.calls k w.heap.size a0 0 a1 (-1) 0 l s r3 m bad why w _ ?side1 ?side2 HA.out).mono ?_); (case side1 => exact HI0.out); (case side2 => exact below_alloc HB0.out _); rintro e w1 ⟨v0, rfl, hr1, hi1, hb1, hk1⟩; have HI1 := Lib.hid hi1; have HB1 := Lib.hid hb1; have k1_1 := cellS99_1 hi1.1; have k3_1 := cellS99_3 hi1.1; have k4_1 := cellS99_4 hi1.1; clear hr1 hi1 hb1 hk1) | (go_at_call 86; (with_reducible refine (abacusref12_reading_fail.calls w.heap.size s r3 m bad why 120 r3 s r3 m r3 120 w _ ?side1 ?side2 HF.out).mono ?_); (case side1 => exact HI1.out); (case side2 => exact HB1.out); rintro e w2 ⟨rfl, hi2, hb2, hk2⟩; have HI2 := Lib.hid hi2; have HB2 := Lib.hid hb2; have q1_1 := cellS99_1 hi2.1; have q3_1 := cellS99_3 hi2.1; have q4_1 := cellS99_4 hi2.1; clear k1_1 k3_1 k4_1 hi2 hb2 hk2))
        repeat (go_quiet (fail); try go_wp2)
        first | ((try simp only [Exit.inBlock, Exit.then]); refine bodyPost_ret (results_tmp3 rfl _ _ _) rfl ?_) | go_end0
        exact ⟨_, rfl, Kd.R_nil _ _ _ _ _, by repeat (first | (with_reducible first | exact HB2.out | apply below_alloc | apply pw_below_drewN | apply below_drew1))⟩
      · rw [if_neg h0] at h
        cases h
    · rw [if_neg hi] at h
      have hi9 : decide (i < (a0.size : Int)) = false := decide_eq_false hi; have h09 : decide (bad ≥ 0) = false := decide_eq_false (by omega)
      cases h; clear hb hi; go_enter Tryd.func52, Tryd.ntmps52; go_wp2_with (first | (go_at_call 85; (with_reducible refine (abacusref12_reading_all.calls k w.heap.size a0 0 a1 (-1) 0 r1 s i m bad why w _ ?side1 ?side2 HA.out).mono ?_); (case side1 => exact HI0.out); (case side2 => exact below_alloc HB0.out _); rintro e w1 ⟨v0, rfl, hr1, hi1, hb1, hk1⟩; have HR1 := Lib.hid hr1; have HB1 := Lib.hid hb1; have k1_1 := cellS99_1 hi1.1; have k3_1 := cellS99_3 hi1.1; have k4_1 := cellS99_4 hi1.1; clear hr1 hi1 hb1 hk1))
      repeat (go_quiet (fail); try go_wp2)
      first | ((try simp only [Exit.inBlock, Exit.then]); refine bodyPost_ret (results_tmp3 rfl _ _ _) rfl ?_) | go_end0
      exact ⟨_, rfl, Kd.R_lower HR1.out (below_size (below_alloc HB0.out _)), HB1.out⟩
  · rw [if_neg hb] at h
    have hb9 : decide (bad < 0) = false := decide_eq_false hb; have h09 : decide (bad ≥ 0) = true := decide_eq_true (by omega)
    cases h; clear hb; go_enter Tryd.func52, Tryd.ntmps52; go_wp2_with (first | (go_at_call 85; (with_reducible refine (abacusref12_reading_all.calls k w.heap.size a0 0 a1 (-1) 0 l s i m r3 r2 w _ ?side1 ?side2 HA.out).mono ?_); (case side1 => exact HI0.out); (case side2 => exact below_alloc HB0.out _); rintro e w1 ⟨v0, rfl, hr1, hi1, hb1, hk1⟩; have HB1 := Lib.hid hb1; have k1_1 := cellS99_1 hi1.1; have k3_1 := cellS99_3 hi1.1; have k4_1 := cellS99_4 hi1.1; clear hr1 hi1 hb1 hk1))
    repeat (go_quiet (fail); try go_wp2)
    first | ((try simp only [Exit.inBlock, Exit.then]); refine bodyPost_ret (results_tmp3 rfl _ _ _) rfl ?_) | go_end0
    exact ⟨_, rfl, Kd.R_nil _ _ _ _ _, by repeat (first | (with_reducible first | exact HB1.out | apply below_alloc | apply pw_below_drewN | apply below_drew1))⟩
end Go.Proofs.YtogegkfefpgbcaaDoor.PL
