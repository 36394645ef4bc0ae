/- Functions of the labels (packed). -/
import Derived.Test.YtogegkfefpgbcaaDoorZTPLx0
import Derived.Test.YtogegkfefpgbcaaDoorZTPLx1
import Derived.Test.YtogegkfefpgbcaaDoorZTPLx2
import Derived.Test.YtogegkfefpgbcaaDoorZTQ1
namespace Go.Proofs.YtogegkfefpgbcaaDoor.PL
open Go.RowKit Go.Proofs.YtogegkfefpgbcaaDoorW.PrintWords Go.Proofs.YtogegkfefpgbcaaDoorW.PrintLast Go.Proofs.YtogegkfefpgbcaaDoorW.PrintMore
attribute [local go_sem] max2_int min2_int max_two min_two max_three min_three max_four min_four   -- for this text's walks alone
set_option linter.unusedVariables false
set_option linter.unusedSimpArgs false
attribute [local go_sem high] eqA59
attribute [local go_sem high] eqA36

/-! ### abacusref12_Compare: function 44 -/
mutual
def abacusref12_Compare.l0 : Nat → List (S59) → List (S59) → Int → Option (Int)
  | 0, _, _, _ => none
  | k + 1, x0, x1, x5 => if x5 < (x0.length : Int) then (abacusref12_Compare.j1 k x0 x1 x5 (decide (x5 < (x1.length : Int)))) else (abacusref12_Compare.j1 k x0 x1 x5 false)
def abacusref12_Compare.j1 : Nat → List (S59) → List (S59) → Int → Bool → Option (Int)
  | 0, _, _, _, _ => none
  | k + 1, x0, x1, x5, x15 => if x15 = true then (if 0 ≤ x5 then (if x5 < (x0.length : Int) then (if x5 < (x1.length : Int) then (if ((((rd_T59 x0 x5).f0).toList) == (((rd_T59 x1 x5).f0).toList) && ((((rd_T59 x0 x5).f1).toList) == (((rd_T59 x1 x5).f1).toList))) = true then (abacusref12_Compare.l0 k x0 x1 (wrap64 (x5 + 1))) else (if (Op.bytesLess (((rd_T59 x0 x5).f0).toList) (((rd_T59 x1 x5).f0).toList)) = true then (some (-1)) else (if ((rd_T59 x0 x5).f0).toList = ((rd_T59 x1 x5).f0).toList then (if (Op.bytesLess (((rd_T59 x0 x5).f1).toList) (((rd_T59 x1 x5).f1).toList)) = true then (some (-1)) else (some 1)) else (some 1)))) else (none)) else (none)) else (none)) else (if (x0.length : Int) < (x1.length : Int) then (some (-1)) else (if (x0.length : Int) > (x1.length : Int) then (some 1) else (some 0)))
end
def abacusref12_Compare.f (k : Nat) (l0 : List (S59)) (l1 : List (S59)) : Option (Int) := abacusref12_Compare.l0 k l0 l1 0
set_option maxHeartbeats 8000000 in
set_option maxRecDepth 100000 in
theorem abacusref12_Compare.calls (k : Nat) (A0 : Option Addr) (c0 : Nat) (l0 : List (S59)) (A1 : Option Addr) (c1 : Nat) (l1 : List (S59)) (r : Int) (w : World) (hr0 : Kd.C k59 w A0 l0.length l0) (hc0 : l0.length ≤ c0) (hr1 : Kd.C k59 w A1 l1.length l1) (hc1 : l1.length ≤ c1) (h : abacusref12_Compare.f k l0 l1 = some r) :
    Calls Tryd.prog 44 #[.slice A0 l0.length c0, .slice A1 l1.length c1] w fun e w' => e = .returned (.int .i64 r) ∧ Drawn0 w w' := by
  have hu59 := Tryd.underlying59
  have HR0 := Aside0.mk hr0
  have HC0 := Aside0.mk hc0
  clear hr0 hc0
  have HR1 := Aside0.mk hr1
  have HC1 := Aside0.mk hc1
  clear hr1 hc1
  have H : (abacusref12_Compare.l0 k l0 l1 0) = some r := h
  clear h
  have H' := Aside0.mk H
  clear H
  go_enter Tryd.func44, Tryd.ntmps44
  go_wp2
  repeat (go_quiet (fail); try go_wp2)
  go_loopg [5] k (fun kq v5 w' => ∃ (x5_1 : Int), v5 = .int .i64 x5_1 ∧ Aside0 (abacusref12_Compare.l0 kq l0 l1 x5_1 = some r) ∧ Aside0 (kq ≤ k) ∧ Drawn0 w w')
  case atStart => exact ⟨(0), zs, H', ⟨Nat.le_refl _⟩, by repeat (first | exact Drawn0.refl _ | apply Drawn0.step)⟩
  case round =>
    clear H'
    try clear c1
    try clear p2
    obtain ⟨x5_1, rfl, HA, HK1, ⟨m1, rfl⟩⟩ := hrel
    cases gk with
    | zero => exact absurd HA.out (by simp [abacusref12_Compare.l0])
    | succ k1 =>
      have H := HA.out
      clear HA
      simp only [abacusref12_Compare.l0] at H
      have HC3 := Aside0.mk H
      clear H
      go_upto_region 2 with (fail)
      repeat (go_quiet (fail); go_upto_region 2 with (fail))
      go_cut [15] (fun v15 wc => ∃ (kq : Nat) (x15_2 : Bool), v15 = .bool x15_2 ∧ Aside0 (abacusref12_Compare.j1 kq l0 l1 x5_1 x15_2 = some r) ∧ Aside0 (kq ≤ k1) ∧ Drawn0 w wc)
      case first =>
        have H := HC3.out
        clear HC3
        by_cases c4 : x5_1 < (l0.length : Int)
        · rw [if_pos c4] at H
          have c4b0 : decide (x5_1 < (l0.length : Int)) = true := decide_eq_true c4
          clear c4
          (first | rw [c4b0] | (simp only [i64_w, i32_w]; rw [c4b0]) | skip)
          have H' := Aside0.mk H
          clear H
          go_wp2
          repeat (go_quiet (fail); try go_wp2)
          go_meet
          case rel => exact ⟨_, (decide (x5_1 < (l1.length : Int))), zs, H', ⟨by have := HK1.out; first | omega | exact Nat.le_refl _⟩, by repeat (first | exact Drawn0.refl _ | apply Drawn0.step)⟩
        · rw [if_neg c4] at H
          have c4b0 : decide (x5_1 < (l0.length : Int)) = false := decide_eq_false c4
          clear c4
          (first | rw [c4b0] | (simp only [i64_w, i32_w]; rw [c4b0]) | skip)
          have H' := Aside0.mk H
          clear H
          go_wp2
          repeat (go_quiet (fail); try go_wp2)
          go_meet
          case rel => exact ⟨_, (false), zs, H', ⟨by have := HK1.out; first | omega | exact Nat.le_refl _⟩, by repeat (first | exact Drawn0.refl _ | apply Drawn0.step)⟩
      case rest =>
        clear HC3
        try clear c1
        try clear p2
        try clear c4
        try clear c4b0
        try clear p2
        obtain ⟨kq, x15_2, rfl, HA, HJ2, ⟨mc2, rfl⟩⟩ := hcut
        cases kq with
        | zero => exact absurd HA.out (by simp [abacusref12_Compare.j1])
        | succ kj2 =>
          have H := HA.out
          clear HA
          simp only [abacusref12_Compare.j1] at H
          by_cases c5 : x15_2 = true
          · subst c5
            have H1 : (if 0 ≤ x5_1 then (if x5_1 < (l0.length : Int) then (if x5_1 < (l1.length : Int) then (if ((((rd_T59 l0 x5_1).f0).toList) == (((rd_T59 l1 x5_1).f0).toList) && ((((rd_T59 l0 x5_1).f1).toList) == (((rd_T59 l1 x5_1).f1).toList))) = true then (abacusref12_Compare.l0 kj2 l0 l1 (wrap64 (x5_1 + 1))) else (if (Op.bytesLess (((rd_T59 l0 x5_1).f0).toList) (((rd_T59 l1 x5_1).f0).toList)) = true then (some (-1)) else (if ((rd_T59 l0 x5_1).f0).toList = ((rd_T59 l1 x5_1).f0).toList then (if (Op.bytesLess (((rd_T59 l0 x5_1).f1).toList) (((rd_T59 l1 x5_1).f1).toList)) = true then (some (-1)) else (some 1)) else (some 1)))) else (none)) else (none)) else (none)) = some r := by rw [if_pos rfl] at H; exact H
            clear H
            have H := H1
            clear H1
            by_cases c6 : 0 ≤ x5_1
            · rw [if_pos c6] at H
              have c6b0 : decide (0 ≤ x5_1) = true := decide_eq_true c6
              clear c6
              by_cases c7 : x5_1 < (l0.length : Int)
              · rw [if_pos c7] at H
                have c7b0 : decide (x5_1 < (l0.length : Int)) = true := decide_eq_true c7
                clear c7
                by_cases c8 : x5_1 < (l1.length : Int)
                · rw [if_pos c8] at H
                  have c8b0 : decide (x5_1 < (l1.length : Int)) = true := decide_eq_true c8
                  clear c8
                  by_cases c9 : ((((rd_T59 l0 x5_1).f0).toList) == (((rd_T59 l1 x5_1).f0).toList) && ((((rd_T59 l0 x5_1).f1).toList) == (((rd_T59 l1 x5_1).f1).toList))) = true
                  · rw [if_pos c9] at H
                    have c9b0 : ((((rd_T59 l0 x5_1).f0).toList) == (((rd_T59 l1 x5_1).f0).toList) && ((((rd_T59 l0 x5_1).f1).toList) == (((rd_T59 l1 x5_1).f1).toList))) = true := c9
                    (try (have c9b1 : decide ((((rd_T59 l0 x5_1).f0).toList) = (((rd_T59 l1 x5_1).f0).toList) && ((((rd_T59 l0 x5_1).f1).toList) == (((rd_T59 l1 x5_1).f1).toList))) = true := by simpa using c9))
                    (try (have c9b2 : ((((rd_T59 l0 x5_1).f0).toList) == (((rd_T59 l1 x5_1).f0).toList) && ((((rd_T59 l0 x5_1).f1).toList) == (((rd_T59 l1 x5_1).f1).toList))) = true := by simpa using c9))
                    clear c9
                    have H' := Aside0.mk H
                    clear H
                    have p533 : 0 ≤ (x5_1 : Int) := of_decide_eq_true za
                    have q533 : x5_1 < (l0.length : Int) := of_decide_eq_true za
                    obtain ⟨ad533, e533, hx533_0, hx533_1⟩ := at_T59 HR0.out x5_1 p533 q533
                    cases e533
                    replace p533 := eq_true p533
                    replace q533 := eq_true q533
                    have p534 : 0 ≤ (x5_1 : Int) := of_decide_eq_true za
                    have q534 : x5_1 < (l1.length : Int) := of_decide_eq_true za
                    obtain ⟨ad534, e534, hx534_0, hx534_1⟩ := at_T59 HR1.out x5_1 p534 q534
                    cases e534
                    replace p534 := eq_true p534
                    replace q534 := eq_true q534
                    go_wp2
                    repeat (go_quiet (fail); try go_wp2)
                    go_roundg kj2
                    case measure => have := HK1.out; have := HJ2.out; omega
                    case rel => exact ⟨(wrap64 (x5_1 + 1)), zs, H', ⟨by have := HK1.out; have := HJ2.out; omega⟩, by repeat (first | exact Drawn0.refl _ | apply Drawn0.step)⟩
                  · rw [if_neg c9] at H
                    have c9b0 : ((((rd_T59 l0 x5_1).f0).toList) == (((rd_T59 l1 x5_1).f0).toList) && ((((rd_T59 l0 x5_1).f1).toList) == (((rd_T59 l1 x5_1).f1).toList))) = false := by simpa using c9
                    (try (have c9b1 : decide ((((rd_T59 l0 x5_1).f0).toList) = (((rd_T59 l1 x5_1).f0).toList) && ((((rd_T59 l0 x5_1).f1).toList) == (((rd_T59 l1 x5_1).f1).toList))) = false := by simpa using c9))
                    (try (have c9b2 : ((((rd_T59 l0 x5_1).f0).toList) == (((rd_T59 l1 x5_1).f0).toList) && ((((rd_T59 l0 x5_1).f1).toList) == (((rd_T59 l1 x5_1).f1).toList))) = false := by simpa using c9))
                    (try (have c9b3 : ¬ ((((rd_T59 l0 x5_1).f0).toList) = (((rd_T59 l1 x5_1).f0).toList) && ((((rd_T59 l0 x5_1).f1).toList) == (((rd_T59 l1 x5_1).f1).toList))) := by simpa using c9))
                    clear c9
                    by_cases c10 : (Op.bytesLess (((rd_T59 l0 x5_1).f0).toList) (((rd_T59 l1 x5_1).f0).toList)) = true
                    · rw [if_pos c10] at H
                      have c10b0 : (Op.bytesLess (((rd_T59 l0 x5_1).f0).toList) (((rd_T59 l1 x5_1).f0).toList)) = true := c10
                      clear c10
                      obtain rfl := Option.some.inj H
                      have p533 : 0 ≤ (x5_1 : Int) := of_decide_eq_true za
                      have q533 : x5_1 < (l0.length : Int) := of_decide_eq_true za
                      obtain ⟨ad533, e533, hx533_0, hx533_1⟩ := at_T59 HR0.out x5_1 p533 q533
                      cases e533
                      replace p533 := eq_true p533
                      replace q533 := eq_true q533
                      have p534 : 0 ≤ (x5_1 : Int) := of_decide_eq_true za
                      have q534 : x5_1 < (l1.length : Int) := of_decide_eq_true za
                      obtain ⟨ad534, e534, hx534_0, hx534_1⟩ := at_T59 HR1.out x5_1 p534 q534
                      cases e534
                      replace p534 := eq_true p534
                      replace q534 := eq_true q534
                      have p535 : 0 ≤ (x5_1 : Int) := of_decide_eq_true za
                      have q535 : x5_1 < (l0.length : Int) := of_decide_eq_true za
                      obtain ⟨ad535, e535, hx535_0, hx535_1⟩ := at_T59 HR0.out x5_1 p535 q535
                      obtain rfl : ad533 = ad535 := (by injection e535)
                      replace p535 := eq_true p535
                      replace q535 := eq_true q535
                      have p536 : 0 ≤ (x5_1 : Int) := of_decide_eq_true za
                      have q536 : x5_1 < (l1.length : Int) := of_decide_eq_true za
                      obtain ⟨ad536, e536, hx536_0, hx536_1⟩ := at_T59 HR1.out x5_1 p536 q536
                      obtain rfl : ad534 = ad536 := (by injection e536)
                      replace p536 := eq_true p536
                      replace q536 := eq_true q536
                      go_wp2
                      repeat (go_quiet (fail); try go_wp2)
                      go_ret
                      exact ⟨zs, by repeat (first | exact Drawn0.refl _ | apply Drawn0.step)⟩
                    · rw [if_neg c10] at H
                      have c10b0 : (Op.bytesLess (((rd_T59 l0 x5_1).f0).toList) (((rd_T59 l1 x5_1).f0).toList)) = false := by simpa using c10
                      clear c10
                      by_cases c11 : ((rd_T59 l0 x5_1).f0).toList = ((rd_T59 l1 x5_1).f0).toList
                      · rw [if_pos c11] at H
                        have c11b0 : (((rd_T59 l0 x5_1).f0).toList == ((rd_T59 l1 x5_1).f0).toList) = true := beq_iff_eq.mpr c11
                        have c11b1 : (((rd_T59 l0 x5_1).f0).toList != ((rd_T59 l1 x5_1).f0).toList) = false := bne_eq_false_iff_eq.mpr c11
                        have c9z : ((((rd_T59 l0 x5_1).f1).toList) == (((rd_T59 l1 x5_1).f1).toList)) = false := by simpa [c11b0] using c9b0
                        clear c11
                        by_cases c12 : (Op.bytesLess (((rd_T59 l0 x5_1).f1).toList) (((rd_T59 l1 x5_1).f1).toList)) = true
                        · rw [if_pos c12] at H
                          have c12b0 : (Op.bytesLess (((rd_T59 l0 x5_1).f1).toList) (((rd_T59 l1 x5_1).f1).toList)) = true := c12
                          clear c12
                          obtain rfl := Option.some.inj H
                          have p533 : 0 ≤ (x5_1 : Int) := of_decide_eq_true za
                          have q533 : x5_1 < (l0.length : Int) := of_decide_eq_true za
                          obtain ⟨ad533, e533, hx533_0, hx533_1⟩ := at_T59 HR0.out x5_1 p533 q533
                          cases e533
                          replace p533 := eq_true p533
                          replace q533 := eq_true q533
                          have p534 : 0 ≤ (x5_1 : Int) := of_decide_eq_true za
                          have q534 : x5_1 < (l1.length : Int) := of_decide_eq_true za
                          obtain ⟨ad534, e534, hx534_0, hx534_1⟩ := at_T59 HR1.out x5_1 p534 q534
                          cases e534
                          replace p534 := eq_true p534
                          replace q534 := eq_true q534
                          have p535 : 0 ≤ (x5_1 : Int) := of_decide_eq_true za
                          have q535 : x5_1 < (l0.length : Int) := of_decide_eq_true za
                          obtain ⟨ad535, e535, hx535_0, hx535_1⟩ := at_T59 HR0.out x5_1 p535 q535
                          obtain rfl : ad533 = ad535 := (by injection e535)
                          replace p535 := eq_true p535
                          replace q535 := eq_true q535
                          have p536 : 0 ≤ (x5_1 : Int) := of_decide_eq_true za
                          have q536 : x5_1 < (l1.length : Int) := of_decide_eq_true za
                          obtain ⟨ad536, e536, hx536_0, hx536_1⟩ := at_T59 HR1.out x5_1 p536 q536
                          obtain rfl : ad534 = ad536 := (by injection e536)
                          replace p536 := eq_true p536
                          replace q536 := eq_true q536
                          have p537 : 0 ≤ (x5_1 : Int) := of_decide_eq_true za
                          have q537 : x5_1 < (l0.length : Int) := of_decide_eq_true za
                          obtain ⟨ad537, e537, hx537_0, hx537_1⟩ := at_T59 HR0.out x5_1 p537 q537
                          obtain rfl : ad533 = ad537 := (by injection e537)
                          replace p537 := eq_true p537
                          replace q537 := eq_true q537
                          have p538 : 0 ≤ (x5_1 : Int) := of_decide_eq_true za
                          have q538 : x5_1 < (l1.length : Int) := of_decide_eq_true za
                          obtain ⟨ad538, e538, hx538_0, hx538_1⟩ := at_T59 HR1.out x5_1 p538 q538
                          obtain rfl : ad534 = ad538 := (by injection e538)
                          replace p538 := eq_true p538
                          replace q538 := eq_true q538
                          have p539 : 0 ≤ (x5_1 : Int) := of_decide_eq_true za
                          have q539 : x5_1 < (l0.length : Int) := of_decide_eq_true za
                          obtain ⟨ad539, e539, hx539_0, hx539_1⟩ := at_T59 HR0.out x5_1 p539 q539
                          obtain rfl : ad533 = ad539 := (by injection e539)
                          replace p539 := eq_true p539
                          replace q539 := eq_true q539
                          have p540 : 0 ≤ (x5_1 : Int) := of_decide_eq_true za
                          have q540 : x5_1 < (l1.length : Int) := of_decide_eq_true za
                          obtain ⟨ad540, e540, hx540_0, hx540_1⟩ := at_T59 HR1.out x5_1 p540 q540
                          obtain rfl : ad534 = ad540 := (by injection e540)
                          replace p540 := eq_true p540
                          replace q540 := eq_true q540
                          go_wp2
                          repeat (go_quiet (fail); try go_wp2)
                          go_ret
                          exact ⟨zs, by repeat (first | exact Drawn0.refl _ | apply Drawn0.step)⟩
                        · rw [if_neg c12] at H
                          have c12b0 : (Op.bytesLess (((rd_T59 l0 x5_1).f1).toList) (((rd_T59 l1 x5_1).f1).toList)) = false := by simpa using c12
                          clear c12
                          obtain rfl := Option.some.inj H
                          have p533 : 0 ≤ (x5_1 : Int) := of_decide_eq_true za
                          have q533 : x5_1 < (l0.length : Int) := of_decide_eq_true za
                          obtain ⟨ad533, e533, hx533_0, hx533_1⟩ := at_T59 HR0.out x5_1 p533 q533
                          cases e533
                          replace p533 := eq_true p533
                          replace q533 := eq_true q533
                          have p534 : 0 ≤ (x5_1 : Int) := of_decide_eq_true za
                          have q534 : x5_1 < (l1.length : Int) := of_decide_eq_true za
                          obtain ⟨ad534, e534, hx534_0, hx534_1⟩ := at_T59 HR1.out x5_1 p534 q534
                          cases e534
                          replace p534 := eq_true p534
                          replace q534 := eq_true q534
                          have p535 : 0 ≤ (x5_1 : Int) := of_decide_eq_true za
                          have q535 : x5_1 < (l0.length : Int) := of_decide_eq_true za
                          obtain ⟨ad535, e535, hx535_0, hx535_1⟩ := at_T59 HR0.out x5_1 p535 q535
                          obtain rfl : ad533 = ad535 := (by injection e535)
                          replace p535 := eq_true p535
                          replace q535 := eq_true q535
                          have p536 : 0 ≤ (x5_1 : Int) := of_decide_eq_true za
                          have q536 : x5_1 < (l1.length : Int) := of_decide_eq_true za
                          obtain ⟨ad536, e536, hx536_0, hx536_1⟩ := at_T59 HR1.out x5_1 p536 q536
                          obtain rfl : ad534 = ad536 := (by injection e536)
                          replace p536 := eq_true p536
                          replace q536 := eq_true q536
                          have p537 : 0 ≤ (x5_1 : Int) := of_decide_eq_true za
                          have q537 : x5_1 < (l0.length : Int) := of_decide_eq_true za
                          obtain ⟨ad537, e537, hx537_0, hx537_1⟩ := at_T59 HR0.out x5_1 p537 q537
                          obtain rfl : ad533 = ad537 := (by injection e537)
                          replace p537 := eq_true p537
                          replace q537 := eq_true q537
                          have p538 : 0 ≤ (x5_1 : Int) := of_decide_eq_true za
                          have q538 : x5_1 < (l1.length : Int) := of_decide_eq_true za
                          obtain ⟨ad538, e538, hx538_0, hx538_1⟩ := at_T59 HR1.out x5_1 p538 q538
                          obtain rfl : ad534 = ad538 := (by injection e538)
                          replace p538 := eq_true p538
                          replace q538 := eq_true q538
                          have p539 : 0 ≤ (x5_1 : Int) := of_decide_eq_true za
                          have q539 : x5_1 < (l0.length : Int) := of_decide_eq_true za
                          obtain ⟨ad539, e539, hx539_0, hx539_1⟩ := at_T59 HR0.out x5_1 p539 q539
                          obtain rfl : ad533 = ad539 := (by injection e539)
                          replace p539 := eq_true p539
                          replace q539 := eq_true q539
                          have p540 : 0 ≤ (x5_1 : Int) := of_decide_eq_true za
                          have q540 : x5_1 < (l1.length : Int) := of_decide_eq_true za
                          obtain ⟨ad540, e540, hx540_0, hx540_1⟩ := at_T59 HR1.out x5_1 p540 q540
                          obtain rfl : ad534 = ad540 := (by injection e540)
                          replace p540 := eq_true p540
                          replace q540 := eq_true q540
                          go_wp2
                          repeat (go_quiet (fail); try go_wp2)
                          go_ret
                          exact ⟨zs, by repeat (first | exact Drawn0.refl _ | apply Drawn0.step)⟩
                      · rw [if_neg c11] at H
                        have c11b0 : (((rd_T59 l0 x5_1).f0).toList == ((rd_T59 l1 x5_1).f0).toList) = false := beq_eq_false_iff_ne.mpr c11
                        have c11b1 : (((rd_T59 l0 x5_1).f0).toList != ((rd_T59 l1 x5_1).f0).toList) = true := bne_iff_ne.mpr c11
                        obtain rfl := Option.some.inj H
                        have p533 : 0 ≤ (x5_1 : Int) := of_decide_eq_true za
                        have q533 : x5_1 < (l0.length : Int) := of_decide_eq_true za
                        obtain ⟨ad533, e533, hx533_0, hx533_1⟩ := at_T59 HR0.out x5_1 p533 q533
                        cases e533
                        replace p533 := eq_true p533
                        replace q533 := eq_true q533
                        have p534 : 0 ≤ (x5_1 : Int) := of_decide_eq_true za
                        have q534 : x5_1 < (l1.length : Int) := of_decide_eq_true za
                        obtain ⟨ad534, e534, hx534_0, hx534_1⟩ := at_T59 HR1.out x5_1 p534 q534
                        cases e534
                        replace p534 := eq_true p534
                        replace q534 := eq_true q534
                        have p535 : 0 ≤ (x5_1 : Int) := of_decide_eq_true za
                        have q535 : x5_1 < (l0.length : Int) := of_decide_eq_true za
                        obtain ⟨ad535, e535, hx535_0, hx535_1⟩ := at_T59 HR0.out x5_1 p535 q535
                        obtain rfl : ad533 = ad535 := (by injection e535)
                        replace p535 := eq_true p535
                        replace q535 := eq_true q535
                        have p536 : 0 ≤ (x5_1 : Int) := of_decide_eq_true za
                        have q536 : x5_1 < (l1.length : Int) := of_decide_eq_true za
                        obtain ⟨ad536, e536, hx536_0, hx536_1⟩ := at_T59 HR1.out x5_1 p536 q536
                        obtain rfl : ad534 = ad536 := (by injection e536)
                        replace p536 := eq_true p536
                        replace q536 := eq_true q536
                        have p537 : 0 ≤ (x5_1 : Int) := of_decide_eq_true za
                        have q537 : x5_1 < (l0.length : Int) := of_decide_eq_true za
                        obtain ⟨ad537, e537, hx537_0, hx537_1⟩ := at_T59 HR0.out x5_1 p537 q537
                        obtain rfl : ad533 = ad537 := (by injection e537)
                        replace p537 := eq_true p537
                        replace q537 := eq_true q537
                        have p538 : 0 ≤ (x5_1 : Int) := of_decide_eq_true za
                        have q538 : x5_1 < (l1.length : Int) := of_decide_eq_true za
                        obtain ⟨ad538, e538, hx538_0, hx538_1⟩ := at_T59 HR1.out x5_1 p538 q538
                        obtain rfl : ad534 = ad538 := (by injection e538)
                        replace p538 := eq_true p538
                        replace q538 := eq_true q538
                        go_wp2
                        repeat (go_quiet (fail); try go_wp2)
                        go_ret
                        exact ⟨zs, by repeat (first | exact Drawn0.refl _ | apply Drawn0.step)⟩
                · rw [if_neg c8] at H
                  exact absurd H (by simp)
              · rw [if_neg c7] at H
                exact absurd H (by simp)
            · rw [if_neg c6] at H
              exact absurd H (by simp)
          · replace c5 := Bool.eq_false_iff.mpr c5
            subst c5
            have H1 : (if (l0.length : Int) < (l1.length : Int) then (some (-1)) else (if (l0.length : Int) > (l1.length : Int) then (some 1) else (some 0))) = some r := by rw [if_neg (show ¬ (false = true) by decide)] at H; exact H
            clear H
            have H := H1
            clear H1
            by_cases c13 : (l0.length : Int) < (l1.length : Int)
            · rw [if_pos c13] at H
              have c13b0 : decide ((l0.length : Int) < (l1.length : Int)) = true := decide_eq_true c13
              have c13b1 : decide (l0.length < l1.length) = true := decide_eq_true (Int.ofNat_lt.mp c13)
              clear c13
              obtain rfl := Option.some.inj H
              go_wp2
              repeat (go_quiet (fail); try go_wp2)
              go_ret
              exact ⟨zs, by repeat (first | exact Drawn0.refl _ | apply Drawn0.step)⟩
            · rw [if_neg c13] at H
              have c13b0 : decide ((l0.length : Int) < (l1.length : Int)) = false := decide_eq_false c13
              have c13b1 : decide (l0.length < l1.length) = false := decide_eq_false (fun h => c13 (Int.ofNat_lt.mpr h))
              clear c13
              by_cases c14 : (l0.length : Int) > (l1.length : Int)
              · rw [if_pos c14] at H
                have c14b0 : decide ((l1.length : Int) < (l0.length : Int)) = true := decide_eq_true c14
                have c14b1 : decide (l1.length < l0.length) = true := decide_eq_true (Int.ofNat_lt.mp c14)
                clear c14
                obtain rfl := Option.some.inj H
                go_wp2
                repeat (go_quiet (fail); try go_wp2)
                go_ret
                exact ⟨zs, by repeat (first | exact Drawn0.refl _ | apply Drawn0.step)⟩
              · rw [if_neg c14] at H
                have c14b0 : decide ((l1.length : Int) < (l0.length : Int)) = false := decide_eq_false c14
                have c14b1 : decide (l1.length < l0.length) = false := decide_eq_false (fun h => c14 (Int.ofNat_lt.mpr h))
                clear c14
                obtain rfl := Option.some.inj H
                go_wp2
                repeat (go_quiet (fail); try go_wp2)
                go_ret
                exact ⟨zs, by repeat (first | exact Drawn0.refl _ | apply Drawn0.step)⟩

/-! ### abacusref12_Same: function 16 -/
def abacusref12_Same.f (k : Nat) (l0 : List (S59)) (l1 : List (S59)) : Option (Bool) := if (l0.length : Int) = (l1.length : Int) then ((abacusref12_Compare.f k l0 l1).bind fun t541 => (some (t541 == 0))) else (some false)
set_option maxHeartbeats 8000000 in
set_option maxRecDepth 100000 in
theorem abacusref12_Same.calls (k : Nat) (A0 : Option Addr) (c0 : Nat) (l0 : List (S59)) (A1 : Option Addr) (c1 : Nat) (l1 : List (S59)) (r : Bool) (w : World) (hr0 : Kd.C k59 w A0 l0.length l0) (hc0 : l0.length ≤ c0) (hr1 : Kd.C k59 w A1 l1.length l1) (hc1 : l1.length ≤ c1) (h : abacusref12_Same.f k l0 l1 = some r) :
    Calls Tryd.prog 16 #[.slice A0 l0.length c0, .slice A1 l1.length c1] w fun e w' => e = .returned (.bool r) ∧ Drawn0 w w' := by
  have HR0 := Aside0.mk hr0
  have HC0 := Aside0.mk hc0
  clear hr0 hc0
  have HR1 := Aside0.mk hr1
  have HC1 := Aside0.mk hc1
  clear hr1 hc1
  have H : (if (l0.length : Int) = (l1.length : Int) then ((abacusref12_Compare.f k l0 l1).bind fun t541 => (some (t541 == 0))) else (some false)) = some r := h
  clear h
  by_cases c3 : (l0.length : Int) = (l1.length : Int)
  · rw [if_pos c3] at H
    have c3b0 : ((l0.length : Int) == (l1.length : Int)) = true := beq_iff_eq.mpr c3
    have c3b1 : ((l0.length : Int) != (l1.length : Int)) = false := bne_eq_false_iff_eq.mpr c3
    have c3b2 : (l0.length == l1.length) = true := by first | simpa using c3 | (simp at c3 ⊢; omega)
    clear c3
    replace H := Option.bind_eq_some_iff.mp H
    obtain ⟨t541, A40, H⟩ := H
    replace H : (some (t541 == 0)) = some r := H
    have A4 := Aside0.mk A40
    clear A40
    obtain rfl := Option.some.inj H
    go_enter Tryd.func16, Tryd.ntmps16
    go_wp2_with (first | (go_at_call 44; (with_reducible refine (abacusref12_Compare.calls k _ _ l0 _ _ l1 t541 _ ?side1 ?side2 ?side3 ?side4 A4.out).mono ?_); (case side1 => repeat (first | exact HR0.out | (with_reducible refine Kd.C_alloc ?_ _) | (with_reducible refine Kd.C_drewN ?_ _) | (with_reducible refine Kd.C_drew ?_))); (case side2 => exact HC0.out); (case side3 => repeat (first | exact HR1.out | (with_reducible refine Kd.C_alloc ?_ _) | (with_reducible refine Kd.C_drewN ?_ _) | (with_reducible refine Kd.C_drew ?_))); (case side4 => exact HC1.out); rintro e w' ⟨rfl, ⟨nd, rfl⟩⟩))
    go_ret
    exact ⟨zs, by repeat (first | exact Drawn0.refl _ | apply Drawn0.step)⟩
  · rw [if_neg c3] at H
    have c3b0 : ((l0.length : Int) == (l1.length : Int)) = false := beq_eq_false_iff_ne.mpr c3
    have c3b1 : ((l0.length : Int) != (l1.length : Int)) = true := bne_iff_ne.mpr c3
    have c3b2 : (l0.length == l1.length) = false := by first | simpa using c3 | (simp at c3 ⊢; omega)
    obtain rfl := Option.some.inj H
    go_enter Tryd.func16, Tryd.ntmps16
    go_wp2
    go_ret
    exact ⟨zs, by repeat (first | exact Drawn0.refl _ | apply Drawn0.step)⟩

/-! ### labels_Get: function 40 -/
def labels_Get.l0 : Nat → ByteArray → List (S59) → Int → Int → Option (ByteArray × Bool)
  | 0, _, _, _, _ => none
  | k + 1, x1, x8, x9, x10 => if x10 < x9 then (if 0 ≤ x10 then (if x10 < (x8.length : Int) then (if ((rd_T59 x8 x10).f0).toList = x1.toList then (some ((rd_T59 x8 x10).f1, true)) else (labels_Get.l0 k x1 x8 x9 (wrap64 (x10 + 1)))) else (none)) else (none)) else (some ((⟨#[]⟩ : ByteArray), false))
def labels_Get.f (k : Nat) (l0 : List (S59)) (a1 : ByteArray) : Option (ByteArray × Bool) := labels_Get.l0 k a1 l0 (l0.length : Int) 0
theorem labels_Get.mono_l : ∀ k, (∀ y0 y1 y2 y3, LeO (labels_Get.l0 k y0 y1 y2 y3) (labels_Get.l0 (k + 1) y0 y1 y2 y3))
  | 0 => fun _ _ _ _ r h => by simp [labels_Get.l0] at h
  | k + 1 => by
    have ih0 := labels_Get.mono_l k
    · intro y0 y1 y2 y3
      unfold labels_Get.l0
      repeat' first
      | (with_reducible exact ih0 _ _ _ _)
      | (with_reducible exact LeO.refl _)
      | (with_reducible exact LeO.none _)
      | (with_reducible refine LeO.ite ?_ ?_)
      | (with_reducible refine LeO.bind ?_ (fun _ => ?_))
      | exact ih0 _ _ _ _
      | exact LeO.none _
      | refine LeO.ite ?_ ?_
      | refine LeO.bind ?_ (fun _ => ?_)
theorem labels_Get.mono : ∀ a0 a1 k, LeO (labels_Get.f k a0 a1) (labels_Get.f (k + 1) a0 a1) := by
  intro a0 a1 k
  have ih0 := labels_Get.mono_l k
  unfold labels_Get.f
  repeat' first
      | (with_reducible exact ih0 _ _ _ _)
      | (with_reducible exact LeO.refl _)
      | (with_reducible exact LeO.none _)
      | (with_reducible refine LeO.ite ?_ ?_)
      | (with_reducible refine LeO.bind ?_ (fun _ => ?_))
      | exact ih0 _ _ _ _
      | exact LeO.none _
      | refine LeO.ite ?_ ?_
      | refine LeO.bind ?_ (fun _ => ?_)
set_option maxHeartbeats 8000000 in
set_option maxRecDepth 100000 in
theorem labels_Get.calls (k : Nat) (A0 : Option Addr) (c0 : Nat) (l0 : List (S59)) (a1 : ByteArray) (r1 : ByteArray) (r2 : Bool) (w : World) (hr0 : Kd.C k59 w A0 l0.length l0) (hc0 : l0.length ≤ c0) (h : labels_Get.f k l0 a1 = some (r1, r2)) :
    Calls Tryd.prog 40 #[.slice A0 l0.length c0, .string a1] w fun e w' => e = .returned (.tuple #[.string r1, .bool r2]) ∧ Below w.heap.size w w' := by
  have hu59 := Tryd.underlying59
  have HR0 := Aside0.mk hr0
  have HC0 := Aside0.mk hc0
  clear hr0 hc0
  have HB := Aside0.mk (Below.refl w.heap.size w)
  have H : (labels_Get.l0 k a1 l0 (l0.length : Int) 0) = some (r1, r2) := h
  clear h
  have H' := Aside0.mk H
  clear H
  go_enter Tryd.func40, Tryd.ntmps40
  go_wp2
  go_loopg [10] k (fun kq v10 w' => ∃ (x10_1 : Int), v10 = .int .i64 x10_1 ∧ Aside0 (labels_Get.l0 kq a1 l0 (l0.length : Int) x10_1 = some (r1, r2)) ∧ Aside0 (kq ≤ k) ∧ Aside0 (Below w.heap.size w w'))
  case atStart => exact ⟨(0), zs, H', ⟨Nat.le_refl _⟩, ⟨zb HB.out⟩⟩
  case round =>
    clear H'
    try clear p2
    obtain ⟨x10_1, rfl, HA, HK1, HB⟩ := hrel
    cases gk with
    | zero => exact absurd HA.out (by simp [labels_Get.l0])
    | succ k1 =>
      have H := HA.out
      clear HA
      simp only [labels_Get.l0] at H
      by_cases c3 : x10_1 < (l0.length : Int)
      · rw [if_pos c3] at H
        have c3b0 : decide (x10_1 < (l0.length : Int)) = true := decide_eq_true c3
        clear c3
        by_cases c4 : 0 ≤ x10_1
        · rw [if_pos c4] at H
          have c4b0 : decide (0 ≤ x10_1) = true := decide_eq_true c4
          clear c4
          by_cases c5 : x10_1 < (l0.length : Int)
          · rw [if_pos c5] at H
            have c5b0 : decide (x10_1 < (l0.length : Int)) = true := decide_eq_true c5
            clear c5
            by_cases c6 : ((rd_T59 l0 x10_1).f0).toList = a1.toList
            · rw [if_pos c6] at H
              have c6b0 : (((rd_T59 l0 x10_1).f0).toList == a1.toList) = true := beq_iff_eq.mpr c6
              have c6b1 : (((rd_T59 l0 x10_1).f0).toList != a1.toList) = false := bne_eq_false_iff_eq.mpr c6
              clear c6
              simp only [Option.some.injEq, Prod.mk.injEq] at H
              obtain ⟨rfl, rfl⟩ := H
              have p542 : 0 ≤ (x10_1 : Int) := of_decide_eq_true za
              have q542 : x10_1 < (l0.length : Int) := of_decide_eq_true za
              obtain ⟨ad542, e542, hx542_0, hx542_1⟩ := at_T59 HR0.out x10_1 p542 q542
              cases e542
              replace hx542_0 := (HB.out.cell (World.block_lt_of_cell? w _ hx542_0)).trans hx542_0
              replace hx542_1 := (HB.out.cell (World.block_lt_of_cell? w _ hx542_1)).trans hx542_1
              replace p542 := eq_true p542
              replace q542 := eq_true q542
              go_wp2_with (first | ((with_reducible refine gate_dst (N := 7) rfl ?_); refine box_event ?hg (N := 7) ?hd (cs := #[.string (⟨#[]⟩ : ByteArray), .string (⟨#[]⟩ : ByteArray)]) (t := 59) ?hr ?_; (case hd => rfl); (case hg => rfl); (case hr => first | (go_simp; done) | (go_simp; rfl)); intro gb543 hg w7 hbox hb; have n0_ := Aside0.mk (below_step (zb HB.out) hb); have n1_ := Aside0.mk (hbox); have n2_ := Aside0.mk ((by rw [hg]; exact (below_size (zb HB.out)) : w.heap.size ≤ gb543)); have n3_ := Aside0.mk ((by rw [hg]; exact (below_size (zb HB.out)) : w.heap.size ≤ gb543)); clear HB; have HB := n0_; have BK543 := n1_; have GW543 := n2_; have GE543 := n3_; clear n0_ n1_ n2_ n3_; clear hb hbox hg; have hcz8_0 : w7.cell? ⟨gb543, 0, none⟩ = some (.string (⟨#[]⟩ : ByteArray)) := (blk_cell BK543.out 0).trans rfl; have hcz8_1 : w7.cell? ⟨gb543, 1, none⟩ = some (.string (⟨#[]⟩ : ByteArray)) := (blk_cell BK543.out 1).trans rfl; have hfz8_0 := blk_frozen BK543.out 0; have hfz8_1 := blk_frozen BK543.out 1))
              go_ret2
              exact ⟨ze, zg HB.out GE543.out⟩
            · rw [if_neg c6] at H
              have c6b0 : (((rd_T59 l0 x10_1).f0).toList == a1.toList) = false := beq_eq_false_iff_ne.mpr c6
              have c6b1 : (((rd_T59 l0 x10_1).f0).toList != a1.toList) = true := bne_iff_ne.mpr c6
              have H' := Aside0.mk H
              clear H
              have p542 : 0 ≤ (x10_1 : Int) := of_decide_eq_true za
              have q542 : x10_1 < (l0.length : Int) := of_decide_eq_true za
              obtain ⟨ad542, e542, hx542_0, hx542_1⟩ := at_T59 HR0.out x10_1 p542 q542
              cases e542
              replace hx542_0 := (HB.out.cell (World.block_lt_of_cell? w _ hx542_0)).trans hx542_0
              replace hx542_1 := (HB.out.cell (World.block_lt_of_cell? w _ hx542_1)).trans hx542_1
              replace p542 := eq_true p542
              replace q542 := eq_true q542
              go_wp2_with (first | ((with_reducible refine gate_dst (N := 7) rfl ?_); refine box_event ?hg (N := 7) ?hd (cs := #[.string (⟨#[]⟩ : ByteArray), .string (⟨#[]⟩ : ByteArray)]) (t := 59) ?hr ?_; (case hd => rfl); (case hg => rfl); (case hr => first | (go_simp; done) | (go_simp; rfl)); intro gb543 hg w9 hbox hb; have n0_ := Aside0.mk (below_step (zb HB.out) hb); have n1_ := Aside0.mk (hbox); have n2_ := Aside0.mk ((by rw [hg]; exact (below_size (zb HB.out)) : w.heap.size ≤ gb543)); have n3_ := Aside0.mk ((by rw [hg]; exact (below_size (zb HB.out)) : w.heap.size ≤ gb543)); clear HB; have HB := n0_; have BK543 := n1_; have GW543 := n2_; have GE543 := n3_; clear n0_ n1_ n2_ n3_; clear hb hbox hg; have hcz10_0 : w9.cell? ⟨gb543, 0, none⟩ = some (.string (⟨#[]⟩ : ByteArray)) := (blk_cell BK543.out 0).trans rfl; have hcz10_1 : w9.cell? ⟨gb543, 1, none⟩ = some (.string (⟨#[]⟩ : ByteArray)) := (blk_cell BK543.out 1).trans rfl; have hfz10_0 := blk_frozen BK543.out 0; have hfz10_1 := blk_frozen BK543.out 1))
              go_roundg k1
              case measure => have := HK1.out; omega
              case rel => exact ⟨(wrap64 (x10_1 + 1)), zs, H', ⟨by have := HK1.out; omega⟩, ⟨zg HB.out GE543.out⟩⟩
          · rw [if_neg c5] at H
            exact absurd H (by simp)
        · rw [if_neg c4] at H
          exact absurd H (by simp)
      · rw [if_neg c3] at H
        have c3b0 : decide (x10_1 < (l0.length : Int)) = false := decide_eq_false c3
        clear c3
        simp only [Option.some.injEq, Prod.mk.injEq] at H
        obtain ⟨rfl, rfl⟩ := H
        go_wp2
        go_ret2
        exact ⟨ze, zb HB.out⟩

/-! ### abacusref12_Get: function 41 -/
def abacusref12_Get.l0 : Nat → List (S59) → ByteArray → Int → Option (ByteArray × Bool)
  | 0, _, _, _ => none
  | k + 1, x0, x1, x6 => if x6 < (x0.length : Int) then (if 0 ≤ x6 then (if ((rd_T59 x0 x6).f0).toList = x1.toList then (some ((rd_T59 x0 x6).f1, true)) else (abacusref12_Get.l0 k x0 x1 (wrap64 (x6 + 1)))) else (none)) else (some ((⟨#[]⟩ : ByteArray), false))
def abacusref12_Get.f (k : Nat) (l0 : List (S59)) (a1 : ByteArray) : Option (ByteArray × Bool) := abacusref12_Get.l0 k l0 a1 0
set_option maxHeartbeats 8000000 in
set_option maxRecDepth 100000 in
theorem abacusref12_Get.calls (k : Nat) (A0 : Option Addr) (c0 : Nat) (l0 : List (S59)) (a1 : ByteArray) (r1 : ByteArray) (r2 : Bool) (w : World) (hr0 : Kd.C k59 w A0 l0.length l0) (hc0 : l0.length ≤ c0) (h : abacusref12_Get.f k l0 a1 = some (r1, r2)) :
    Calls Tryd.prog 41 #[.slice A0 l0.length c0, .string a1] w fun e w' => e = .returned (.tuple #[.string r1, .bool r2]) ∧ Drawn0 w w' := by
  have HR0 := Aside0.mk hr0
  have HC0 := Aside0.mk hc0
  clear hr0 hc0
  have H : (abacusref12_Get.l0 k l0 a1 0) = some (r1, r2) := h
  clear h
  have H' := Aside0.mk H
  clear H
  go_enter Tryd.func41, Tryd.ntmps41
  go_wp2
  go_loopg [6] k (fun kq v6 w' => ∃ (x6_1 : Int), v6 = .int .i64 x6_1 ∧ Aside0 (abacusref12_Get.l0 kq l0 a1 x6_1 = some (r1, r2)) ∧ Aside0 (kq ≤ k) ∧ Drawn0 w w')
  case atStart => exact ⟨(0), zs, H', ⟨Nat.le_refl _⟩, by repeat (first | exact Drawn0.refl _ | apply Drawn0.step)⟩
  case round =>
    clear H'
    try clear p2
    obtain ⟨x6_1, rfl, HA, HK1, ⟨m1, rfl⟩⟩ := hrel
    cases gk with
    | zero => exact absurd HA.out (by simp [abacusref12_Get.l0])
    | succ k1 =>
      have H := HA.out
      clear HA
      simp only [abacusref12_Get.l0] at H
      by_cases c3 : x6_1 < (l0.length : Int)
      · rw [if_pos c3] at H
        have c3b0 : decide (x6_1 < (l0.length : Int)) = true := decide_eq_true c3
        clear c3
        by_cases c4 : 0 ≤ x6_1
        · rw [if_pos c4] at H
          have c4b0 : decide (0 ≤ x6_1) = true := decide_eq_true c4
          clear c4
          by_cases c5 : ((rd_T59 l0 x6_1).f0).toList = a1.toList
          · rw [if_pos c5] at H
            have c5b0 : (((rd_T59 l0 x6_1).f0).toList == a1.toList) = true := beq_iff_eq.mpr c5
            have c5b1 : (((rd_T59 l0 x6_1).f0).toList != a1.toList) = false := bne_eq_false_iff_eq.mpr c5
            clear c5
            simp only [Option.some.injEq, Prod.mk.injEq] at H
            obtain ⟨rfl, rfl⟩ := H
            have p695 : 0 ≤ (x6_1 : Int) := of_decide_eq_true za
            have q695 : x6_1 < (l0.length : Int) := of_decide_eq_true za
            obtain ⟨ad695, e695, hx695_0, hx695_1⟩ := at_T59 HR0.out x6_1 p695 q695
            cases e695
            replace p695 := eq_true p695
            replace q695 := eq_true q695
            have p696 : 0 ≤ (x6_1 : Int) := of_decide_eq_true za
            have q696 : x6_1 < (l0.length : Int) := of_decide_eq_true za
            obtain ⟨ad696, e696, hx696_0, hx696_1⟩ := at_T59 HR0.out x6_1 p696 q696
            obtain rfl : ad695 = ad696 := (by injection e696)
            replace p696 := eq_true p696
            replace q696 := eq_true q696
            go_wp2
            go_ret2
            exact ⟨zs, by repeat (first | exact Drawn0.refl _ | apply Drawn0.step)⟩
          · rw [if_neg c5] at H
            have c5b0 : (((rd_T59 l0 x6_1).f0).toList == a1.toList) = false := beq_eq_false_iff_ne.mpr c5
            have c5b1 : (((rd_T59 l0 x6_1).f0).toList != a1.toList) = true := bne_iff_ne.mpr c5
            have H' := Aside0.mk H
            clear H
            have p695 : 0 ≤ (x6_1 : Int) := of_decide_eq_true za
            have q695 : x6_1 < (l0.length : Int) := of_decide_eq_true za
            obtain ⟨ad695, e695, hx695_0, hx695_1⟩ := at_T59 HR0.out x6_1 p695 q695
            cases e695
            replace p695 := eq_true p695
            replace q695 := eq_true q695
            go_wp2
            go_roundg k1
            case measure => have := HK1.out; omega
            case rel => exact ⟨(wrap64 (x6_1 + 1)), zs, H', ⟨by have := HK1.out; omega⟩, by repeat (first | exact Drawn0.refl _ | apply Drawn0.step)⟩
        · rw [if_neg c4] at H
          exact absurd H (by simp)
      · rw [if_neg c3] at H
        have c3b0 : decide (x6_1 < (l0.length : Int)) = false := decide_eq_false c3
        clear c3
        simp only [Option.some.injEq, Prod.mk.injEq] at H
        obtain ⟨rfl, rfl⟩ := H
        go_wp2
        go_ret2
        exact ⟨zs, by repeat (first | exact Drawn0.refl _ | apply Drawn0.step)⟩

/-! ### abacusref12_Copy: function 29 -/
def abacusref12_Copy.l0 : Nat → List (S59) → List (S59) → Int → Option ((List (S59)))
  | 0, _, _, _ => none
  | k + 1, x0, x3, x4 => if x4 < (x0.length : Int) then (if 0 ≤ x4 then (if x3.length < 4398046511104 then (abacusref12_Copy.l0 k x0 (x3 ++ [(⟨(rd_T59 x0 x4).f0, (rd_T59 x0 x4).f1⟩ : S59)]) (wrap64 (x4 + 1))) else (none)) else (none)) else (some x3)
def abacusref12_Copy.f (k : Nat) (l0 : List (S59)) : Option ((List (S59))) := abacusref12_Copy.l0 k l0 ([] : List (S59)) 0
set_option maxHeartbeats 8000000 in
set_option maxRecDepth 100000 in
theorem abacusref12_Copy.calls (k : Nat) (A0 : Option Addr) (c0 : Nat) (l0 : List (S59)) (r : List (S59)) (w : World) (hr0 : Kd.C k59 w A0 l0.length l0) (hc0 : l0.length ≤ c0) (h : abacusref12_Copy.f k l0 = some r) :
    Calls Tryd.prog 29 #[.slice A0 l0.length c0] w fun e w' => ∃ v0_ : Value, e = .returned (v0_) ∧ Kd.R k59 59 w' w.heap.size (fun _ => True) v0_ r ∧ Below w.heap.size w w' := by
  have hu59 := Tryd.underlying59
  have HR0 := Aside0.mk hr0
  have HC0 := Aside0.mk hc0
  clear hr0 hc0
  have HB := Aside0.mk (Below.refl w.heap.size w)
  have H : (abacusref12_Copy.l0 k l0 ([] : List (S59)) 0) = some r := h
  clear h
  have H' := Aside0.mk H
  clear H
  go_enter Tryd.func29, Tryd.ntmps29
  go_wp2
  go_loopg [3, 4] k (fun kq v3 v4 w' => ∃ (x3_1 : List (S59)) (x4_1 : Int), v4 = .int .i64 x4_1 ∧ Aside0 (abacusref12_Copy.l0 kq l0 x3_1 x4_1 = some r) ∧ Aside0 (kq ≤ k) ∧ Aside0 (Kd.R k59 59 w' w.heap.size (fun _ => True) v3 x3_1) ∧ Aside0 (Below w.heap.size w w'))
  case atStart => exact ⟨(([] : List (S59))), (0), zs, H', ⟨Nat.le_refl _⟩, ⟨by first | exact Kd.R_nil _ _ _ _ _ | exact Kd.N_nil _ _ _ _ _ | exact Kd.V_nil _ _ _ _ _ | exact Kd.Q_nil _ _ _ _ _ | exact Kd.S_nil _ _ _ _ _⟩, ⟨zb HB.out⟩⟩
  case round =>
    clear H'
    obtain ⟨x3_1, x4_1, rfl, HA, HK1, HO_3, HB⟩ := hrel
    cases gk with
    | zero => exact absurd HA.out (by simp [abacusref12_Copy.l0])
    | succ k1 =>
      have H := HA.out
      clear HA
      simp only [abacusref12_Copy.l0] at H
      by_cases c2 : x4_1 < (l0.length : Int)
      · rw [if_pos c2] at H
        have c2b0 : decide (x4_1 < (l0.length : Int)) = true := decide_eq_true c2
        clear c2
        by_cases c3 : 0 ≤ x4_1
        · rw [if_pos c3] at H
          have c3b0 : decide (0 ≤ x4_1) = true := decide_eq_true c3
          clear c3
          by_cases c4 : x3_1.length < 4398046511104
          · rw [if_pos c4] at H
            have LMc4 := Aside0.mk c4
            clear c4
            obtain ⟨y807, hy807⟩ : ∃ y_ : List (S59), y_ = (x3_1 ++ [(⟨(rd_T59 l0 x4_1).f0, (rd_T59 l0 x4_1).f1⟩ : S59)]) := ⟨_, rfl⟩
            replace H : (abacusref12_Copy.l0 k1 l0 y807 (wrap64 (x4_1 + 1))) = some r := by first | (rw [hy807]; with_reducible exact H) | (have H2_ := (Option.bind_some _ _).symm.trans H; rw [hy807]; with_reducible exact H2_) | (have H2_ := (Option.bind_some _ _).symm.trans H; with_reducible exact H2_) | with_reducible exact H | (rw [hy807]; exact H) | exact H
            have Ny807 := Aside0.mk hy807
            clear hy807
            have H' := Aside0.mk H
            clear H
            have p806 : 0 ≤ (x4_1 : Int) := of_decide_eq_true za
            have q806 : x4_1 < (l0.length : Int) := of_decide_eq_true za
            obtain ⟨ad806, e806, hx806_0, hx806_1⟩ := at_T59 HR0.out x4_1 p806 q806
            cases e806
            replace hx806_0 := (HB.out.cell (World.block_lt_of_cell? w _ hx806_0)).trans hx806_0
            replace hx806_1 := (HB.out.cell (World.block_lt_of_cell? w _ hx806_1)).trans hx806_1
            replace p806 := eq_true p806
            replace q806 := eq_true q806
            go_wp2_with (first | ((with_reducible refine gate_builtin (b := .append) (xs := #[.tmp 11, .tmp 16]) rfl ?_); at_builtin; refine Kd.R_append k59 (w0 := w) w.heap.size rfl (.tmp 11) (.tmp 16) 22 59 (.agg #[(.string ⟨#[]⟩), (.string ⟨#[]⟩)]) 32 rfl Tryd.underlying22 info59 rfl (by decide) (by omega) u3 x3_1 (⟨(rd_T59 l0 x4_1).f0, (rd_T59 l0 x4_1).f1⟩ : S59) [.string ((rd_T59 l0 x4_1).f0), .string ((rd_T59 l0 x4_1).f1)] (fun _ => True) (fun _ => False) rfl rfl ?aP (fun _ hk => hk.elim) ?aF ?aO ?aB ?aS ?aL ?_; (case aP => exact k59_mkM _ _ _ (⟨(rd_T59 l0 x4_1).f0, (rd_T59 l0 x4_1).f1⟩ : S59)); (case aB => exact (zb HB.out)); (case aF => exact (fun _ _ => trivial)); (case aO => exact (zr HO_3.out)); (case aS => exact (below_size (zb HB.out))); (case aL => have := LMc4.out; omega); intro v808 w5 ho hb hg hat; rw [← Ny807.out] at ho; have n0_ := Aside0.mk (hb); have n1_ := Aside0.mk (ho); clear HB; clear HO_3; have HB := n0_; have HO809 := n1_; clear n0_ n1_; clear ho hb hg hat))
            go_roundg k1
            case measure => have := HK1.out; omega
            case rel => exact ⟨(y807), (wrap64 (x4_1 + 1)), zs, H', ⟨by have := HK1.out; omega⟩, ⟨zr HO809.out⟩, ⟨zb HB.out⟩⟩
          · rw [if_neg c4] at H
            exact absurd H (by simp)
        · rw [if_neg c3] at H
          exact absurd H (by simp)
      · rw [if_neg c2] at H
        have c2b0 : decide (x4_1 < (l0.length : Int)) = false := decide_eq_false c2
        clear c2
        obtain rfl := Option.some.inj H
        go_wp2
        go_ret
        exact ⟨_, ze, zr HO_3.out, zb HB.out⟩

/-! ### cmp_Or_int: function 75 -/
def cmp_Or_int.l0 : Nat → Int → List Int → Int → Int → Option (Int)
  | 0, _, _, _, _ => none
  | k + 1, x3, x6, x7, x8 => if x8 < x7 then (if 0 ≤ x8 then (if x8 < (x6.length : Int) then (if (rd x6 x8) = x3 then (cmp_Or_int.l0 k x3 x6 x7 (wrap64 (x8 + 1))) else (some (rd x6 x8))) else (none)) else (none)) else (some x3)
def cmp_Or_int.f (k : Nat) (l0 : List Int) : Option (Int) := cmp_Or_int.l0 k 0 l0 (l0.length : Int) 0
set_option maxHeartbeats 8000000 in
set_option maxRecDepth 100000 in
theorem cmp_Or_int.calls (k : Nat) (A0 : Option Addr) (c0 : Nat) (l0 : List Int) (r : Int) (w : World) (hr0 : Kd.C (Kd.int .i64) w A0 l0.length l0) (hc0 : l0.length ≤ c0) (h : cmp_Or_int.f k l0 = some r) :
    Calls Tryd.prog 75 #[.slice A0 l0.length c0] w fun e w' => e = .returned (.int .i64 r) ∧ Drawn0 w w' := by
  have HR0 := Aside0.mk hr0
  have HC0 := Aside0.mk hc0
  clear hr0 hc0
  have H : (cmp_Or_int.l0 k 0 l0 (l0.length : Int) 0) = some r := h
  clear h
  have H' := Aside0.mk H
  clear H
  go_enter Tryd.func75, Tryd.ntmps75
  go_wp2
  go_loopg [8] k (fun kq v8 w' => ∃ (x8_1 : Int), v8 = .int .i64 x8_1 ∧ Aside0 (cmp_Or_int.l0 kq 0 l0 (l0.length : Int) x8_1 = some r) ∧ Aside0 (kq ≤ k) ∧ Drawn0 w w')
  case atStart => exact ⟨(0), zs, H', ⟨Nat.le_refl _⟩, by repeat (first | exact Drawn0.refl _ | apply Drawn0.step)⟩
  case round =>
    clear H'
    obtain ⟨x8_1, rfl, HA, HK1, ⟨m1, rfl⟩⟩ := hrel
    cases gk with
    | zero => exact absurd HA.out (by simp [cmp_Or_int.l0])
    | succ k1 =>
      have H := HA.out
      clear HA
      simp only [cmp_Or_int.l0] at H
      by_cases c2 : x8_1 < (l0.length : Int)
      · rw [if_pos c2] at H
        have c2b0 : decide (x8_1 < (l0.length : Int)) = true := decide_eq_true c2
        clear c2
        by_cases c3 : 0 ≤ x8_1
        · rw [if_pos c3] at H
          have c3b0 : decide (0 ≤ x8_1) = true := decide_eq_true c3
          clear c3
          by_cases c4 : x8_1 < (l0.length : Int)
          · rw [if_pos c4] at H
            have c4b0 : decide (x8_1 < (l0.length : Int)) = true := decide_eq_true c4
            clear c4
            by_cases c5 : (rd l0 x8_1) = 0
            · rw [if_pos c5] at H
              have c5b0 : ((rd l0 x8_1) == 0) = true := beq_iff_eq.mpr c5
              have c5b1 : ((rd l0 x8_1) != 0) = false := bne_eq_false_iff_eq.mpr c5
              clear c5
              have H' := Aside0.mk H
              clear H
              have p847 : 0 ≤ (x8_1 : Int) := of_decide_eq_true za
              have q847 : x8_1 < (l0.length : Int) := of_decide_eq_true za
              obtain ⟨ad847, e847, hx847_0⟩ := Kd.at_int HR0.out x8_1 p847 q847
              cases e847
              replace p847 := eq_true p847
              replace q847 := eq_true q847
              go_wp2
              go_roundg k1
              case measure => have := HK1.out; omega
              case rel => exact ⟨(wrap64 (x8_1 + 1)), zs, H', ⟨by have := HK1.out; omega⟩, by repeat (first | exact Drawn0.refl _ | apply Drawn0.step)⟩
            · rw [if_neg c5] at H
              have c5b0 : ((rd l0 x8_1) == 0) = false := beq_eq_false_iff_ne.mpr c5
              have c5b1 : ((rd l0 x8_1) != 0) = true := bne_iff_ne.mpr c5
              obtain rfl := Option.some.inj H
              have p847 : 0 ≤ (x8_1 : Int) := of_decide_eq_true za
              have q847 : x8_1 < (l0.length : Int) := of_decide_eq_true za
              obtain ⟨ad847, e847, hx847_0⟩ := Kd.at_int HR0.out x8_1 p847 q847
              cases e847
              replace p847 := eq_true p847
              replace q847 := eq_true q847
              go_wp2
              go_ret
              exact ⟨zs, by repeat (first | exact Drawn0.refl _ | apply Drawn0.step)⟩
          · rw [if_neg c4] at H
            exact absurd H (by simp)
        · rw [if_neg c3] at H
          exact absurd H (by simp)
      · rw [if_neg c2] at H
        have c2b0 : decide (x8_1 < (l0.length : Int)) = false := decide_eq_false c2
        clear c2
        obtain rfl := Option.some.inj H
        go_wp2
        go_ret
        exact ⟨zs, by repeat (first | exact Drawn0.refl _ | apply Drawn0.step)⟩

/-! ### cmp_isNaN_string: function 92 -/
def cmp_isNaN_string.f (a0 : ByteArray) : Option (Bool) := some (a0.toList != a0.toList)
set_option maxHeartbeats 8000000 in
set_option maxRecDepth 100000 in
theorem cmp_isNaN_string.calls (a0 : ByteArray) (r : Bool) (w : World) (h : cmp_isNaN_string.f a0 = some r) :
    Calls Tryd.prog 92 #[.string a0] w fun e w' => e = .returned (.bool r) ∧ Drawn0 w w' := by
  have H : (some (a0.toList != a0.toList)) = some r := h
  clear h
  obtain rfl := Option.some.inj H
  go_enter Tryd.func92, Tryd.ntmps92
  go_wp2
  go_ret
  exact ⟨zs, by repeat (first | exact Drawn0.refl _ | apply Drawn0.step)⟩

/-! ### slices_Index_string_string: function 106 -/
def slices_Index_string_string.l0 : Nat → List ByteArray → ByteArray → Int → Int → Option (Int)
  | 0, _, _, _, _ => none
  | k + 1, x0, x1, x7, x8 => if x8 < x7 then (if 0 ≤ x8 then (if x8 < (x0.length : Int) then (if x1.toList = (rdOf ByteArray.empty x0 x8).toList then (some x8) else (slices_Index_string_string.l0 k x0 x1 x7 (wrap64 (x8 + 1)))) else (none)) else (none)) else (some (-1))
def slices_Index_string_string.f (k : Nat) (l0 : List ByteArray) (a1 : ByteArray) : Option (Int) := slices_Index_string_string.l0 k l0 a1 (l0.length : Int) 0
set_option maxHeartbeats 8000000 in
set_option maxRecDepth 100000 in
theorem slices_Index_string_string.calls (k : Nat) (A0 : Option Addr) (c0 : Nat) (l0 : List ByteArray) (a1 : ByteArray) (r : Int) (w : World) (hr0 : Kd.C Kd.string w A0 l0.length l0) (hc0 : l0.length ≤ c0) (h : slices_Index_string_string.f k l0 a1 = some r) :
    Calls Tryd.prog 106 #[.slice A0 l0.length c0, .string a1] w fun e w' => e = .returned (.int .i64 r) ∧ Drawn0 w w' := by
  have HR0 := Aside0.mk hr0
  have HC0 := Aside0.mk hc0
  clear hr0 hc0
  have H : (slices_Index_string_string.l0 k l0 a1 (l0.length : Int) 0) = some r := h
  clear h
  have H' := Aside0.mk H
  clear H
  go_enter Tryd.func106, Tryd.ntmps106
  go_wp2
  go_loopg [8] k (fun kq v8 w' => ∃ (x8_1 : Int), v8 = .int .i64 x8_1 ∧ Aside0 (slices_Index_string_string.l0 kq l0 a1 (l0.length : Int) x8_1 = some r) ∧ Aside0 (kq ≤ k) ∧ Drawn0 w w')
  case atStart => exact ⟨(0), zs, H', ⟨Nat.le_refl _⟩, by repeat (first | exact Drawn0.refl _ | apply Drawn0.step)⟩
  case round =>
    clear H'
    try clear c1
    try clear p2
    obtain ⟨x8_1, rfl, HA, HK1, ⟨m1, rfl⟩⟩ := hrel
    cases gk with
    | zero => exact absurd HA.out (by simp [slices_Index_string_string.l0])
    | succ k1 =>
      have H := HA.out
      clear HA
      simp only [slices_Index_string_string.l0] at H
      by_cases c3 : x8_1 < (l0.length : Int)
      · rw [if_pos c3] at H
        have c3b0 : decide (x8_1 < (l0.length : Int)) = true := decide_eq_true c3
        clear c3
        by_cases c4 : 0 ≤ x8_1
        · rw [if_pos c4] at H
          have c4b0 : decide (0 ≤ x8_1) = true := decide_eq_true c4
          clear c4
          by_cases c5 : x8_1 < (l0.length : Int)
          · rw [if_pos c5] at H
            have c5b0 : decide (x8_1 < (l0.length : Int)) = true := decide_eq_true c5
            clear c5
            by_cases c6 : a1.toList = (rdOf ByteArray.empty l0 x8_1).toList
            · rw [if_pos c6] at H
              have c6b0 : (a1.toList == (rdOf ByteArray.empty l0 x8_1).toList) = true := beq_iff_eq.mpr c6
              have c6b1 : (a1.toList != (rdOf ByteArray.empty l0 x8_1).toList) = false := bne_eq_false_iff_eq.mpr c6
              clear c6
              obtain rfl := Option.some.inj H
              have p885 : 0 ≤ (x8_1 : Int) := of_decide_eq_true za
              have q885 : x8_1 < (l0.length : Int) := of_decide_eq_true za
              obtain ⟨ad885, e885, hx885_0⟩ := Kd.at_string HR0.out x8_1 p885 q885
              cases e885
              replace p885 := eq_true p885
              replace q885 := eq_true q885
              go_wp2
              go_ret
              exact ⟨zs, by repeat (first | exact Drawn0.refl _ | apply Drawn0.step)⟩
            · rw [if_neg c6] at H
              have c6b0 : (a1.toList == (rdOf ByteArray.empty l0 x8_1).toList) = false := beq_eq_false_iff_ne.mpr c6
              have c6b1 : (a1.toList != (rdOf ByteArray.empty l0 x8_1).toList) = true := bne_iff_ne.mpr c6
              have H' := Aside0.mk H
              clear H
              have p885 : 0 ≤ (x8_1 : Int) := of_decide_eq_true za
              have q885 : x8_1 < (l0.length : Int) := of_decide_eq_true za
              obtain ⟨ad885, e885, hx885_0⟩ := Kd.at_string HR0.out x8_1 p885 q885
              cases e885
              replace p885 := eq_true p885
              replace q885 := eq_true q885
              go_wp2
              go_roundg k1
              case measure => have := HK1.out; omega
              case rel => exact ⟨(wrap64 (x8_1 + 1)), zs, H', ⟨by have := HK1.out; omega⟩, by repeat (first | exact Drawn0.refl _ | apply Drawn0.step)⟩
          · rw [if_neg c5] at H
            exact absurd H (by simp)
        · rw [if_neg c4] at H
          exact absurd H (by simp)
      · rw [if_neg c3] at H
        have c3b0 : decide (x8_1 < (l0.length : Int)) = false := decide_eq_false c3
        clear c3
        obtain rfl := Option.some.inj H
        go_wp2
        go_ret
        exact ⟨zs, by repeat (first | exact Drawn0.refl _ | apply Drawn0.step)⟩

/-! ### slices_Contains_string_string: function 93 -/
def slices_Contains_string_string.f (k : Nat) (l0 : List ByteArray) (a1 : ByteArray) : Option (Bool) := (slices_Index_string_string.f k l0 a1).bind fun t886 => (some (decide (t886 ≥ 0)))
set_option maxHeartbeats 8000000 in
set_option maxRecDepth 100000 in
theorem slices_Contains_string_string.calls (k : Nat) (A0 : Option Addr) (c0 : Nat) (l0 : List ByteArray) (a1 : ByteArray) (r : Bool) (w : World) (hr0 : Kd.C Kd.string w A0 l0.length l0) (hc0 : l0.length ≤ c0) (h : slices_Contains_string_string.f k l0 a1 = some r) :
    Calls Tryd.prog 93 #[.slice A0 l0.length c0, .string a1] w fun e w' => e = .returned (.bool r) ∧ Drawn0 w w' := by
  have HR0 := Aside0.mk hr0
  have HC0 := Aside0.mk hc0
  clear hr0 hc0
  have H : ((slices_Index_string_string.f k l0 a1).bind fun t886 => (some (decide (t886 ≥ 0)))) = some r := h
  clear h
  replace H := Option.bind_eq_some_iff.mp H
  obtain ⟨t886, A30, H⟩ := H
  replace H : (some (decide (t886 ≥ 0))) = some r := H
  have A3 := Aside0.mk A30
  clear A30
  obtain rfl := Option.some.inj H
  go_enter Tryd.func93, Tryd.ntmps93
  go_wp2_with (first | ((with_reducible refine gate_callee (f := 106) rfl ?_); refine goesL_ (some 7) rfl rfl Tryd.func106 (by kernel_rfl) rfl #[.slice A0 l0.length c0, .string a1] rfl zl ?_; (with_reducible refine (slices_Index_string_string.calls k _ _ l0 a1 t886 _ ?side1 ?side2 A3.out).mono ?_); (case side1 => repeat (first | exact HR0.out | (with_reducible refine Kd.C_alloc ?_ _) | (with_reducible refine Kd.C_drewN ?_ _) | (with_reducible refine Kd.C_drew ?_))); (case side2 => exact HC0.out); rintro e w' ⟨rfl, ⟨nd, rfl⟩⟩; refine ⟨_, rfl, ?_⟩))
  go_ret
  exact ⟨zs, by repeat (first | exact Drawn0.refl _ | apply Drawn0.step)⟩

/-! ### labels_chosen: function 78 -/
def labels_chosen.l0 : Nat → List ByteArray → Bool → List (S59) → List (S59) → Int → Int → Option ((List (S59)))
  | 0, _, _, _, _, _, _ => none
  | k + 1, x1, x2, x7, x10, x11, x12 => if x12 < x11 then (if 0 ≤ x12 then (if x12 < (x10.length : Int) then ((slices_Contains_string_string.f k x1 ((rd_T59 x10 x12).f0)).bind fun t889 => (if (t889 == x2) = true then (if x7.length < 4398046511104 then (labels_chosen.l0 k x1 x2 (x7 ++ [(⟨(rd_T59 x10 x12).f0, (rd_T59 x10 x12).f1⟩ : S59)]) x10 x11 (wrap64 (x12 + 1))) else (none)) else (labels_chosen.l0 k x1 x2 x7 x10 x11 (wrap64 (x12 + 1))))) else (none)) else (none)) else (some x7)
def labels_chosen.f (k : Nat) (l0 : List (S59)) (l1 : List ByteArray) (a2 : Bool) : Option ((List (S59))) := labels_chosen.l0 k l1 a2 ([] : List (S59)) l0 (l0.length : Int) 0
set_option maxHeartbeats 8000000 in
set_option maxRecDepth 100000 in
theorem labels_chosen.calls (k : Nat) (A0 : Option Addr) (c0 : Nat) (l0 : List (S59)) (A1 : Option Addr) (c1 : Nat) (l1 : List ByteArray) (a2 : Bool) (r : List (S59)) (w : World) (hr0 : Kd.C k59 w A0 l0.length l0) (hc0 : l0.length ≤ c0) (hr1 : Kd.C Kd.string w A1 l1.length l1) (hc1 : l1.length ≤ c1) (h : labels_chosen.f k l0 l1 a2 = some r) :
    Calls Tryd.prog 78 #[.slice A0 l0.length c0, .slice A1 l1.length c1, .bool a2] w fun e w' => ∃ v0_ : Value, e = .returned (v0_) ∧ Kd.R k59 59 w' w.heap.size (fun _ => True) v0_ r ∧ Below w.heap.size w w' := by
  have hu59 := Tryd.underlying59
  have HR0 := Aside0.mk hr0
  have HC0 := Aside0.mk hc0
  clear hr0 hc0
  have HR1 := Aside0.mk hr1
  have HC1 := Aside0.mk hc1
  clear hr1 hc1
  have HB := Aside0.mk (Below.refl w.heap.size w)
  have H : (labels_chosen.l0 k l1 a2 ([] : List (S59)) l0 (l0.length : Int) 0) = some r := h
  clear h
  have H' := Aside0.mk H
  clear H
  go_enter Tryd.func78, Tryd.ntmps78
  go_wp2
  go_loopg [7, 12] k (fun kq v7 v12 w' => ∃ (x7_1 : List (S59)) (x12_1 : Int), v12 = .int .i64 x12_1 ∧ Aside0 (labels_chosen.l0 kq l1 a2 x7_1 l0 (l0.length : Int) x12_1 = some r) ∧ Aside0 (kq ≤ k) ∧ Aside0 (Kd.R k59 59 w' w.heap.size (fun _ => True) v7 x7_1) ∧ Aside0 (Below w.heap.size w w'))
  case atStart => exact ⟨(([] : List (S59))), (0), zs, H', ⟨Nat.le_refl _⟩, ⟨by first | exact Kd.R_nil _ _ _ _ _ | exact Kd.N_nil _ _ _ _ _ | exact Kd.V_nil _ _ _ _ _ | exact Kd.Q_nil _ _ _ _ _ | exact Kd.S_nil _ _ _ _ _⟩, ⟨zb HB.out⟩⟩
  case round =>
    clear H'
    try clear c1
    try clear p2
    obtain ⟨x7_1, x12_1, rfl, HA, HK1, HO_7, HB⟩ := hrel
    cases gk with
    | zero => exact absurd HA.out (by simp [labels_chosen.l0])
    | succ k1 =>
      have H := HA.out
      clear HA
      simp only [labels_chosen.l0] at H
      by_cases c4 : x12_1 < (l0.length : Int)
      · rw [if_pos c4] at H
        have c4b0 : decide (x12_1 < (l0.length : Int)) = true := decide_eq_true c4
        clear c4
        by_cases c5 : 0 ≤ x12_1
        · rw [if_pos c5] at H
          have c5b0 : decide (0 ≤ x12_1) = true := decide_eq_true c5
          clear c5
          by_cases c6 : x12_1 < (l0.length : Int)
          · rw [if_pos c6] at H
            have c6b0 : decide (x12_1 < (l0.length : Int)) = true := decide_eq_true c6
            clear c6
            replace H := Option.bind_eq_some_iff.mp H
            obtain ⟨t889, A70, H⟩ := H
            replace H : (if (t889 == a2) = true then (if x7_1.length < 4398046511104 then (labels_chosen.l0 k1 l1 a2 (x7_1 ++ [(⟨(rd_T59 l0 x12_1).f0, (rd_T59 l0 x12_1).f1⟩ : S59)]) l0 (l0.length : Int) (wrap64 (x12_1 + 1))) else (none)) else (labels_chosen.l0 k1 l1 a2 x7_1 l0 (l0.length : Int) (wrap64 (x12_1 + 1)))) = some r := H
            have A7 := Aside0.mk A70
            clear A70
            by_cases c8 : (t889 == a2) = true
            · rw [if_pos c8] at H
              have c8b0 : (t889 == a2) = true := c8
              (try (have c8b1 : decide (t889 = a2) = true := by simpa using c8))
              (try (have c8b2 : (t889 == a2) = true := by simpa using c8))
              clear c8
              by_cases c9 : x7_1.length < 4398046511104
              · rw [if_pos c9] at H
                have LMc9 := Aside0.mk c9
                clear c9
                obtain ⟨y890, hy890⟩ : ∃ y_ : List (S59), y_ = (x7_1 ++ [(⟨(rd_T59 l0 x12_1).f0, (rd_T59 l0 x12_1).f1⟩ : S59)]) := ⟨_, rfl⟩
                replace H : (labels_chosen.l0 k1 l1 a2 y890 l0 (l0.length : Int) (wrap64 (x12_1 + 1))) = some r := by first | (rw [hy890]; with_reducible exact H) | (have H2_ := (Option.bind_some _ _).symm.trans H; rw [hy890]; with_reducible exact H2_) | (have H2_ := (Option.bind_some _ _).symm.trans H; with_reducible exact H2_) | with_reducible exact H | (rw [hy890]; exact H) | exact H
                have Ny890 := Aside0.mk hy890
                clear hy890
                have H' := Aside0.mk H
                clear H
                have p887 : 0 ≤ (x12_1 : Int) := of_decide_eq_true za
                have q887 : x12_1 < (l0.length : Int) := of_decide_eq_true za
                obtain ⟨ad887, e887, hx887_0, hx887_1⟩ := at_T59 HR0.out x12_1 p887 q887
                cases e887
                replace hx887_0 := (HB.out.cell (World.block_lt_of_cell? w _ hx887_0)).trans hx887_0
                replace hx887_1 := (HB.out.cell (World.block_lt_of_cell? w _ hx887_1)).trans hx887_1
                replace p887 := eq_true p887
                replace q887 := eq_true q887
                go_wp2_with (first | ((with_reducible refine gate_dst (N := 9) rfl ?_); refine box_event ?hg (N := 9) ?hd (cs := #[.string (⟨#[]⟩ : ByteArray), .string (⟨#[]⟩ : ByteArray)]) (t := 59) ?hr ?_; (case hd => rfl); (case hg => rfl); (case hr => first | (go_simp; done) | (go_simp; rfl)); intro gb888 hg w10 hbox hb; have n0_ := Aside0.mk (Kd.R_below (Kd.R_elderB (zr HO_7.out) gb888 (Nat.le_of_eq hg.symm)) hb); have n1_ := Aside0.mk (below_step (zb HB.out) hb); have n2_ := Aside0.mk (hbox); have n3_ := Aside0.mk ((by rw [hg]; exact (below_size (zb HB.out)) : w.heap.size ≤ gb888)); have n4_ := Aside0.mk ((by rw [hg]; exact (below_size (zb HB.out)) : w.heap.size ≤ gb888)); clear HO_7; clear HB; have HO_7 := n0_; have HB := n1_; have BK888 := n2_; have GW888 := n3_; have GE888 := n4_; clear n0_ n1_ n2_ n3_ n4_; clear hb hbox hg; have hcz11_0 : w10.cell? ⟨gb888, 0, none⟩ = some (.string (⟨#[]⟩ : ByteArray)) := (blk_cell BK888.out 0).trans rfl; have hcz11_1 : w10.cell? ⟨gb888, 1, none⟩ = some (.string (⟨#[]⟩ : ByteArray)) := (blk_cell BK888.out 1).trans rfl; have hfz11_0 := blk_frozen BK888.out 0; have hfz11_1 := blk_frozen BK888.out 1) | ((with_reducible refine gate_callee (f := 93) rfl ?_); refine goesL_ (some 19) rfl rfl Tryd.func93 (by kernel_rfl) rfl #[.slice A1 l1.length c1, .string ((rd_T59 l0 x12_1).f0)] rfl zl ?_; (with_reducible refine (slices_Contains_string_string.calls k1 _ _ l1 ((rd_T59 l0 x12_1).f0) t889 _ ?side1 ?side2 A7.out).mono ?_); (case side1 => exact Kd.C_below HR1.out (zg HB.out GE888.out)); (case side2 => exact HC1.out); rintro e w' ⟨rfl, ⟨nd, rfl⟩⟩; refine ⟨_, rfl, ?_⟩) | ((with_reducible refine gate_builtin (b := .append) (xs := #[.tmp 22, .tmp 24]) rfl ?_); at_builtin; refine Kd.R_append k59 (w0 := w) w.heap.size rfl (.tmp 22) (.tmp 24) 22 59 (.agg #[(.string ⟨#[]⟩), (.string ⟨#[]⟩)]) 32 rfl Tryd.underlying22 info59 rfl (by decide) (by omega) u7 x7_1 (⟨(rd_T59 l0 x12_1).f0, (rd_T59 l0 x12_1).f1⟩ : S59) [.string ((rd_T59 l0 x12_1).f0), .string ((rd_T59 l0 x12_1).f1)] (fun k_ => k_ ≠ gb888) (fun _ => False) rfl (by first | (go_simp; done) | (go_simp; rfl)) ?aP (fun _ hk => hk.elim) ?aF ?aO ?aB ?aS ?aL ?_; (case aP => exact k59_mkM _ _ _ (⟨(rd_T59 l0 x12_1).f0, (rd_T59 l0 x12_1).f1⟩ : S59)); (case aB => exact (zg HB.out GE888.out)); (case aF => exact (fun k_ hk => Kd.freshB (g := gb888) (o := .cells #[.string ((rd_T59 l0 x12_1).f0), .string ((rd_T59 l0 x12_1).f1)] 59 (0, 0)) (by (with_reducible repeat (first | refine blk_drewN ?_ _ | refine blk_drew ?_ | refine blk_alloc ?_ _)); refine blk_put (cs := #[.string ((rd_T59 l0 x12_1).f0), .string (⟨#[]⟩ : ByteArray)]) ?_ 1 _ rfl; (with_reducible repeat (first | refine blk_drewN ?_ _ | refine blk_drew ?_ | refine blk_alloc ?_ _)); refine blk_put (cs := #[.string (⟨#[]⟩ : ByteArray), .string (⟨#[]⟩ : ByteArray)]) ?_ 0 _ rfl; (with_reducible repeat (first | refine blk_drewN ?_ _ | refine blk_drew ?_ | refine blk_alloc ?_ _)); exact BK888.out) k_ hk)); (case aO => exact (by (with_reducible repeat (first | apply Kd.R_alloc | apply Kd.R_drewN | apply Kd.R_drew)); exact Kd.R_mono (Kd.R_far (p := ⟨gb888, 1, none⟩) (Kd.R_far (p := ⟨gb888, 0, none⟩) (Kd.R_mono HO_7.out (fun k_ hk => (⟨hk, hk.2⟩ : _ ∧ k_ ≠ gb888))) (fun _ hk => hk.2) (.string ((rd_T59 l0 x12_1).f0))) (fun _ hk => hk.2) (.string ((rd_T59 l0 x12_1).f1))) (fun _ hk => hk.1.2))); (case aS => exact (below_size (zg HB.out GE888.out))); (case aL => have := LMc9.out; omega); intro v891 w12 ho hb hg hat; rw [← Ny890.out] at ho; have n0_ := Aside0.mk (blk_grown (g := gb888) (o := .cells #[.string ((rd_T59 l0 x12_1).f0), .string ((rd_T59 l0 x12_1).f1)] 59 (0, 0)) (by (with_reducible repeat (first | refine blk_drewN ?_ _ | refine blk_drew ?_ | refine blk_alloc ?_ _)); refine blk_put (cs := #[.string ((rd_T59 l0 x12_1).f0), .string (⟨#[]⟩ : ByteArray)]) ?_ 1 _ rfl; (with_reducible repeat (first | refine blk_drewN ?_ _ | refine blk_drew ?_ | refine blk_alloc ?_ _)); refine blk_put (cs := #[.string (⟨#[]⟩ : ByteArray), .string (⟨#[]⟩ : ByteArray)]) ?_ 0 _ rfl; (with_reducible repeat (first | refine blk_drewN ?_ _ | refine blk_drew ?_ | refine blk_alloc ?_ _)); exact BK888.out) hg (Kd.R_away HO_7.out (fun _ hk => hk.2))); have n1_ := Aside0.mk (hb); have n2_ := Aside0.mk (ho); clear BK888; clear HB; clear HO_7; have BK888 := n0_; have HB := n1_; have HO892 := n2_; clear n0_ n1_ n2_; clear ho hb hg hat))
                go_roundg k1
                case measure => have := HK1.out; omega
                case rel => exact ⟨(y890), (wrap64 (x12_1 + 1)), zs, H', ⟨by have := HK1.out; omega⟩, ⟨by (with_reducible repeat (first | apply Kd.R_alloc | apply Kd.R_drewN | apply Kd.R_drew)); exact Kd.R_mono HO892.out (fun _ hk => trivial)⟩, ⟨zg HB.out GE888.out⟩⟩
              · rw [if_neg c9] at H
                exact absurd H (by simp)
            · rw [if_neg c8] at H
              have c8b0 : (t889 == a2) = false := by simpa using c8
              (try (have c8b1 : decide (t889 = a2) = false := by simpa using c8))
              (try (have c8b2 : (t889 == a2) = false := by simpa using c8))
              (try (have c8b3 : ¬ (t889 = a2) := by simpa using c8))
              clear c8
              have H' := Aside0.mk H
              clear H
              have p887 : 0 ≤ (x12_1 : Int) := of_decide_eq_true za
              have q887 : x12_1 < (l0.length : Int) := of_decide_eq_true za
              obtain ⟨ad887, e887, hx887_0, hx887_1⟩ := at_T59 HR0.out x12_1 p887 q887
              cases e887
              replace hx887_0 := (HB.out.cell (World.block_lt_of_cell? w _ hx887_0)).trans hx887_0
              replace hx887_1 := (HB.out.cell (World.block_lt_of_cell? w _ hx887_1)).trans hx887_1
              replace p887 := eq_true p887
              replace q887 := eq_true q887
              go_wp2_with (first | ((with_reducible refine gate_dst (N := 9) rfl ?_); refine box_event ?hg (N := 9) ?hd (cs := #[.string (⟨#[]⟩ : ByteArray), .string (⟨#[]⟩ : ByteArray)]) (t := 59) ?hr ?_; (case hd => rfl); (case hg => rfl); (case hr => first | (go_simp; done) | (go_simp; rfl)); intro gb888 hg w13 hbox hb; have n0_ := Aside0.mk (Kd.R_below (Kd.R_elderB (zr HO_7.out) gb888 (Nat.le_of_eq hg.symm)) hb); have n1_ := Aside0.mk (below_step (zb HB.out) hb); have n2_ := Aside0.mk (hbox); have n3_ := Aside0.mk ((by rw [hg]; exact (below_size (zb HB.out)) : w.heap.size ≤ gb888)); have n4_ := Aside0.mk ((by rw [hg]; exact (below_size (zb HB.out)) : w.heap.size ≤ gb888)); clear HO_7; clear HB; have HO_7 := n0_; have HB := n1_; have BK888 := n2_; have GW888 := n3_; have GE888 := n4_; clear n0_ n1_ n2_ n3_ n4_; clear hb hbox hg; have hcz14_0 : w13.cell? ⟨gb888, 0, none⟩ = some (.string (⟨#[]⟩ : ByteArray)) := (blk_cell BK888.out 0).trans rfl; have hcz14_1 : w13.cell? ⟨gb888, 1, none⟩ = some (.string (⟨#[]⟩ : ByteArray)) := (blk_cell BK888.out 1).trans rfl; have hfz14_0 := blk_frozen BK888.out 0; have hfz14_1 := blk_frozen BK888.out 1) | ((with_reducible refine gate_callee (f := 93) rfl ?_); refine goesL_ (some 19) rfl rfl Tryd.func93 (by kernel_rfl) rfl #[.slice A1 l1.length c1, .string ((rd_T59 l0 x12_1).f0)] rfl zl ?_; (with_reducible refine (slices_Contains_string_string.calls k1 _ _ l1 ((rd_T59 l0 x12_1).f0) t889 _ ?side1 ?side2 A7.out).mono ?_); (case side1 => exact Kd.C_below HR1.out (zg HB.out GE888.out)); (case side2 => exact HC1.out); rintro e w' ⟨rfl, ⟨nd, rfl⟩⟩; refine ⟨_, rfl, ?_⟩))
              go_roundg k1
              case measure => have := HK1.out; omega
              case rel => exact ⟨(x7_1), (wrap64 (x12_1 + 1)), zs, H', ⟨by have := HK1.out; omega⟩, ⟨by (with_reducible repeat (first | apply Kd.R_alloc | apply Kd.R_drewN | apply Kd.R_drew)); exact Kd.R_mono (Kd.R_far (p := ⟨gb888, 1, none⟩) (Kd.R_far (p := ⟨gb888, 0, none⟩) (Kd.R_mono HO_7.out (fun k_ hk => (⟨hk, hk.2⟩ : _ ∧ k_ ≠ gb888))) (fun _ hk => hk.2) (.string ((rd_T59 l0 x12_1).f0))) (fun _ hk => hk.2) (.string ((rd_T59 l0 x12_1).f1))) (fun _ hk => trivial)⟩, ⟨zg HB.out GE888.out⟩⟩
          · rw [if_neg c6] at H
            exact absurd H (by simp)
        · rw [if_neg c5] at H
          exact absurd H (by simp)
      · rw [if_neg c4] at H
        have c4b0 : decide (x12_1 < (l0.length : Int)) = false := decide_eq_false c4
        clear c4
        obtain rfl := Option.some.inj H
        go_wp2
        go_ret
        exact ⟨_, ze, zr HO_7.out, zb HB.out⟩

/-! ### labels_Keep: function 38 -/
def labels_Keep.f (k : Nat) (l0 : List (S59)) (l1 : List ByteArray) : Option ((List (S59))) := (labels_chosen.f k l0 l1 true).bind fun t893 => (some t893)
set_option maxHeartbeats 8000000 in
set_option maxRecDepth 100000 in
theorem labels_Keep.calls (k : Nat) (A0 : Option Addr) (c0 : Nat) (l0 : List (S59)) (A1 : Option Addr) (c1 : Nat) (l1 : List ByteArray) (r : List (S59)) (w : World) (hr0 : Kd.C k59 w A0 l0.length l0) (hc0 : l0.length ≤ c0) (hr1 : Kd.C Kd.string w A1 l1.length l1) (hc1 : l1.length ≤ c1) (h : labels_Keep.f k l0 l1 = some r) :
    Calls Tryd.prog 38 #[.slice A0 l0.length c0, .slice A1 l1.length c1] w fun e w' => ∃ v0_ : Value, e = .returned (v0_) ∧ Kd.R k59 59 w' w.heap.size (fun _ => True) v0_ r ∧ Below w.heap.size w w' := by
  have HR0 := Aside0.mk hr0
  have HC0 := Aside0.mk hc0
  clear hr0 hc0
  have HR1 := Aside0.mk hr1
  have HC1 := Aside0.mk hc1
  clear hr1 hc1
  have HB := Aside0.mk (Below.refl w.heap.size w)
  have H : ((labels_chosen.f k l0 l1 true).bind fun t893 => (some t893)) = some r := h
  clear h
  replace H := Option.bind_eq_some_iff.mp H
  obtain ⟨t893, A30, H⟩ := H
  replace H : (some t893) = some r := H
  have A3 := Aside0.mk A30
  clear A30
  obtain rfl := Option.some.inj H
  go_enter Tryd.func38, Tryd.ntmps38
  go_wp2_with (first | ((with_reducible refine gate_callee (f := 78) rfl ?_); refine goesL_ (some 7) rfl rfl Tryd.func78 (by kernel_rfl) rfl #[.slice A0 l0.length c0, .slice A1 l1.length c1, .bool true] rfl zl ?_; (with_reducible refine (labels_chosen.calls k _ _ l0 _ _ l1 true t893 _ ?side1 ?side2 ?side3 ?side4 A3.out).mono ?_); (case side1 => repeat (first | exact HR0.out | (with_reducible refine Kd.C_alloc ?_ _) | (with_reducible refine Kd.C_drewN ?_ _) | (with_reducible refine Kd.C_drew ?_))); (case side2 => exact HC0.out); (case side3 => repeat (first | exact HR1.out | (with_reducible refine Kd.C_alloc ?_ _) | (with_reducible refine Kd.C_drewN ?_ _) | (with_reducible refine Kd.C_drew ?_))); (case side4 => exact HC1.out); rintro e w4 ⟨v894, rfl, ho0, hb⟩; refine ⟨_, rfl, ?_⟩; have n0_ := Aside0.mk (Kd.R_lower ho0 (below_size (zb HB.out))); have n1_ := Aside0.mk (below_step (zb HB.out) hb); clear HB; have HO895 := n0_; have HB := n1_; clear n0_ n1_; (try clear hb); (try clear hb2); (try clear hk); (try clear hi); (try clear ho0)))
  go_ret
  exact ⟨_, ze, zr HO895.out, zb HB.out⟩

/-! ### labels_Without: function 39 -/
def labels_Without.f (k : Nat) (l0 : List (S59)) (l1 : List ByteArray) : Option ((List (S59))) := (labels_chosen.f k l0 l1 false).bind fun t896 => (some t896)
set_option maxHeartbeats 8000000 in
set_option maxRecDepth 100000 in
theorem labels_Without.calls (k : Nat) (A0 : Option Addr) (c0 : Nat) (l0 : List (S59)) (A1 : Option Addr) (c1 : Nat) (l1 : List ByteArray) (r : List (S59)) (w : World) (hr0 : Kd.C k59 w A0 l0.length l0) (hc0 : l0.length ≤ c0) (hr1 : Kd.C Kd.string w A1 l1.length l1) (hc1 : l1.length ≤ c1) (h : labels_Without.f k l0 l1 = some r) :
    Calls Tryd.prog 39 #[.slice A0 l0.length c0, .slice A1 l1.length c1] w fun e w' => ∃ v0_ : Value, e = .returned (v0_) ∧ Kd.R k59 59 w' w.heap.size (fun _ => True) v0_ r ∧ Below w.heap.size w w' := by
  have HR0 := Aside0.mk hr0
  have HC0 := Aside0.mk hc0
  clear hr0 hc0
  have HR1 := Aside0.mk hr1
  have HC1 := Aside0.mk hc1
  clear hr1 hc1
  have HB := Aside0.mk (Below.refl w.heap.size w)
  have H : ((labels_chosen.f k l0 l1 false).bind fun t896 => (some t896)) = some r := h
  clear h
  replace H := Option.bind_eq_some_iff.mp H
  obtain ⟨t896, A30, H⟩ := H
  replace H : (some t896) = some r := H
  have A3 := Aside0.mk A30
  clear A30
  obtain rfl := Option.some.inj H
  go_enter Tryd.func39, Tryd.ntmps39
  go_wp2_with (first | ((with_reducible refine gate_callee (f := 78) rfl ?_); refine goesL_ (some 7) rfl rfl Tryd.func78 (by kernel_rfl) rfl #[.slice A0 l0.length c0, .slice A1 l1.length c1, .bool false] rfl zl ?_; (with_reducible refine (labels_chosen.calls k _ _ l0 _ _ l1 false t896 _ ?side1 ?side2 ?side3 ?side4 A3.out).mono ?_); (case side1 => repeat (first | exact HR0.out | (with_reducible refine Kd.C_alloc ?_ _) | (with_reducible refine Kd.C_drewN ?_ _) | (with_reducible refine Kd.C_drew ?_))); (case side2 => exact HC0.out); (case side3 => repeat (first | exact HR1.out | (with_reducible refine Kd.C_alloc ?_ _) | (with_reducible refine Kd.C_drewN ?_ _) | (with_reducible refine Kd.C_drew ?_))); (case side4 => exact HC1.out); rintro e w4 ⟨v897, rfl, ho0, hb⟩; refine ⟨_, rfl, ?_⟩; have n0_ := Aside0.mk (Kd.R_lower ho0 (below_size (zb HB.out))); have n1_ := Aside0.mk (below_step (zb HB.out) hb); clear HB; have HO898 := n0_; have HB := n1_; clear n0_ n1_; (try clear hb); (try clear hb2); (try clear hk); (try clear hi); (try clear ho0)))
  go_ret
  exact ⟨_, ze, zr HO898.out, zb HB.out⟩

/-! ### abacusref12_Merge: function 42 -/
mutual
def abacusref12_Merge.j0 : Nat → List (S59) → List (S59) → Bool → Option ((List (S59)) × Int)
  | 0, _, _, _ => none
  | k + 1, x0, x1, x19 => if x19 = true then (some (([] : List (S59)), 120)) else ((abacusref12_Copy.f k x0).bind fun t981 => (abacusref12_Merge.l0 k x1 t981 0))
def abacusref12_Merge.l0 : Nat → List (S59) → List (S59) → Int → Option ((List (S59)) × Int)
  | 0, _, _, _ => none
  | k + 1, x1, x8, x9 => if x9 < (x1.length : Int) then (if 0 ≤ x9 then ((abacusref12_put.f k x8 ((rd_T59 x1 x9).f0) ((rd_T59 x1 x9).f1)).bind fun t985 => (abacusref12_Merge.l0 k x1 t985 (wrap64 (x9 + 1)))) else (none)) else (if (x8.length : Int) > 32 then (some (([] : List (S59)), 3)) else (some (x8, 0)))
end
def abacusref12_Merge.f (k : Nat) (l0 : List (S59)) (l1 : List (S59)) : Option ((List (S59)) × Int) := (abacusref12_Right.f k l0).bind fun t979 => ((abacusref12_Right.f k l1).bind fun t980 => (if t979 = true then (abacusref12_Merge.j0 k l0 l1 (!t980)) else (abacusref12_Merge.j0 k l0 l1 true)))
set_option maxHeartbeats 8000000 in
set_option maxRecDepth 100000 in
theorem abacusref12_Merge.calls (k : Nat) (A0 : Option Addr) (c0 : Nat) (l0 : List (S59)) (A1 : Option Addr) (c1 : Nat) (l1 : List (S59)) (r1 : List (S59)) (r2 : Int) (w : World) (hr0 : Kd.C k59 w A0 l0.length l0) (hc0 : l0.length ≤ c0) (hr1 : Kd.C k59 w A1 l1.length l1) (hc1 : l1.length ≤ c1) (h : abacusref12_Merge.f k l0 l1 = some (r1, r2)) :
    Calls Tryd.prog 42 #[.slice A0 l0.length c0, .slice A1 l1.length c1] w fun e w' => ∃ v0_ : Value, e = .returned (.tuple #[v0_, .int .i64 r2]) ∧ Kd.R k59 59 w' w.heap.size (fun _ => True) v0_ r1 ∧ Below w.heap.size w w' := by
  have hu59 := Tryd.underlying59
  have HR0 := Aside0.mk hr0
  have HC0 := Aside0.mk hc0
  clear hr0 hc0
  have HR1 := Aside0.mk hr1
  have HC1 := Aside0.mk hc1
  clear hr1 hc1
  have HB := Aside0.mk (Below.refl w.heap.size w)
  have H : ((abacusref12_Right.f k l0).bind fun t979 => ((abacusref12_Right.f k l1).bind fun t980 => (if t979 = true then (abacusref12_Merge.j0 k l0 l1 (!t980)) else (abacusref12_Merge.j0 k l0 l1 true)))) = some (r1, r2) := h
  clear h
  replace H := Option.bind_eq_some_iff.mp H
  obtain ⟨t979, A30, H⟩ := H
  replace H : ((abacusref12_Right.f k l1).bind fun t980 => (if t979 = true then (abacusref12_Merge.j0 k l0 l1 (!t980)) else (abacusref12_Merge.j0 k l0 l1 true))) = some (r1, r2) := H
  have A3 := Aside0.mk A30
  clear A30
  replace H := Option.bind_eq_some_iff.mp H
  obtain ⟨t980, A40, H⟩ := H
  replace H : (if t979 = true then (abacusref12_Merge.j0 k l0 l1 (!t980)) else (abacusref12_Merge.j0 k l0 l1 true)) = some (r1, r2) := H
  have A4 := Aside0.mk A40
  clear A40
  have HC5 := Aside0.mk H
  clear H
  go_enter Tryd.func42, Tryd.ntmps42
  go_upto_region 3 with (first | ((with_reducible refine gate_callee (f := 33) rfl ?_); refine goesL_ (some 11) rfl rfl Tryd.func33 (by kernel_rfl) rfl #[.slice A0 l0.length c0] rfl zl ?_; (with_reducible refine (abacusref12_Right.calls k _ _ l0 t979 _ ?side1 ?side2 A3.out).mono ?_); (case side1 => repeat (first | exact HR0.out | (with_reducible refine Kd.C_alloc ?_ _) | (with_reducible refine Kd.C_drewN ?_ _) | (with_reducible refine Kd.C_drew ?_))); (case side2 => exact HC0.out); rintro e w' ⟨rfl, ⟨nd, rfl⟩⟩; refine ⟨_, rfl, ?_⟩) | ((with_reducible refine gate_callee (f := 33) rfl ?_); refine goesL_ (some 13) rfl rfl Tryd.func33 (by kernel_rfl) rfl #[.slice A1 l1.length c1] rfl zl ?_; (with_reducible refine (abacusref12_Right.calls k _ _ l1 t980 _ ?side1 ?side2 A4.out).mono ?_); (case side1 => repeat (first | exact HR1.out | (with_reducible refine Kd.C_alloc ?_ _) | (with_reducible refine Kd.C_drewN ?_ _) | (with_reducible refine Kd.C_drew ?_))); (case side2 => exact HC1.out); rintro e w' ⟨rfl, ⟨nd, rfl⟩⟩; refine ⟨_, rfl, ?_⟩))
  (try simp only [Act.put, List.setIfInBounds_toArray, List.set_cons_zero, List.set_cons_succ])
  go_cut [19] (fun v19 wc => ∃ (kq : Nat) (x19_4 : Bool), v19 = .bool x19_4 ∧ Aside0 (abacusref12_Merge.j0 kq l0 l1 x19_4 = some (r1, r2)) ∧ Aside0 (kq ≤ k) ∧ Aside0 (Below w.heap.size w wc))
  case first =>
    have H := HC5.out
    clear HC5
    by_cases c6 : t979 = true
    · subst c6
      have H1 : (abacusref12_Merge.j0 k l0 l1 (!t980)) = some (r1, r2) := by rw [if_pos rfl] at H; exact H
      clear H
      have H := H1
      clear H1
      have H' := Aside0.mk H
      clear H
      go_wp2
      go_meet
      case rel => exact ⟨_, (!t980), zs, H', ⟨by first | omega | exact Nat.le_refl _⟩, ⟨zb HB.out⟩⟩
    · replace c6 := Bool.eq_false_iff.mpr c6
      subst c6
      have H1 : (abacusref12_Merge.j0 k l0 l1 true) = some (r1, r2) := by rw [if_neg (show ¬ (false = true) by decide)] at H; exact H
      clear H
      have H := H1
      clear H1
      have H' := Aside0.mk H
      clear H
      go_wp2
      go_meet
      case rel => exact ⟨_, (true), zs, H', ⟨by first | omega | exact Nat.le_refl _⟩, ⟨zb HB.out⟩⟩
  case rest =>
    clear HC5
    try clear c1
    try clear p2
    try clear c3
    try clear c4
    try clear c6
    obtain ⟨kq, x19_4, rfl, HA, HJ4, HB⟩ := hcut
    cases kq with
    | zero => exact absurd HA.out (by simp [abacusref12_Merge.j0])
    | succ kj4 =>
      have H := HA.out
      clear HA
      simp only [abacusref12_Merge.j0] at H
      by_cases c7 : x19_4 = true
      · subst c7
        have H1 : (some (([] : List (S59)), 120)) = some (r1, r2) := by rw [if_pos rfl] at H; exact H
        clear H
        have H := H1
        clear H1
        simp only [Option.some.injEq, Prod.mk.injEq] at H
        obtain ⟨rfl, rfl⟩ := H
        go_wp2
        go_ret2
        exact ⟨_, ze, by first | exact Kd.R_nil _ _ _ _ _ | exact Kd.N_nil _ _ _ _ _ | exact Kd.V_nil _ _ _ _ _ | exact Kd.Q_nil _ _ _ _ _ | exact Kd.S_nil _ _ _ _ _, zb HB.out⟩
      · replace c7 := Bool.eq_false_iff.mpr c7
        subst c7
        have H1 : ((abacusref12_Copy.f kj4 l0).bind fun t981 => (abacusref12_Merge.l0 kj4 l1 t981 0)) = some (r1, r2) := by rw [if_neg (show ¬ (false = true) by decide)] at H; exact H
        clear H
        have H := H1
        clear H1
        replace H := Option.bind_eq_some_iff.mp H
        obtain ⟨t981, A80, H⟩ := H
        replace H : (abacusref12_Merge.l0 kj4 l1 t981 0) = some (r1, r2) := H
        have A8 := Aside0.mk A80
        clear A80
        have H' := Aside0.mk H
        clear H
        go_wp2_with (first | ((with_reducible refine gate_callee (f := 29) rfl ?_); refine goesL_ (some 21) rfl rfl Tryd.func29 (by kernel_rfl) rfl #[.slice A0 l0.length c0] rfl zl ?_; (with_reducible refine (abacusref12_Copy.calls kj4 _ _ l0 t981 _ ?side1 ?side2 A8.out).mono ?_); (case side1 => exact zc (Kd.C_below HR0.out HB.out)); (case side2 => exact HC0.out); rintro e w9 ⟨v982, rfl, ho0, hb⟩; refine ⟨_, rfl, ?_⟩; have n0_ := Aside0.mk (Kd.R_lower ho0 (below_size (zb HB.out))); have n1_ := Aside0.mk (below_step (zb HB.out) hb); clear HB; have HO983 := n0_; have HB := n1_; clear n0_ n1_; (try clear hb); (try clear hb2); (try clear hk); (try clear hi); (try clear ho0)))
        go_loopg [8, 9] kj4 (fun kq v8 v9 w' => ∃ (x8_2 : List (S59)) (x9_2 : Int), v9 = .int .i64 x9_2 ∧ Aside0 (abacusref12_Merge.l0 kq l1 x8_2 x9_2 = some (r1, r2)) ∧ Aside0 (kq ≤ kj4) ∧ Aside0 (Kd.R k59 59 w' w.heap.size (fun _ => True) v8 x8_2) ∧ Aside0 (Below w.heap.size w w'))
        case atStart => exact ⟨(t981), (0), zs, H', ⟨Nat.le_refl _⟩, ⟨zr HO983.out⟩, ⟨zb HB.out⟩⟩
        case round =>
          clear H'
          try clear c1
          try clear c2
          try clear p2
          try clear c3
          try clear c4
          try clear c6
          try clear c7
          try clear p2
          obtain ⟨x8_2, x9_2, rfl, HA, HK2, HO_8, HB⟩ := hrel
          cases gk with
          | zero => exact absurd HA.out (by simp [abacusref12_Merge.l0])
          | succ k2 =>
            have H := HA.out
            clear HA
            simp only [abacusref12_Merge.l0] at H
            by_cases c10 : x9_2 < (l1.length : Int)
            · rw [if_pos c10] at H
              have c10b0 : decide (x9_2 < (l1.length : Int)) = true := decide_eq_true c10
              clear c10
              by_cases c11 : 0 ≤ x9_2
              · rw [if_pos c11] at H
                have c11b0 : decide (0 ≤ x9_2) = true := decide_eq_true c11
                clear c11
                replace H := Option.bind_eq_some_iff.mp H
                obtain ⟨t985, A120, H⟩ := H
                replace H : (abacusref12_Merge.l0 k2 l1 t985 (wrap64 (x9_2 + 1))) = some (r1, r2) := H
                have A12 := Aside0.mk A120
                clear A120
                have H' := Aside0.mk H
                clear H
                have p984 : 0 ≤ (x9_2 : Int) := of_decide_eq_true za
                have q984 : x9_2 < (l1.length : Int) := of_decide_eq_true za
                obtain ⟨ad984, e984, hx984_0, hx984_1⟩ := at_T59 HR1.out x9_2 p984 q984
                cases e984
                replace hx984_0 := (HB.out.cell (World.block_lt_of_cell? w _ hx984_0)).trans hx984_0
                replace hx984_1 := (HB.out.cell (World.block_lt_of_cell? w _ hx984_1)).trans hx984_1
                replace p984 := eq_true p984
                replace q984 := eq_true q984
                obtain ⟨Ao13, co13, eo13⟩ := Kd.R_slice HO_8.out
                subst eo13
                go_wp2_with (first | ((with_reducible refine gate_callee (f := 53) rfl ?_); refine goesL_ (some 33) rfl rfl Tryd.func53 (by kernel_rfl) rfl #[.slice Ao13 x8_2.length co13, .agg #[.string ((rd_T59 l1 x9_2).f0), .string ((rd_T59 l1 x9_2).f1)]] rfl zl ?_; (with_reducible refine (abacusref12_put.calls k2 _ _ x8_2 ((rd_T59 l1 x9_2).f0) ((rd_T59 l1 x9_2).f1) t985 _ ?side1 ?side2 A12.out).mono ?_); (case side1 => exact zc (Kd.R_reads' HO_8.out).2.2); (case side2 => exact (Kd.R_reads' HO_8.out).2.1); rintro e w14 ⟨v986, rfl, ho0, hb⟩; refine ⟨_, rfl, ?_⟩; have n0_ := Aside0.mk (Kd.R_elder' (zr HO_8.out) (Kd.R_base ho0) hb); have n1_ := Aside0.mk (Kd.R_lower (Kd.R_new' ho0 (Kd.R_lt (zr HO_8.out))) (below_size (zb HB.out))); have n2_ := Aside0.mk (below_step (zb HB.out) hb); clear HO_8; clear HB; have HO_8 := n0_; have HO987 := n1_; have HB := n2_; clear n0_ n1_ n2_; (try clear hb); (try clear hb2); (try clear hk); (try clear hi); (try clear ho0)))
                go_roundg k2
                case measure => have := HJ4.out; have := HK2.out; omega
                case rel => exact ⟨(t985), (wrap64 (x9_2 + 1)), zs, H', ⟨by have := HJ4.out; have := HK2.out; omega⟩, ⟨by (with_reducible repeat (first | apply Kd.R_alloc | apply Kd.R_drewN | apply Kd.R_drew)); exact Kd.R_mono HO987.out (fun _ hk => trivial)⟩, ⟨zb HB.out⟩⟩
              · rw [if_neg c11] at H
                exact absurd H (by simp)
            · rw [if_neg c10] at H
              have c10b0 : decide (x9_2 < (l1.length : Int)) = false := decide_eq_false c10
              clear c10
              by_cases c15 : (x8_2.length : Int) > 32
              · rw [if_pos c15] at H
                have c15b0 : decide (32 < (x8_2.length : Int)) = true := decide_eq_true c15
                have c15b1 : decide (32 < x8_2.length) = true := decide_eq_true (by omega)
                clear c15
                simp only [Option.some.injEq, Prod.mk.injEq] at H
                obtain ⟨rfl, rfl⟩ := H
                obtain ⟨Ao16, co16, eo16⟩ := Kd.R_slice HO_8.out
                subst eo16
                go_wp2
                go_ret2
                exact ⟨_, ze, by first | exact Kd.R_nil _ _ _ _ _ | exact Kd.N_nil _ _ _ _ _ | exact Kd.V_nil _ _ _ _ _ | exact Kd.Q_nil _ _ _ _ _ | exact Kd.S_nil _ _ _ _ _, zb HB.out⟩
              · rw [if_neg c15] at H
                have c15b0 : decide (32 < (x8_2.length : Int)) = false := decide_eq_false c15
                have c15b1 : decide (32 < x8_2.length) = false := decide_eq_false (by omega)
                clear c15
                simp only [Option.some.injEq, Prod.mk.injEq] at H
                obtain ⟨rfl, rfl⟩ := H
                obtain ⟨Ao17, co17, eo17⟩ := Kd.R_slice HO_8.out
                subst eo17
                go_wp2
                go_ret2
                exact ⟨_, ze, zr HO_8.out, zb HB.out⟩

/-! ### abacusref12_Chosen: function 43 -/
mutual
def abacusref12_Chosen.l0 : Nat → List (S59) → List ByteArray → Bool → List (S59) → Int → Option ((List (S59)))
  | 0, _, _, _, _, _ => none
  | k + 1, x0, x1, x2, x7, x8 => if x8 < (x0.length : Int) then (abacusref12_Chosen.l1 k x0 x1 x2 x7 x8 false 0) else (some x7)
def abacusref12_Chosen.l1 : Nat → List (S59) → List ByteArray → Bool → List (S59) → Int → Bool → Int → Option ((List (S59)))
  | 0, _, _, _, _, _, _, _ => none
  | k + 1, x0, x1, x2, x7, x8, x9, x10 => if x10 < (x1.length : Int) then (if x9 = true then (abacusref12_Chosen.l1 k x0 x1 x2 x7 x8 true (wrap64 (x10 + 1))) else (if 0 ≤ x10 then (if 0 ≤ x8 then (if x8 < (x0.length : Int) then (abacusref12_Chosen.l1 k x0 x1 x2 x7 x8 ((rdOf ByteArray.empty x1 x10).toList == ((rd_T59 x0 x8).f0).toList) (wrap64 (x10 + 1))) else (none)) else (none)) else (none))) else (if (x9 == x2) = true then (if 0 ≤ x8 then (if x8 < (x0.length : Int) then (if x7.length < 4398046511104 then (abacusref12_Chosen.l0 k x0 x1 x2 (x7 ++ [(⟨(rd_T59 x0 x8).f0, (rd_T59 x0 x8).f1⟩ : S59)]) (wrap64 (x8 + 1))) else (none)) else (none)) else (none)) else (abacusref12_Chosen.l0 k x0 x1 x2 x7 (wrap64 (x8 + 1))))
end
def abacusref12_Chosen.f (k : Nat) (l0 : List (S59)) (l1 : List ByteArray) (a2 : Bool) : Option ((List (S59))) := abacusref12_Chosen.l0 k l0 l1 a2 ([] : List (S59)) 0
set_option maxHeartbeats 8000000 in
set_option maxRecDepth 100000 in
theorem abacusref12_Chosen.calls (k : Nat) (A0 : Option Addr) (c0 : Nat) (l0 : List (S59)) (A1 : Option Addr) (c1 : Nat) (l1 : List ByteArray) (a2 : Bool) (r : List (S59)) (w : World) (hr0 : Kd.C k59 w A0 l0.length l0) (hc0 : l0.length ≤ c0) (hr1 : Kd.C Kd.string w A1 l1.length l1) (hc1 : l1.length ≤ c1) (h : abacusref12_Chosen.f k l0 l1 a2 = some r) :
    Calls Tryd.prog 43 #[.slice A0 l0.length c0, .slice A1 l1.length c1, .bool a2] w fun e w' => ∃ v0_ : Value, e = .returned (v0_) ∧ Kd.R k59 59 w' w.heap.size (fun _ => True) v0_ r ∧ Below w.heap.size w w' := by
  have hu59 := Tryd.underlying59
  have HR0 := Aside0.mk hr0
  have HC0 := Aside0.mk hc0
  clear hr0 hc0
  have HR1 := Aside0.mk hr1
  have HC1 := Aside0.mk hc1
  clear hr1 hc1
  have HB := Aside0.mk (Below.refl w.heap.size w)
  have H : (abacusref12_Chosen.l0 k l0 l1 a2 ([] : List (S59)) 0) = some r := h
  clear h
  have H' := Aside0.mk H
  clear H
  go_enter Tryd.func43, Tryd.ntmps43
  go_wp2
  repeat (go_quiet (fail); try go_wp2)
  go_loopg [7, 8] k (fun kq v7 v8 w' => ∃ (x7_1 : List (S59)) (x8_1 : Int), v8 = .int .i64 x8_1 ∧ Aside0 (abacusref12_Chosen.l0 kq l0 l1 a2 x7_1 x8_1 = some r) ∧ Aside0 (kq ≤ k) ∧ Aside0 (Kd.R k59 59 w' w.heap.size (fun _ => True) v7 x7_1) ∧ Aside0 (Below w.heap.size w w'))
  case atStart => exact ⟨(([] : List (S59))), (0), zs, H', ⟨Nat.le_refl _⟩, ⟨by first | exact Kd.R_nil _ _ _ _ _ | exact Kd.N_nil _ _ _ _ _ | exact Kd.V_nil _ _ _ _ _ | exact Kd.Q_nil _ _ _ _ _ | exact Kd.S_nil _ _ _ _ _⟩, ⟨zb HB.out⟩⟩
  case round =>
    clear H'
    try clear c1
    try clear p2
    obtain ⟨x7_1, x8_1, rfl, HA, HK1, HO_7, HB⟩ := hrel
    cases gk with
    | zero => exact absurd HA.out (by simp [abacusref12_Chosen.l0])
    | succ k1 =>
      have H := HA.out
      clear HA
      simp only [abacusref12_Chosen.l0] at H
      by_cases c4 : x8_1 < (l0.length : Int)
      · rw [if_pos c4] at H
        have c4b0 : decide (x8_1 < (l0.length : Int)) = true := decide_eq_true c4
        clear c4
        have H' := Aside0.mk H
        clear H
        go_wp2
        repeat (go_quiet (fail); try go_wp2)
        go_loopg [9, 10] k1 (fun kq v9 v10 w' => ∃ (x9_2 : Bool) (x10_2 : Int), v9 = .bool x9_2 ∧ v10 = .int .i64 x10_2 ∧ Aside0 (abacusref12_Chosen.l1 kq l0 l1 a2 x7_1 x8_1 x9_2 x10_2 = some r) ∧ Aside0 (kq ≤ k1) ∧ Aside0 (Kd.R k59 59 w' w.heap.size (fun _ => True) u7 x7_1) ∧ Aside0 (Below w.heap.size w w'))
        case atStart => exact ⟨(false), (0), zs, zs, H', ⟨Nat.le_refl _⟩, ⟨zr HO_7.out⟩, ⟨zb HB.out⟩⟩
        case round =>
          clear H'
          try clear c1
          try clear p2
          try clear c4
          try clear c4b0
          try clear p2
          obtain ⟨x9_2, x10_2, rfl, rfl, HA, HK2, HO_7, HB⟩ := hrel
          cases gk with
          | zero => exact absurd HA.out (by simp [abacusref12_Chosen.l1])
          | succ k2 =>
            have H := HA.out
            clear HA
            simp only [abacusref12_Chosen.l1] at H
            by_cases c5 : x10_2 < (l1.length : Int)
            · rw [if_pos c5] at H
              have c5b0 : decide (x10_2 < (l1.length : Int)) = true := decide_eq_true c5
              clear c5
              by_cases c6 : x9_2 = true
              · subst c6
                have H1 : (abacusref12_Chosen.l1 k2 l0 l1 a2 x7_1 x8_1 true (wrap64 (x10_2 + 1))) = some r := by rw [if_pos rfl] at H; exact H
                clear H
                have H := H1
                clear H1
                have H' := Aside0.mk H
                clear H
                go_wp2
                repeat (go_quiet (fail); try go_wp2)
                go_roundg k2
                case measure => have := HK1.out; have := HK2.out; omega
                case rel => exact ⟨(true), (wrap64 (x10_2 + 1)), zs, zs, H', ⟨by have := HK1.out; have := HK2.out; omega⟩, ⟨zr HO_7.out⟩, ⟨zb HB.out⟩⟩
              · replace c6 := Bool.eq_false_iff.mpr c6
                subst c6
                have H1 : (if 0 ≤ x10_2 then (if 0 ≤ x8_1 then (if x8_1 < (l0.length : Int) then (abacusref12_Chosen.l1 k2 l0 l1 a2 x7_1 x8_1 ((rdOf ByteArray.empty l1 x10_2).toList == ((rd_T59 l0 x8_1).f0).toList) (wrap64 (x10_2 + 1))) else (none)) else (none)) else (none)) = some r := by rw [if_neg (show ¬ (false = true) by decide)] at H; exact H
                clear H
                have H := H1
                clear H1
                by_cases c7 : 0 ≤ x10_2
                · rw [if_pos c7] at H
                  have c7b0 : decide (0 ≤ x10_2) = true := decide_eq_true c7
                  clear c7
                  by_cases c8 : 0 ≤ x8_1
                  · rw [if_pos c8] at H
                    have c8b0 : decide (0 ≤ x8_1) = true := decide_eq_true c8
                    clear c8
                    by_cases c9 : x8_1 < (l0.length : Int)
                    · rw [if_pos c9] at H
                      have c9b0 : decide (x8_1 < (l0.length : Int)) = true := decide_eq_true c9
                      clear c9
                      have H' := Aside0.mk H
                      clear H
                      have p988 : 0 ≤ (x10_2 : Int) := of_decide_eq_true za
                      have q988 : x10_2 < (l1.length : Int) := of_decide_eq_true za
                      obtain ⟨ad988, e988, hx988_0⟩ := Kd.at_string HR1.out x10_2 p988 q988
                      cases e988
                      replace hx988_0 := (HB.out.cell (World.block_lt_of_cell? w _ hx988_0)).trans hx988_0
                      replace p988 := eq_true p988
                      replace q988 := eq_true q988
                      have p989 : 0 ≤ (x8_1 : Int) := of_decide_eq_true za
                      have q989 : x8_1 < (l0.length : Int) := of_decide_eq_true za
                      obtain ⟨ad989, e989, hx989_0, hx989_1⟩ := at_T59 HR0.out x8_1 p989 q989
                      cases e989
                      replace hx989_0 := (HB.out.cell (World.block_lt_of_cell? w _ hx989_0)).trans hx989_0
                      replace hx989_1 := (HB.out.cell (World.block_lt_of_cell? w _ hx989_1)).trans hx989_1
                      replace p989 := eq_true p989
                      replace q989 := eq_true q989
                      go_wp2
                      repeat (go_quiet (fail); try go_wp2)
                      go_roundg k2
                      case measure => have := HK1.out; have := HK2.out; omega
                      case rel => exact ⟨(((rdOf ByteArray.empty l1 x10_2).toList == ((rd_T59 l0 x8_1).f0).toList)), (wrap64 (x10_2 + 1)), zs, zs, H', ⟨by have := HK1.out; have := HK2.out; omega⟩, ⟨zr HO_7.out⟩, ⟨zb HB.out⟩⟩
                    · rw [if_neg c9] at H
                      exact absurd H (by simp)
                  · rw [if_neg c8] at H
                    exact absurd H (by simp)
                · rw [if_neg c7] at H
                  exact absurd H (by simp)
            · rw [if_neg c5] at H
              have c5b0 : decide (x10_2 < (l1.length : Int)) = false := decide_eq_false c5
              clear c5
              by_cases c10 : (x9_2 == a2) = true
              · rw [if_pos c10] at H
                have c10b0 : (x9_2 == a2) = true := c10
                (try (have c10b1 : decide (x9_2 = a2) = true := by simpa using c10))
                (try (have c10b2 : (x9_2 == a2) = true := by simpa using c10))
                clear c10
                by_cases c11 : 0 ≤ x8_1
                · rw [if_pos c11] at H
                  have c11b0 : decide (0 ≤ x8_1) = true := decide_eq_true c11
                  clear c11
                  by_cases c12 : x8_1 < (l0.length : Int)
                  · rw [if_pos c12] at H
                    have c12b0 : decide (x8_1 < (l0.length : Int)) = true := decide_eq_true c12
                    clear c12
                    by_cases c13 : x7_1.length < 4398046511104
                    · rw [if_pos c13] at H
                      have LMc13 := Aside0.mk c13
                      clear c13
                      obtain ⟨y991, hy991⟩ : ∃ y_ : List (S59), y_ = (x7_1 ++ [(⟨(rd_T59 l0 x8_1).f0, (rd_T59 l0 x8_1).f1⟩ : S59)]) := ⟨_, rfl⟩
                      replace H : (abacusref12_Chosen.l0 k2 l0 l1 a2 y991 (wrap64 (x8_1 + 1))) = some r := by first | (rw [hy991]; with_reducible exact H) | (have H2_ := (Option.bind_some _ _).symm.trans H; rw [hy991]; with_reducible exact H2_) | (have H2_ := (Option.bind_some _ _).symm.trans H; with_reducible exact H2_) | with_reducible exact H | (rw [hy991]; exact H) | exact H
                      have Ny991 := Aside0.mk hy991
                      clear hy991
                      have H' := Aside0.mk H
                      clear H
                      have p990 : 0 ≤ (x8_1 : Int) := of_decide_eq_true za
                      have q990 : x8_1 < (l0.length : Int) := of_decide_eq_true za
                      obtain ⟨ad990, e990, hx990_0, hx990_1⟩ := at_T59 HR0.out x8_1 p990 q990
                      cases e990
                      replace hx990_0 := (HB.out.cell (World.block_lt_of_cell? w _ hx990_0)).trans hx990_0
                      replace hx990_1 := (HB.out.cell (World.block_lt_of_cell? w _ hx990_1)).trans hx990_1
                      replace p990 := eq_true p990
                      replace q990 := eq_true q990
                      go_wp2_with (first | ((with_reducible refine gate_builtin (b := .append) (xs := #[.tmp 39, .tmp 44]) rfl ?_); at_builtin; refine Kd.R_append k59 (w0 := w) w.heap.size rfl (.tmp 39) (.tmp 44) 22 59 (.agg #[(.string ⟨#[]⟩), (.string ⟨#[]⟩)]) 32 rfl Tryd.underlying22 info59 rfl (by decide) (by omega) u7 x7_1 (⟨(rd_T59 l0 x8_1).f0, (rd_T59 l0 x8_1).f1⟩ : S59) [.string ((rd_T59 l0 x8_1).f0), .string ((rd_T59 l0 x8_1).f1)] (fun _ => True) (fun _ => False) rfl rfl ?aP (fun _ hk => hk.elim) ?aF ?aO ?aB ?aS ?aL ?_; (case aP => exact k59_mkM _ _ _ (⟨(rd_T59 l0 x8_1).f0, (rd_T59 l0 x8_1).f1⟩ : S59)); (case aB => exact (zb HB.out)); (case aF => exact (fun _ _ => trivial)); (case aO => exact (zr HO_7.out)); (case aS => exact (below_size (zb HB.out))); (case aL => have := LMc13.out; omega); intro v992 w14 ho hb hg hat; rw [← Ny991.out] at ho; have n0_ := Aside0.mk (hb); have n1_ := Aside0.mk (ho); clear HB; clear HO_7; have HB := n0_; have HO993 := n1_; clear n0_ n1_; clear ho hb hg hat))
                      repeat (go_quiet (first | ((with_reducible refine gate_builtin (b := .append) (xs := #[.tmp 39, .tmp 44]) rfl ?_); at_builtin; refine Kd.R_append k59 (w0 := w) w.heap.size rfl (.tmp 39) (.tmp 44) 22 59 (.agg #[(.string ⟨#[]⟩), (.string ⟨#[]⟩)]) 32 rfl Tryd.underlying22 info59 rfl (by decide) (by omega) u7 x7_1 (⟨(rd_T59 l0 x8_1).f0, (rd_T59 l0 x8_1).f1⟩ : S59) [.string ((rd_T59 l0 x8_1).f0), .string ((rd_T59 l0 x8_1).f1)] (fun _ => True) (fun _ => False) rfl rfl ?aP (fun _ hk => hk.elim) ?aF ?aO ?aB ?aS ?aL ?_; (case aP => exact k59_mkM _ _ _ (⟨(rd_T59 l0 x8_1).f0, (rd_T59 l0 x8_1).f1⟩ : S59)); (case aB => exact (zb HB.out)); (case aF => exact (fun _ _ => trivial)); (case aO => exact (zr HO_7.out)); (case aS => exact (below_size (zb HB.out))); (case aL => have := LMc13.out; omega); intro v992 w14 ho hb hg hat; rw [← Ny991.out] at ho; have n0_ := Aside0.mk (hb); have n1_ := Aside0.mk (ho); clear HB; clear HO_7; have HB := n0_; have HO993 := n1_; clear n0_ n1_; clear ho hb hg hat)); try go_wp2_with (first | ((with_reducible refine gate_builtin (b := .append) (xs := #[.tmp 39, .tmp 44]) rfl ?_); at_builtin; refine Kd.R_append k59 (w0 := w) w.heap.size rfl (.tmp 39) (.tmp 44) 22 59 (.agg #[(.string ⟨#[]⟩), (.string ⟨#[]⟩)]) 32 rfl Tryd.underlying22 info59 rfl (by decide) (by omega) u7 x7_1 (⟨(rd_T59 l0 x8_1).f0, (rd_T59 l0 x8_1).f1⟩ : S59) [.string ((rd_T59 l0 x8_1).f0), .string ((rd_T59 l0 x8_1).f1)] (fun _ => True) (fun _ => False) rfl rfl ?aP (fun _ hk => hk.elim) ?aF ?aO ?aB ?aS ?aL ?_; (case aP => exact k59_mkM _ _ _ (⟨(rd_T59 l0 x8_1).f0, (rd_T59 l0 x8_1).f1⟩ : S59)); (case aB => exact (zb HB.out)); (case aF => exact (fun _ _ => trivial)); (case aO => exact (zr HO_7.out)); (case aS => exact (below_size (zb HB.out))); (case aL => have := LMc13.out; omega); intro v992 w14 ho hb hg hat; rw [← Ny991.out] at ho; have n0_ := Aside0.mk (hb); have n1_ := Aside0.mk (ho); clear HB; clear HO_7; have HB := n0_; have HO993 := n1_; clear n0_ n1_; clear ho hb hg hat)))
                      go_roundg k2
                      case measure => have := HK1.out; have := HK2.out; omega
                      case rel => exact ⟨(y991), (wrap64 (x8_1 + 1)), zs, H', ⟨by have := HK1.out; have := HK2.out; omega⟩, ⟨zr HO993.out⟩, ⟨zb HB.out⟩⟩
                    · rw [if_neg c13] at H
                      exact absurd H (by simp)
                  · rw [if_neg c12] at H
                    exact absurd H (by simp)
                · rw [if_neg c11] at H
                  exact absurd H (by simp)
              · rw [if_neg c10] at H
                have c10b0 : (x9_2 == a2) = false := by simpa using c10
                (try (have c10b1 : decide (x9_2 = a2) = false := by simpa using c10))
                (try (have c10b2 : (x9_2 == a2) = false := by simpa using c10))
                (try (have c10b3 : ¬ (x9_2 = a2) := by simpa using c10))
                clear c10
                have H' := Aside0.mk H
                clear H
                go_wp2
                repeat (go_quiet (fail); try go_wp2)
                go_roundg k2
                case measure => have := HK1.out; have := HK2.out; omega
                case rel => exact ⟨(x7_1), (wrap64 (x8_1 + 1)), zs, H', ⟨by have := HK1.out; have := HK2.out; omega⟩, ⟨zr HO_7.out⟩, ⟨zb HB.out⟩⟩
      · rw [if_neg c4] at H
        have c4b0 : decide (x8_1 < (l0.length : Int)) = false := decide_eq_false c4
        clear c4
        obtain rfl := Option.some.inj H
        go_wp2
        repeat (go_quiet (fail); try go_wp2)
        go_ret
        exact ⟨_, ze, zr HO_7.out, zb HB.out⟩

end Go.Proofs.YtogegkfefpgbcaaDoor.PL
