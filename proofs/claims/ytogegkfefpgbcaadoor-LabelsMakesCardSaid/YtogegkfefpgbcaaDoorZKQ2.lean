/- Functions of the labels (packed). -/
import Derived.Test.YtogegkfefpgbcaaDoorZKPLx0
import Derived.Test.YtogegkfefpgbcaaDoorZKPLx1
import Derived.Test.YtogegkfefpgbcaaDoorZKPLx2
import Derived.Test.YtogegkfefpgbcaaDoorZKQ1
namespace Go.Proofs.YtogegkfefpgbcaaDoor.PL
open Go.RowKit Go.Proofs.YtogegkfefpgbcaaDoorW.PrintWords Go.Proofs.YtogegkfefpgbcaaDoorW.PrintLast Go.Proofs.YtogegkfefpgbcaaDoorW.PrintMore
attribute [local go_sem] max2_int min2_int max_two min_two max_three min_three max_four min_four   -- for this text's walks alone
set_option linter.unusedVariables false
set_option linter.unusedSimpArgs false
attribute [local go_sem high] eqA59
attribute [local go_sem high] eqA36

/-! ### abacusref12_Compare: function 44 -/
mutual
def abacusref12_Compare.l0 : Nat → List (S59) → List (S59) → Int → Option (Int)
  | 0, _, _, _ => none
  | k + 1, x0, x1, x5 => if x5 < (x0.length : Int) then (abacusref12_Compare.j1 k x0 x1 x5 (decide (x5 < (x1.length : Int)))) else (abacusref12_Compare.j1 k x0 x1 x5 false)
def abacusref12_Compare.j1 : Nat → List (S59) → List (S59) → Int → Bool → Option (Int)
  | 0, _, _, _, _ => none
  | k + 1, x0, x1, x5, x15 => if x15 = true then (if 0 ≤ x5 then (if x5 < (x0.length : Int) then (if x5 < (x1.length : Int) then (if ((((rd_T59 x0 x5).f0).toList) == (((rd_T59 x1 x5).f0).toList) && ((((rd_T59 x0 x5).f1).toList) == (((rd_T59 x1 x5).f1).toList))) = true then (abacusref12_Compare.l0 k x0 x1 (wrap64 (x5 + 1))) else (if (Op.bytesLess (((rd_T59 x0 x5).f0).toList) (((rd_T59 x1 x5).f0).toList)) = true then (some (-1)) else (if ((rd_T59 x0 x5).f0).toList = ((rd_T59 x1 x5).f0).toList then (if (Op.bytesLess (((rd_T59 x0 x5).f1).toList) (((rd_T59 x1 x5).f1).toList)) = true then (some (-1)) else (some 1)) else (some 1)))) else (none)) else (none)) else (none)) else (if (x0.length : Int) < (x1.length : Int) then (some (-1)) else (if (x0.length : Int) > (x1.length : Int) then (some 1) else (some 0)))
end
def abacusref12_Compare.f (k : Nat) (l0 : List (S59)) (l1 : List (S59)) : Option (Int) := abacusref12_Compare.l0 k l0 l1 0
set_option maxHeartbeats 8000000 in
set_option maxRecDepth 100000 in
theorem abacusref12_Compare.calls (k : Nat) (A0 : Option Addr) (c0 : Nat) (l0 : List (S59)) (A1 : Option Addr) (c1 : Nat) (l1 : List (S59)) (r : Int) (w : World) (hr0 : Kd.C k59 w A0 l0.length l0) (hc0 : l0.length ≤ c0) (hr1 : Kd.C k59 w A1 l1.length l1) (hc1 : l1.length ≤ c1) (h : abacusref12_Compare.f k l0 l1 = some r) :
    Calls Tryd.prog 44 #[.slice A0 l0.length c0, .slice A1 l1.length c1] w fun e w' => e = .returned (.int .i64 r) ∧ Drawn0 w w' := by
  have hu59 := Tryd.underlying59
  have HR0 := Aside0.mk hr0
  have HC0 := Aside0.mk hc0
  clear hr0 hc0
  have HR1 := Aside0.mk hr1
  have HC1 := Aside0.mk hc1
  clear hr1 hc1
  have H : (abacusref12_Compare.l0 k l0 l1 0) = some r := h
  clear h
  have H' := Aside0.mk H
  clear H
  go_enter Tryd.func44, Tryd.ntmps44
  go_wp2
  repeat (go_quiet (fail); try go_wp2)
  go_loopg [5] k (fun kq v5 w' => ∃ (x5_1 : Int), v5 = .int .i64 x5_1 ∧ Aside0 (abacusref12_Compare.l0 kq l0 l1 x5_1 = some r) ∧ Aside0 (kq ≤ k) ∧ Drawn0 w w')
  case atStart => exact ⟨(0), zs, H', ⟨Nat.le_refl _⟩, by repeat (first | exact Drawn0.refl _ | apply Drawn0.step)⟩
  case round =>
    clear H'
    try clear c1
    try clear p2
    obtain ⟨x5_1, rfl, HA, HK1, ⟨m1, rfl⟩⟩ := hrel
    cases gk with
    | zero => exact absurd HA.out (by simp [abacusref12_Compare.l0])
    | succ k1 =>
      have H := HA.out
      clear HA
      simp only [abacusref12_Compare.l0] at H
      have HC3 := Aside0.mk H
      clear H
      go_upto_region 2 with (fail)
      repeat (go_quiet (fail); go_upto_region 2 with (fail))
      go_cut [15] (fun v15 wc => ∃ (kq : Nat) (x15_2 : Bool), v15 = .bool x15_2 ∧ Aside0 (abacusref12_Compare.j1 kq l0 l1 x5_1 x15_2 = some r) ∧ Aside0 (kq ≤ k1) ∧ Drawn0 w wc)
      case first =>
        have H := HC3.out
        clear HC3
        by_cases c4 : x5_1 < (l0.length : Int)
        · rw [if_pos c4] at H
          have c4b0 : decide (x5_1 < (l0.length : Int)) = true := decide_eq_true c4
          clear c4
          (first | rw [c4b0] | (simp only [i64_w, i32_w]; rw [c4b0]) | skip)
          have H' := Aside0.mk H
          clear H
          go_wp2
          repeat (go_quiet (fail); try go_wp2)
          go_meet
          case rel => exact ⟨_, (decide (x5_1 < (l1.length : Int))), zs, H', ⟨by have := HK1.out; first | omega | exact Nat.le_refl _⟩, by repeat (first | exact Drawn0.refl _ | apply Drawn0.step)⟩
        · rw [if_neg c4] at H
          have c4b0 : decide (x5_1 < (l0.length : Int)) = false := decide_eq_false c4
          clear c4
          (first | rw [c4b0] | (simp only [i64_w, i32_w]; rw [c4b0]) | skip)
          have H' := Aside0.mk H
          clear H
          go_wp2
          repeat (go_quiet (fail); try go_wp2)
          go_meet
          case rel => exact ⟨_, (false), zs, H', ⟨by have := HK1.out; first | omega | exact Nat.le_refl _⟩, by repeat (first | exact Drawn0.refl _ | apply Drawn0.step)⟩
      case rest =>
        clear HC3
        try clear c1
        try clear p2
        try clear c4
        try clear c4b0
        try clear p2
        obtain ⟨kq, x15_2, rfl, HA, HJ2, ⟨mc2, rfl⟩⟩ := hcut
        cases kq with
        | zero => exact absurd HA.out (by simp [abacusref12_Compare.j1])
        | succ kj2 =>
          have H := HA.out
          clear HA
          simp only [abacusref12_Compare.j1] at H
          by_cases c5 : x15_2 = true
          · subst c5
            have H1 : (if 0 ≤ x5_1 then (if x5_1 < (l0.length : Int) then (if x5_1 < (l1.length : Int) then (if ((((rd_T59 l0 x5_1).f0).toList) == (((rd_T59 l1 x5_1).f0).toList) && ((((rd_T59 l0 x5_1).f1).toList) == (((rd_T59 l1 x5_1).f1).toList))) = true then (abacusref12_Compare.l0 kj2 l0 l1 (wrap64 (x5_1 + 1))) else (if (Op.bytesLess (((rd_T59 l0 x5_1).f0).toList) (((rd_T59 l1 x5_1).f0).toList)) = true then (some (-1)) else (if ((rd_T59 l0 x5_1).f0).toList = ((rd_T59 l1 x5_1).f0).toList then (if (Op.bytesLess (((rd_T59 l0 x5_1).f1).toList) (((rd_T59 l1 x5_1).f1).toList)) = true then (some (-1)) else (some 1)) else (some 1)))) else (none)) else (none)) else (none)) = some r := by rw [if_pos rfl] at H; exact H
            clear H
            have H := H1
            clear H1
            by_cases c6 : 0 ≤ x5_1
            · rw [if_pos c6] at H
              have c6b0 : decide (0 ≤ x5_1) = true := decide_eq_true c6
              clear c6
              by_cases c7 : x5_1 < (l0.length : Int)
              · rw [if_pos c7] at H
                have c7b0 : decide (x5_1 < (l0.length : Int)) = true := decide_eq_true c7
                clear c7
                by_cases c8 : x5_1 < (l1.length : Int)
                · rw [if_pos c8] at H
                  have c8b0 : decide (x5_1 < (l1.length : Int)) = true := decide_eq_true c8
                  clear c8
                  by_cases c9 : ((((rd_T59 l0 x5_1).f0).toList) == (((rd_T59 l1 x5_1).f0).toList) && ((((rd_T59 l0 x5_1).f1).toList) == (((rd_T59 l1 x5_1).f1).toList))) = true
                  · rw [if_pos c9] at H
                    have c9b0 : ((((rd_T59 l0 x5_1).f0).toList) == (((rd_T59 l1 x5_1).f0).toList) && ((((rd_T59 l0 x5_1).f1).toList) == (((rd_T59 l1 x5_1).f1).toList))) = true := c9
                    (try (have c9b1 : decide ((((rd_T59 l0 x5_1).f0).toList) = (((rd_T59 l1 x5_1).f0).toList) && ((((rd_T59 l0 x5_1).f1).toList) == (((rd_T59 l1 x5_1).f1).toList))) = true := by simpa using c9))
                    (try (have c9b2 : ((((rd_T59 l0 x5_1).f0).toList) == (((rd_T59 l1 x5_1).f0).toList) && ((((rd_T59 l0 x5_1).f1).toList) == (((rd_T59 l1 x5_1).f1).toList))) = true := by simpa using c9))
                    clear c9
                    have H' := Aside0.mk H
                    clear H
                    have p533 : 0 ≤ (x5_1 : Int) := of_decide_eq_true za
                    have q533 : x5_1 < (l0.length : Int) := of_decide_eq_true za
                    obtain ⟨ad533, e533, hx533_0, hx533_1⟩ := at_T59 HR0.out x5_1 p533 q533
                    cases e533
                    replace p533 := eq_true p533
                    replace q533 := eq_true q533
                    have p534 : 0 ≤ (x5_1 : Int) := of_decide_eq_true za
                    have q534 : x5_1 < (l1.length : Int) := of_decide_eq_true za
                    obtain ⟨ad534, e534, hx534_0, hx534_1⟩ := at_T59 HR1.out x5_1 p534 q534
                    cases e534
                    replace p534 := eq_true p534
                    replace q534 := eq_true q534
                    go_wp2
                    repeat (go_quiet (fail); try go_wp2)
                    go_roundg kj2
                    case measure => have := HK1.out; have := HJ2.out; omega
                    case rel => exact ⟨(wrap64 (x5_1 + 1)), zs, H', ⟨by have := HK1.out; have := HJ2.out; omega⟩, by repeat (first | exact Drawn0.refl _ | apply Drawn0.step)⟩
                  · rw [if_neg c9] at H
                    have c9b0 : ((((rd_T59 l0 x5_1).f0).toList) == (((rd_T59 l1 x5_1).f0).toList) && ((((rd_T59 l0 x5_1).f1).toList) == (((rd_T59 l1 x5_1).f1).toList))) = false := by simpa using c9
                    (try (have c9b1 : decide ((((rd_T59 l0 x5_1).f0).toList) = (((rd_T59 l1 x5_1).f0).toList) && ((((rd_T59 l0 x5_1).f1).toList) == (((rd_T59 l1 x5_1).f1).toList))) = false := by simpa using c9))
                    (try (have c9b2 : ((((rd_T59 l0 x5_1).f0).toList) == (((rd_T59 l1 x5_1).f0).toList) && ((((rd_T59 l0 x5_1).f1).toList) == (((rd_T59 l1 x5_1).f1).toList))) = false := by simpa using c9))
                    (try (have c9b3 : ¬ ((((rd_T59 l0 x5_1).f0).toList) = (((rd_T59 l1 x5_1).f0).toList) && ((((rd_T59 l0 x5_1).f1).toList) == (((rd_T59 l1 x5_1).f1).toList))) := by simpa using c9))
                    clear c9
                    by_cases c10 : (Op.bytesLess (((rd_T59 l0 x5_1).f0).toList) (((rd_T59 l1 x5_1).f0).toList)) = true
                    · rw [if_pos c10] at H
                      have c10b0 : (Op.bytesLess (((rd_T59 l0 x5_1).f0).toList) (((rd_T59 l1 x5_1).f0).toList)) = true := c10
                      clear c10
                      obtain rfl := Option.some.inj H
                      have p533 : 0 ≤ (x5_1 : Int) := of_decide_eq_true za
                      have q533 : x5_1 < (l0.length : Int) := of_decide_eq_true za
                      obtain ⟨ad533, e533, hx533_0, hx533_1⟩ := at_T59 HR0.out x5_1 p533 q533
                      cases e533
                      replace p533 := eq_true p533
                      replace q533 := eq_true q533
                      have p534 : 0 ≤ (x5_1 : Int) := of_decide_eq_true za
                      have q534 : x5_1 < (l1.length : Int) := of_decide_eq_true za
                      obtain ⟨ad534, e534, hx534_0, hx534_1⟩ := at_T59 HR1.out x5_1 p534 q534
                      cases e534
                      replace p534 := eq_true p534
                      replace q534 := eq_true q534
                      have p535 : 0 ≤ (x5_1 : Int) := of_decide_eq_true za
                      have q535 : x5_1 < (l0.length : Int) := of_decide_eq_true za
                      obtain ⟨ad535, e535, hx535_0, hx535_1⟩ := at_T59 HR0.out x5_1 p535 q535
                      obtain rfl : ad533 = ad535 := (by injection e535)
                      replace p535 := eq_true p535
                      replace q535 := eq_true q535
                      have p536 : 0 ≤ (x5_1 : Int) := of_decide_eq_true za
                      have q536 : x5_1 < (l1.length : Int) := of_decide_eq_true za
                      obtain ⟨ad536, e536, hx536_0, hx536_1⟩ := at_T59 HR1.out x5_1 p536 q536
                      obtain rfl : ad534 = ad536 := (by injection e536)
                      replace p536 := eq_true p536
                      replace q536 := eq_true q536
                      go_wp2
                      repeat (go_quiet (fail); try go_wp2)
                      go_ret
                      exact ⟨zs, by repeat (first | exact Drawn0.refl _ | apply Drawn0.step)⟩
                    · rw [if_neg c10] at H
                      have c10b0 : (Op.bytesLess (((rd_T59 l0 x5_1).f0).toList) (((rd_T59 l1 x5_1).f0).toList)) = false := by simpa using c10
                      clear c10
                      by_cases c11 : ((rd_T59 l0 x5_1).f0).toList = ((rd_T59 l1 x5_1).f0).toList
                      · rw [if_pos c11] at H
                        have c11b0 : (((rd_T59 l0 x5_1).f0).toList == ((rd_T59 l1 x5_1).f0).toList) = true := beq_iff_eq.mpr c11
                        have c11b1 : (((rd_T59 l0 x5_1).f0).toList != ((rd_T59 l1 x5_1).f0).toList) = false := bne_eq_false_iff_eq.mpr c11
                        have c9z : ((((rd_T59 l0 x5_1).f1).toList) == (((rd_T59 l1 x5_1).f1).toList)) = false := by simpa [c11b0] using c9b0
                        clear c11
                        by_cases c12 : (Op.bytesLess (((rd_T59 l0 x5_1).f1).toList) (((rd_T59 l1 x5_1).f1).toList)) = true
                        · rw [if_pos c12] at H
                          have c12b0 : (Op.bytesLess (((rd_T59 l0 x5_1).f1).toList) (((rd_T59 l1 x5_1).f1).toList)) = true := c12
                          clear c12
                          obtain rfl := Option.some.inj H
                          have p533 : 0 ≤ (x5_1 : Int) := of_decide_eq_true za
                          have q533 : x5_1 < (l0.length : Int) := of_decide_eq_true za
                          obtain ⟨ad533, e533, hx533_0, hx533_1⟩ := at_T59 HR0.out x5_1 p533 q533
                          cases e533
                          replace p533 := eq_true p533
                          replace q533 := eq_true q533
                          have p534 : 0 ≤ (x5_1 : Int) := of_decide_eq_true za
                          have q534 : x5_1 < (l1.length : Int) := of_decide_eq_true za
                          obtain ⟨ad534, e534, hx534_0, hx534_1⟩ := at_T59 HR1.out x5_1 p534 q534
                          cases e534
                          replace p534 := eq_true p534
                          replace q534 := eq_true q534
                          have p535 : 0 ≤ (x5_1 : Int) := of_decide_eq_true za
                          have q535 : x5_1 < (l0.length : Int) := of_decide_eq_true za
                          obtain ⟨ad535, e535, hx535_0, hx535_1⟩ := at_T59 HR0.out x5_1 p535 q535
                          obtain rfl : ad533 = ad535 := (by injection e535)
                          replace p535 := eq_true p535
                          replace q535 := eq_true q535
                          have p536 : 0 ≤ (x5_1 : Int) := of_decide_eq_true za
                          have q536 : x5_1 < (l1.length : Int) := of_decide_eq_true za
                          obtain ⟨ad536, e536, hx536_0, hx536_1⟩ := at_T59 HR1.out x5_1 p536 q536
                          obtain rfl : ad534 = ad536 := (by injection e536)
                          replace p536 := eq_true p536
                          replace q536 := eq_true q536
                          have p537 : 0 ≤ (x5_1 : Int) := of_decide_eq_true za
                          have q537 : x5_1 < (l0.length : Int) := of_decide_eq_true za
                          obtain ⟨ad537, e537, hx537_0, hx537_1⟩ := at_T59 HR0.out x5_1 p537 q537
                          obtain rfl : ad533 = ad537 := (by injection e537)
                          replace p537 := eq_true p537
                          replace q537 := eq_true q537
                          have p538 : 0 ≤ (x5_1 : Int) := of_decide_eq_true za
                          have q538 : x5_1 < (l1.length : Int) := of_decide_eq_true za
                          obtain ⟨ad538, e538, hx538_0, hx538_1⟩ := at_T59 HR1.out x5_1 p538 q538
                          obtain rfl : ad534 = ad538 := (by injection e538)
                          replace p538 := eq_true p538
                          replace q538 := eq_true q538
                          have p539 : 0 ≤ (x5_1 : Int) := of_decide_eq_true za
                          have q539 : x5_1 < (l0.length : Int) := of_decide_eq_true za
                          obtain ⟨ad539, e539, hx539_0, hx539_1⟩ := at_T59 HR0.out x5_1 p539 q539
                          obtain rfl : ad533 = ad539 := (by injection e539)
                          replace p539 := eq_true p539
                          replace q539 := eq_true q539
                          have p540 : 0 ≤ (x5_1 : Int) := of_decide_eq_true za
                          have q540 : x5_1 < (l1.length : Int) := of_decide_eq_true za
                          obtain ⟨ad540, e540, hx540_0, hx540_1⟩ := at_T59 HR1.out x5_1 p540 q540
                          obtain rfl : ad534 = ad540 := (by injection e540)
                          replace p540 := eq_true p540
                          replace q540 := eq_true q540
                          go_wp2
                          repeat (go_quiet (fail); try go_wp2)
                          go_ret
                          exact ⟨zs, by repeat (first | exact Drawn0.refl _ | apply Drawn0.step)⟩
                        · rw [if_neg c12] at H
                          have c12b0 : (Op.bytesLess (((rd_T59 l0 x5_1).f1).toList) (((rd_T59 l1 x5_1).f1).toList)) = false := by simpa using c12
                          clear c12
                          obtain rfl := Option.some.inj H
                          have p533 : 0 ≤ (x5_1 : Int) := of_decide_eq_true za
                          have q533 : x5_1 < (l0.length : Int) := of_decide_eq_true za
                          obtain ⟨ad533, e533, hx533_0, hx533_1⟩ := at_T59 HR0.out x5_1 p533 q533
                          cases e533
                          replace p533 := eq_true p533
                          replace q533 := eq_true q533
                          have p534 : 0 ≤ (x5_1 : Int) := of_decide_eq_true za
                          have q534 : x5_1 < (l1.length : Int) := of_decide_eq_true za
                          obtain ⟨ad534, e534, hx534_0, hx534_1⟩ := at_T59 HR1.out x5_1 p534 q534
                          cases e534
                          replace p534 := eq_true p534
                          replace q534 := eq_true q534
                          have p535 : 0 ≤ (x5_1 : Int) := of_decide_eq_true za
                          have q535 : x5_1 < (l0.length : Int) := of_decide_eq_true za
                          obtain ⟨ad535, e535, hx535_0, hx535_1⟩ := at_T59 HR0.out x5_1 p535 q535
                          obtain rfl : ad533 = ad535 := (by injection e535)
                          replace p535 := eq_true p535
                          replace q535 := eq_true q535
                          have p536 : 0 ≤ (x5_1 : Int) := of_decide_eq_true za
                          have q536 : x5_1 < (l1.length : Int) := of_decide_eq_true za
                          obtain ⟨ad536, e536, hx536_0, hx536_1⟩ := at_T59 HR1.out x5_1 p536 q536
                          obtain rfl : ad534 = ad536 := (by injection e536)
                          replace p536 := eq_true p536
                          replace q536 := eq_true q536
                          have p537 : 0 ≤ (x5_1 : Int) := of_decide_eq_true za
                          have q537 : x5_1 < (l0.length : Int) := of_decide_eq_true za
                          obtain ⟨ad537, e537, hx537_0, hx537_1⟩ := at_T59 HR0.out x5_1 p537 q537
                          obtain rfl : ad533 = ad537 := (by injection e537)
                          replace p537 := eq_true p537
                          replace q537 := eq_true q537
                          have p538 : 0 ≤ (x5_1 : Int) := of_decide_eq_true za
                          have q538 : x5_1 < (l1.length : Int) := of_decide_eq_true za
                          obtain ⟨ad538, e538, hx538_0, hx538_1⟩ := at_T59 HR1.out x5_1 p538 q538
                          obtain rfl : ad534 = ad538 := (by injection e538)
                          replace p538 := eq_true p538
                          replace q538 := eq_true q538
                          have p539 : 0 ≤ (x5_1 : Int) := of_decide_eq_true za
                          have q539 : x5_1 < (l0.length : Int) := of_decide_eq_true za
                          obtain ⟨ad539, e539, hx539_0, hx539_1⟩ := at_T59 HR0.out x5_1 p539 q539
                          obtain rfl : ad533 = ad539 := (by injection e539)
                          replace p539 := eq_true p539
                          replace q539 := eq_true q539
                          have p540 : 0 ≤ (x5_1 : Int) := of_decide_eq_true za
                          have q540 : x5_1 < (l1.length : Int) := of_decide_eq_true za
                          obtain ⟨ad540, e540, hx540_0, hx540_1⟩ := at_T59 HR1.out x5_1 p540 q540
                          obtain rfl : ad534 = ad540 := (by injection e540)
                          replace p540 := eq_true p540
                          replace q540 := eq_true q540
                          go_wp2
                          repeat (go_quiet (fail); try go_wp2)
                          go_ret
                          exact ⟨zs, by repeat (first | exact Drawn0.refl _ | apply Drawn0.step)⟩
                      · rw [if_neg c11] at H
                        have c11b0 : (((rd_T59 l0 x5_1).f0).toList == ((rd_T59 l1 x5_1).f0).toList) = false := beq_eq_false_iff_ne.mpr c11
                        have c11b1 : (((rd_T59 l0 x5_1).f0).toList != ((rd_T59 l1 x5_1).f0).toList) = true := bne_iff_ne.mpr c11
                        obtain rfl := Option.some.inj H
                        have p533 : 0 ≤ (x5_1 : Int) := of_decide_eq_true za
                        have q533 : x5_1 < (l0.length : Int) := of_decide_eq_true za
                        obtain ⟨ad533, e533, hx533_0, hx533_1⟩ := at_T59 HR0.out x5_1 p533 q533
                        cases e533
                        replace p533 := eq_true p533
                        replace q533 := eq_true q533
                        have p534 : 0 ≤ (x5_1 : Int) := of_decide_eq_true za
                        have q534 : x5_1 < (l1.length : Int) := of_decide_eq_true za
                        obtain ⟨ad534, e534, hx534_0, hx534_1⟩ := at_T59 HR1.out x5_1 p534 q534
                        cases e534
                        replace p534 := eq_true p534
                        replace q534 := eq_true q534
                        have p535 : 0 ≤ (x5_1 : Int) := of_decide_eq_true za
                        have q535 : x5_1 < (l0.length : Int) := of_decide_eq_true za
                        obtain ⟨ad535, e535, hx535_0, hx535_1⟩ := at_T59 HR0.out x5_1 p535 q535
                        obtain rfl : ad533 = ad535 := (by injection e535)
                        replace p535 := eq_true p535
                        replace q535 := eq_true q535
                        have p536 : 0 ≤ (x5_1 : Int) := of_decide_eq_true za
                        have q536 : x5_1 < (l1.length : Int) := of_decide_eq_true za
                        obtain ⟨ad536, e536, hx536_0, hx536_1⟩ := at_T59 HR1.out x5_1 p536 q536
                        obtain rfl : ad534 = ad536 := (by injection e536)
                        replace p536 := eq_true p536
                        replace q536 := eq_true q536
                        have p537 : 0 ≤ (x5_1 : Int) := of_decide_eq_true za
                        have q537 : x5_1 < (l0.length : Int) := of_decide_eq_true za
                        obtain ⟨ad537, e537, hx537_0, hx537_1⟩ := at_T59 HR0.out x5_1 p537 q537
                        obtain rfl : ad533 = ad537 := (by injection e537)
                        replace p537 := eq_true p537
                        replace q537 := eq_true q537
                        have p538 : 0 ≤ (x5_1 : Int) := of_decide_eq_true za
                        have q538 : x5_1 < (l1.length : Int) := of_decide_eq_true za
                        obtain ⟨ad538, e538, hx538_0, hx538_1⟩ := at_T59 HR1.out x5_1 p538 q538
                        obtain rfl : ad534 = ad538 := (by injection e538)
                        replace p538 := eq_true p538
                        replace q538 := eq_true q538
                        go_wp2
                        repeat (go_quiet (fail); try go_wp2)
                        go_ret
                        exact ⟨zs, by repeat (first | exact Drawn0.refl _ | apply Drawn0.step)⟩
                · rw [if_neg c8] at H
                  exact absurd H (by simp)
              · rw [if_neg c7] at H
                exact absurd H (by simp)
            · rw [if_neg c6] at H
              exact absurd H (by simp)
          · replace c5 := Bool.eq_false_iff.mpr c5
            subst c5
            have H1 : (if (l0.length : Int) < (l1.length : Int) then (some (-1)) else (if (l0.length : Int) > (l1.length : Int) then (some 1) else (some 0))) = some r := by rw [if_neg (show ¬ (false = true) by decide)] at H; exact H
            clear H
            have H := H1
            clear H1
            by_cases c13 : (l0.length : Int) < (l1.length : Int)
            · rw [if_pos c13] at H
              have c13b0 : decide ((l0.length : Int) < (l1.length : Int)) = true := decide_eq_true c13
              have c13b1 : decide (l0.length < l1.length) = true := decide_eq_true (Int.ofNat_lt.mp c13)
              clear c13
              obtain rfl := Option.some.inj H
              go_wp2
              repeat (go_quiet (fail); try go_wp2)
              go_ret
              exact ⟨zs, by repeat (first | exact Drawn0.refl _ | apply Drawn0.step)⟩
            · rw [if_neg c13] at H
              have c13b0 : decide ((l0.length : Int) < (l1.length : Int)) = false := decide_eq_false c13
              have c13b1 : decide (l0.length < l1.length) = false := decide_eq_false (fun h => c13 (Int.ofNat_lt.mpr h))
              clear c13
              by_cases c14 : (l0.length : Int) > (l1.length : Int)
              · rw [if_pos c14] at H
                have c14b0 : decide ((l1.length : Int) < (l0.length : Int)) = true := decide_eq_true c14
                have c14b1 : decide (l1.length < l0.length) = true := decide_eq_true (Int.ofNat_lt.mp c14)
                clear c14
                obtain rfl := Option.some.inj H
                go_wp2
                repeat (go_quiet (fail); try go_wp2)
                go_ret
                exact ⟨zs, by repeat (first | exact Drawn0.refl _ | apply Drawn0.step)⟩
              · rw [if_neg c14] at H
                have c14b0 : decide ((l1.length : Int) < (l0.length : Int)) = false := decide_eq_false c14
                have c14b1 : decide (l1.length < l0.length) = false := decide_eq_false (fun h => c14 (Int.ofNat_lt.mpr h))
                clear c14
                obtain rfl := Option.some.inj H
                go_wp2
                repeat (go_quiet (fail); try go_wp2)
                go_ret
                exact ⟨zs, by repeat (first | exact Drawn0.refl _ | apply Drawn0.step)⟩

/-! ### abacusref12_Same: function 16 -/
def abacusref12_Same.f (k : Nat) (l0 : List (S59)) (l1 : List (S59)) : Option (Bool) := if (l0.length : Int) = (l1.length : Int) then ((abacusref12_Compare.f k l0 l1).bind fun t541 => (some (t541 == 0))) else (some false)
set_option maxHeartbeats 8000000 in
set_option maxRecDepth 100000 in
theorem abacusref12_Same.calls (k : Nat) (A0 : Option Addr) (c0 : Nat) (l0 : List (S59)) (A1 : Option Addr) (c1 : Nat) (l1 : List (S59)) (r : Bool) (w : World) (hr0 : Kd.C k59 w A0 l0.length l0) (hc0 : l0.length ≤ c0) (hr1 : Kd.C k59 w A1 l1.length l1) (hc1 : l1.length ≤ c1) (h : abacusref12_Same.f k l0 l1 = some r) :
    Calls Tryd.prog 16 #[.slice A0 l0.length c0, .slice A1 l1.length c1] w fun e w' => e = .returned (.bool r) ∧ Drawn0 w w' := by
  have HR0 := Aside0.mk hr0
  have HC0 := Aside0.mk hc0
  clear hr0 hc0
  have HR1 := Aside0.mk hr1
  have HC1 := Aside0.mk hc1
  clear hr1 hc1
  have H : (if (l0.length : Int) = (l1.length : Int) then ((abacusref12_Compare.f k l0 l1).bind fun t541 => (some (t541 == 0))) else (some false)) = some r := h
  clear h
  by_cases c3 : (l0.length : Int) = (l1.length : Int)
  · rw [if_pos c3] at H
    have c3b0 : ((l0.length : Int) == (l1.length : Int)) = true := beq_iff_eq.mpr c3
    have c3b1 : ((l0.length : Int) != (l1.length : Int)) = false := bne_eq_false_iff_eq.mpr c3
    have c3b2 : (l0.length == l1.length) = true := by first | simpa using c3 | (simp at c3 ⊢; omega)
    clear c3
    replace H := Option.bind_eq_some_iff.mp H
    obtain ⟨t541, A40, H⟩ := H
    replace H : (some (t541 == 0)) = some r := H
    have A4 := Aside0.mk A40
    clear A40
    obtain rfl := Option.some.inj H
    go_enter Tryd.func16, Tryd.ntmps16
    go_wp2_with (first | (go_at_call 44; (with_reducible refine (abacusref12_Compare.calls k _ _ l0 _ _ l1 t541 _ ?side1 ?side2 ?side3 ?side4 A4.out).mono ?_); (case side1 => repeat (first | exact HR0.out | (with_reducible refine Kd.C_alloc ?_ _) | (with_reducible refine Kd.C_drewN ?_ _) | (with_reducible refine Kd.C_drew ?_))); (case side2 => exact HC0.out); (case side3 => repeat (first | exact HR1.out | (with_reducible refine Kd.C_alloc ?_ _) | (with_reducible refine Kd.C_drewN ?_ _) | (with_reducible refine Kd.C_drew ?_))); (case side4 => exact HC1.out); rintro e w' ⟨rfl, ⟨nd, rfl⟩⟩))
    go_ret
    exact ⟨zs, by repeat (first | exact Drawn0.refl _ | apply Drawn0.step)⟩
  · rw [if_neg c3] at H
    have c3b0 : ((l0.length : Int) == (l1.length : Int)) = false := beq_eq_false_iff_ne.mpr c3
    have c3b1 : ((l0.length : Int) != (l1.length : Int)) = true := bne_iff_ne.mpr c3
    have c3b2 : (l0.length == l1.length) = false := by first | simpa using c3 | (simp at c3 ⊢; omega)
    obtain rfl := Option.some.inj H
    go_enter Tryd.func16, Tryd.ntmps16
    go_wp2
    go_ret
    exact ⟨zs, by repeat (first | exact Drawn0.refl _ | apply Drawn0.step)⟩

/-! ### labels_Get: function 40 -/
def labels_Get.l0 : Nat → ByteArray → List (S59) → Int → Int → Option (ByteArray × Bool)
  | 0, _, _, _, _ => none
  | k + 1, x1, x8, x9, x10 => if x10 < x9 then (if 0 ≤ x10 then (if x10 < (x8.length : Int) then (if ((rd_T59 x8 x10).f0).toList = x1.toList then (some ((rd_T59 x8 x10).f1, true)) else (labels_Get.l0 k x1 x8 x9 (wrap64 (x10 + 1)))) else (none)) else (none)) else (some ((⟨#[]⟩ : ByteArray), false))
def labels_Get.f (k : Nat) (l0 : List (S59)) (a1 : ByteArray) : Option (ByteArray × Bool) := labels_Get.l0 k a1 l0 (l0.length : Int) 0
theorem labels_Get.mono_l : ∀ k, (∀ y0 y1 y2 y3, LeO (labels_Get.l0 k y0 y1 y2 y3) (labels_Get.l0 (k + 1) y0 y1 y2 y3))
  | 0 => fun _ _ _ _ r h => by simp [labels_Get.l0] at h
  | k + 1 => by
    have ih0 := labels_Get.mono_l k
    · intro y0 y1 y2 y3
      unfold labels_Get.l0
      repeat' first
      | (with_reducible exact ih0 _ _ _ _)
      | (with_reducible exact LeO.refl _)
      | (with_reducible exact LeO.none _)
      | (with_reducible refine LeO.ite ?_ ?_)
      | (with_reducible refine LeO.bind ?_ (fun _ => ?_))
      | exact ih0 _ _ _ _
      | exact LeO.none _
      | refine LeO.ite ?_ ?_
      | refine LeO.bind ?_ (fun _ => ?_)
theorem labels_Get.mono : ∀ a0 a1 k, LeO (labels_Get.f k a0 a1) (labels_Get.f (k + 1) a0 a1) := by
  intro a0 a1 k
  have ih0 := labels_Get.mono_l k
  unfold labels_Get.f
  repeat' first
      | (with_reducible exact ih0 _ _ _ _)
      | (with_reducible exact LeO.refl _)
      | (with_reducible exact LeO.none _)
      | (with_reducible refine LeO.ite ?_ ?_)
      | (with_reducible refine LeO.bind ?_ (fun _ => ?_))
      | exact ih0 _ _ _ _
      | exact LeO.none _
      | refine LeO.ite ?_ ?_
      | refine LeO.bind ?_ (fun _ => ?_)
set_option maxHeartbeats 8000000 in
set_option maxRecDepth 100000 in
theorem labels_Get.calls (k : Nat) (A0 : Option Addr) (c0 : Nat) (l0 : List (S59)) (a1 : ByteArray) (r1 : ByteArray) (r2 : Bool) (w : World) (hr0 : Kd.C k59 w A0 l0.length l0) (hc0 : l0.length ≤ c0) (h : labels_Get.f k l0 a1 = some (r1, r2)) :
    Calls Tryd.prog 40 #[.slice A0 l0.length c0, .string a1] w fun e w' => e = .returned (.tuple #[.string r1, .bool r2]) ∧ Below w.heap.size w w' := by
  have hu59 := Tryd.underlying59
  have HR0 := Aside0.mk hr0
  have HC0 := Aside0.mk hc0
  clear hr0 hc0
  have HB := Aside0.mk (Below.refl w.heap.size w)
  have H : (labels_Get.l0 k a1 l0 (l0.length : Int) 0) = some (r1, r2) := h
  clear h
  have H' := Aside0.mk H
  clear H
  go_enter Tryd.func40, Tryd.ntmps40
  go_wp2
  go_loopg [10] k (fun kq v10 w' => ∃ (x10_1 : Int), v10 = .int .i64 x10_1 ∧ Aside0 (labels_Get.l0 kq a1 l0 (l0.length : Int) x10_1 = some (r1, r2)) ∧ Aside0 (kq ≤ k) ∧ Aside0 (Below w.heap.size w w'))
  case atStart => exact ⟨(0), zs, H', ⟨Nat.le_refl _⟩, ⟨zb HB.out⟩⟩
  case round =>
    clear H'
    try clear p2
    obtain ⟨x10_1, rfl, HA, HK1, HB⟩ := hrel
    cases gk with
    | zero => exact absurd HA.out (by simp [labels_Get.l0])
    | succ k1 =>
      have H := HA.out
      clear HA
      simp only [labels_Get.l0] at H
      by_cases c3 : x10_1 < (l0.length : Int)
      · rw [if_pos c3] at H
        have c3b0 : decide (x10_1 < (l0.length : Int)) = true := decide_eq_true c3
        clear c3
        by_cases c4 : 0 ≤ x10_1
        · rw [if_pos c4] at H
          have c4b0 : decide (0 ≤ x10_1) = true := decide_eq_true c4
          clear c4
          by_cases c5 : x10_1 < (l0.length : Int)
          · rw [if_pos c5] at H
            have c5b0 : decide (x10_1 < (l0.length : Int)) = true := decide_eq_true c5
            clear c5
            by_cases c6 : ((rd_T59 l0 x10_1).f0).toList = a1.toList
            · rw [if_pos c6] at H
              have c6b0 : (((rd_T59 l0 x10_1).f0).toList == a1.toList) = true := beq_iff_eq.mpr c6
              have c6b1 : (((rd_T59 l0 x10_1).f0).toList != a1.toList) = false := bne_eq_false_iff_eq.mpr c6
              clear c6
              simp only [Option.some.injEq, Prod.mk.injEq] at H
              obtain ⟨rfl, rfl⟩ := H
              have p542 : 0 ≤ (x10_1 : Int) := of_decide_eq_true za
              have q542 : x10_1 < (l0.length : Int) := of_decide_eq_true za
              obtain ⟨ad542, e542, hx542_0, hx542_1⟩ := at_T59 HR0.out x10_1 p542 q542
              cases e542
              replace hx542_0 := (HB.out.cell (World.block_lt_of_cell? w _ hx542_0)).trans hx542_0
              replace hx542_1 := (HB.out.cell (World.block_lt_of_cell? w _ hx542_1)).trans hx542_1
              replace p542 := eq_true p542
              replace q542 := eq_true q542
              go_wp2_with (first | ((with_reducible refine gate_dst (N := 7) rfl ?_); refine box_event ?hg (N := 7) ?hd (cs := #[.string (⟨#[]⟩ : ByteArray), .string (⟨#[]⟩ : ByteArray)]) (t := 59) ?hr ?_; (case hd => rfl); (case hg => rfl); (case hr => first | (go_simp; done) | (go_simp; rfl)); intro gb543 hg w7 hbox hb; have n0_ := Aside0.mk (below_step (zb HB.out) hb); have n1_ := Aside0.mk (hbox); have n2_ := Aside0.mk ((by rw [hg]; exact (below_size (zb HB.out)) : w.heap.size ≤ gb543)); have n3_ := Aside0.mk ((by rw [hg]; exact (below_size (zb HB.out)) : w.heap.size ≤ gb543)); clear HB; have HB := n0_; have BK543 := n1_; have GW543 := n2_; have GE543 := n3_; clear n0_ n1_ n2_ n3_; clear hb hbox hg; have hcz8_0 : w7.cell? ⟨gb543, 0, none⟩ = some (.string (⟨#[]⟩ : ByteArray)) := (blk_cell BK543.out 0).trans rfl; have hcz8_1 : w7.cell? ⟨gb543, 1, none⟩ = some (.string (⟨#[]⟩ : ByteArray)) := (blk_cell BK543.out 1).trans rfl; have hfz8_0 := blk_frozen BK543.out 0; have hfz8_1 := blk_frozen BK543.out 1))
              go_ret2
              exact ⟨ze, zg HB.out GE543.out⟩
            · rw [if_neg c6] at H
              have c6b0 : (((rd_T59 l0 x10_1).f0).toList == a1.toList) = false := beq_eq_false_iff_ne.mpr c6
              have c6b1 : (((rd_T59 l0 x10_1).f0).toList != a1.toList) = true := bne_iff_ne.mpr c6
              have H' := Aside0.mk H
              clear H
              have p542 : 0 ≤ (x10_1 : Int) := of_decide_eq_true za
              have q542 : x10_1 < (l0.length : Int) := of_decide_eq_true za
              obtain ⟨ad542, e542, hx542_0, hx542_1⟩ := at_T59 HR0.out x10_1 p542 q542
              cases e542
              replace hx542_0 := (HB.out.cell (World.block_lt_of_cell? w _ hx542_0)).trans hx542_0
              replace hx542_1 := (HB.out.cell (World.block_lt_of_cell? w _ hx542_1)).trans hx542_1
              replace p542 := eq_true p542
              replace q542 := eq_true q542
              go_wp2_with (first | ((with_reducible refine gate_dst (N := 7) rfl ?_); refine box_event ?hg (N := 7) ?hd (cs := #[.string (⟨#[]⟩ : ByteArray), .string (⟨#[]⟩ : ByteArray)]) (t := 59) ?hr ?_; (case hd => rfl); (case hg => rfl); (case hr => first | (go_simp; done) | (go_simp; rfl)); intro gb543 hg w9 hbox hb; have n0_ := Aside0.mk (below_step (zb HB.out) hb); have n1_ := Aside0.mk (hbox); have n2_ := Aside0.mk ((by rw [hg]; exact (below_size (zb HB.out)) : w.heap.size ≤ gb543)); have n3_ := Aside0.mk ((by rw [hg]; exact (below_size (zb HB.out)) : w.heap.size ≤ gb543)); clear HB; have HB := n0_; have BK543 := n1_; have GW543 := n2_; have GE543 := n3_; clear n0_ n1_ n2_ n3_; clear hb hbox hg; have hcz10_0 : w9.cell? ⟨gb543, 0, none⟩ = some (.string (⟨#[]⟩ : ByteArray)) := (blk_cell BK543.out 0).trans rfl; have hcz10_1 : w9.cell? ⟨gb543, 1, none⟩ = some (.string (⟨#[]⟩ : ByteArray)) := (blk_cell BK543.out 1).trans rfl; have hfz10_0 := blk_frozen BK543.out 0; have hfz10_1 := blk_frozen BK543.out 1))
              go_roundg k1
              case measure => have := HK1.out; omega
              case rel => exact ⟨(wrap64 (x10_1 + 1)), zs, H', ⟨by have := HK1.out; omega⟩, ⟨zg HB.out GE543.out⟩⟩
          · rw [if_neg c5] at H
            exact absurd H (by simp)
        · rw [if_neg c4] at H
          exact absurd H (by simp)
      · rw [if_neg c3] at H
        have c3b0 : decide (x10_1 < (l0.length : Int)) = false := decide_eq_false c3
        clear c3
        simp only [Option.some.injEq, Prod.mk.injEq] at H
        obtain ⟨rfl, rfl⟩ := H
        go_wp2
        go_ret2
        exact ⟨ze, zb HB.out⟩

/-! ### abacusref12_Get: function 41 -/
def abacusref12_Get.l0 : Nat → List (S59) → ByteArray → Int → Option (ByteArray × Bool)
  | 0, _, _, _ => none
  | k + 1, x0, x1, x6 => if x6 < (x0.length : Int) then (if 0 ≤ x6 then (if ((rd_T59 x0 x6).f0).toList = x1.toList then (some ((rd_T59 x0 x6).f1, true)) else (abacusref12_Get.l0 k x0 x1 (wrap64 (x6 + 1)))) else (none)) else (some ((⟨#[]⟩ : ByteArray), false))
def abacusref12_Get.f (k : Nat) (l0 : List (S59)) (a1 : ByteArray) : Option (ByteArray × Bool) := abacusref12_Get.l0 k l0 a1 0
set_option maxHeartbeats 8000000 in
set_option maxRecDepth 100000 in
theorem abacusref12_Get.calls (k : Nat) (A0 : Option Addr) (c0 : Nat) (l0 : List (S59)) (a1 : ByteArray) (r1 : ByteArray) (r2 : Bool) (w : World) (hr0 : Kd.C k59 w A0 l0.length l0) (hc0 : l0.length ≤ c0) (h : abacusref12_Get.f k l0 a1 = some (r1, r2)) :
    Calls Tryd.prog 41 #[.slice A0 l0.length c0, .string a1] w fun e w' => e = .returned (.tuple #[.string r1, .bool r2]) ∧ Drawn0 w w' := by
  have HR0 := Aside0.mk hr0
  have HC0 := Aside0.mk hc0
  clear hr0 hc0
  have H : (abacusref12_Get.l0 k l0 a1 0) = some (r1, r2) := h
  clear h
  have H' := Aside0.mk H
  clear H
  go_enter Tryd.func41, Tryd.ntmps41
  go_wp2
  go_loopg [6] k (fun kq v6 w' => ∃ (x6_1 : Int), v6 = .int .i64 x6_1 ∧ Aside0 (abacusref12_Get.l0 kq l0 a1 x6_1 = some (r1, r2)) ∧ Aside0 (kq ≤ k) ∧ Drawn0 w w')
  case atStart => exact ⟨(0), zs, H', ⟨Nat.le_refl _⟩, by repeat (first | exact Drawn0.refl _ | apply Drawn0.step)⟩
  case round =>
    clear H'
    try clear p2
    obtain ⟨x6_1, rfl, HA, HK1, ⟨m1, rfl⟩⟩ := hrel
    cases gk with
    | zero => exact absurd HA.out (by simp [abacusref12_Get.l0])
    | succ k1 =>
      have H := HA.out
      clear HA
      simp only [abacusref12_Get.l0] at H
      by_cases c3 : x6_1 < (l0.length : Int)
      · rw [if_pos c3] at H
        have c3b0 : decide (x6_1 < (l0.length : Int)) = true := decide_eq_true c3
        clear c3
        by_cases c4 : 0 ≤ x6_1
        · rw [if_pos c4] at H
          have c4b0 : decide (0 ≤ x6_1) = true := decide_eq_true c4
          clear c4
          by_cases c5 : ((rd_T59 l0 x6_1).f0).toList = a1.toList
          · rw [if_pos c5] at H
            have c5b0 : (((rd_T59 l0 x6_1).f0).toList == a1.toList) = true := beq_iff_eq.mpr c5
            have c5b1 : (((rd_T59 l0 x6_1).f0).toList != a1.toList) = false := bne_eq_false_iff_eq.mpr c5
            clear c5
            simp only [Option.some.injEq, Prod.mk.injEq] at H
            obtain ⟨rfl, rfl⟩ := H
            have p695 : 0 ≤ (x6_1 : Int) := of_decide_eq_true za
            have q695 : x6_1 < (l0.length : Int) := of_decide_eq_true za
            obtain ⟨ad695, e695, hx695_0, hx695_1⟩ := at_T59 HR0.out x6_1 p695 q695
            cases e695
            replace p695 := eq_true p695
            replace q695 := eq_true q695
            have p696 : 0 ≤ (x6_1 : Int) := of_decide_eq_true za
            have q696 : x6_1 < (l0.length : Int) := of_decide_eq_true za
            obtain ⟨ad696, e696, hx696_0, hx696_1⟩ := at_T59 HR0.out x6_1 p696 q696
            obtain rfl : ad695 = ad696 := (by injection e696)
            replace p696 := eq_true p696
            replace q696 := eq_true q696
            go_wp2
            go_ret2
            exact ⟨zs, by repeat (first | exact Drawn0.refl _ | apply Drawn0.step)⟩
          · rw [if_neg c5] at H
            have c5b0 : (((rd_T59 l0 x6_1).f0).toList == a1.toList) = false := beq_eq_false_iff_ne.mpr c5
            have c5b1 : (((rd_T59 l0 x6_1).f0).toList != a1.toList) = true := bne_iff_ne.mpr c5
            have H' := Aside0.mk H
            clear H
            have p695 : 0 ≤ (x6_1 : Int) := of_decide_eq_true za
            have q695 : x6_1 < (l0.length : Int) := of_decide_eq_true za
            obtain ⟨ad695, e695, hx695_0, hx695_1⟩ := at_T59 HR0.out x6_1 p695 q695
            cases e695
            replace p695 := eq_true p695
            replace q695 := eq_true q695
            go_wp2
            go_roundg k1
            case measure => have := HK1.out; omega
            case rel => exact ⟨(wrap64 (x6_1 + 1)), zs, H', ⟨by have := HK1.out; omega⟩, by repeat (first | exact Drawn0.refl _ | apply Drawn0.step)⟩
        · rw [if_neg c4] at H
          exact absurd H (by simp)
      · rw [if_neg c3] at H
        have c3b0 : decide (x6_1 < (l0.length : Int)) = false := decide_eq_false c3
        clear c3
        simp only [Option.some.injEq, Prod.mk.injEq] at H
        obtain ⟨rfl, rfl⟩ := H
        go_wp2
        go_ret2
        exact ⟨zs, by repeat (first | exact Drawn0.refl _ | apply Drawn0.step)⟩

/-! ### abacusref12_Copy: function 29 -/
def abacusref12_Copy.l0 : Nat → List (S59) → List (S59) → Int → Option ((List (S59)))
  | 0, _, _, _ => none
  | k + 1, x0, x3, x4 => if x4 < (x0.length : Int) then (if 0 ≤ x4 then (if x3.length < 4398046511104 then (abacusref12_Copy.l0 k x0 (x3 ++ [(⟨(rd_T59 x0 x4).f0, (rd_T59 x0 x4).f1⟩ : S59)]) (wrap64 (x4 + 1))) else (none)) else (none)) else (some x3)
def abacusref12_Copy.f (k : Nat) (l0 : List (S59)) : Option ((List (S59))) := abacusref12_Copy.l0 k l0 ([] : List (S59)) 0
set_option maxHeartbeats 8000000 in
set_option maxRecDepth 100000 in
theorem abacusref12_Copy.calls (k : Nat) (A0 : Option Addr) (c0 : Nat) (l0 : List (S59)) (r : List (S59)) (w : World) (hr0 : Kd.C k59 w A0 l0.length l0) (hc0 : l0.length ≤ c0) (h : abacusref12_Copy.f k l0 = some r) :
    Calls Tryd.prog 29 #[.slice A0 l0.length c0] w fun e w' => ∃ v0_ : Value, e = .returned (v0_) ∧ Kd.R k59 59 w' w.heap.size (fun _ => True) v0_ r ∧ Below w.heap.size w w' := by
  have hu59 := Tryd.underlying59
  have HR0 := Aside0.mk hr0
  have HC0 := Aside0.mk hc0
  clear hr0 hc0
  have HB := Aside0.mk (Below.refl w.heap.size w)
  have H : (abacusref12_Copy.l0 k l0 ([] : List (S59)) 0) = some r := h
  clear h
  have H' := Aside0.mk H
  clear H
  go_enter Tryd.func29, Tryd.ntmps29
  go_wp2
  go_loopg [3, 4] k (fun kq v3 v4 w' => ∃ (x3_1 : List (S59)) (x4_1 : Int), v4 = .int .i64 x4_1 ∧ Aside0 (abacusref12_Copy.l0 kq l0 x3_1 x4_1 = some r) ∧ Aside0 (kq ≤ k) ∧ Aside0 (Kd.R k59 59 w' w.heap.size (fun _ => True) v3 x3_1) ∧ Aside0 (Below w.heap.size w w'))
  case atStart => exact ⟨(([] : List (S59))), (0), zs, H', ⟨Nat.le_refl _⟩, ⟨by first | exact Kd.R_nil _ _ _ _ _ | exact Kd.N_nil _ _ _ _ _ | exact Kd.V_nil _ _ _ _ _ | exact Kd.Q_nil _ _ _ _ _ | exact Kd.S_nil _ _ _ _ _⟩, ⟨zb HB.out⟩⟩
  case round =>
    clear H'
    obtain ⟨x3_1, x4_1, rfl, HA, HK1, HO_3, HB⟩ := hrel
    cases gk with
    | zero => exact absurd HA.out (by simp [abacusref12_Copy.l0])
    | succ k1 =>
      have H := HA.out
      clear HA
      simp only [abacusref12_Copy.l0] at H
      by_cases c2 : x4_1 < (l0.length : Int)
      · rw [if_pos c2] at H
        have c2b0 : decide (x4_1 < (l0.length : Int)) = true := decide_eq_true c2
        clear c2
        by_cases c3 : 0 ≤ x4_1
        · rw [if_pos c3] at H
          have c3b0 : decide (0 ≤ x4_1) = true := decide_eq_true c3
          clear c3
          by_cases c4 : x3_1.length < 4398046511104
          · rw [if_pos c4] at H
            have LMc4 := Aside0.mk c4
            clear c4
            obtain ⟨y807, hy807⟩ : ∃ y_ : List (S59), y_ = (x3_1 ++ [(⟨(rd_T59 l0 x4_1).f0, (rd_T59 l0 x4_1).f1⟩ : S59)]) := ⟨_, rfl⟩
            replace H : (abacusref12_Copy.l0 k1 l0 y807 (wrap64 (x4_1 + 1))) = some r := by first | (rw [hy807]; with_reducible exact H) | (have H2_ := (Option.bind_some _ _).symm.trans H; rw [hy807]; with_reducible exact H2_) | (have H2_ := (Option.bind_some _ _).symm.trans H; with_reducible exact H2_) | with_reducible exact H | (rw [hy807]; exact H) | exact H
            have Ny807 := Aside0.mk hy807
            clear hy807
            have H' := Aside0.mk H
            clear H
            have p806 : 0 ≤ (x4_1 : Int) := of_decide_eq_true za
            have q806 : x4_1 < (l0.length : Int) := of_decide_eq_true za
            obtain ⟨ad806, e806, hx806_0, hx806_1⟩ := at_T59 HR0.out x4_1 p806 q806
            cases e806
            replace hx806_0 := (HB.out.cell (World.block_lt_of_cell? w _ hx806_0)).trans hx806_0
            replace hx806_1 := (HB.out.cell (World.block_lt_of_cell? w _ hx806_1)).trans hx806_1
            replace p806 := eq_true p806
            replace q806 := eq_true q806
            go_wp2_with (first | ((with_reducible refine gate_builtin (b := .append) (xs := #[.tmp 11, .tmp 16]) rfl ?_); at_builtin; refine Kd.R_append k59 (w0 := w) w.heap.size rfl (.tmp 11) (.tmp 16) 22 59 (.agg #[(.string ⟨#[]⟩), (.string ⟨#[]⟩)]) 32 rfl Tryd.underlying22 info59 rfl (by decide) (by omega) u3 x3_1 (⟨(rd_T59 l0 x4_1).f0, (rd_T59 l0 x4_1).f1⟩ : S59) [.string ((rd_T59 l0 x4_1).f0), .string ((rd_T59 l0 x4_1).f1)] (fun _ => True) (fun _ => False) rfl rfl ?aP (fun _ hk => hk.elim) ?aF ?aO ?aB ?aS ?aL ?_; (case aP => exact k59_mkM _ _ _ (⟨(rd_T59 l0 x4_1).f0, (rd_T59 l0 x4_1).f1⟩ : S59)); (case aB => exact (zb HB.out)); (case aF => exact (fun _ _ => trivial)); (case aO => exact (zr HO_3.out)); (case aS => exact (below_size (zb HB.out))); (case aL => have := LMc4.out; omega); intro v808 w5 ho hb hg hat; rw [← Ny807.out] at ho; have n0_ := Aside0.mk (hb); have n1_ := Aside0.mk (ho); clear HB; clear HO_3; have HB := n0_; have HO809 := n1_; clear n0_ n1_; clear ho hb hg hat))
            go_roundg k1
            case measure => have := HK1.out; omega
            case rel => exact ⟨(y807), (wrap64 (x4_1 + 1)), zs, H', ⟨by have := HK1.out; omega⟩, ⟨zr HO809.out⟩, ⟨zb HB.out⟩⟩
          · rw [if_neg c4] at H
            exact absurd H (by simp)
        · rw [if_neg c3] at H
          exact absurd H (by simp)
      · rw [if_neg c2] at H
        have c2b0 : decide (x4_1 < (l0.length : Int)) = false := decide_eq_false c2
        clear c2
        obtain rfl := Option.some.inj H
        go_wp2
        go_ret
        exact ⟨_, ze, zr HO_3.out, zb HB.out⟩

/-! ### abacusref12_Make: function 35 -/
mutual
def abacusref12_Make.l0 : Nat → List (S59) → Int → Option ((List (S59)) × Int × Int)
  | 0, _, _ => none
  | k + 1, x0, x5 => if x5 < (x0.length : Int) then (if 0 ≤ x5 then ((abacusref12_Name.f k ((rd_T59 x0 x5).f0)).bind fun t811 => ((abacusref12_Value.f k ((rd_T59 x0 x5).f1)).bind fun t813 => (if t811 = true then (if t813 ≥ 0 then (some (([] : List (S59)), 120, x5)) else (abacusref12_Make.l0 k x0 (wrap64 (x5 + 1)))) else (some (([] : List (S59)), 120, x5))))) else (none)) else (abacusref12_Make.l1 k x0 0)
def abacusref12_Make.l1 : Nat → List (S59) → Int → Option ((List (S59)) × Int × Int)
  | 0, _, _ => none
  | k + 1, x0, x8 => if x8 < (x0.length : Int) then (if 0 ≤ x8 then (if x8 ≤ (x0.length : Int) then ((abacusref12_Get.f k (x0.take (x8 : Int).toNat) ((rd_T59 x0 x8).f0)).bind fun bt819 => (if bt819.2 = true then (some (([] : List (S59)), 121, x8)) else (abacusref12_Make.l1 k x0 (wrap64 (x8 + 1))))) else (none)) else (none)) else (if (x0.length : Int) > 32 then (some (([] : List (S59)), 3, 0)) else (abacusref12_Make.l2 k x0 ([] : List (S59)) 0))
def abacusref12_Make.l2 : Nat → List (S59) → List (S59) → Int → Option ((List (S59)) × Int × Int)
  | 0, _, _, _ => none
  | k + 1, x0, x11, x12 => if x12 < (x0.length : Int) then (if 0 ≤ x12 then ((abacusref12_put.f k x11 ((rd_T59 x0 x12).f0) ((rd_T59 x0 x12).f1)).bind fun t822 => (abacusref12_Make.l2 k x0 t822 (wrap64 (x12 + 1)))) else (none)) else (some (x11, 0, 0))
end
def abacusref12_Make.f (k : Nat) (l0 : List (S59)) : Option ((List (S59)) × Int × Int) := abacusref12_Make.l0 k l0 0
set_option maxHeartbeats 8000000 in
set_option maxRecDepth 100000 in
theorem abacusref12_Make.calls (k : Nat) (A0 : Option Addr) (c0 : Nat) (l0 : List (S59)) (r1 : List (S59)) (r2 : Int) (r3 : Int) (w : World) (hr0 : Kd.C k59 w A0 l0.length l0) (hc0 : l0.length ≤ c0) (h : abacusref12_Make.f k l0 = some (r1, r2, r3)) :
    Calls Tryd.prog 35 #[.slice A0 l0.length c0] w fun e w' => ∃ v0_ : Value, e = .returned (.tuple #[v0_, .int .i64 r2, .int .i64 r3]) ∧ Kd.R k59 59 w' w.heap.size (fun _ => True) v0_ r1 ∧ Below w.heap.size w w' := by
  have hu59 := Tryd.underlying59
  have HR0 := Aside0.mk hr0
  have HC0 := Aside0.mk hc0
  clear hr0 hc0
  have HB := Aside0.mk (Below.refl w.heap.size w)
  have H : (abacusref12_Make.l0 k l0 0) = some (r1, r2, r3) := h
  clear h
  have H' := Aside0.mk H
  clear H
  go_enter Tryd.func35, Tryd.ntmps35
  go_wp2
  repeat (go_quiet (fail); try go_wp2)
  go_loopg [5] k (fun kq v5 w' => ∃ (x5_1 : Int), v5 = .int .i64 x5_1 ∧ Aside0 (abacusref12_Make.l0 kq l0 x5_1 = some (r1, r2, r3)) ∧ Aside0 (kq ≤ k) ∧ Aside0 (Below w.heap.size w w'))
  case atStart => exact ⟨(0), zs, H', ⟨Nat.le_refl _⟩, ⟨zb HB.out⟩⟩
  case round =>
    clear H'
    obtain ⟨x5_1, rfl, HA, HK1, HB⟩ := hrel
    cases gk with
    | zero => exact absurd HA.out (by simp [abacusref12_Make.l0])
    | succ k1 =>
      have H := HA.out
      clear HA
      simp only [abacusref12_Make.l0] at H
      by_cases c2 : x5_1 < (l0.length : Int)
      · rw [if_pos c2] at H
        have c2b0 : decide (x5_1 < (l0.length : Int)) = true := decide_eq_true c2
        clear c2
        by_cases c3 : 0 ≤ x5_1
        · rw [if_pos c3] at H
          have c3b0 : decide (0 ≤ x5_1) = true := decide_eq_true c3
          clear c3
          replace H := Option.bind_eq_some_iff.mp H
          obtain ⟨t811, A40, H⟩ := H
          replace H : ((abacusref12_Value.f k1 ((rd_T59 l0 x5_1).f1)).bind fun t813 => (if t811 = true then (if t813 ≥ 0 then (some (([] : List (S59)), 120, x5_1)) else (abacusref12_Make.l0 k1 l0 (wrap64 (x5_1 + 1)))) else (some (([] : List (S59)), 120, x5_1)))) = some (r1, r2, r3) := H
          have A4 := Aside0.mk A40
          clear A40
          replace H := Option.bind_eq_some_iff.mp H
          obtain ⟨t813, A50, H⟩ := H
          replace H : (if t811 = true then (if t813 ≥ 0 then (some (([] : List (S59)), 120, x5_1)) else (abacusref12_Make.l0 k1 l0 (wrap64 (x5_1 + 1)))) else (some (([] : List (S59)), 120, x5_1))) = some (r1, r2, r3) := H
          have A5 := Aside0.mk A50
          clear A50
          by_cases c6 : t811 = true
          · subst c6
            have H1 : (if t813 ≥ 0 then (some (([] : List (S59)), 120, x5_1)) else (abacusref12_Make.l0 k1 l0 (wrap64 (x5_1 + 1)))) = some (r1, r2, r3) := by rw [if_pos rfl] at H; exact H
            clear H
            have H := H1
            clear H1
            by_cases c7 : t813 ≥ 0
            · rw [if_pos c7] at H
              have c7b0 : decide (0 ≤ t813) = true := decide_eq_true c7
              clear c7
              simp only [Option.some.injEq, Prod.mk.injEq] at H
              obtain ⟨rfl, rfl, rfl⟩ := H
              have p810 : 0 ≤ (x5_1 : Int) := of_decide_eq_true za
              have q810 : x5_1 < (l0.length : Int) := of_decide_eq_true za
              obtain ⟨ad810, e810, hx810_0, hx810_1⟩ := at_T59 HR0.out x5_1 p810 q810
              cases e810
              replace hx810_0 := (HB.out.cell (World.block_lt_of_cell? w _ hx810_0)).trans hx810_0
              replace hx810_1 := (HB.out.cell (World.block_lt_of_cell? w _ hx810_1)).trans hx810_1
              replace p810 := eq_true p810
              replace q810 := eq_true q810
              go_wp2_with (first | (go_at_call 31; (with_reducible refine (abacusref12_Name.calls k1 ((rd_T59 l0 x5_1).f0) true _ A4.out).mono ?_); rintro e w' ⟨rfl, ⟨nd, rfl⟩⟩; (try first | exact ⟨rfl, _, World.drewN_drewN _ _ _⟩ | exact ⟨rfl, _, Eq.trans (World.drewN_drewN _ _ _) (congrArg (World.drewN _) (Nat.add_assoc _ _ _))⟩); have p812 : 0 ≤ (x5_1 : Int) := of_decide_eq_true za; have q812 : x5_1 < (l0.length : Int) := of_decide_eq_true za; obtain ⟨ad812, e812, hx812_0, hx812_1⟩ := at_T59 HR0.out x5_1 p812 q812; obtain rfl : ad810 = ad812 := (by injection e812); replace hx812_0 := (HB.out.cell (World.block_lt_of_cell? w _ hx812_0)).trans hx812_0; replace hx812_1 := (HB.out.cell (World.block_lt_of_cell? w _ hx812_1)).trans hx812_1; replace p812 := eq_true p812; replace q812 := eq_true q812) | (go_at_call 32; (with_reducible refine (abacusref12_Value.calls k1 ((rd_T59 l0 x5_1).f1) t813 _ A5.out).mono ?_); rintro e w' ⟨rfl, ⟨nd, rfl⟩⟩; (try first | exact ⟨rfl, _, World.drewN_drewN _ _ _⟩ | exact ⟨rfl, _, Eq.trans (World.drewN_drewN _ _ _) (congrArg (World.drewN _) (Nat.add_assoc _ _ _))⟩)))
              repeat (go_quiet (first | (go_at_call 31; (with_reducible refine (abacusref12_Name.calls k1 ((rd_T59 l0 x5_1).f0) true _ A4.out).mono ?_); rintro e w' ⟨rfl, ⟨nd, rfl⟩⟩; (try first | exact ⟨rfl, _, World.drewN_drewN _ _ _⟩ | exact ⟨rfl, _, Eq.trans (World.drewN_drewN _ _ _) (congrArg (World.drewN _) (Nat.add_assoc _ _ _))⟩); have p812 : 0 ≤ (x5_1 : Int) := of_decide_eq_true za; have q812 : x5_1 < (l0.length : Int) := of_decide_eq_true za; obtain ⟨ad812, e812, hx812_0, hx812_1⟩ := at_T59 HR0.out x5_1 p812 q812; obtain rfl : ad810 = ad812 := (by injection e812); replace hx812_0 := (HB.out.cell (World.block_lt_of_cell? w _ hx812_0)).trans hx812_0; replace hx812_1 := (HB.out.cell (World.block_lt_of_cell? w _ hx812_1)).trans hx812_1; replace p812 := eq_true p812; replace q812 := eq_true q812) | (go_at_call 32; (with_reducible refine (abacusref12_Value.calls k1 ((rd_T59 l0 x5_1).f1) t813 _ A5.out).mono ?_); rintro e w' ⟨rfl, ⟨nd, rfl⟩⟩; (try first | exact ⟨rfl, _, World.drewN_drewN _ _ _⟩ | exact ⟨rfl, _, Eq.trans (World.drewN_drewN _ _ _) (congrArg (World.drewN _) (Nat.add_assoc _ _ _))⟩))); try go_wp2_with (first | (go_at_call 31; (with_reducible refine (abacusref12_Name.calls k1 ((rd_T59 l0 x5_1).f0) true _ A4.out).mono ?_); rintro e w' ⟨rfl, ⟨nd, rfl⟩⟩; (try first | exact ⟨rfl, _, World.drewN_drewN _ _ _⟩ | exact ⟨rfl, _, Eq.trans (World.drewN_drewN _ _ _) (congrArg (World.drewN _) (Nat.add_assoc _ _ _))⟩); have p812 : 0 ≤ (x5_1 : Int) := of_decide_eq_true za; have q812 : x5_1 < (l0.length : Int) := of_decide_eq_true za; obtain ⟨ad812, e812, hx812_0, hx812_1⟩ := at_T59 HR0.out x5_1 p812 q812; obtain rfl : ad810 = ad812 := (by injection e812); replace hx812_0 := (HB.out.cell (World.block_lt_of_cell? w _ hx812_0)).trans hx812_0; replace hx812_1 := (HB.out.cell (World.block_lt_of_cell? w _ hx812_1)).trans hx812_1; replace p812 := eq_true p812; replace q812 := eq_true q812) | (go_at_call 32; (with_reducible refine (abacusref12_Value.calls k1 ((rd_T59 l0 x5_1).f1) t813 _ A5.out).mono ?_); rintro e w' ⟨rfl, ⟨nd, rfl⟩⟩; (try first | exact ⟨rfl, _, World.drewN_drewN _ _ _⟩ | exact ⟨rfl, _, Eq.trans (World.drewN_drewN _ _ _) (congrArg (World.drewN _) (Nat.add_assoc _ _ _))⟩))))
              go_ret3
              exact ⟨_, ze, by first | exact Kd.R_nil _ _ _ _ _ | exact Kd.N_nil _ _ _ _ _ | exact Kd.V_nil _ _ _ _ _ | exact Kd.Q_nil _ _ _ _ _ | exact Kd.S_nil _ _ _ _ _, zb HB.out⟩
            · rw [if_neg c7] at H
              have c7b0 : decide (0 ≤ t813) = false := decide_eq_false c7
              clear c7
              have H' := Aside0.mk H
              clear H
              have p810 : 0 ≤ (x5_1 : Int) := of_decide_eq_true za
              have q810 : x5_1 < (l0.length : Int) := of_decide_eq_true za
              obtain ⟨ad810, e810, hx810_0, hx810_1⟩ := at_T59 HR0.out x5_1 p810 q810
              cases e810
              replace hx810_0 := (HB.out.cell (World.block_lt_of_cell? w _ hx810_0)).trans hx810_0
              replace hx810_1 := (HB.out.cell (World.block_lt_of_cell? w _ hx810_1)).trans hx810_1
              replace p810 := eq_true p810
              replace q810 := eq_true q810
              go_wp2_with (first | (go_at_call 31; (with_reducible refine (abacusref12_Name.calls k1 ((rd_T59 l0 x5_1).f0) true _ A4.out).mono ?_); rintro e w' ⟨rfl, ⟨nd, rfl⟩⟩; (try first | exact ⟨rfl, _, World.drewN_drewN _ _ _⟩ | exact ⟨rfl, _, Eq.trans (World.drewN_drewN _ _ _) (congrArg (World.drewN _) (Nat.add_assoc _ _ _))⟩); have p812 : 0 ≤ (x5_1 : Int) := of_decide_eq_true za; have q812 : x5_1 < (l0.length : Int) := of_decide_eq_true za; obtain ⟨ad812, e812, hx812_0, hx812_1⟩ := at_T59 HR0.out x5_1 p812 q812; obtain rfl : ad810 = ad812 := (by injection e812); replace hx812_0 := (HB.out.cell (World.block_lt_of_cell? w _ hx812_0)).trans hx812_0; replace hx812_1 := (HB.out.cell (World.block_lt_of_cell? w _ hx812_1)).trans hx812_1; replace p812 := eq_true p812; replace q812 := eq_true q812) | (go_at_call 32; (with_reducible refine (abacusref12_Value.calls k1 ((rd_T59 l0 x5_1).f1) t813 _ A5.out).mono ?_); rintro e w' ⟨rfl, ⟨nd, rfl⟩⟩; (try first | exact ⟨rfl, _, World.drewN_drewN _ _ _⟩ | exact ⟨rfl, _, Eq.trans (World.drewN_drewN _ _ _) (congrArg (World.drewN _) (Nat.add_assoc _ _ _))⟩)))
              repeat (go_quiet (first | (go_at_call 31; (with_reducible refine (abacusref12_Name.calls k1 ((rd_T59 l0 x5_1).f0) true _ A4.out).mono ?_); rintro e w' ⟨rfl, ⟨nd, rfl⟩⟩; (try first | exact ⟨rfl, _, World.drewN_drewN _ _ _⟩ | exact ⟨rfl, _, Eq.trans (World.drewN_drewN _ _ _) (congrArg (World.drewN _) (Nat.add_assoc _ _ _))⟩); have p812 : 0 ≤ (x5_1 : Int) := of_decide_eq_true za; have q812 : x5_1 < (l0.length : Int) := of_decide_eq_true za; obtain ⟨ad812, e812, hx812_0, hx812_1⟩ := at_T59 HR0.out x5_1 p812 q812; obtain rfl : ad810 = ad812 := (by injection e812); replace hx812_0 := (HB.out.cell (World.block_lt_of_cell? w _ hx812_0)).trans hx812_0; replace hx812_1 := (HB.out.cell (World.block_lt_of_cell? w _ hx812_1)).trans hx812_1; replace p812 := eq_true p812; replace q812 := eq_true q812) | (go_at_call 32; (with_reducible refine (abacusref12_Value.calls k1 ((rd_T59 l0 x5_1).f1) t813 _ A5.out).mono ?_); rintro e w' ⟨rfl, ⟨nd, rfl⟩⟩; (try first | exact ⟨rfl, _, World.drewN_drewN _ _ _⟩ | exact ⟨rfl, _, Eq.trans (World.drewN_drewN _ _ _) (congrArg (World.drewN _) (Nat.add_assoc _ _ _))⟩))); try go_wp2_with (first | (go_at_call 31; (with_reducible refine (abacusref12_Name.calls k1 ((rd_T59 l0 x5_1).f0) true _ A4.out).mono ?_); rintro e w' ⟨rfl, ⟨nd, rfl⟩⟩; (try first | exact ⟨rfl, _, World.drewN_drewN _ _ _⟩ | exact ⟨rfl, _, Eq.trans (World.drewN_drewN _ _ _) (congrArg (World.drewN _) (Nat.add_assoc _ _ _))⟩); have p812 : 0 ≤ (x5_1 : Int) := of_decide_eq_true za; have q812 : x5_1 < (l0.length : Int) := of_decide_eq_true za; obtain ⟨ad812, e812, hx812_0, hx812_1⟩ := at_T59 HR0.out x5_1 p812 q812; obtain rfl : ad810 = ad812 := (by injection e812); replace hx812_0 := (HB.out.cell (World.block_lt_of_cell? w _ hx812_0)).trans hx812_0; replace hx812_1 := (HB.out.cell (World.block_lt_of_cell? w _ hx812_1)).trans hx812_1; replace p812 := eq_true p812; replace q812 := eq_true q812) | (go_at_call 32; (with_reducible refine (abacusref12_Value.calls k1 ((rd_T59 l0 x5_1).f1) t813 _ A5.out).mono ?_); rintro e w' ⟨rfl, ⟨nd, rfl⟩⟩; (try first | exact ⟨rfl, _, World.drewN_drewN _ _ _⟩ | exact ⟨rfl, _, Eq.trans (World.drewN_drewN _ _ _) (congrArg (World.drewN _) (Nat.add_assoc _ _ _))⟩))))
              go_roundg k1
              case measure => have := HK1.out; omega
              case rel => exact ⟨(wrap64 (x5_1 + 1)), zs, H', ⟨by have := HK1.out; omega⟩, ⟨zb HB.out⟩⟩
          · replace c6 := Bool.eq_false_iff.mpr c6
            subst c6
            have H1 : (some (([] : List (S59)), 120, x5_1)) = some (r1, r2, r3) := by rw [if_neg (show ¬ (false = true) by decide)] at H; exact H
            clear H
            have H := H1
            clear H1
            simp only [Option.some.injEq, Prod.mk.injEq] at H
            obtain ⟨rfl, rfl, rfl⟩ := H
            have p810 : 0 ≤ (x5_1 : Int) := of_decide_eq_true za
            have q810 : x5_1 < (l0.length : Int) := of_decide_eq_true za
            obtain ⟨ad810, e810, hx810_0, hx810_1⟩ := at_T59 HR0.out x5_1 p810 q810
            cases e810
            replace hx810_0 := (HB.out.cell (World.block_lt_of_cell? w _ hx810_0)).trans hx810_0
            replace hx810_1 := (HB.out.cell (World.block_lt_of_cell? w _ hx810_1)).trans hx810_1
            replace p810 := eq_true p810
            replace q810 := eq_true q810
            go_wp2_with (first | (go_at_call 31; (with_reducible refine (abacusref12_Name.calls k1 ((rd_T59 l0 x5_1).f0) false _ A4.out).mono ?_); rintro e w' ⟨rfl, ⟨nd, rfl⟩⟩; (try first | exact ⟨rfl, _, World.drewN_drewN _ _ _⟩ | exact ⟨rfl, _, Eq.trans (World.drewN_drewN _ _ _) (congrArg (World.drewN _) (Nat.add_assoc _ _ _))⟩); have p812 : 0 ≤ (x5_1 : Int) := of_decide_eq_true za; have q812 : x5_1 < (l0.length : Int) := of_decide_eq_true za; obtain ⟨ad812, e812, hx812_0, hx812_1⟩ := at_T59 HR0.out x5_1 p812 q812; obtain rfl : ad810 = ad812 := (by injection e812); replace hx812_0 := (HB.out.cell (World.block_lt_of_cell? w _ hx812_0)).trans hx812_0; replace hx812_1 := (HB.out.cell (World.block_lt_of_cell? w _ hx812_1)).trans hx812_1; replace p812 := eq_true p812; replace q812 := eq_true q812) | (go_at_call 32; (with_reducible refine (abacusref12_Value.calls k1 ((rd_T59 l0 x5_1).f1) t813 _ A5.out).mono ?_); rintro e w' ⟨rfl, ⟨nd, rfl⟩⟩; (try first | exact ⟨rfl, _, World.drewN_drewN _ _ _⟩ | exact ⟨rfl, _, Eq.trans (World.drewN_drewN _ _ _) (congrArg (World.drewN _) (Nat.add_assoc _ _ _))⟩)))
            repeat (go_quiet (first | (go_at_call 31; (with_reducible refine (abacusref12_Name.calls k1 ((rd_T59 l0 x5_1).f0) false _ A4.out).mono ?_); rintro e w' ⟨rfl, ⟨nd, rfl⟩⟩; (try first | exact ⟨rfl, _, World.drewN_drewN _ _ _⟩ | exact ⟨rfl, _, Eq.trans (World.drewN_drewN _ _ _) (congrArg (World.drewN _) (Nat.add_assoc _ _ _))⟩); have p812 : 0 ≤ (x5_1 : Int) := of_decide_eq_true za; have q812 : x5_1 < (l0.length : Int) := of_decide_eq_true za; obtain ⟨ad812, e812, hx812_0, hx812_1⟩ := at_T59 HR0.out x5_1 p812 q812; obtain rfl : ad810 = ad812 := (by injection e812); replace hx812_0 := (HB.out.cell (World.block_lt_of_cell? w _ hx812_0)).trans hx812_0; replace hx812_1 := (HB.out.cell (World.block_lt_of_cell? w _ hx812_1)).trans hx812_1; replace p812 := eq_true p812; replace q812 := eq_true q812) | (go_at_call 32; (with_reducible refine (abacusref12_Value.calls k1 ((rd_T59 l0 x5_1).f1) t813 _ A5.out).mono ?_); rintro e w' ⟨rfl, ⟨nd, rfl⟩⟩; (try first | exact ⟨rfl, _, World.drewN_drewN _ _ _⟩ | exact ⟨rfl, _, Eq.trans (World.drewN_drewN _ _ _) (congrArg (World.drewN _) (Nat.add_assoc _ _ _))⟩))); try go_wp2_with (first | (go_at_call 31; (with_reducible refine (abacusref12_Name.calls k1 ((rd_T59 l0 x5_1).f0) false _ A4.out).mono ?_); rintro e w' ⟨rfl, ⟨nd, rfl⟩⟩; (try first | exact ⟨rfl, _, World.drewN_drewN _ _ _⟩ | exact ⟨rfl, _, Eq.trans (World.drewN_drewN _ _ _) (congrArg (World.drewN _) (Nat.add_assoc _ _ _))⟩); have p812 : 0 ≤ (x5_1 : Int) := of_decide_eq_true za; have q812 : x5_1 < (l0.length : Int) := of_decide_eq_true za; obtain ⟨ad812, e812, hx812_0, hx812_1⟩ := at_T59 HR0.out x5_1 p812 q812; obtain rfl : ad810 = ad812 := (by injection e812); replace hx812_0 := (HB.out.cell (World.block_lt_of_cell? w _ hx812_0)).trans hx812_0; replace hx812_1 := (HB.out.cell (World.block_lt_of_cell? w _ hx812_1)).trans hx812_1; replace p812 := eq_true p812; replace q812 := eq_true q812) | (go_at_call 32; (with_reducible refine (abacusref12_Value.calls k1 ((rd_T59 l0 x5_1).f1) t813 _ A5.out).mono ?_); rintro e w' ⟨rfl, ⟨nd, rfl⟩⟩; (try first | exact ⟨rfl, _, World.drewN_drewN _ _ _⟩ | exact ⟨rfl, _, Eq.trans (World.drewN_drewN _ _ _) (congrArg (World.drewN _) (Nat.add_assoc _ _ _))⟩))))
            go_ret3
            exact ⟨_, ze, by first | exact Kd.R_nil _ _ _ _ _ | exact Kd.N_nil _ _ _ _ _ | exact Kd.V_nil _ _ _ _ _ | exact Kd.Q_nil _ _ _ _ _ | exact Kd.S_nil _ _ _ _ _, zb HB.out⟩
        · rw [if_neg c3] at H
          exact absurd H (by simp)
      · rw [if_neg c2] at H
        have c2b0 : decide (x5_1 < (l0.length : Int)) = false := decide_eq_false c2
        clear c2
        have H' := Aside0.mk H
        clear H
        go_wp2
        repeat (go_quiet (fail); try go_wp2)
        go_loopg [8] k1 (fun kq v8 w' => ∃ (x8_2 : Int), v8 = .int .i64 x8_2 ∧ Aside0 (abacusref12_Make.l1 kq l0 x8_2 = some (r1, r2, r3)) ∧ Aside0 (kq ≤ k1) ∧ Aside0 (Below w.heap.size w w'))
        case atStart => exact ⟨(0), zs, H', ⟨Nat.le_refl _⟩, ⟨zb HB.out⟩⟩
        case round =>
          clear H'
          try clear c2
          try clear c2b0
          try clear p2
          try clear c3
          try clear c3b0
          try clear c6
          try clear p6
          try clear c7
          try clear c7b0
          try clear hx810_0
          try clear hx810_1
          try clear hx812_0
          try clear hx812_1
          try clear p810
          try clear p812
          try clear q810
          try clear q812
          obtain ⟨x8_2, rfl, HA, HK2, HB⟩ := hrel
          cases gk with
          | zero => exact absurd HA.out (by simp [abacusref12_Make.l1])
          | succ k2 =>
            have H := HA.out
            clear HA
            simp only [abacusref12_Make.l1] at H
            by_cases c8 : x8_2 < (l0.length : Int)
            · rw [if_pos c8] at H
              have c8b0 : decide (x8_2 < (l0.length : Int)) = true := decide_eq_true c8
              clear c8
              by_cases c9 : 0 ≤ x8_2
              · rw [if_pos c9] at H
                have c9b0 := eq_true c9
                have c9b1 : decide (0 ≤ x8_2) = true := decide_eq_true c9
                clear c9
                by_cases c10 : x8_2 ≤ (l0.length : Int)
                · rw [if_pos c10] at H
                  have c10b0 := eq_true c10
                  have c10b1 : decide (x8_2 ≤ (l0.length : Int)) = true := decide_eq_true c10
                  clear c10
                  obtain ⟨y814, hy814⟩ : ∃ y_ : List (S59), y_ = (l0.take (x8_2 : Int).toNat) := ⟨_, rfl⟩
                  replace H : ((abacusref12_Get.f k2 y814 ((rd_T59 l0 x8_2).f0)).bind fun bt819 => (if bt819.2 = true then (some (([] : List (S59)), 121, x8_2)) else (abacusref12_Make.l1 k2 l0 (wrap64 (x8_2 + 1))))) = some (r1, r2, r3) := by first | (rw [hy814]; with_reducible exact H) | (have H2_ := (Option.bind_some _ _).symm.trans H; rw [hy814]; with_reducible exact H2_) | (have H2_ := (Option.bind_some _ _).symm.trans H; with_reducible exact H2_) | with_reducible exact H | (rw [hy814]; exact H) | exact H
                  have Ny814 := Aside0.mk hy814
                  clear hy814
                  replace H := Option.bind_eq_some_iff.mp H
                  obtain ⟨⟨t819, t820⟩, A110, H⟩ := H
                  replace H : (if t820 = true then (some (([] : List (S59)), 121, x8_2)) else (abacusref12_Make.l1 k2 l0 (wrap64 (x8_2 + 1)))) = some (r1, r2, r3) := H
                  have A11 := Aside0.mk A110
                  clear A110
                  by_cases c12 : t820 = true
                  · subst c12
                    have H1 : (some (([] : List (S59)), 121, x8_2)) = some (r1, r2, r3) := by rw [if_pos rfl] at H; exact H
                    clear H
                    have H := H1
                    clear H1
                    simp only [Option.some.injEq, Prod.mk.injEq] at H
                    obtain ⟨rfl, rfl, rfl⟩ := H
                    have q13 : (x8_2 : Int) ≤ ((l0.length : Int) : Int) := of_decide_eq_true za
                    obtain ⟨i013, hi013, _, hsz13, _⟩ := info_parts info59
                    have hroom13 : l0.length ≤ c0 := HC0.out
                    have hC13 : Kd.C k59 _ A0 l0.length l0 := HR0.out
                    have hcut13 := cut_to (P := Tryd.prog) 22 59 .i64 Tryd.underlying22 hi013 A0 l0.length c0 x8_2 (of_decide_eq_true za) q13 hroom13
                    have hr13 := Kd.C_take (m := (x8_2 : Int).toNat) hC13 (by omega)
                    have hy13 : y814.length = (x8_2 : Int).toNat := (by rw [Ny814.out, List.length_take]; omega)
                    rw [← Ny814.out] at hr13
                    rw [← hy13] at hcut13
                    have HR817 := Aside0.mk hr13
                    have HC817 := Aside0.mk (show y814.length ≤ c0 from by omega)
                    clear hr13 hC13 hroom13 hi013 hsz13
                    have KY13 := Aside0.mk hy13
                    clear hy13
                    replace q13 := eq_true q13
                    have p818 : 0 ≤ (x8_2 : Int) := of_decide_eq_true za
                    have q818 : x8_2 < (l0.length : Int) := of_decide_eq_true za
                    obtain ⟨ad818, e818, hx818_0, hx818_1⟩ := at_T59 HR0.out x8_2 p818 q818
                    cases e818
                    replace hx818_0 := (HB.out.cell (World.block_lt_of_cell? w _ hx818_0)).trans hx818_0
                    replace hx818_1 := (HB.out.cell (World.block_lt_of_cell? w _ hx818_1)).trans hx818_1
                    replace p818 := eq_true p818
                    replace q818 := eq_true q818
                    go_wp2_with (first | (go_at_call 41; (with_reducible refine (abacusref12_Get.calls k2 _ _ y814 ((rd_T59 l0 x8_2).f0) t819 true _ ?side1 ?side2 A11.out).mono ?_); (case side1 => exact zc (Kd.C_below HR817.out HB.out)); (case side2 => exact HC817.out); rintro e w' ⟨rfl, ⟨nd, rfl⟩⟩; (try first | exact ⟨rfl, _, World.drewN_drewN _ _ _⟩ | exact ⟨rfl, _, Eq.trans (World.drewN_drewN _ _ _) (congrArg (World.drewN _) (Nat.add_assoc _ _ _))⟩)))
                    repeat (go_quiet (first | (go_at_call 41; (with_reducible refine (abacusref12_Get.calls k2 _ _ y814 ((rd_T59 l0 x8_2).f0) t819 true _ ?side1 ?side2 A11.out).mono ?_); (case side1 => exact zc (Kd.C_below HR817.out HB.out)); (case side2 => exact HC817.out); rintro e w' ⟨rfl, ⟨nd, rfl⟩⟩; (try first | exact ⟨rfl, _, World.drewN_drewN _ _ _⟩ | exact ⟨rfl, _, Eq.trans (World.drewN_drewN _ _ _) (congrArg (World.drewN _) (Nat.add_assoc _ _ _))⟩))); try go_wp2_with (first | (go_at_call 41; (with_reducible refine (abacusref12_Get.calls k2 _ _ y814 ((rd_T59 l0 x8_2).f0) t819 true _ ?side1 ?side2 A11.out).mono ?_); (case side1 => exact zc (Kd.C_below HR817.out HB.out)); (case side2 => exact HC817.out); rintro e w' ⟨rfl, ⟨nd, rfl⟩⟩; (try first | exact ⟨rfl, _, World.drewN_drewN _ _ _⟩ | exact ⟨rfl, _, Eq.trans (World.drewN_drewN _ _ _) (congrArg (World.drewN _) (Nat.add_assoc _ _ _))⟩))))
                    go_ret3
                    exact ⟨_, ze, by first | exact Kd.R_nil _ _ _ _ _ | exact Kd.N_nil _ _ _ _ _ | exact Kd.V_nil _ _ _ _ _ | exact Kd.Q_nil _ _ _ _ _ | exact Kd.S_nil _ _ _ _ _, zb HB.out⟩
                  · replace c12 := Bool.eq_false_iff.mpr c12
                    subst c12
                    have H1 : (abacusref12_Make.l1 k2 l0 (wrap64 (x8_2 + 1))) = some (r1, r2, r3) := by rw [if_neg (show ¬ (false = true) by decide)] at H; exact H
                    clear H
                    have H := H1
                    clear H1
                    have H' := Aside0.mk H
                    clear H
                    have q14 : (x8_2 : Int) ≤ ((l0.length : Int) : Int) := of_decide_eq_true za
                    obtain ⟨i014, hi014, _, hsz14, _⟩ := info_parts info59
                    have hroom14 : l0.length ≤ c0 := HC0.out
                    have hC14 : Kd.C k59 _ A0 l0.length l0 := HR0.out
                    have hcut14 := cut_to (P := Tryd.prog) 22 59 .i64 Tryd.underlying22 hi014 A0 l0.length c0 x8_2 (of_decide_eq_true za) q14 hroom14
                    have hr14 := Kd.C_take (m := (x8_2 : Int).toNat) hC14 (by omega)
                    have hy14 : y814.length = (x8_2 : Int).toNat := (by rw [Ny814.out, List.length_take]; omega)
                    rw [← Ny814.out] at hr14
                    rw [← hy14] at hcut14
                    have HR817 := Aside0.mk hr14
                    have HC817 := Aside0.mk (show y814.length ≤ c0 from by omega)
                    clear hr14 hC14 hroom14 hi014 hsz14
                    have KY14 := Aside0.mk hy14
                    clear hy14
                    replace q14 := eq_true q14
                    have p818 : 0 ≤ (x8_2 : Int) := of_decide_eq_true za
                    have q818 : x8_2 < (l0.length : Int) := of_decide_eq_true za
                    obtain ⟨ad818, e818, hx818_0, hx818_1⟩ := at_T59 HR0.out x8_2 p818 q818
                    cases e818
                    replace hx818_0 := (HB.out.cell (World.block_lt_of_cell? w _ hx818_0)).trans hx818_0
                    replace hx818_1 := (HB.out.cell (World.block_lt_of_cell? w _ hx818_1)).trans hx818_1
                    replace p818 := eq_true p818
                    replace q818 := eq_true q818
                    go_wp2_with (first | (go_at_call 41; (with_reducible refine (abacusref12_Get.calls k2 _ _ y814 ((rd_T59 l0 x8_2).f0) t819 false _ ?side1 ?side2 A11.out).mono ?_); (case side1 => exact zc (Kd.C_below HR817.out HB.out)); (case side2 => exact HC817.out); rintro e w' ⟨rfl, ⟨nd, rfl⟩⟩; (try first | exact ⟨rfl, _, World.drewN_drewN _ _ _⟩ | exact ⟨rfl, _, Eq.trans (World.drewN_drewN _ _ _) (congrArg (World.drewN _) (Nat.add_assoc _ _ _))⟩)))
                    repeat (go_quiet (first | (go_at_call 41; (with_reducible refine (abacusref12_Get.calls k2 _ _ y814 ((rd_T59 l0 x8_2).f0) t819 false _ ?side1 ?side2 A11.out).mono ?_); (case side1 => exact zc (Kd.C_below HR817.out HB.out)); (case side2 => exact HC817.out); rintro e w' ⟨rfl, ⟨nd, rfl⟩⟩; (try first | exact ⟨rfl, _, World.drewN_drewN _ _ _⟩ | exact ⟨rfl, _, Eq.trans (World.drewN_drewN _ _ _) (congrArg (World.drewN _) (Nat.add_assoc _ _ _))⟩))); try go_wp2_with (first | (go_at_call 41; (with_reducible refine (abacusref12_Get.calls k2 _ _ y814 ((rd_T59 l0 x8_2).f0) t819 false _ ?side1 ?side2 A11.out).mono ?_); (case side1 => exact zc (Kd.C_below HR817.out HB.out)); (case side2 => exact HC817.out); rintro e w' ⟨rfl, ⟨nd, rfl⟩⟩; (try first | exact ⟨rfl, _, World.drewN_drewN _ _ _⟩ | exact ⟨rfl, _, Eq.trans (World.drewN_drewN _ _ _) (congrArg (World.drewN _) (Nat.add_assoc _ _ _))⟩))))
                    go_roundg k2
                    case measure => have := HK1.out; have := HK2.out; omega
                    case rel => exact ⟨(wrap64 (x8_2 + 1)), zs, H', ⟨by have := HK1.out; have := HK2.out; omega⟩, ⟨zb HB.out⟩⟩
                · rw [if_neg c10] at H
                  exact absurd H (by simp)
              · rw [if_neg c9] at H
                exact absurd H (by simp)
            · rw [if_neg c8] at H
              have c8b0 : decide (x8_2 < (l0.length : Int)) = false := decide_eq_false c8
              clear c8
              by_cases c15 : (l0.length : Int) > 32
              · rw [if_pos c15] at H
                have c15b0 : decide (32 < (l0.length : Int)) = true := decide_eq_true c15
                have c15b1 : decide (32 < l0.length) = true := decide_eq_true (by omega)
                clear c15
                simp only [Option.some.injEq, Prod.mk.injEq] at H
                obtain ⟨rfl, rfl, rfl⟩ := H
                go_wp2
                repeat (go_quiet (fail); try go_wp2)
                go_ret3
                exact ⟨_, ze, by first | exact Kd.R_nil _ _ _ _ _ | exact Kd.N_nil _ _ _ _ _ | exact Kd.V_nil _ _ _ _ _ | exact Kd.Q_nil _ _ _ _ _ | exact Kd.S_nil _ _ _ _ _, zb HB.out⟩
              · rw [if_neg c15] at H
                have c15b0 : decide (32 < (l0.length : Int)) = false := decide_eq_false c15
                have c15b1 : decide (32 < l0.length) = false := decide_eq_false (by omega)
                clear c15
                have H' := Aside0.mk H
                clear H
                go_wp2
                repeat (go_quiet (fail); try go_wp2)
                go_loopg [11, 12] k2 (fun kq v11 v12 w' => ∃ (x11_3 : List (S59)) (x12_3 : Int), v12 = .int .i64 x12_3 ∧ Aside0 (abacusref12_Make.l2 kq l0 x11_3 x12_3 = some (r1, r2, r3)) ∧ Aside0 (kq ≤ k2) ∧ Aside0 (Kd.R k59 59 w' w.heap.size (fun _ => True) v11 x11_3) ∧ Aside0 (Below w.heap.size w w'))
                case atStart => exact ⟨(([] : List (S59))), (0), zs, H', ⟨Nat.le_refl _⟩, ⟨by first | exact Kd.R_nil _ _ _ _ _ | exact Kd.N_nil _ _ _ _ _ | exact Kd.V_nil _ _ _ _ _ | exact Kd.Q_nil _ _ _ _ _ | exact Kd.S_nil _ _ _ _ _⟩, ⟨zb HB.out⟩⟩
                case round =>
                  clear H'
                  try clear c1
                  try clear q1
                  try clear c2
                  try clear c2b0
                  try clear p2
                  try clear c3
                  try clear c3b0
                  try clear c6
                  try clear p6
                  try clear c7
                  try clear c7b0
                  try clear c8
                  try clear c8b0
                  try clear p8
                  try clear q8
                  try clear hx8
                  try clear c9
                  try clear c9b0
                  try clear c9b1
                  try clear c10
                  try clear c10b0
                  try clear c10b1
                  try clear c12
                  try clear q13
                  try clear q14
                  try clear c15
                  try clear c15b0
                  try clear c15b1
                  try clear hx810_0
                  try clear hx810_1
                  try clear hx812_0
                  try clear hx812_1
                  try clear hx818_0
                  try clear hx818_1
                  try clear p2
                  try clear p6
                  try clear p810
                  try clear p812
                  try clear p818
                  try clear q13
                  try clear q14
                  try clear q810
                  try clear q812
                  try clear q818
                  obtain ⟨x11_3, x12_3, rfl, HA, HK3, HO_11, HB⟩ := hrel
                  cases gk with
                  | zero => exact absurd HA.out (by simp [abacusref12_Make.l2])
                  | succ k3 =>
                    have H := HA.out
                    clear HA
                    simp only [abacusref12_Make.l2] at H
                    by_cases c16 : x12_3 < (l0.length : Int)
                    · rw [if_pos c16] at H
                      have c16b0 : decide (x12_3 < (l0.length : Int)) = true := decide_eq_true c16
                      clear c16
                      by_cases c17 : 0 ≤ x12_3
                      · rw [if_pos c17] at H
                        have c17b0 : decide (0 ≤ x12_3) = true := decide_eq_true c17
                        clear c17
                        replace H := Option.bind_eq_some_iff.mp H
                        obtain ⟨t822, A180, H⟩ := H
                        replace H : (abacusref12_Make.l2 k3 l0 t822 (wrap64 (x12_3 + 1))) = some (r1, r2, r3) := H
                        have A18 := Aside0.mk A180
                        clear A180
                        have H' := Aside0.mk H
                        clear H
                        have p821 : 0 ≤ (x12_3 : Int) := of_decide_eq_true za
                        have q821 : x12_3 < (l0.length : Int) := of_decide_eq_true za
                        obtain ⟨ad821, e821, hx821_0, hx821_1⟩ := at_T59 HR0.out x12_3 p821 q821
                        cases e821
                        replace hx821_0 := (HB.out.cell (World.block_lt_of_cell? w _ hx821_0)).trans hx821_0
                        replace hx821_1 := (HB.out.cell (World.block_lt_of_cell? w _ hx821_1)).trans hx821_1
                        replace p821 := eq_true p821
                        replace q821 := eq_true q821
                        obtain ⟨Ao19, co19, eo19⟩ := Kd.R_slice HO_11.out
                        subst eo19
                        go_wp2_with (first | (go_at_call 53; (with_reducible refine (abacusref12_put.calls k3 _ _ x11_3 ((rd_T59 l0 x12_3).f0) ((rd_T59 l0 x12_3).f1) t822 _ ?side1 ?side2 A18.out).mono ?_); (case side1 => exact zc (Kd.R_reads' HO_11.out).2.2); (case side2 => exact (Kd.R_reads' HO_11.out).2.1); rintro e w20 ⟨v823, rfl, ho0, hb⟩; have n0_ := Aside0.mk (Kd.R_elder' (zr HO_11.out) (Kd.R_base ho0) hb); have n1_ := Aside0.mk (Kd.R_lower (Kd.R_new' ho0 (Kd.R_lt (zr HO_11.out))) (below_size (zb HB.out))); have n2_ := Aside0.mk (below_step (zb HB.out) hb); clear HO_11; clear HB; have HO_11 := n0_; have HO824 := n1_; have HB := n2_; clear n0_ n1_ n2_; (try clear hb); (try clear hb2); (try clear hk); (try clear hi); (try clear ho0)))
                        repeat (go_quiet (first | (go_at_call 53; (with_reducible refine (abacusref12_put.calls k3 _ _ x11_3 ((rd_T59 l0 x12_3).f0) ((rd_T59 l0 x12_3).f1) t822 _ ?side1 ?side2 A18.out).mono ?_); (case side1 => exact zc (Kd.R_reads' HO_11.out).2.2); (case side2 => exact (Kd.R_reads' HO_11.out).2.1); rintro e w20 ⟨v823, rfl, ho0, hb⟩; have n0_ := Aside0.mk (Kd.R_elder' (zr HO_11.out) (Kd.R_base ho0) hb); have n1_ := Aside0.mk (Kd.R_lower (Kd.R_new' ho0 (Kd.R_lt (zr HO_11.out))) (below_size (zb HB.out))); have n2_ := Aside0.mk (below_step (zb HB.out) hb); clear HO_11; clear HB; have HO_11 := n0_; have HO824 := n1_; have HB := n2_; clear n0_ n1_ n2_; (try clear hb); (try clear hb2); (try clear hk); (try clear hi); (try clear ho0))); try go_wp2_with (first | (go_at_call 53; (with_reducible refine (abacusref12_put.calls k3 _ _ x11_3 ((rd_T59 l0 x12_3).f0) ((rd_T59 l0 x12_3).f1) t822 _ ?side1 ?side2 A18.out).mono ?_); (case side1 => exact zc (Kd.R_reads' HO_11.out).2.2); (case side2 => exact (Kd.R_reads' HO_11.out).2.1); rintro e w20 ⟨v823, rfl, ho0, hb⟩; have n0_ := Aside0.mk (Kd.R_elder' (zr HO_11.out) (Kd.R_base ho0) hb); have n1_ := Aside0.mk (Kd.R_lower (Kd.R_new' ho0 (Kd.R_lt (zr HO_11.out))) (below_size (zb HB.out))); have n2_ := Aside0.mk (below_step (zb HB.out) hb); clear HO_11; clear HB; have HO_11 := n0_; have HO824 := n1_; have HB := n2_; clear n0_ n1_ n2_; (try clear hb); (try clear hb2); (try clear hk); (try clear hi); (try clear ho0))))
                        go_roundg k3
                        case measure => have := HK1.out; have := HK2.out; have := HK3.out; omega
                        case rel => exact ⟨(t822), (wrap64 (x12_3 + 1)), zs, H', ⟨by have := HK1.out; have := HK2.out; have := HK3.out; omega⟩, ⟨by (with_reducible repeat (first | apply Kd.R_alloc | apply Kd.R_drewN | apply Kd.R_drew)); exact Kd.R_mono HO824.out (fun _ hk => trivial)⟩, ⟨zb HB.out⟩⟩
                      · rw [if_neg c17] at H
                        exact absurd H (by simp)
                    · rw [if_neg c16] at H
                      have c16b0 : decide (x12_3 < (l0.length : Int)) = false := decide_eq_false c16
                      clear c16
                      simp only [Option.some.injEq, Prod.mk.injEq] at H
                      obtain ⟨rfl, rfl, rfl⟩ := H
                      go_wp2
                      repeat (go_quiet (fail); try go_wp2)
                      go_ret3
                      exact ⟨_, ze, zr HO_11.out, zb HB.out⟩

/-! ### cmp_Or_int: function 75 -/
def cmp_Or_int.l0 : Nat → Int → List Int → Int → Int → Option (Int)
  | 0, _, _, _, _ => none
  | k + 1, x3, x6, x7, x8 => if x8 < x7 then (if 0 ≤ x8 then (if x8 < (x6.length : Int) then (if (rd x6 x8) = x3 then (cmp_Or_int.l0 k x3 x6 x7 (wrap64 (x8 + 1))) else (some (rd x6 x8))) else (none)) else (none)) else (some x3)
def cmp_Or_int.f (k : Nat) (l0 : List Int) : Option (Int) := cmp_Or_int.l0 k 0 l0 (l0.length : Int) 0
/-! ### cmp_isNaN_string: function 92 -/
def cmp_isNaN_string.f (a0 : ByteArray) : Option (Bool) := some (a0.toList != a0.toList)
/-! ### slices_Index_string_string: function 106 -/
def slices_Index_string_string.l0 : Nat → List ByteArray → ByteArray → Int → Int → Option (Int)
  | 0, _, _, _, _ => none
  | k + 1, x0, x1, x7, x8 => if x8 < x7 then (if 0 ≤ x8 then (if x8 < (x0.length : Int) then (if x1.toList = (rdOf ByteArray.empty x0 x8).toList then (some x8) else (slices_Index_string_string.l0 k x0 x1 x7 (wrap64 (x8 + 1)))) else (none)) else (none)) else (some (-1))
def slices_Index_string_string.f (k : Nat) (l0 : List ByteArray) (a1 : ByteArray) : Option (Int) := slices_Index_string_string.l0 k l0 a1 (l0.length : Int) 0
/-! ### slices_Contains_string_string: function 93 -/
def slices_Contains_string_string.f (k : Nat) (l0 : List ByteArray) (a1 : ByteArray) : Option (Bool) := (slices_Index_string_string.f k l0 a1).bind fun t886 => (some (decide (t886 ≥ 0)))
/-! ### labels_chosen: function 78 -/
def labels_chosen.l0 : Nat → List ByteArray → Bool → List (S59) → List (S59) → Int → Int → Option ((List (S59)))
  | 0, _, _, _, _, _, _ => none
  | k + 1, x1, x2, x7, x10, x11, x12 => if x12 < x11 then (if 0 ≤ x12 then (if x12 < (x10.length : Int) then ((slices_Contains_string_string.f k x1 ((rd_T59 x10 x12).f0)).bind fun t889 => (if (t889 == x2) = true then (if x7.length < 4398046511104 then (labels_chosen.l0 k x1 x2 (x7 ++ [(⟨(rd_T59 x10 x12).f0, (rd_T59 x10 x12).f1⟩ : S59)]) x10 x11 (wrap64 (x12 + 1))) else (none)) else (labels_chosen.l0 k x1 x2 x7 x10 x11 (wrap64 (x12 + 1))))) else (none)) else (none)) else (some x7)
def labels_chosen.f (k : Nat) (l0 : List (S59)) (l1 : List ByteArray) (a2 : Bool) : Option ((List (S59))) := labels_chosen.l0 k l1 a2 ([] : List (S59)) l0 (l0.length : Int) 0
/-! ### labels_Keep: function 38 -/
def labels_Keep.f (k : Nat) (l0 : List (S59)) (l1 : List ByteArray) : Option ((List (S59))) := (labels_chosen.f k l0 l1 true).bind fun t893 => (some t893)
/-! ### labels_Without: function 39 -/
def labels_Without.f (k : Nat) (l0 : List (S59)) (l1 : List ByteArray) : Option ((List (S59))) := (labels_chosen.f k l0 l1 false).bind fun t896 => (some t896)
/-! ### abacusref12_Merge: function 42 -/
mutual
def abacusref12_Merge.j0 : Nat → List (S59) → List (S59) → Bool → Option ((List (S59)) × Int)
  | 0, _, _, _ => none
  | k + 1, x0, x1, x19 => if x19 = true then (some (([] : List (S59)), 120)) else ((abacusref12_Copy.f k x0).bind fun t981 => (abacusref12_Merge.l0 k x1 t981 0))
def abacusref12_Merge.l0 : Nat → List (S59) → List (S59) → Int → Option ((List (S59)) × Int)
  | 0, _, _, _ => none
  | k + 1, x1, x8, x9 => if x9 < (x1.length : Int) then (if 0 ≤ x9 then ((abacusref12_put.f k x8 ((rd_T59 x1 x9).f0) ((rd_T59 x1 x9).f1)).bind fun t985 => (abacusref12_Merge.l0 k x1 t985 (wrap64 (x9 + 1)))) else (none)) else (if (x8.length : Int) > 32 then (some (([] : List (S59)), 3)) else (some (x8, 0)))
end
def abacusref12_Merge.f (k : Nat) (l0 : List (S59)) (l1 : List (S59)) : Option ((List (S59)) × Int) := (abacusref12_Right.f k l0).bind fun t979 => ((abacusref12_Right.f k l1).bind fun t980 => (if t979 = true then (abacusref12_Merge.j0 k l0 l1 (!t980)) else (abacusref12_Merge.j0 k l0 l1 true)))
/-! ### abacusref12_Chosen: function 43 -/
mutual
def abacusref12_Chosen.l0 : Nat → List (S59) → List ByteArray → Bool → List (S59) → Int → Option ((List (S59)))
  | 0, _, _, _, _, _ => none
  | k + 1, x0, x1, x2, x7, x8 => if x8 < (x0.length : Int) then (abacusref12_Chosen.l1 k x0 x1 x2 x7 x8 false 0) else (some x7)
def abacusref12_Chosen.l1 : Nat → List (S59) → List ByteArray → Bool → List (S59) → Int → Bool → Int → Option ((List (S59)))
  | 0, _, _, _, _, _, _, _ => none
  | k + 1, x0, x1, x2, x7, x8, x9, x10 => if x10 < (x1.length : Int) then (if x9 = true then (abacusref12_Chosen.l1 k x0 x1 x2 x7 x8 true (wrap64 (x10 + 1))) else (if 0 ≤ x10 then (if 0 ≤ x8 then (if x8 < (x0.length : Int) then (abacusref12_Chosen.l1 k x0 x1 x2 x7 x8 ((rdOf ByteArray.empty x1 x10).toList == ((rd_T59 x0 x8).f0).toList) (wrap64 (x10 + 1))) else (none)) else (none)) else (none))) else (if (x9 == x2) = true then (if 0 ≤ x8 then (if x8 < (x0.length : Int) then (if x7.length < 4398046511104 then (abacusref12_Chosen.l0 k x0 x1 x2 (x7 ++ [(⟨(rd_T59 x0 x8).f0, (rd_T59 x0 x8).f1⟩ : S59)]) (wrap64 (x8 + 1))) else (none)) else (none)) else (none)) else (abacusref12_Chosen.l0 k x0 x1 x2 x7 (wrap64 (x8 + 1))))
end
def abacusref12_Chosen.f (k : Nat) (l0 : List (S59)) (l1 : List ByteArray) (a2 : Bool) : Option ((List (S59))) := abacusref12_Chosen.l0 k l0 l1 a2 ([] : List (S59)) 0
end Go.Proofs.YtogegkfefpgbcaaDoor.PL
