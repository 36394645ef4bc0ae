/- Functions of the labels (packed). -/
import Derived.Test.YtogegkfefpgbcaaDoorZXPLx0
import Derived.Test.YtogegkfefpgbcaaDoorZXPLx1
import Derived.Test.YtogegkfefpgbcaaDoorZXPLx2
import Derived.Test.YtogegkfefpgbcaaDoorZXQ1
namespace Go.Proofs.YtogegkfefpgbcaaDoor.PL
open Go.RowKit Go.Proofs.YtogegkfefpgbcaaDoorW.PrintWords Go.Proofs.YtogegkfefpgbcaaDoorW.PrintLast Go.Proofs.YtogegkfefpgbcaaDoorW.PrintMore
attribute [local go_sem] max2_int min2_int max_two min_two max_three min_three max_four min_four   -- for this text's walks alone
set_option linter.unusedVariables false
set_option linter.unusedSimpArgs false
attribute [local go_sem high] eqA59
attribute [local go_sem high] eqA36

mutual
def abacusref12_Compare.l0 : Nat → List (S59) → List (S59) → Int → Option (Int)
  | 0, _, _, _ => none
  | k + 1, x0, x1, x5 => if x5 < (x0.length : Int) then (abacusref12_Compare.j1 k x0 x1 x5 (decide (x5 < (x1.length : Int)))) else (abacusref12_Compare.j1 k x0 x1 x5 false)
def abacusref12_Compare.j1 : Nat → List (S59) → List (S59) → Int → Bool → Option (Int)
  | 0, _, _, _, _ => none
  | k + 1, x0, x1, x5, x15 => if x15 = true then (if 0 ≤ x5 then (if x5 < (x0.length : Int) then (if x5 < (x1.length : Int) then (if ((((rd_T59 x0 x5).f0).toList) == (((rd_T59 x1 x5).f0).toList) && ((((rd_T59 x0 x5).f1).toList) == (((rd_T59 x1 x5).f1).toList))) = true then (abacusref12_Compare.l0 k x0 x1 (wrap64 (x5 + 1))) else (if (Op.bytesLess (((rd_T59 x0 x5).f0).toList) (((rd_T59 x1 x5).f0).toList)) = true then (some (-1)) else (if ((rd_T59 x0 x5).f0).toList = ((rd_T59 x1 x5).f0).toList then (if (Op.bytesLess (((rd_T59 x0 x5).f1).toList) (((rd_T59 x1 x5).f1).toList)) = true then (some (-1)) else (some 1)) else (some 1)))) else (none)) else (none)) else (none)) else (if (x0.length : Int) < (x1.length : Int) then (some (-1)) else (if (x0.length : Int) > (x1.length : Int) then (some 1) else (some 0)))
end
def abacusref12_Compare.f (k : Nat) (l0 : List (S59)) (l1 : List (S59)) : Option (Int) := abacusref12_Compare.l0 k l0 l1 0
set_option maxHeartbeats 8000000 in
set_option maxRecDepth 100000 in
theorem abacusref12_Compare.calls (k : Nat) (A0 : Option Addr) (c0 : Nat) (l0 : List (S59)) (A1 : Option Addr) (c1 : Nat) (l1 : List (S59)) (r : Int) (w : World) (hr0 : Kd.C k59 w A0 l0.length l0) (hc0 : l0.length ≤ c0) (hr1 : Kd.C k59 w A1 l1.length l1) (hc1 : l1.length ≤ c1) (h : abacusref12_Compare.f k l0 l1 = some r) :
    Calls Tryd.prog 44 #[.slice A0 l0.length c0, .slice A1 l1.length c1] w fun e w' => e = .returned (.int .i64 r) ∧ Drawn0 w w' := by
  have hu59 := Tryd.underlying59; have HR0 := Aside0.mk hr0; have HC0 := Aside0.mk hc0; clear hr0 hc0; have HR1 := Aside0.mk hr1; have HC1 := Aside0.mk hc1; clear hr1 hc1; have H : (abacusref12_Compare.l0 k l0 l1 0) = some r := h; clear h; have H' := Aside0.mk H; clear H; go_enter Tryd.func44, Tryd.ntmps44; go_wp2
  repeat (go_quiet (fail); try go_wp2)
  go_loopg [5] k (fun kq v5 w' => ∃ (x5_1 : Int), v5 = .int .i64 x5_1 ∧ Aside0 (abacusref12_Compare.l0 kq l0 l1 x5_1 = some r) ∧ Aside0 (kq ≤ k) ∧ Drawn0 w w')
  case atStart => exact ⟨(0), zs, H', ⟨Nat.le_refl _⟩, by repeat (first | exact Drawn0.refl _ | apply Drawn0.step)⟩
  case round =>
    clear H'; (try clear c1); (try clear p2); obtain ⟨x5_1, rfl, HA, HK1, ⟨m1, rfl⟩⟩ := hrel
    cases gk with
    | zero => exact absurd HA.out (by simp [abacusref12_Compare.l0])
    | succ k1 =>
      have H := HA.out; clear HA; simp only [abacusref12_Compare.l0] at H; have HC3 := Aside0.mk H; clear H; go_upto_region 2 with (fail)
      repeat (go_quiet (fail); go_upto_region 2 with (fail))
      go_cut [15] (fun v15 wc => ∃ (kq : Nat) (x15_2 : Bool), v15 = .bool x15_2 ∧ Aside0 (abacusref12_Compare.j1 kq l0 l1 x5_1 x15_2 = some r) ∧ Aside0 (kq ≤ k1) ∧ Drawn0 w wc)
      case first =>
        have H := HC3.out; clear HC3; by_cases c4 : x5_1 < (l0.length : Int)
        · rw [if_pos c4] at H
          have c4b0 : decide (x5_1 < (l0.length : Int)) = true := decide_eq_true c4; clear c4; (first | rw [c4b0] | (simp only [i64_w, i32_w]; rw [c4b0]) | skip); have H' := Aside0.mk H; clear H; go_wp2
          repeat (go_quiet (fail); try go_wp2)
          go_meet
          case rel => exact ⟨_, (decide (x5_1 < (l1.length : Int))), zs, H', ⟨by have := HK1.out; first | omega | exact Nat.le_refl _⟩, by repeat (first | exact Drawn0.refl _ | apply Drawn0.step)⟩
        · rw [if_neg c4] at H
          have c4b0 : decide (x5_1 < (l0.length : Int)) = false := decide_eq_false c4; clear c4; (first | rw [c4b0] | (simp only [i64_w, i32_w]; rw [c4b0]) | skip); have H' := Aside0.mk H; clear H; go_wp2
          repeat (go_quiet (fail); try go_wp2)
          go_meet
          case rel => exact ⟨_, (false), zs, H', ⟨by have := HK1.out; first | omega | exact Nat.le_refl _⟩, by repeat (first | exact Drawn0.refl _ | apply Drawn0.step)⟩
      case rest =>
        clear HC3; (try clear c1); (try clear p2); (try clear c4); (try clear c4b0); (try clear p2); obtain ⟨kq, x15_2, rfl, HA, HJ2, ⟨mc2, rfl⟩⟩ := hcut
        cases kq with
        | zero => exact absurd HA.out (by simp [abacusref12_Compare.j1])
        | succ kj2 =>
          have H := HA.out; clear HA; simp only [abacusref12_Compare.j1] at H; by_cases c5 : x15_2 = true
          · subst c5
            have H1 : (if 0 ≤ x5_1 then (if x5_1 < (l0.length : Int) then (if x5_1 < (l1.length : Int) then (if ((((rd_T59 l0 x5_1).f0).toList) == (((rd_T59 l1 x5_1).f0).toList) && ((((rd_T59 l0 x5_1).f1).toList) == (((rd_T59 l1 x5_1).f1).toList))) = true then (abacusref12_Compare.l0 kj2 l0 l1 (wrap64 (x5_1 + 1))) else (if (Op.bytesLess (((rd_T59 l0 x5_1).f0).toList) (((rd_T59 l1 x5_1).f0).toList)) = true then (some (-1)) else (if ((rd_T59 l0 x5_1).f0).toList = ((rd_T59 l1 x5_1).f0).toList then (if (Op.bytesLess (((rd_T59 l0 x5_1).f1).toList) (((rd_T59 l1 x5_1).f1).toList)) = true then (some (-1)) else (some 1)) else (some 1)))) else (none)) else (none)) else (none)) = some r := by rw [if_pos rfl] at H; exact H
            clear H; have H := H1; clear H1; by_cases c6 : 0 ≤ x5_1
            · rw [if_pos c6] at H
              have c6b0 : decide (0 ≤ x5_1) = true := decide_eq_true c6; clear c6; by_cases c7 : x5_1 < (l0.length : Int)
              · rw [if_pos c7] at H
                have c7b0 : decide (x5_1 < (l0.length : Int)) = true := decide_eq_true c7; clear c7; by_cases c8 : x5_1 < (l1.length : Int)
                · rw [if_pos c8] at H
                  have c8b0 : decide (x5_1 < (l1.length : Int)) = true := decide_eq_true c8; clear c8; by_cases c9 : ((((rd_T59 l0 x5_1).f0).toList) == (((rd_T59 l1 x5_1).f0).toList) && ((((rd_T59 l0 x5_1).f1).toList) == (((rd_T59 l1 x5_1).f1).toList))) = true
                  · rw [if_pos c9] at H
                    have c9b0 : ((((rd_T59 l0 x5_1).f0).toList) == (((rd_T59 l1 x5_1).f0).toList) && ((((rd_T59 l0 x5_1).f1).toList) == (((rd_T59 l1 x5_1).f1).toList))) = true := c9; (try (have c9b1 : decide ((((rd_T59 l0 x5_1).f0).toList) = (((rd_T59 l1 x5_1).f0).toList) && ((((rd_T59 l0 x5_1).f1).toList) == (((rd_T59 l1 x5_1).f1).toList))) = true := by simpa using c9)); (try (have c9b2 : ((((rd_T59 l0 x5_1).f0).toList) == (((rd_T59 l1 x5_1).f0).toList) && ((((rd_T59 l0 x5_1).f1).toList) == (((rd_T59 l1 x5_1).f1).toList))) = true := by simpa using c9)); clear c9; have H' := Aside0.mk H; clear H; obtain ⟨ad533, e533, hx533_0, hx533_1⟩ := at_T59 HR0.out x5_1 zd zd
                    cases e533; have p533 := eq_true (zd : 0 ≤ (x5_1 : Int)); have q533 := eq_true (zd : x5_1 < (l0.length : Int)); obtain ⟨ad534, e534, hx534_0, hx534_1⟩ := at_T59 HR1.out x5_1 zd zd
                    cases e534; have p534 := eq_true (zd : 0 ≤ (x5_1 : Int)); have q534 := eq_true (zd : x5_1 < (l1.length : Int)); go_wp2
                    repeat (go_quiet (fail); try go_wp2)
                    go_roundg kj2
                    case measure => have := HK1.out; have := HJ2.out; omega
                    case rel => exact ⟨(wrap64 (x5_1 + 1)), zs, H', ⟨by have := HK1.out; have := HJ2.out; omega⟩, by repeat (first | exact Drawn0.refl _ | apply Drawn0.step)⟩
                  · rw [if_neg c9] at H
                    have c9b0 : ((((rd_T59 l0 x5_1).f0).toList) == (((rd_T59 l1 x5_1).f0).toList) && ((((rd_T59 l0 x5_1).f1).toList) == (((rd_T59 l1 x5_1).f1).toList))) = false := by simpa using c9
                    (try (have c9b1 : decide ((((rd_T59 l0 x5_1).f0).toList) = (((rd_T59 l1 x5_1).f0).toList) && ((((rd_T59 l0 x5_1).f1).toList) == (((rd_T59 l1 x5_1).f1).toList))) = false := by simpa using c9)); (try (have c9b2 : ((((rd_T59 l0 x5_1).f0).toList) == (((rd_T59 l1 x5_1).f0).toList) && ((((rd_T59 l0 x5_1).f1).toList) == (((rd_T59 l1 x5_1).f1).toList))) = false := by simpa using c9)); (try (have c9b3 : ¬ ((((rd_T59 l0 x5_1).f0).toList) = (((rd_T59 l1 x5_1).f0).toList) && ((((rd_T59 l0 x5_1).f1).toList) == (((rd_T59 l1 x5_1).f1).toList))) := by simpa using c9)); clear c9; by_cases c10 : (Op.bytesLess (((rd_T59 l0 x5_1).f0).toList) (((rd_T59 l1 x5_1).f0).toList)) = true
                    · rw [if_pos c10] at H
                      have c10b0 : (Op.bytesLess (((rd_T59 l0 x5_1).f0).toList) (((rd_T59 l1 x5_1).f0).toList)) = true := c10; clear c10; obtain rfl := Option.some.inj H; obtain ⟨ad533, e533, hx533_0, hx533_1⟩ := at_T59 HR0.out x5_1 zd zd
                      cases e533; have p533 := eq_true (zd : 0 ≤ (x5_1 : Int)); have q533 := eq_true (zd : x5_1 < (l0.length : Int)); obtain ⟨ad534, e534, hx534_0, hx534_1⟩ := at_T59 HR1.out x5_1 zd zd
                      cases e534; have p534 := eq_true (zd : 0 ≤ (x5_1 : Int)); have q534 := eq_true (zd : x5_1 < (l1.length : Int)); obtain ⟨ad535, e535, hx535_0, hx535_1⟩ := at_T59 HR0.out x5_1 zd zd; obtain rfl : ad533 = ad535 := (by injection e535); have p535 := eq_true (zd : 0 ≤ (x5_1 : Int)); have q535 := eq_true (zd : x5_1 < (l0.length : Int)); obtain ⟨ad536, e536, hx536_0, hx536_1⟩ := at_T59 HR1.out x5_1 zd zd; obtain rfl : ad534 = ad536 := (by injection e536); have p536 := eq_true (zd : 0 ≤ (x5_1 : Int)); have q536 := eq_true (zd : x5_1 < (l1.length : Int)); go_wp2
                      repeat (go_quiet (fail); try go_wp2)
                      go_ret
                      exact ⟨zs, by repeat (first | exact Drawn0.refl _ | apply Drawn0.step)⟩
                    · rw [if_neg c10] at H
                      have c10b0 : (Op.bytesLess (((rd_T59 l0 x5_1).f0).toList) (((rd_T59 l1 x5_1).f0).toList)) = false := by simpa using c10
                      clear c10; by_cases c11 : ((rd_T59 l0 x5_1).f0).toList = ((rd_T59 l1 x5_1).f0).toList
                      · rw [if_pos c11] at H
                        have c11b0 : (((rd_T59 l0 x5_1).f0).toList == ((rd_T59 l1 x5_1).f0).toList) = true := beq_iff_eq.mpr c11; have c11b1 : (((rd_T59 l0 x5_1).f0).toList != ((rd_T59 l1 x5_1).f0).toList) = false := bne_eq_false_iff_eq.mpr c11; have c9z : ((((rd_T59 l0 x5_1).f1).toList) == (((rd_T59 l1 x5_1).f1).toList)) = false := by simpa [c11b0] using c9b0
                        clear c11; by_cases c12 : (Op.bytesLess (((rd_T59 l0 x5_1).f1).toList) (((rd_T59 l1 x5_1).f1).toList)) = true
                        · rw [if_pos c12] at H
                          have c12b0 : (Op.bytesLess (((rd_T59 l0 x5_1).f1).toList) (((rd_T59 l1 x5_1).f1).toList)) = true := c12; clear c12; obtain rfl := Option.some.inj H; obtain ⟨ad533, e533, hx533_0, hx533_1⟩ := at_T59 HR0.out x5_1 zd zd
                          cases e533; have p533 := eq_true (zd : 0 ≤ (x5_1 : Int)); have q533 := eq_true (zd : x5_1 < (l0.length : Int)); obtain ⟨ad534, e534, hx534_0, hx534_1⟩ := at_T59 HR1.out x5_1 zd zd
                          cases e534; have p534 := eq_true (zd : 0 ≤ (x5_1 : Int)); have q534 := eq_true (zd : x5_1 < (l1.length : Int)); obtain ⟨ad535, e535, hx535_0, hx535_1⟩ := at_T59 HR0.out x5_1 zd zd; obtain rfl : ad533 = ad535 := (by injection e535); have p535 := eq_true (zd : 0 ≤ (x5_1 : Int)); have q535 := eq_true (zd : x5_1 < (l0.length : Int)); obtain ⟨ad536, e536, hx536_0, hx536_1⟩ := at_T59 HR1.out x5_1 zd zd; obtain rfl : ad534 = ad536 := (by injection e536); have p536 := eq_true (zd : 0 ≤ (x5_1 : Int)); have q536 := eq_true (zd : x5_1 < (l1.length : Int)); obtain ⟨ad537, e537, hx537_0, hx537_1⟩ := at_T59 HR0.out x5_1 zd zd; obtain rfl : ad533 = ad537 := (by injection e537); have p537 := eq_true (zd : 0 ≤ (x5_1 : Int)); have q537 := eq_true (zd : x5_1 < (l0.length : Int)); obtain ⟨ad538, e538, hx538_0, hx538_1⟩ := at_T59 HR1.out x5_1 zd zd; obtain rfl : ad534 = ad538 := (by injection e538); have p538 := eq_true (zd : 0 ≤ (x5_1 : Int)); have q538 := eq_true (zd : x5_1 < (l1.length : Int)); obtain ⟨ad539, e539, hx539_0, hx539_1⟩ := at_T59 HR0.out x5_1 zd zd; obtain rfl : ad533 = ad539 := (by injection e539); have p539 := eq_true (zd : 0 ≤ (x5_1 : Int)); have q539 := eq_true (zd : x5_1 < (l0.length : Int)); obtain ⟨ad540, e540, hx540_0, hx540_1⟩ := at_T59 HR1.out x5_1 zd zd
                          obtain rfl : ad534 = ad540 := (by injection e540); have p540 := eq_true (zd : 0 ≤ (x5_1 : Int)); have q540 := eq_true (zd : x5_1 < (l1.length : Int)); go_wp2
                          repeat (go_quiet (fail); try go_wp2)
                          go_ret
                          exact ⟨zs, by repeat (first | exact Drawn0.refl _ | apply Drawn0.step)⟩
                        · rw [if_neg c12] at H
                          have c12b0 : (Op.bytesLess (((rd_T59 l0 x5_1).f1).toList) (((rd_T59 l1 x5_1).f1).toList)) = false := by simpa using c12
                          clear c12; obtain rfl := Option.some.inj H; obtain ⟨ad533, e533, hx533_0, hx533_1⟩ := at_T59 HR0.out x5_1 zd zd
                          cases e533; have p533 := eq_true (zd : 0 ≤ (x5_1 : Int)); have q533 := eq_true (zd : x5_1 < (l0.length : Int)); obtain ⟨ad534, e534, hx534_0, hx534_1⟩ := at_T59 HR1.out x5_1 zd zd
                          cases e534; have p534 := eq_true (zd : 0 ≤ (x5_1 : Int)); have q534 := eq_true (zd : x5_1 < (l1.length : Int)); obtain ⟨ad535, e535, hx535_0, hx535_1⟩ := at_T59 HR0.out x5_1 zd zd; obtain rfl : ad533 = ad535 := (by injection e535); have p535 := eq_true (zd : 0 ≤ (x5_1 : Int)); have q535 := eq_true (zd : x5_1 < (l0.length : Int)); obtain ⟨ad536, e536, hx536_0, hx536_1⟩ := at_T59 HR1.out x5_1 zd zd; obtain rfl : ad534 = ad536 := (by injection e536); have p536 := eq_true (zd : 0 ≤ (x5_1 : Int)); have q536 := eq_true (zd : x5_1 < (l1.length : Int)); obtain ⟨ad537, e537, hx537_0, hx537_1⟩ := at_T59 HR0.out x5_1 zd zd; obtain rfl : ad533 = ad537 := (by injection e537); have p537 := eq_true (zd : 0 ≤ (x5_1 : Int)); have q537 := eq_true (zd : x5_1 < (l0.length : Int)); obtain ⟨ad538, e538, hx538_0, hx538_1⟩ := at_T59 HR1.out x5_1 zd zd; obtain rfl : ad534 = ad538 := (by injection e538); have p538 := eq_true (zd : 0 ≤ (x5_1 : Int)); have q538 := eq_true (zd : x5_1 < (l1.length : Int)); obtain ⟨ad539, e539, hx539_0, hx539_1⟩ := at_T59 HR0.out x5_1 zd zd; obtain rfl : ad533 = ad539 := (by injection e539); have p539 := eq_true (zd : 0 ≤ (x5_1 : Int)); have q539 := eq_true (zd : x5_1 < (l0.length : Int)); obtain ⟨ad540, e540, hx540_0, hx540_1⟩ := at_T59 HR1.out x5_1 zd zd
                          obtain rfl : ad534 = ad540 := (by injection e540); have p540 := eq_true (zd : 0 ≤ (x5_1 : Int)); have q540 := eq_true (zd : x5_1 < (l1.length : Int)); go_wp2
                          repeat (go_quiet (fail); try go_wp2)
                          go_ret
                          exact ⟨zs, by repeat (first | exact Drawn0.refl _ | apply Drawn0.step)⟩
                      · rw [if_neg c11] at H
                        have c11b0 : (((rd_T59 l0 x5_1).f0).toList == ((rd_T59 l1 x5_1).f0).toList) = false := beq_eq_false_iff_ne.mpr c11; have c11b1 : (((rd_T59 l0 x5_1).f0).toList != ((rd_T59 l1 x5_1).f0).toList) = true := bne_iff_ne.mpr c11; obtain rfl := Option.some.inj H; obtain ⟨ad533, e533, hx533_0, hx533_1⟩ := at_T59 HR0.out x5_1 zd zd
                        cases e533; have p533 := eq_true (zd : 0 ≤ (x5_1 : Int)); have q533 := eq_true (zd : x5_1 < (l0.length : Int)); obtain ⟨ad534, e534, hx534_0, hx534_1⟩ := at_T59 HR1.out x5_1 zd zd
                        cases e534; have p534 := eq_true (zd : 0 ≤ (x5_1 : Int)); have q534 := eq_true (zd : x5_1 < (l1.length : Int)); obtain ⟨ad535, e535, hx535_0, hx535_1⟩ := at_T59 HR0.out x5_1 zd zd; obtain rfl : ad533 = ad535 := (by injection e535); have p535 := eq_true (zd : 0 ≤ (x5_1 : Int)); have q535 := eq_true (zd : x5_1 < (l0.length : Int)); obtain ⟨ad536, e536, hx536_0, hx536_1⟩ := at_T59 HR1.out x5_1 zd zd; obtain rfl : ad534 = ad536 := (by injection e536); have p536 := eq_true (zd : 0 ≤ (x5_1 : Int)); have q536 := eq_true (zd : x5_1 < (l1.length : Int)); obtain ⟨ad537, e537, hx537_0, hx537_1⟩ := at_T59 HR0.out x5_1 zd zd; obtain rfl : ad533 = ad537 := (by injection e537); have p537 := eq_true (zd : 0 ≤ (x5_1 : Int)); have q537 := eq_true (zd : x5_1 < (l0.length : Int)); obtain ⟨ad538, e538, hx538_0, hx538_1⟩ := at_T59 HR1.out x5_1 zd zd; obtain rfl : ad534 = ad538 := (by injection e538); have p538 := eq_true (zd : 0 ≤ (x5_1 : Int)); have q538 := eq_true (zd : x5_1 < (l1.length : Int)); go_wp2
                        repeat (go_quiet (fail); try go_wp2)
                        go_ret
                        exact ⟨zs, by repeat (first | exact Drawn0.refl _ | apply Drawn0.step)⟩
                · rw [if_neg c8] at H
                  exact absurd H (by simp)
              · rw [if_neg c7] at H
                exact absurd H (by simp)
            · rw [if_neg c6] at H
              exact absurd H (by simp)
          · replace c5 := Bool.eq_false_iff.mpr c5
            subst c5; have H1 : (if (l0.length : Int) < (l1.length : Int) then (some (-1)) else (if (l0.length : Int) > (l1.length : Int) then (some 1) else (some 0))) = some r := by rw [if_neg (show ¬ (false = true) by decide)] at H; exact H
            clear H; have H := H1; clear H1; by_cases c13 : (l0.length : Int) < (l1.length : Int)
            · rw [if_pos c13] at H
              have c13b0 : decide ((l0.length : Int) < (l1.length : Int)) = true := decide_eq_true c13; have c13b1 : decide (l0.length < l1.length) = true := decide_eq_true (Int.ofNat_lt.mp c13); clear c13; obtain rfl := Option.some.inj H; go_wp2
              repeat (go_quiet (fail); try go_wp2)
              go_ret
              exact ⟨zs, by repeat (first | exact Drawn0.refl _ | apply Drawn0.step)⟩
            · rw [if_neg c13] at H
              have c13b0 : decide ((l0.length : Int) < (l1.length : Int)) = false := decide_eq_false c13; have c13b1 : decide (l0.length < l1.length) = false := decide_eq_false (fun h => c13 (Int.ofNat_lt.mpr h)); clear c13; by_cases c14 : (l0.length : Int) > (l1.length : Int)
              · rw [if_pos c14] at H
                have c14b0 : decide ((l1.length : Int) < (l0.length : Int)) = true := decide_eq_true c14; have c14b1 : decide (l1.length < l0.length) = true := decide_eq_true (Int.ofNat_lt.mp c14); clear c14; obtain rfl := Option.some.inj H; go_wp2
                repeat (go_quiet (fail); try go_wp2)
                go_ret
                exact ⟨zs, by repeat (first | exact Drawn0.refl _ | apply Drawn0.step)⟩
              · rw [if_neg c14] at H
                have c14b0 : decide ((l1.length : Int) < (l0.length : Int)) = false := decide_eq_false c14; have c14b1 : decide (l1.length < l0.length) = false := decide_eq_false (fun h => c14 (Int.ofNat_lt.mpr h)); clear c14; obtain rfl := Option.some.inj H; go_wp2
                repeat (go_quiet (fail); try go_wp2)
                go_ret
                exact ⟨zs, by repeat (first | exact Drawn0.refl _ | apply Drawn0.step)⟩

def abacusref12_Same.f (k : Nat) (l0 : List (S59)) (l1 : List (S59)) : Option (Bool) := if (l0.length : Int) = (l1.length : Int) then ((abacusref12_Compare.f k l0 l1).bind fun t541 => (some (t541 == 0))) else (some false)
set_option maxHeartbeats 8000000 in
set_option maxRecDepth 100000 in
theorem abacusref12_Same.calls (k : Nat) (A0 : Option Addr) (c0 : Nat) (l0 : List (S59)) (A1 : Option Addr) (c1 : Nat) (l1 : List (S59)) (r : Bool) (w : World) (hr0 : Kd.C k59 w A0 l0.length l0) (hc0 : l0.length ≤ c0) (hr1 : Kd.C k59 w A1 l1.length l1) (hc1 : l1.length ≤ c1) (h : abacusref12_Same.f k l0 l1 = some r) :
    Calls Tryd.prog 16 #[.slice A0 l0.length c0, .slice A1 l1.length c1] w fun e w' => e = .returned (.bool r) ∧ Drawn0 w w' := by
  have HR0 := Aside0.mk hr0; have HC0 := Aside0.mk hc0; clear hr0 hc0; have HR1 := Aside0.mk hr1; have HC1 := Aside0.mk hc1; clear hr1 hc1; have H : (if (l0.length : Int) = (l1.length : Int) then ((abacusref12_Compare.f k l0 l1).bind fun t541 => (some (t541 == 0))) else (some false)) = some r := h; clear h; by_cases c3 : (l0.length : Int) = (l1.length : Int)
  · rw [if_pos c3] at H
    have c3b0 : ((l0.length : Int) == (l1.length : Int)) = true := beq_iff_eq.mpr c3; have c3b1 : ((l0.length : Int) != (l1.length : Int)) = false := bne_eq_false_iff_eq.mpr c3; have c3b2 : (l0.length == l1.length) = true := by first | simpa using c3 | (simp at c3 ⊢; omega)
    clear c3; replace H := Option.bind_eq_some_iff.mp H; obtain ⟨t541, A40, H⟩ := H; replace H : (some (t541 == 0)) = some r := H; have A4 := Aside0.mk A40; clear A40; obtain rfl := Option.some.inj H; go_enter Tryd.func16, Tryd.ntmps16; go_wp2_with (first | (go_at_call 44; (with_reducible refine (abacusref12_Compare.calls k _ _ l0 _ _ l1 t541 _ ?side1 ?side2 ?side3 ?side4 A4.out).mono ?_); (case side1 => repeat (first | exact HR0.out | (with_reducible refine Kd.C_alloc ?_ _) | (with_reducible refine Kd.C_drewN ?_ _) | (with_reducible refine Kd.C_drew ?_))); (case side2 => exact HC0.out); (case side3 => repeat (first | exact HR1.out | (with_reducible refine Kd.C_alloc ?_ _) | (with_reducible refine Kd.C_drewN ?_ _) | (with_reducible refine Kd.C_drew ?_))); (case side4 => exact HC1.out); rintro e w' ⟨rfl, ⟨nd, rfl⟩⟩))
    go_ret
    exact ⟨zs, by repeat (first | exact Drawn0.refl _ | apply Drawn0.step)⟩
  · rw [if_neg c3] at H
    have c3b0 : ((l0.length : Int) == (l1.length : Int)) = false := beq_eq_false_iff_ne.mpr c3; have c3b1 : ((l0.length : Int) != (l1.length : Int)) = true := bne_iff_ne.mpr c3; have c3b2 : (l0.length == l1.length) = false := by first | simpa using c3 | (simp at c3 ⊢; omega)
    obtain rfl := Option.some.inj H; go_enter Tryd.func16, Tryd.ntmps16; go_wp2; go_ret
    exact ⟨zs, by repeat (first | exact Drawn0.refl _ | apply Drawn0.step)⟩

def labels_Get.l0 : Nat → ByteArray → List (S59) → Int → Int → Option (ByteArray × Bool)
  | 0, _, _, _, _ => none
  | k + 1, x1, x8, x9, x10 => if x10 < x9 then (if 0 ≤ x10 then (if x10 < (x8.length : Int) then (if ((rd_T59 x8 x10).f0).toList = x1.toList then (some ((rd_T59 x8 x10).f1, true)) else (labels_Get.l0 k x1 x8 x9 (wrap64 (x10 + 1)))) else (none)) else (none)) else (some ((⟨#[]⟩ : ByteArray), false))
def labels_Get.f (k : Nat) (l0 : List (S59)) (a1 : ByteArray) : Option (ByteArray × Bool) := labels_Get.l0 k a1 l0 (l0.length : Int) 0
theorem labels_Get.mono_l : ∀ k, (∀ y0 y1 y2 y3, LeO (labels_Get.l0 k y0 y1 y2 y3) (labels_Get.l0 (k + 1) y0 y1 y2 y3))
  | 0 => fun _ _ _ _ r h => by simp [labels_Get.l0] at h
  | k + 1 => by
    have ih0 := labels_Get.mono_l k
    · intro y0 y1 y2 y3
      unfold labels_Get.l0
      repeat' first
      | (with_reducible exact ih0 _ _ _ _)
      | (with_reducible exact LeO.refl _)
      | (with_reducible exact LeO.none _)
      | (with_reducible refine LeO.ite ?_ ?_)
      | (with_reducible refine LeO.bind ?_ (fun _ => ?_))
      | exact ih0 _ _ _ _
      | exact LeO.none _
      | refine LeO.ite ?_ ?_
      | refine LeO.bind ?_ (fun _ => ?_)
theorem labels_Get.mono : ∀ a0 a1 k, LeO (labels_Get.f k a0 a1) (labels_Get.f (k + 1) a0 a1) := by
  intro a0 a1 k; have ih0 := labels_Get.mono_l k; unfold labels_Get.f
  repeat' first
      | (with_reducible exact ih0 _ _ _ _)
      | (with_reducible exact LeO.refl _)
      | (with_reducible exact LeO.none _)
      | (with_reducible refine LeO.ite ?_ ?_)
      | (with_reducible refine LeO.bind ?_ (fun _ => ?_))
      | exact ih0 _ _ _ _
      | exact LeO.none _
      | refine LeO.ite ?_ ?_
      | refine LeO.bind ?_ (fun _ => ?_)
set_option maxHeartbeats 8000000 in
set_option maxRecDepth 100000 in
theorem labels_Get.calls (k : Nat) (A0 : Option Addr) (c0 : Nat) (l0 : List (S59)) (a1 : ByteArray) (r1 : ByteArray) (r2 : Bool) (w : World) (hr0 : Kd.C k59 w A0 l0.length l0) (hc0 : l0.length ≤ c0) (h : labels_Get.f k l0 a1 = some (r1, r2)) :
    Calls Tryd.prog 40 #[.slice A0 l0.length c0, .string a1] w fun e w' => e = .returned (.tuple #[.string r1, .bool r2]) ∧ Below w.heap.size w w' := by
  have hu59 := Tryd.underlying59; have HR0 := Aside0.mk hr0; have HC0 := Aside0.mk hc0; clear hr0 hc0; have HB := Aside0.mk (Below.refl w.heap.size w); have H : (labels_Get.l0 k a1 l0 (l0.length : Int) 0) = some (r1, r2) := h; clear h; have H' := Aside0.mk H; clear H; go_enter Tryd.func40, Tryd.ntmps40; go_wp2; go_loopg [10] k (fun kq v10 w' => ∃ (x10_1 : Int), v10 = .int .i64 x10_1 ∧ Aside0 (labels_Get.l0 kq a1 l0 (l0.length : Int) x10_1 = some (r1, r2)) ∧ Aside0 (kq ≤ k) ∧ Aside0 (Below w.heap.size w w'))
  case atStart => exact ⟨(0), zs, H', ⟨Nat.le_refl _⟩, ⟨zb HB.out⟩⟩
  case round =>
    clear H'; (try clear p2); obtain ⟨x10_1, rfl, HA, HK1, HB⟩ := hrel
    cases gk with
    | zero => exact absurd HA.out (by simp [labels_Get.l0])
    | succ k1 =>
      have H := HA.out; clear HA; simp only [labels_Get.l0] at H; by_cases c3 : x10_1 < (l0.length : Int)
      · rw [if_pos c3] at H
        have c3b0 : decide (x10_1 < (l0.length : Int)) = true := decide_eq_true c3; clear c3; by_cases c4 : 0 ≤ x10_1
        · rw [if_pos c4] at H
          have c4b0 : decide (0 ≤ x10_1) = true := decide_eq_true c4; clear c4; by_cases c5 : x10_1 < (l0.length : Int)
          · rw [if_pos c5] at H
            have c5b0 : decide (x10_1 < (l0.length : Int)) = true := decide_eq_true c5; clear c5; by_cases c6 : ((rd_T59 l0 x10_1).f0).toList = a1.toList
            · rw [if_pos c6] at H
              have c6b0 : (((rd_T59 l0 x10_1).f0).toList == a1.toList) = true := beq_iff_eq.mpr c6; have c6b1 : (((rd_T59 l0 x10_1).f0).toList != a1.toList) = false := bne_eq_false_iff_eq.mpr c6; clear c6; simp only [Option.some.injEq, Prod.mk.injEq] at H; obtain ⟨rfl, rfl⟩ := H; obtain ⟨ad542, e542, hx542_0, hx542_1⟩ := at_T59 HR0.out x10_1 zd zd
              cases e542; replace hx542_0 := zw HB.out hx542_0; replace hx542_1 := zw HB.out hx542_1; have p542 := eq_true (zd : 0 ≤ (x10_1 : Int)); have q542 := eq_true (zd : x10_1 < (l0.length : Int)); go_wp2_with (first | ((with_reducible refine gate_dst (N := 7) rfl ?_); refine box_event ?hg (N := 7) ?hd (cs := #[.string (⟨#[]⟩ : ByteArray), .string (⟨#[]⟩ : ByteArray)]) (t := 59) ?hr ?_; (case hd => rfl); (case hg => rfl); (case hr => first | (go_simp; done) | (go_simp; rfl)); intro gb543 hg w7 hbox hb; have BK543 := Aside0.mk (hbox); have GW543 := Aside0.mk ((by rw [hg]; exact (below_size (zb HB.out)) : w.heap.size ≤ gb543)); have GE543 := Aside0.mk ((by rw [hg]; exact (below_size (zb HB.out)) : w.heap.size ≤ gb543)); replace HB := Aside0.mk (below_step (zb HB.out) hb); clear hb hbox hg; have hcz8_0 : w7.cell? ⟨gb543, 0, none⟩ = some (.string (⟨#[]⟩ : ByteArray)) := (blk_cell BK543.out 0).trans rfl; have hcz8_1 : w7.cell? ⟨gb543, 1, none⟩ = some (.string (⟨#[]⟩ : ByteArray)) := (blk_cell BK543.out 1).trans rfl; have hfz8_0 := blk_frozen BK543.out 0; have hfz8_1 := blk_frozen BK543.out 1))
              go_ret2
              exact ⟨ze, zg HB.out GE543.out⟩
            · rw [if_neg c6] at H
              have c6b0 : (((rd_T59 l0 x10_1).f0).toList == a1.toList) = false := beq_eq_false_iff_ne.mpr c6; have c6b1 : (((rd_T59 l0 x10_1).f0).toList != a1.toList) = true := bne_iff_ne.mpr c6; have H' := Aside0.mk H; clear H; obtain ⟨ad542, e542, hx542_0, hx542_1⟩ := at_T59 HR0.out x10_1 zd zd
              cases e542; replace hx542_0 := zw HB.out hx542_0; replace hx542_1 := zw HB.out hx542_1; have p542 := eq_true (zd : 0 ≤ (x10_1 : Int)); have q542 := eq_true (zd : x10_1 < (l0.length : Int)); go_wp2_with (first | ((with_reducible refine gate_dst (N := 7) rfl ?_); refine box_event ?hg (N := 7) ?hd (cs := #[.string (⟨#[]⟩ : ByteArray), .string (⟨#[]⟩ : ByteArray)]) (t := 59) ?hr ?_; (case hd => rfl); (case hg => rfl); (case hr => first | (go_simp; done) | (go_simp; rfl)); intro gb543 hg w9 hbox hb; have BK543 := Aside0.mk (hbox); have GW543 := Aside0.mk ((by rw [hg]; exact (below_size (zb HB.out)) : w.heap.size ≤ gb543)); have GE543 := Aside0.mk ((by rw [hg]; exact (below_size (zb HB.out)) : w.heap.size ≤ gb543)); replace HB := Aside0.mk (below_step (zb HB.out) hb); clear hb hbox hg; have hcz10_0 : w9.cell? ⟨gb543, 0, none⟩ = some (.string (⟨#[]⟩ : ByteArray)) := (blk_cell BK543.out 0).trans rfl; have hcz10_1 : w9.cell? ⟨gb543, 1, none⟩ = some (.string (⟨#[]⟩ : ByteArray)) := (blk_cell BK543.out 1).trans rfl; have hfz10_0 := blk_frozen BK543.out 0; have hfz10_1 := blk_frozen BK543.out 1))
              go_roundg k1
              case measure => have := HK1.out; omega
              case rel => exact ⟨(wrap64 (x10_1 + 1)), zs, H', ⟨by have := HK1.out; omega⟩, ⟨zg HB.out GE543.out⟩⟩
          · rw [if_neg c5] at H
            exact absurd H (by simp)
        · rw [if_neg c4] at H
          exact absurd H (by simp)
      · rw [if_neg c3] at H
        have c3b0 : decide (x10_1 < (l0.length : Int)) = false := decide_eq_false c3; clear c3; simp only [Option.some.injEq, Prod.mk.injEq] at H; obtain ⟨rfl, rfl⟩ := H; go_wp2; go_ret2
        exact ⟨ze, zb HB.out⟩

end Go.Proofs.YtogegkfefpgbcaaDoor.PL
