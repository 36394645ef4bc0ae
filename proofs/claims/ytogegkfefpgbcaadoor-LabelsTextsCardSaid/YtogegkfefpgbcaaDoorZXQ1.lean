/- Functions of the labels (packed). -/
import Derived.Test.YtogegkfefpgbcaaDoorZXPLx0
import Derived.Test.YtogegkfefpgbcaaDoorZXPLx1
import Derived.Test.YtogegkfefpgbcaaDoorZXPLx2
namespace Go.Proofs.YtogegkfefpgbcaaDoor.PL
open Go.RowKit Go.Proofs.YtogegkfefpgbcaaDoorW.PrintWords Go.Proofs.YtogegkfefpgbcaaDoorW.PrintLast Go.Proofs.YtogegkfefpgbcaaDoorW.PrintMore
attribute [local go_sem] max2_int min2_int max_two min_two max_three min_three max_four min_four   -- for this text's walks alone
set_option linter.unusedVariables false
set_option linter.unusedSimpArgs false
attribute [local go_sem high] eqA59
attribute [local go_sem high] eqA36

def labels_letter.f (a0 : Int) : Option (Bool) := if a0 ≥ 97 then (if a0 ≤ 122 then (some true) else (if a0 ≥ 65 then (if a0 ≤ 90 then (some true) else (some (a0 == 95))) else (some (a0 == 95)))) else (if a0 ≥ 65 then (if a0 ≤ 90 then (some true) else (some (a0 == 95))) else (some (a0 == 95)))
set_option maxHeartbeats 8000000 in
set_option maxRecDepth 100000 in
theorem labels_letter.calls (a0 : Int) (r : Bool) (w : World) (h : labels_letter.f a0 = some r) :
    Calls Tryd.prog 67 #[.int .u8 a0] w fun e w' => e = .returned (.bool r) ∧ Drawn0 w w' := by
  have H : (if a0 ≥ 97 then (if a0 ≤ 122 then (some true) else (if a0 ≥ 65 then (if a0 ≤ 90 then (some true) else (some (a0 == 95))) else (some (a0 == 95)))) else (if a0 ≥ 65 then (if a0 ≤ 90 then (some true) else (some (a0 == 95))) else (some (a0 == 95)))) = some r := h; clear h; by_cases c2 : a0 ≥ 97
  · rw [if_pos c2] at H
    have c2b0 : decide (97 ≤ a0) = true := decide_eq_true c2; clear c2; by_cases c3 : a0 ≤ 122
    · rw [if_pos c3] at H
      have c3b0 : decide (a0 ≤ 122) = true := decide_eq_true c3; clear c3; obtain rfl := Option.some.inj H; go_enter Tryd.func67, Tryd.ntmps67; go_wp2; go_ret
      exact ⟨zs, by repeat (first | exact Drawn0.refl _ | apply Drawn0.step)⟩
    · rw [if_neg c3] at H
      have c3b0 : decide (a0 ≤ 122) = false := decide_eq_false c3; clear c3; by_cases c4 : a0 ≥ 65
      · rw [if_pos c4] at H
        have c4b0 : decide (65 ≤ a0) = true := decide_eq_true c4; clear c4; by_cases c5 : a0 ≤ 90
        · rw [if_pos c5] at H
          have c5b0 : decide (a0 ≤ 90) = true := decide_eq_true c5; clear c5; obtain rfl := Option.some.inj H; go_enter Tryd.func67, Tryd.ntmps67; go_wp2; go_ret
          exact ⟨zs, by repeat (first | exact Drawn0.refl _ | apply Drawn0.step)⟩
        · rw [if_neg c5] at H
          have c5b0 : decide (a0 ≤ 90) = false := decide_eq_false c5; clear c5; obtain rfl := Option.some.inj H; go_enter Tryd.func67, Tryd.ntmps67; go_wp2; go_ret
          exact ⟨zs, by repeat (first | exact Drawn0.refl _ | apply Drawn0.step)⟩
      · rw [if_neg c4] at H
        have c4b0 : decide (65 ≤ a0) = false := decide_eq_false c4; clear c4; obtain rfl := Option.some.inj H; go_enter Tryd.func67, Tryd.ntmps67; go_wp2; go_ret
        exact ⟨zs, by repeat (first | exact Drawn0.refl _ | apply Drawn0.step)⟩
  · rw [if_neg c2] at H
    have c2b0 : decide (97 ≤ a0) = false := decide_eq_false c2; clear c2; by_cases c6 : a0 ≥ 65
    · rw [if_pos c6] at H
      have c6b0 : decide (65 ≤ a0) = true := decide_eq_true c6; clear c6; by_cases c7 : a0 ≤ 90
      · rw [if_pos c7] at H
        have c7b0 : decide (a0 ≤ 90) = true := decide_eq_true c7; clear c7; obtain rfl := Option.some.inj H; go_enter Tryd.func67, Tryd.ntmps67; go_wp2; go_ret
        exact ⟨zs, by repeat (first | exact Drawn0.refl _ | apply Drawn0.step)⟩
      · rw [if_neg c7] at H
        have c7b0 : decide (a0 ≤ 90) = false := decide_eq_false c7; clear c7; obtain rfl := Option.some.inj H; go_enter Tryd.func67, Tryd.ntmps67; go_wp2; go_ret
        exact ⟨zs, by repeat (first | exact Drawn0.refl _ | apply Drawn0.step)⟩
    · rw [if_neg c6] at H
      have c6b0 : decide (65 ≤ a0) = false := decide_eq_false c6; clear c6; obtain rfl := Option.some.inj H; go_enter Tryd.func67, Tryd.ntmps67; go_wp2; go_ret
      exact ⟨zs, by repeat (first | exact Drawn0.refl _ | apply Drawn0.step)⟩

def labels_named.f (a0 : Int) : Option (Bool) := (labels_letter.f a0).bind fun t103 => (if t103 = true then (some true) else (if a0 ≥ 48 then (some (decide (a0 ≤ 57))) else (some false)))
set_option maxHeartbeats 8000000 in
set_option maxRecDepth 100000 in
theorem labels_named.calls (a0 : Int) (r : Bool) (w : World) (h : labels_named.f a0 = some r) :
    Calls Tryd.prog 68 #[.int .u8 a0] w fun e w' => e = .returned (.bool r) ∧ Drawn0 w w' := by
  have H : ((labels_letter.f a0).bind fun t103 => (if t103 = true then (some true) else (if a0 ≥ 48 then (some (decide (a0 ≤ 57))) else (some false)))) = some r := h; clear h; replace H := Option.bind_eq_some_iff.mp H; obtain ⟨t103, A20, H⟩ := H; replace H : (if t103 = true then (some true) else (if a0 ≥ 48 then (some (decide (a0 ≤ 57))) else (some false))) = some r := H; have A2 := Aside0.mk A20; clear A20; by_cases c3 : t103 = true
  · subst c3
    have H1 : (some true) = some r := by rw [if_pos rfl] at H; exact H
    clear H; have H := H1; clear H1; obtain rfl := Option.some.inj H; go_enter Tryd.func68, Tryd.ntmps68; go_wp2_with (first | ((with_reducible refine gate_callee (f := 67) rfl ?_); refine goesL_ (some 4) rfl rfl Tryd.func67 (by kernel_rfl) rfl #[.int .u8 a0] rfl zl ?_; (with_reducible refine (labels_letter.calls a0 true _ A2.out).mono ?_); rintro e w' ⟨rfl, ⟨nd, rfl⟩⟩; refine ⟨_, rfl, ?_⟩))
    go_ret
    exact ⟨zs, by repeat (first | exact Drawn0.refl _ | apply Drawn0.step)⟩
  · replace c3 := Bool.eq_false_iff.mpr c3
    subst c3; have H1 : (if a0 ≥ 48 then (some (decide (a0 ≤ 57))) else (some false)) = some r := by rw [if_neg (show ¬ (false = true) by decide)] at H; exact H
    clear H; have H := H1; clear H1; by_cases c4 : a0 ≥ 48
    · rw [if_pos c4] at H
      have c4b0 : decide (48 ≤ a0) = true := decide_eq_true c4; clear c4; obtain rfl := Option.some.inj H; go_enter Tryd.func68, Tryd.ntmps68; go_wp2_with (first | ((with_reducible refine gate_callee (f := 67) rfl ?_); refine goesL_ (some 4) rfl rfl Tryd.func67 (by kernel_rfl) rfl #[.int .u8 a0] rfl zl ?_; (with_reducible refine (labels_letter.calls a0 false _ A2.out).mono ?_); rintro e w' ⟨rfl, ⟨nd, rfl⟩⟩; refine ⟨_, rfl, ?_⟩))
      go_ret
      exact ⟨zs, by repeat (first | exact Drawn0.refl _ | apply Drawn0.step)⟩
    · rw [if_neg c4] at H
      have c4b0 : decide (48 ≤ a0) = false := decide_eq_false c4; clear c4; obtain rfl := Option.some.inj H; go_enter Tryd.func68, Tryd.ntmps68; go_wp2_with (first | ((with_reducible refine gate_callee (f := 67) rfl ?_); refine goesL_ (some 4) rfl rfl Tryd.func67 (by kernel_rfl) rfl #[.int .u8 a0] rfl zl ?_; (with_reducible refine (labels_letter.calls a0 false _ A2.out).mono ?_); rintro e w' ⟨rfl, ⟨nd, rfl⟩⟩; refine ⟨_, rfl, ?_⟩))
      go_ret
      exact ⟨zs, by repeat (first | exact Drawn0.refl _ | apply Drawn0.step)⟩

mutual
def labels_Name.j0 : Nat → ByteArray → Bool → Option (Bool)
  | 0, _, _ => none
  | k + 1, x0, x17 => if x17 = true then (some false) else (labels_Name.l0 k x0 (x0.size : Int) 0)
def labels_Name.l0 : Nat → ByteArray → Int → Int → Option (Bool)
  | 0, _, _, _ => none
  | k + 1, x0, x19, x20 => if x20 < x19 then (if 0 ≤ x20 then (if x20 < (x0.size : Int) then ((labels_named.f (bt x0 x20)).bind fun t105 => (if t105 = true then (labels_Name.l0 k x0 x19 (wrap64 (x20 + 1))) else (some false))) else (none)) else (none)) else (some true)
end
def labels_Name.f (k : Nat) (a0 : ByteArray) : Option (Bool) := if (a0.size : Int) < 1 then (labels_Name.j0 k a0 true) else (if (a0.size : Int) > 64 then (labels_Name.j0 k a0 true) else (if 0 < (a0.size : Int) then ((labels_letter.f (bt a0 0)).bind fun t104 => (labels_Name.j0 k a0 (!t104))) else (none)))
theorem labels_Name.mono_l : ∀ k, (∀ y0 y1, LeO (labels_Name.j0 k y0 y1) (labels_Name.j0 (k + 1) y0 y1)) ∧ (∀ y0 y1 y2, LeO (labels_Name.l0 k y0 y1 y2) (labels_Name.l0 (k + 1) y0 y1 y2))
  | 0 => ⟨fun _ _ r h => by simp [labels_Name.j0] at h, fun _ _ _ r h => by simp [labels_Name.l0] at h⟩
  | k + 1 => by
    obtain ⟨ih0, ih1⟩ := labels_Name.mono_l k; refine ⟨?_, ?_⟩
    · intro y0 y1
      unfold labels_Name.j0
      repeat' first
      | (with_reducible exact ih0 _ _)
      | (with_reducible exact ih1 _ _ _)
      | (with_reducible exact LeO.refl _)
      | (with_reducible exact LeO.none _)
      | (with_reducible refine LeO.ite ?_ ?_)
      | (with_reducible refine LeO.bind ?_ (fun _ => ?_))
      | exact ih0 _ _
      | exact ih1 _ _ _
      | exact LeO.none _
      | refine LeO.ite ?_ ?_
      | refine LeO.bind ?_ (fun _ => ?_)
    · intro y0 y1 y2
      unfold labels_Name.l0
      repeat' first
      | (with_reducible exact ih0 _ _)
      | (with_reducible exact ih1 _ _ _)
      | (with_reducible exact LeO.refl _)
      | (with_reducible exact LeO.none _)
      | (with_reducible refine LeO.ite ?_ ?_)
      | (with_reducible refine LeO.bind ?_ (fun _ => ?_))
      | exact ih0 _ _
      | exact ih1 _ _ _
      | exact LeO.none _
      | refine LeO.ite ?_ ?_
      | refine LeO.bind ?_ (fun _ => ?_)
theorem labels_Name.mono : ∀ a0 k, LeO (labels_Name.f k a0) (labels_Name.f (k + 1) a0) := by
  intro a0 k; obtain ⟨ih0, ih1⟩ := labels_Name.mono_l k; unfold labels_Name.f
  repeat' first
      | (with_reducible exact ih0 _ _)
      | (with_reducible exact ih1 _ _ _)
      | (with_reducible exact LeO.refl _)
      | (with_reducible exact LeO.none _)
      | (with_reducible refine LeO.ite ?_ ?_)
      | (with_reducible refine LeO.bind ?_ (fun _ => ?_))
      | exact ih0 _ _
      | exact ih1 _ _ _
      | exact LeO.none _
      | refine LeO.ite ?_ ?_
      | refine LeO.bind ?_ (fun _ => ?_)
set_option maxHeartbeats 8000000 in
set_option maxRecDepth 100000 in
theorem labels_Name.calls (k : Nat) (a0 : ByteArray) (r : Bool) (w : World) (h : labels_Name.f k a0 = some r) :
    Calls Tryd.prog 30 #[.string a0] w fun e w' => e = .returned (.bool r) ∧ Drawn0 w w' := by
  have H : (if (a0.size : Int) < 1 then (labels_Name.j0 k a0 true) else (if (a0.size : Int) > 64 then (labels_Name.j0 k a0 true) else (if 0 < (a0.size : Int) then ((labels_letter.f (bt a0 0)).bind fun t104 => (labels_Name.j0 k a0 (!t104))) else (none)))) = some r := h; clear h; have HC2 := Aside0.mk H; clear H; go_enter Tryd.func30, Tryd.ntmps30; go_upto_region 1 with (fail)
  go_cut [17] (fun v17 wc => ∃ (kq : Nat) (x17_1 : Bool), v17 = .bool x17_1 ∧ Aside0 (labels_Name.j0 kq a0 x17_1 = some r) ∧ Aside0 (kq ≤ k) ∧ Drawn0 w wc)
  case first =>
    have H := HC2.out; clear HC2; by_cases c3 : (a0.size : Int) < 1
    · rw [if_pos c3] at H
      have c3b0 : decide ((a0.size : Int) < 1) = true := decide_eq_true c3; have c3b1 : decide (a0.size < 1) = true := decide_eq_true (by omega); clear c3; (first | rw [c3b0] | (simp only [i64_w, i32_w]; rw [c3b0]) | skip); have H' := Aside0.mk H; clear H; go_wp2; go_meet
      case rel => exact ⟨_, (true), zs, H', ⟨by first | omega | exact Nat.le_refl _⟩, by repeat (first | exact Drawn0.refl _ | apply Drawn0.step)⟩
    · rw [if_neg c3] at H
      have c3b0 : decide ((a0.size : Int) < 1) = false := decide_eq_false c3; have c3b1 : decide (a0.size < 1) = false := decide_eq_false (by omega); clear c3; (first | rw [c3b0] | (simp only [i64_w, i32_w]; rw [c3b0]) | skip); by_cases c4 : (a0.size : Int) > 64
      · rw [if_pos c4] at H
        have c4b0 : decide (64 < (a0.size : Int)) = true := decide_eq_true c4; have c4b1 : decide (64 < a0.size) = true := decide_eq_true (by omega); clear c4; have H' := Aside0.mk H; clear H; go_wp2; go_meet
        case rel => exact ⟨_, (true), zs, H', ⟨by first | omega | exact Nat.le_refl _⟩, by repeat (first | exact Drawn0.refl _ | apply Drawn0.step)⟩
      · rw [if_neg c4] at H
        have c4b0 : decide (64 < (a0.size : Int)) = false := decide_eq_false c4; have c4b1 : decide (64 < a0.size) = false := decide_eq_false (by omega); clear c4; by_cases c5 : 0 < (a0.size : Int)
        · rw [if_pos c5] at H
          have c5b0 : decide (0 < (a0.size : Int)) = true := decide_eq_true c5; have c5b1 : decide (0 < a0.size) = true := decide_eq_true (by omega); clear c5; replace H := Option.bind_eq_some_iff.mp H; obtain ⟨t104, A70, H⟩ := H; replace H : (labels_Name.j0 k a0 (!t104)) = some r := H; have A7 := Aside0.mk A70; clear A70; have H' := Aside0.mk H; clear H; have p6 : 0 ≤ (0 : Int) := (by omega); have q6 : 0 < a0.size := (by have : (0 : Int) < (a0.size : Int) := of_decide_eq_true za; omega); have hx6 : ∀ h : 0 < a0.size, ((a0[0]'h).toNat : Int) = bt a0 0 := bt_at a0 0; clear p6; have qi6 : (0 < (a0.size : Int)) = True := eq_true (of_decide_eq_true za); replace q6 := eq_true q6; go_wp2_with (first | (go_at_call 67; (with_reducible refine (labels_letter.calls (bt a0 0) t104 _ A7.out).mono ?_); rintro e w' ⟨rfl, ⟨nd, rfl⟩⟩))
          go_meet
          case rel => exact ⟨_, (!t104), zs, H', ⟨by first | omega | exact Nat.le_refl _⟩, by repeat (first | exact Drawn0.refl _ | apply Drawn0.step)⟩
        · rw [if_neg c5] at H
          exact absurd H (by simp)
  case rest =>
    clear HC2; (try clear p2); (try clear c3); (try clear c3b0); (try clear c3b1); (try clear c4); (try clear c4b0); (try clear c4b1); (try clear c5); (try clear c5b0); (try clear c5b1); (try clear p6); (try clear q6); (try clear hx6); (try clear qi6); (try clear p6); (try clear q6); obtain ⟨kq, x17_1, rfl, HA, HJ1, ⟨mc1, rfl⟩⟩ := hcut
    cases kq with
    | zero => exact absurd HA.out (by simp [labels_Name.j0])
    | succ kj1 =>
      have H := HA.out; clear HA; simp only [labels_Name.j0] at H; by_cases c8 : x17_1 = true
      · subst c8
        have H1 : (some false) = some r := by rw [if_pos rfl] at H; exact H
        clear H; have H := H1; clear H1; obtain rfl := Option.some.inj H; go_wp2; go_ret
        exact ⟨zs, by repeat (first | exact Drawn0.refl _ | apply Drawn0.step)⟩
      · replace c8 := Bool.eq_false_iff.mpr c8
        subst c8; have H1 : (labels_Name.l0 kj1 a0 (a0.size : Int) 0) = some r := by rw [if_neg (show ¬ (false = true) by decide)] at H; exact H
        clear H; have H := H1; clear H1; have H' := Aside0.mk H; clear H; go_wp2; go_loopg [20] kj1 (fun kq v20 w' => ∃ (x20_2 : Int), v20 = .int .i64 x20_2 ∧ Aside0 (labels_Name.l0 kq a0 (a0.size : Int) x20_2 = some r) ∧ Aside0 (kq ≤ kj1) ∧ Drawn0 w w')
        case atStart => exact ⟨(0), zs, H', ⟨Nat.le_refl _⟩, by repeat (first | exact Drawn0.refl _ | apply Drawn0.step)⟩
        case round =>
          clear H'; (try clear c1); (try clear p2); (try clear c3); (try clear c3b0); (try clear c3b1); (try clear c4); (try clear c4b0); (try clear c4b1); (try clear c5); (try clear c5b0); (try clear c5b1); (try clear p6); (try clear q6); (try clear hx6); (try clear qi6); (try clear c8); (try clear p2); (try clear p6); (try clear q6); obtain ⟨x20_2, rfl, HA, HK2, ⟨m2, rfl⟩⟩ := hrel
          cases gk with
          | zero => exact absurd HA.out (by simp [labels_Name.l0])
          | succ k2 =>
            have H := HA.out; clear HA; simp only [labels_Name.l0] at H; by_cases c9 : x20_2 < (a0.size : Int)
            · rw [if_pos c9] at H
              have c9b0 : decide (x20_2 < (a0.size : Int)) = true := decide_eq_true c9; clear c9; by_cases c10 : 0 ≤ x20_2
              · rw [if_pos c10] at H
                have c10b0 : decide (0 ≤ x20_2) = true := decide_eq_true c10; clear c10; by_cases c11 : x20_2 < (a0.size : Int)
                · rw [if_pos c11] at H
                  have c11b0 : decide (x20_2 < (a0.size : Int)) = true := decide_eq_true c11; clear c11; replace H := Option.bind_eq_some_iff.mp H; obtain ⟨t105, A130, H⟩ := H; replace H : (if t105 = true then (labels_Name.l0 k2 a0 (a0.size : Int) (wrap64 (x20_2 + 1))) else (some false)) = some r := H; have A13 := Aside0.mk A130; clear A130; by_cases c14 : t105 = true
                  · subst c14
                    have H1 : (labels_Name.l0 k2 a0 (a0.size : Int) (wrap64 (x20_2 + 1))) = some r := by rw [if_pos rfl] at H; exact H
                    clear H; have H := H1; clear H1; have H' := Aside0.mk H; clear H; have p12 := eq_true (zd : 0 ≤ (x20_2 : Int)); have q12 := eq_true (zd : x20_2 < (a0.size : Int)); have hx12 := bt_at a0 x20_2; go_wp2_with (first | ((with_reducible refine gate_callee (f := 68) rfl ?_); refine goesL_ (some 26) rfl rfl Tryd.func68 (by kernel_rfl) rfl #[.int .u8 (bt a0 x20_2)] rfl zl ?_; (with_reducible refine (labels_named.calls (bt a0 x20_2) true _ A13.out).mono ?_); rintro e w' ⟨rfl, ⟨nd, rfl⟩⟩; refine ⟨_, rfl, ?_⟩))
                    go_roundg k2
                    case measure => have := HJ1.out; have := HK2.out; omega
                    case rel => exact ⟨(wrap64 (x20_2 + 1)), zs, H', ⟨by have := HJ1.out; have := HK2.out; omega⟩, by repeat (first | exact Drawn0.refl _ | apply Drawn0.step)⟩
                  · replace c14 := Bool.eq_false_iff.mpr c14
                    subst c14; have H1 : (some false) = some r := by rw [if_neg (show ¬ (false = true) by decide)] at H; exact H
                    clear H; have H := H1; clear H1; obtain rfl := Option.some.inj H; have p12 := eq_true (zd : 0 ≤ (x20_2 : Int)); have q12 := eq_true (zd : x20_2 < (a0.size : Int)); have hx12 := bt_at a0 x20_2; go_wp2_with (first | ((with_reducible refine gate_callee (f := 68) rfl ?_); refine goesL_ (some 26) rfl rfl Tryd.func68 (by kernel_rfl) rfl #[.int .u8 (bt a0 x20_2)] rfl zl ?_; (with_reducible refine (labels_named.calls (bt a0 x20_2) false _ A13.out).mono ?_); rintro e w' ⟨rfl, ⟨nd, rfl⟩⟩; refine ⟨_, rfl, ?_⟩))
                    go_ret
                    exact ⟨zs, by repeat (first | exact Drawn0.refl _ | apply Drawn0.step)⟩
                · rw [if_neg c11] at H
                  exact absurd H (by simp)
              · rw [if_neg c10] at H
                exact absurd H (by simp)
            · rw [if_neg c9] at H
              have c9b0 : decide (x20_2 < (a0.size : Int)) = false := decide_eq_false c9; clear c9; obtain rfl := Option.some.inj H; go_wp2; go_ret
              exact ⟨zs, by repeat (first | exact Drawn0.refl _ | apply Drawn0.step)⟩

mutual
def labels_quoted.l0 : Nat → ByteArray → List Int → Int → Int → Option (ByteArray)
  | 0, _, _, _, _ => none
  | k + 1, x0, x3, x8, x9 => if x9 < x8 then (if 0 ≤ x9 then (if x9 < (x0.size : Int) then (if (bt x0 x9) = 92 then (labels_quoted.j1 k x0 x3 (bt x0 x9) x8 x9 (bt x0 x9) ((bt x0 x9) == 92)) else (labels_quoted.j1 k x0 x3 (bt x0 x9) x8 x9 (bt x0 x9) ((bt x0 x9) == 34))) else (none)) else (none)) else (if x3.length < 140737488355328 then (some (strOfNums (x3 ++ [34]))) else (none))
def labels_quoted.j1 : Nat → ByteArray → List Int → Int → Int → Int → Int → Bool → Option (ByteArray)
  | 0, _, _, _, _, _, _, _ => none
  | k + 1, x0, x3, x5, x8, x9, x15, x20 => if x20 = true then ((some (([92, x5] : List Int) : List Int)).bind fun y119 => (if x3.length + y119.length < 140737488355328 then (labels_quoted.l0 k x0 (x3 ++ y119) x8 (wrap64 (x9 + 1))) else (none))) else (if x15 = 10 then ((some (([92, 110] : List Int) : List Int)).bind fun y125 => (if x3.length + y125.length < 140737488355328 then (labels_quoted.l0 k x0 (x3 ++ y125) x8 (wrap64 (x9 + 1))) else (none))) else (if x3.length < 140737488355328 then (labels_quoted.l0 k x0 (x3 ++ [x5]) x8 (wrap64 (x9 + 1))) else (none)))
end
def labels_quoted.f (k : Nat) (a0 : ByteArray) : Option (ByteArray) := labels_quoted.l0 k a0 (([34] : List Int)) (a0.size : Int) 0
theorem labels_quoted.mono_l : ∀ k, (∀ y0 y1 y2 y3, LeO (labels_quoted.l0 k y0 y1 y2 y3) (labels_quoted.l0 (k + 1) y0 y1 y2 y3)) ∧ (∀ y0 y1 y2 y3 y4 y5 y6, LeO (labels_quoted.j1 k y0 y1 y2 y3 y4 y5 y6) (labels_quoted.j1 (k + 1) y0 y1 y2 y3 y4 y5 y6))
  | 0 => ⟨fun _ _ _ _ r h => by simp [labels_quoted.l0] at h, fun _ _ _ _ _ _ _ r h => by simp [labels_quoted.j1] at h⟩
  | k + 1 => by
    obtain ⟨ih0, ih1⟩ := labels_quoted.mono_l k; refine ⟨?_, ?_⟩
    · intro y0 y1 y2 y3
      unfold labels_quoted.l0
      repeat' first
      | (with_reducible exact ih0 _ _ _ _)
      | (with_reducible exact ih1 _ _ _ _ _ _ _)
      | (with_reducible exact LeO.refl _)
      | (with_reducible exact LeO.none _)
      | (with_reducible refine LeO.ite ?_ ?_)
      | (with_reducible refine LeO.bind ?_ (fun _ => ?_))
      | exact ih0 _ _ _ _
      | exact ih1 _ _ _ _ _ _ _
      | exact LeO.none _
      | refine LeO.ite ?_ ?_
      | refine LeO.bind ?_ (fun _ => ?_)
    · intro y0 y1 y2 y3 y4 y5 y6
      unfold labels_quoted.j1
      repeat' first
      | (with_reducible exact ih0 _ _ _ _)
      | (with_reducible exact ih1 _ _ _ _ _ _ _)
      | (with_reducible exact LeO.refl _)
      | (with_reducible exact LeO.none _)
      | (with_reducible refine LeO.ite ?_ ?_)
      | (with_reducible refine LeO.bind ?_ (fun _ => ?_))
      | exact ih0 _ _ _ _
      | exact ih1 _ _ _ _ _ _ _
      | exact LeO.none _
      | refine LeO.ite ?_ ?_
      | refine LeO.bind ?_ (fun _ => ?_)
theorem labels_quoted.mono : ∀ a0 k, LeO (labels_quoted.f k a0) (labels_quoted.f (k + 1) a0) := by
  intro a0 k; obtain ⟨ih0, ih1⟩ := labels_quoted.mono_l k; unfold labels_quoted.f
  repeat' first
      | (with_reducible exact ih0 _ _ _ _)
      | (with_reducible exact ih1 _ _ _ _ _ _ _)
      | (with_reducible exact LeO.refl _)
      | (with_reducible exact LeO.none _)
      | (with_reducible refine LeO.ite ?_ ?_)
      | (with_reducible refine LeO.bind ?_ (fun _ => ?_))
      | exact ih0 _ _ _ _
      | exact ih1 _ _ _ _ _ _ _
      | exact LeO.none _
      | refine LeO.ite ?_ ?_
      | refine LeO.bind ?_ (fun _ => ?_)
set_option maxHeartbeats 8000000 in
set_option maxRecDepth 100000 in
theorem labels_quoted.calls (k : Nat) (a0 : ByteArray) (r : ByteArray) (w : World) (h : labels_quoted.f k a0 = some r) :
    Calls Tryd.prog 47 #[.string a0] w fun e w' => e = .returned (.string r) ∧ Below w.heap.size w w' := by
  have HB := Aside0.mk (Below.refl w.heap.size w); have H : (labels_quoted.l0 k a0 (([34] : List Int)) (a0.size : Int) 0) = some r := h; clear h; obtain ⟨y113, hy113⟩ : ∃ y_ : List Int, y_ = (([34] : List Int)) := ⟨_, rfl⟩; replace H : (labels_quoted.l0 k a0 y113 (a0.size : Int) 0) = some r := by first | (rw [hy113]; with_reducible exact H) | (have H2_ := (Option.bind_some _ _).symm.trans H; rw [hy113]; with_reducible exact H2_) | (have H2_ := (Option.bind_some _ _).symm.trans H; with_reducible exact H2_) | with_reducible exact H | (rw [hy113]; exact H) | exact H
  have Ny113 := Aside0.mk hy113; clear hy113; have H' := Aside0.mk H; clear H; go_enter Tryd.func47, Tryd.ntmps47; go_wp2_with (first | ((with_reducible refine gate_dst (N := 6) rfl ?_); refine Kd.R_lit (Kd.int .u8) _ 5 ?hg (N := 6) ?hd (xs := ([34] : List Int)) (inner := [.int .u8 34]) (ok := fun _ => True) (okp := fun _ => True) ?hr ?hp (fun _ hk => hk) trivial (Below.refl _ _) (Nat.le_refl _) (by simp) ?_; (case hd => rfl); (case hg => rfl); (case hr => first | (go_simp; done) | (go_simp; rfl)); (case hp => exact (Reps.one (show Kd.M (Kd.int .u8) _ _ _ 34 [.int .u8 34] from rfl) (Reps.none _ _))); intro v114 w2 ho3 hb hg_ hnew_; clear hg_ hnew_; (first | rw [← Ny113.out] at ho3 | (simp only [Int.reduceToNat] at ho3; rw [← Ny113.out] at ho3)); have HO115 := Aside0.mk (Kd.R_lower ho3 (below_size (zb HB.out))); replace HB := Aside0.mk (below_step (zb HB.out) hb); clear hb ho3))
  go_loopg [3, 9] k (fun kq v3 v9 w' => ∃ (x3_1 : List Int) (x9_1 : Int), v9 = .int .i64 x9_1 ∧ Aside0 (labels_quoted.l0 kq a0 x3_1 (a0.size : Int) x9_1 = some r) ∧ Aside0 (kq ≤ k) ∧ Aside0 (Kd.R (Kd.int .u8) 5 w' w.heap.size (fun _ => True) v3 x3_1) ∧ Aside0 (Below w.heap.size w w'))
  case atStart => exact ⟨(y113), (0), zs, H', ⟨Nat.le_refl _⟩, ⟨zr HO115.out⟩, ⟨zb HB.out⟩⟩
  case round =>
    clear H'; (try clear p2); obtain ⟨x3_1, x9_1, rfl, HA, HK1, HO_3, HB⟩ := hrel
    cases gk with
    | zero => exact absurd HA.out (by simp [labels_quoted.l0])
    | succ k1 =>
      have H := HA.out; clear HA; simp only [labels_quoted.l0] at H; by_cases c4 : x9_1 < (a0.size : Int)
      · rw [if_pos c4] at H
        have c4b0 : decide (x9_1 < (a0.size : Int)) = true := decide_eq_true c4; clear c4; by_cases c5 : 0 ≤ x9_1
        · rw [if_pos c5] at H
          have c5b0 : decide (0 ≤ x9_1) = true := decide_eq_true c5; clear c5; by_cases c6 : x9_1 < (a0.size : Int)
          · rw [if_pos c6] at H
            have c6b0 : decide (x9_1 < (a0.size : Int)) = true := decide_eq_true c6; clear c6; have HC8 := Aside0.mk H; clear H; have p7 := eq_true (zd : 0 ≤ (x9_1 : Int)); have q7 := eq_true (zd : x9_1 < (a0.size : Int)); have hx7 := bt_at a0 x9_1; go_upto_if 20 with (fail)
            go_cut [20] (fun v20 wc => ∃ (kq : Nat) (x20_7 : Bool), v20 = .bool x20_7 ∧ Aside0 (labels_quoted.j1 kq a0 x3_1 (bt a0 x9_1) (a0.size : Int) x9_1 (bt a0 x9_1) x20_7 = some r) ∧ Aside0 (kq ≤ k1) ∧ Aside0 (Kd.R (Kd.int .u8) 5 wc w.heap.size (fun _ => True) u3 x3_1) ∧ Aside0 (Below w.heap.size w wc))
            case first =>
              have H := HC8.out; clear HC8; by_cases c9 : (bt a0 x9_1) = 92
              · rw [if_pos c9] at H
                have c9b0 : ((bt a0 x9_1) == 92) = true := beq_iff_eq.mpr c9; have c9b1 : ((bt a0 x9_1) != 92) = false := bne_eq_false_iff_eq.mpr c9; clear c9; (first | rw [c9b0] | (simp only [i64_w, i32_w]; rw [c9b0]) | skip); have H' := Aside0.mk H; clear H; go_wp2; go_meet
                case rel => exact ⟨_, (((bt a0 x9_1) == 92)), zs, H', ⟨by have := HK1.out; first | omega | exact Nat.le_refl _⟩, ⟨zr HO_3.out⟩, ⟨zb HB.out⟩⟩
              · rw [if_neg c9] at H
                have c9b0 : ((bt a0 x9_1) == 92) = false := beq_eq_false_iff_ne.mpr c9; have c9b1 : ((bt a0 x9_1) != 92) = true := bne_iff_ne.mpr c9; (first | rw [c9b0] | (simp only [i64_w, i32_w]; rw [c9b0]) | skip); have H' := Aside0.mk H; clear H; go_wp2; go_meet
                case rel => exact ⟨_, (((bt a0 x9_1) == 34)), zs, H', ⟨by have := HK1.out; first | omega | exact Nat.le_refl _⟩, ⟨zr HO_3.out⟩, ⟨zb HB.out⟩⟩
            case rest =>
              clear HC8; (try clear p2); (try clear c4); (try clear c4b0); (try clear c5); (try clear c5b0); (try clear c6); (try clear c6b0); (try clear p7); (try clear q7); (try clear hx7); (try clear c9); (try clear c9b0); (try clear c9b1); (try clear p2); (try clear p7); (try clear q7); obtain ⟨kq, x20_7, rfl, HA, HJ7, HO_3, HB⟩ := hcut
              cases kq with
              | zero => exact absurd HA.out (by simp [labels_quoted.j1])
              | succ kj7 =>
                have H := HA.out; clear HA; simp only [labels_quoted.j1] at H; by_cases c10 : x20_7 = true
                · subst c10
                  have H1 : ((some (([92, (bt a0 x9_1)] : List Int) : List Int)).bind fun y119 => (if x3_1.length + y119.length < 140737488355328 then (labels_quoted.l0 kj7 a0 (x3_1 ++ y119) (a0.size : Int) (wrap64 (x9_1 + 1))) else (none))) = some r := by rw [if_pos rfl] at H; exact H
                  clear H; have H := H1; clear H1; obtain ⟨y119, hy119⟩ : ∃ y_ : List Int, y_ = (([92, (bt a0 x9_1)] : List Int)) := ⟨_, rfl⟩; replace H : (if x3_1.length + y119.length < 140737488355328 then (labels_quoted.l0 kj7 a0 (x3_1 ++ y119) (a0.size : Int) (wrap64 (x9_1 + 1))) else (none)) = some r := by first | (rw [hy119]; with_reducible exact H) | (have H2_ := (Option.bind_some _ _).symm.trans H; rw [hy119]; with_reducible exact H2_) | (have H2_ := (Option.bind_some _ _).symm.trans H; with_reducible exact H2_) | with_reducible exact H | (rw [hy119]; exact H) | exact H
                  have Ny119 := Aside0.mk hy119; clear hy119; by_cases c11 : x3_1.length + y119.length < 140737488355328
                  · rw [if_pos c11] at H
                    have LMc11 := Aside0.mk c11; clear c11; obtain ⟨y122, hy122⟩ : ∃ y_ : List Int, y_ = (x3_1 ++ y119) := ⟨_, rfl⟩; replace H : (labels_quoted.l0 kj7 a0 y122 (a0.size : Int) (wrap64 (x9_1 + 1))) = some r := by first | (rw [hy122]; with_reducible exact H) | (have H2_ := (Option.bind_some _ _).symm.trans H; rw [hy122]; with_reducible exact H2_) | (have H2_ := (Option.bind_some _ _).symm.trans H; with_reducible exact H2_) | with_reducible exact H | (rw [hy122]; exact H) | exact H
                    have Ny122 := Aside0.mk hy122; clear hy122; have H' := Aside0.mk H; clear H
                    go_wp2_with (first | ((with_reducible refine gate_dst (N := 25) rfl ?_); refine Kd.R_lit (Kd.int .u8) _ 5 ?hg (N := 25) ?hd (xs := ([92, (bt a0 x9_1)] : List Int)) (inner := [.int .u8 92, .int .u8 (bt a0 x9_1)]) (ok := fun _ => True) (okp := fun _ => True) ?hr ?hp (fun _ hk => hk) trivial (Below.refl _ _) (Nat.le_refl _) (by simp) ?_; (case hd => rfl); (case hg => rfl); (case hr => first | (go_simp; done) | (go_simp; rfl)); (case hp => exact (Reps.one (show Kd.M (Kd.int .u8) _ _ _ 92 [.int .u8 92] from rfl) (Reps.one (show Kd.M (Kd.int .u8) _ _ _ (bt a0 x9_1) [.int .u8 (bt a0 x9_1)] from rfl) (Reps.none _ _)))); intro v120 w12 ho13 hb hg_ hnew_; clear hg_ hnew_; (first | rw [← Ny119.out] at ho13 | (simp only [Int.reduceToNat] at ho13; rw [← Ny119.out] at ho13)); have HO121 := Aside0.mk (Kd.R_lower (Kd.R_new' ho13 (Kd.R_lt (zr HO_3.out))) (below_size (zb HB.out))); replace HO_3 := Aside0.mk (Kd.R_elder' (zr HO_3.out) (Kd.R_base ho13) hb); replace HB := Aside0.mk (below_step (zb HB.out) hb); clear hb ho13; obtain ⟨Ao15, co15, eo15⟩ := Kd.R_slice HO121.out; subst eo15) | ((with_reducible refine gate_builtin (b := .append) (xs := #[.tmp 23, .tmp 25]) rfl ?_); at_builtin; refine Kd.R_append_rows (Kd.int .u8) (w0 := w) w.heap.size rfl (.tmp 23) (.tmp 25) 92 5 (.int .u8 0) 1 rfl Tryd.underlying92 info5 rfl (by decide) (by omega) u3 x3_1 y119 _ _ _ (fun k_ => some k_ ≠ (.slice Ao15 y119.length co15 : Value).ownBlock) (fun _ => False) rfl rfl ?aO ?aR (fun _ _ h => h) (fun _ h => h.elim) ?aF ?aB ?aS ?aL ?_; (case aR => exact zc (Kd.R_reads' HO121.out).2.2); (case aB => exact (zb HB.out)); (case aF => exact (fun k_ hk => Kd.fresh' (Kd.R_lt (zr HO121.out)) k_ hk)); (case aO => exact (by (with_reducible repeat (first | apply Kd.R_alloc | apply Kd.R_drewN | apply Kd.R_drew)); exact Kd.R_mono HO_3.out (fun _ hk => hk.2))); (case aS => exact (below_size (zb HB.out))); (case aL => have := LMc11.out; omega); intro v123 w14 ho hb hg hat; rw [← Ny122.out] at ho; have n0_ := Aside0.mk (Kd.R_after (ok := (fun _ => True)) (zr HO121.out) hg hat); have n1_ := Aside0.mk (hb); have n2_ := Aside0.mk (ho); clear HO121; clear HB; clear HO_3; have HO121 := n0_; have HB := n1_; have HO124 := n2_; clear n0_ n1_ n2_; clear ho hb hg hat))
                    go_roundg kj7
                    case measure => have := HK1.out; have := HJ7.out; omega
                    case rel => exact ⟨(y122), (wrap64 (x9_1 + 1)), zs, H', ⟨by have := HK1.out; have := HJ7.out; omega⟩, ⟨by (with_reducible repeat (first | apply Kd.R_alloc | apply Kd.R_drewN | apply Kd.R_drew)); exact Kd.R_mono HO124.out (fun _ hk => trivial)⟩, ⟨zb HB.out⟩⟩
                  · rw [if_neg c11] at H
                    exact absurd H (by simp)
                · replace c10 := Bool.eq_false_iff.mpr c10
                  subst c10; have H1 : (if (bt a0 x9_1) = 10 then ((some (([92, 110] : List Int) : List Int)).bind fun y125 => (if x3_1.length + y125.length < 140737488355328 then (labels_quoted.l0 kj7 a0 (x3_1 ++ y125) (a0.size : Int) (wrap64 (x9_1 + 1))) else (none))) else (if x3_1.length < 140737488355328 then (labels_quoted.l0 kj7 a0 (x3_1 ++ [(bt a0 x9_1)]) (a0.size : Int) (wrap64 (x9_1 + 1))) else (none))) = some r := by rw [if_neg (show ¬ (false = true) by decide)] at H; exact H
                  clear H; have H := H1; clear H1; by_cases c16 : (bt a0 x9_1) = 10
                  · rw [if_pos c16] at H
                    have c16b0 : ((bt a0 x9_1) == 10) = true := beq_iff_eq.mpr c16; have c16b1 : ((bt a0 x9_1) != 10) = false := bne_eq_false_iff_eq.mpr c16; clear c16; obtain ⟨y125, hy125⟩ : ∃ y_ : List Int, y_ = (([92, 110] : List Int)) := ⟨_, rfl⟩; replace H : (if x3_1.length + y125.length < 140737488355328 then (labels_quoted.l0 kj7 a0 (x3_1 ++ y125) (a0.size : Int) (wrap64 (x9_1 + 1))) else (none)) = some r := by first | (rw [hy125]; with_reducible exact H) | (have H2_ := (Option.bind_some _ _).symm.trans H; rw [hy125]; with_reducible exact H2_) | (have H2_ := (Option.bind_some _ _).symm.trans H; with_reducible exact H2_) | with_reducible exact H | (rw [hy125]; exact H) | exact H
                    have Ny125 := Aside0.mk hy125; clear hy125; by_cases c17 : x3_1.length + y125.length < 140737488355328
                    · rw [if_pos c17] at H
                      have LMc17 := Aside0.mk c17; clear c17; obtain ⟨y128, hy128⟩ : ∃ y_ : List Int, y_ = (x3_1 ++ y125) := ⟨_, rfl⟩; replace H : (labels_quoted.l0 kj7 a0 y128 (a0.size : Int) (wrap64 (x9_1 + 1))) = some r := by first | (rw [hy128]; with_reducible exact H) | (have H2_ := (Option.bind_some _ _).symm.trans H; rw [hy128]; with_reducible exact H2_) | (have H2_ := (Option.bind_some _ _).symm.trans H; with_reducible exact H2_) | with_reducible exact H | (rw [hy128]; exact H) | exact H
                      have Ny128 := Aside0.mk hy128; clear hy128; have H' := Aside0.mk H; clear H
                      go_wp2_with (first | ((with_reducible refine gate_dst (N := 30) rfl ?_); refine Kd.R_lit (Kd.int .u8) _ 5 ?hg (N := 30) ?hd (xs := ([92, 110] : List Int)) (inner := [.int .u8 92, .int .u8 110]) (ok := fun _ => True) (okp := fun _ => True) ?hr ?hp (fun _ hk => hk) trivial (Below.refl _ _) (Nat.le_refl _) (by simp) ?_; (case hd => rfl); (case hg => rfl); (case hr => first | (go_simp; done) | (go_simp; rfl)); (case hp => exact (Reps.one (show Kd.M (Kd.int .u8) _ _ _ 92 [.int .u8 92] from rfl) (Reps.one (show Kd.M (Kd.int .u8) _ _ _ 110 [.int .u8 110] from rfl) (Reps.none _ _)))); intro v126 w18 ho19 hb hg_ hnew_; clear hg_ hnew_; (first | rw [← Ny125.out] at ho19 | (simp only [Int.reduceToNat] at ho19; rw [← Ny125.out] at ho19)); have HO127 := Aside0.mk (Kd.R_lower (Kd.R_new' ho19 (Kd.R_lt (zr HO_3.out))) (below_size (zb HB.out))); replace HO_3 := Aside0.mk (Kd.R_elder' (zr HO_3.out) (Kd.R_base ho19) hb); replace HB := Aside0.mk (below_step (zb HB.out) hb); clear hb ho19; obtain ⟨Ao21, co21, eo21⟩ := Kd.R_slice HO127.out; subst eo21) | ((with_reducible refine gate_builtin (b := .append) (xs := #[.tmp 29, .tmp 30]) rfl ?_); at_builtin; refine Kd.R_append_rows (Kd.int .u8) (w0 := w) w.heap.size rfl (.tmp 29) (.tmp 30) 92 5 (.int .u8 0) 1 rfl Tryd.underlying92 info5 rfl (by decide) (by omega) u3 x3_1 y125 _ _ _ (fun k_ => some k_ ≠ (.slice Ao21 y125.length co21 : Value).ownBlock) (fun _ => False) rfl rfl ?aO ?aR (fun _ _ h => h) (fun _ h => h.elim) ?aF ?aB ?aS ?aL ?_; (case aR => exact zc (Kd.R_reads' HO127.out).2.2); (case aB => exact (zb HB.out)); (case aF => exact (fun k_ hk => Kd.fresh' (Kd.R_lt (zr HO127.out)) k_ hk)); (case aO => exact (by (with_reducible repeat (first | apply Kd.R_alloc | apply Kd.R_drewN | apply Kd.R_drew)); exact Kd.R_mono HO_3.out (fun _ hk => hk.2))); (case aS => exact (below_size (zb HB.out))); (case aL => have := LMc17.out; omega); intro v129 w20 ho hb hg hat; rw [← Ny128.out] at ho; have n0_ := Aside0.mk (Kd.R_after (ok := (fun _ => True)) (zr HO127.out) hg hat); have n1_ := Aside0.mk (hb); have n2_ := Aside0.mk (ho); clear HO127; clear HB; clear HO_3; have HO127 := n0_; have HB := n1_; have HO130 := n2_; clear n0_ n1_ n2_; clear ho hb hg hat))
                      go_roundg kj7
                      case measure => have := HK1.out; have := HJ7.out; omega
                      case rel => exact ⟨(y128), (wrap64 (x9_1 + 1)), zs, H', ⟨by have := HK1.out; have := HJ7.out; omega⟩, ⟨by (with_reducible repeat (first | apply Kd.R_alloc | apply Kd.R_drewN | apply Kd.R_drew)); exact Kd.R_mono HO130.out (fun _ hk => trivial)⟩, ⟨zb HB.out⟩⟩
                    · rw [if_neg c17] at H
                      exact absurd H (by simp)
                  · rw [if_neg c16] at H
                    have c16b0 : ((bt a0 x9_1) == 10) = false := beq_eq_false_iff_ne.mpr c16; have c16b1 : ((bt a0 x9_1) != 10) = true := bne_iff_ne.mpr c16; by_cases c22 : x3_1.length < 140737488355328
                    · rw [if_pos c22] at H
                      have LMc22 := Aside0.mk c22; clear c22; obtain ⟨y131, hy131⟩ : ∃ y_ : List Int, y_ = (x3_1 ++ [(bt a0 x9_1)]) := ⟨_, rfl⟩; replace H : (labels_quoted.l0 kj7 a0 y131 (a0.size : Int) (wrap64 (x9_1 + 1))) = some r := by first | (rw [hy131]; with_reducible exact H) | (have H2_ := (Option.bind_some _ _).symm.trans H; rw [hy131]; with_reducible exact H2_) | (have H2_ := (Option.bind_some _ _).symm.trans H; with_reducible exact H2_) | with_reducible exact H | (rw [hy131]; exact H) | exact H
                      have Ny131 := Aside0.mk hy131; clear hy131; have H' := Aside0.mk H; clear H; go_wp2_with (first | ((with_reducible refine gate_builtin (b := .append) (xs := #[.tmp 16, .tmp 18]) rfl ?_); at_builtin; refine Kd.R_append (Kd.int .u8) (w0 := w) w.heap.size rfl (.tmp 16) (.tmp 18) 92 5 (.int .u8 0) 1 rfl Tryd.underlying92 info5 rfl (by decide) (by omega) u3 x3_1 (bt a0 x9_1) [.int .u8 (bt a0 x9_1)] (fun _ => True) (fun _ => False) rfl rfl ?aP (fun _ hk => hk.elim) ?aF ?aO ?aB ?aS ?aL ?_; (case aP => exact rfl); (case aB => exact (zb HB.out)); (case aF => exact (fun _ _ => trivial)); (case aO => exact (zr HO_3.out)); (case aS => exact (below_size (zb HB.out))); (case aL => have := LMc22.out; omega); intro v132 w23 ho hb hg hat; rw [← Ny131.out] at ho; have n0_ := Aside0.mk (hb); have n1_ := Aside0.mk (ho); clear HB; clear HO_3; have HB := n0_; have HO133 := n1_; clear n0_ n1_; clear ho hb hg hat))
                      go_roundg kj7
                      case measure => have := HK1.out; have := HJ7.out; omega
                      case rel => exact ⟨(y131), (wrap64 (x9_1 + 1)), zs, H', ⟨by have := HK1.out; have := HJ7.out; omega⟩, ⟨zr HO133.out⟩, ⟨zb HB.out⟩⟩
                    · rw [if_neg c22] at H
                      exact absurd H (by simp)
          · rw [if_neg c6] at H
            exact absurd H (by simp)
        · rw [if_neg c5] at H
          exact absurd H (by simp)
      · rw [if_neg c4] at H
        have c4b0 : decide (x9_1 < (a0.size : Int)) = false := decide_eq_false c4; clear c4; by_cases c24 : x3_1.length < 140737488355328
        · rw [if_pos c24] at H
          have LMc24 := Aside0.mk c24; clear c24; obtain ⟨y116, hy116⟩ : ∃ y_ : List Int, y_ = (x3_1 ++ [34]) := ⟨_, rfl⟩; replace H : (some (strOfNums y116)) = some r := by first | (rw [hy116]; with_reducible exact H) | (have H2_ := (Option.bind_some _ _).symm.trans H; rw [hy116]; with_reducible exact H2_) | (have H2_ := (Option.bind_some _ _).symm.trans H; with_reducible exact H2_) | with_reducible exact H | (rw [hy116]; exact H) | exact H
          have Ny116 := Aside0.mk hy116; clear hy116; obtain rfl := Option.some.inj H; go_wp2_with (first | ((with_reducible refine gate_builtin (b := .append) (xs := #[.tmp 33, .tmp 34]) rfl ?_); at_builtin; refine Kd.R_append (Kd.int .u8) (w0 := w) w.heap.size rfl (.tmp 33) (.tmp 34) 92 5 (.int .u8 0) 1 rfl Tryd.underlying92 info5 rfl (by decide) (by omega) u3 x3_1 34 [.int .u8 34] (fun _ => True) (fun _ => False) rfl rfl ?aP (fun _ hk => hk.elim) ?aF ?aO ?aB ?aS ?aL ?_; (case aP => exact rfl); (case aB => exact (zb HB.out)); (case aF => exact (fun _ _ => trivial)); (case aO => exact (zr HO_3.out)); (case aS => exact (below_size (zb HB.out))); (case aL => have := LMc24.out; omega); intro v117 w25 ho hb hg hat; rw [← Ny116.out] at ho; have n0_ := Aside0.mk (hb); have n1_ := Aside0.mk (ho); clear HB; clear HO_3; have HB := n0_; have HO118 := n1_; clear n0_ n1_; clear ho hb hg hat; have hcv26 := own_string (P := Tryd.prog) Tryd.underlying92 Tryd.underlying5 Tryd.underlying9 (Kd.own_of_R HO118.out)))
          go_ret
          exact ⟨ze, zb HB.out⟩
        · rw [if_neg c24] at H
          exact absurd H (by simp)

def labels_Print_1.f (k : Nat) (a0_0 : ByteArray) (a0_1 : ByteArray) : Option (ByteArray) := if a0_0.size + 1 ≤ 9223372036854775807 then ((labels_quoted.f k a0_1).bind fun t135 => (if (a0_0 ++ (⟨#[61]⟩ : ByteArray)).size + t135.size ≤ 9223372036854775807 then (some ((a0_0 ++ (⟨#[61]⟩ : ByteArray)) ++ t135)) else (none))) else (none)
theorem labels_Print_1.mono : ∀ a0 a1 k, LeO (labels_Print_1.f k a0 a1) (labels_Print_1.f (k + 1) a0 a1) := by
  intro a0 a1 k; unfold labels_Print_1.f
  repeat' first
      | (with_reducible exact labels_quoted.mono _ _)
      | (with_reducible exact LeO.refl _)
      | (with_reducible exact LeO.none _)
      | (with_reducible refine LeO.ite ?_ ?_)
      | (with_reducible refine LeO.bind ?_ (fun _ => ?_))
      | exact labels_quoted.mono _ _
      | exact LeO.none _
      | refine LeO.ite ?_ ?_
      | refine LeO.bind ?_ (fun _ => ?_)
def labels_Print_1.T1 : Bool × List (List Nat × List Nat) := (true, [([], []), ([0], [0]), ([1], [1]), ([], []), ([3], [3]), ([4], [4]), ([2, 5], [2, 5]), ([6, 5, 0, 1, 2, 3, 4, 5, 6], [6])])
def labels_Print_1.B1 : List Nat := [0, 1, 3, 0, 8, 24, 63, 127]
theorem labels_Print_1.tab1 : rtab .any (opsOf Tryd.f46 1) = labels_Print_1.T1 := by kernel_rfl
theorem labels_Print_1.bits1 : waitsOk labels_Print_1.T1.2 labels_Print_1.B1 = true := by kernel_rfl
set_option maxHeartbeats 8000000 in
set_option maxRecDepth 100000 in
theorem labels_Print_1.calls (k : Nat) (a0_0 : ByteArray) (a0_1 : ByteArray) (r : ByteArray) (w : World) (h : labels_Print_1.f k a0_0 a0_1 = some r) :
    Calls Tryd.prog 46 #[.agg #[.string a0_0, .string a0_1]] w fun e w' => e = .returned (.string r) ∧ Below w.heap.size w w' := by
  have hu59 := Tryd.underlying59; have HB := Aside0.mk (Below.refl w.heap.size w); have H : (if a0_0.size + 1 ≤ 9223372036854775807 then ((labels_quoted.f k a0_1).bind fun t135 => (if (a0_0 ++ (⟨#[61]⟩ : ByteArray)).size + t135.size ≤ 9223372036854775807 then (some ((a0_0 ++ (⟨#[61]⟩ : ByteArray)) ++ t135)) else (none))) else (none)) = some r := h; clear h; by_cases c2 : a0_0.size + 1 ≤ 9223372036854775807
  · rw [if_pos c2] at H
    have c2b0 := eq_true c2; have c2b1 : decide (a0_0.size + 1 ≤ 9223372036854775807) = true := decide_eq_true c2; (try have c2b2 : (9223372036854775807 < a0_0.size + 1) = False := eq_false (Nat.not_lt.2 c2)); replace H := Option.bind_eq_some_iff.mp H; obtain ⟨t135, A30, H⟩ := H; replace H : (if (a0_0 ++ (⟨#[61]⟩ : ByteArray)).size + t135.size ≤ 9223372036854775807 then (some ((a0_0 ++ (⟨#[61]⟩ : ByteArray)) ++ t135)) else (none)) = some r := H; have A3 := Aside0.mk A30; clear A30; by_cases c4 : (a0_0 ++ (⟨#[61]⟩ : ByteArray)).size + t135.size ≤ 9223372036854775807
    · rw [if_pos c4] at H
      have c4b0 := eq_true c4; have c4b1 : decide ((a0_0 ++ (⟨#[61]⟩ : ByteArray)).size + t135.size ≤ 9223372036854775807) = true := decide_eq_true c4; (try have c4b2 : (9223372036854775807 < (a0_0 ++ (⟨#[61]⟩ : ByteArray)).size + t135.size) = False := eq_false (Nat.not_lt.2 c4)); try have c4z : (9223372036854775807 < a0_0.size + 1 + t135.size) = False := by first | (rw [ByteArray.size_append] at c4b2; exact c4b2) | (simp only [ByteArray.size_append] at c4b2; exact c4b2)
      obtain rfl := Option.some.inj H; go_enter Tryd.func46, Tryd.ntmps46; try go_wp2_with (first | ((with_reducible refine gate_dst (N := 1) rfl ?_); refine box_event ?hg (N := 1) ?hd (cs := #[.string a0_0, .string a0_1]) (t := 59) ?hr ?_; (case hd => rfl); (case hg => rfl); (case hr => first | (go_simp; done) | (go_simp; rfl)); intro gb134 hg w5 hbox hb; have BK134 := Aside0.mk (hbox); have GW134 := Aside0.mk ((by rw [hg]; exact (below_size (zb HB.out)) : w.heap.size ≤ gb134)); have GE134 := Aside0.mk ((by rw [hg]; exact (below_size (zb HB.out)) : w.heap.size ≤ gb134)); replace HB := Aside0.mk (below_step (zb HB.out) hb); clear hb hbox hg))
      replace BK134 := Aside0.mk (blk_drew BK134.out); replace HB := Aside0.mk (below_drew1 HB.out); refine start_ (n := 8) (S := fun w' => w'.cell? ⟨gb134, 0, none⟩ = some (.string a0_0) ∧ w'.cell? ⟨gb134, 1, none⟩ = some (.string a0_1)) (ds := []) (zm 8 0) (by kernel_rfl) rfl rfl ⟨(blk_cell BK134.out 0).trans rfl, (blk_cell BK134.out 1).trans rfl⟩ (fun hHeld => ?_); refine with_tabW labels_Print_1.tab1 labels_Print_1.bits1 (fun HT_ HW_ => ?_); generalize w5.drew = w6 at BK134 HB hHeld ⊢; refine zpure HT_.out 0 3 8 1 ?_; refine zpure HT_.out 3 6 8 9 ?_; refine ztake2 HT_.out HW_.out 1 4 8 11 hHeld ?_; refine zpure HT_.out 2 5 8 15 ?_; refine ztake2 HT_.out HW_.out 4 7 8 31 hHeld ?_; refine one_ (i := 5) (N := some 8) (zm 8 63) rfl rfl (one_of HT_.out (by kernel_rfl)) (by decide) (fun K hK => ?_); refine goes_ Tryd.func47 (by kernel_rfl) rfl #[.string a0_1] (by rfl) rfl rfl zl ?_; with_reducible refine (labels_quoted.calls k a0_1 t135 _ A3.out).mono ?_
      rintro e w7 ⟨rfl, hb⟩; refine ⟨_, rfl, ?_⟩; replace BK134 := Aside0.mk (blk_below (g := gb134) (o := .cells #[.string a0_0, .string a0_1] 59 (0, 0)) (by (with_reducible repeat (first | refine blk_drewN ?_ _ | refine blk_drew ?_ | refine blk_alloc ?_ _)); exact BK134.out) hb); replace HB := Aside0.mk (below_step (zg HB.out GE134.out) hb); (try clear hb); (try clear hb2); (try clear hk); (try clear hi); refine hK.out _ _ ⟨(blk_cell BK134.out 0).trans rfl, (blk_cell BK134.out 1).trans rfl⟩ (fun hHeld => ?_); clear hK K; refine norm_ (a' := ?_) ?_ ?_
      rotate_left
      · show Act.put _ (some 8) _ = _
        simp only [Act.put, List.setIfInBounds_toArray, List.set_cons_zero, List.set_cons_succ, i64_w, i32_w]; rfl
      refine zpure HT_.out 6 9 8 127 ?_; refine zpure HT_.out 7 2 8 255 ?_; refine done_ (done_of HT_.out (by kernel_rfl)) ?_; (try go_wp2); go_ret
      exact ⟨ze, zg HB.out GE134.out⟩
    · rw [if_neg c4] at H
      exact absurd H (by simp)
  · rw [if_neg c2] at H
    exact absurd H (by simp)

def api_Label_45.l0 : Nat → ByteArray → List (S59) → Int → Int → Option (ByteArray)
  | 0, _, _, _, _ => none
  | k + 1, x5, x8, x9, x10 => if x10 < x9 then (if 0 ≤ x10 then (if x10 < (x8.length : Int) then (if x10 > 0 then (if x5.size + 1 ≤ 9223372036854775807 then ((labels_Print_1.f k ((rd_T59 x8 x10).f0) ((rd_T59 x8 x10).f1)).bind fun t138 => (if (x5 ++ (⟨#[44]⟩ : ByteArray)).size + t138.size ≤ 9223372036854775807 then (api_Label_45.l0 k ((x5 ++ (⟨#[44]⟩ : ByteArray)) ++ t138) x8 x9 (wrap64 (x10 + 1))) else (none))) else (none)) else ((labels_Print_1.f k ((rd_T59 x8 x10).f0) ((rd_T59 x8 x10).f1)).bind fun t139 => (if x5.size + t139.size ≤ 9223372036854775807 then (api_Label_45.l0 k (x5 ++ t139) x8 x9 (wrap64 (x10 + 1))) else (none)))) else (none)) else (none)) else (if x5.size + 1 ≤ 9223372036854775807 then (some (x5 ++ (⟨#[125]⟩ : ByteArray))) else (none))
def api_Label_45.f (k : Nat) (l0 : List (S59))  : Option (ByteArray) := api_Label_45.l0 k (⟨#[123]⟩ : ByteArray) l0 (l0.length : Int) 0
theorem api_Label_45.mono_l : ∀ k, (∀ y0 y1 y2 y3, LeO (api_Label_45.l0 k y0 y1 y2 y3) (api_Label_45.l0 (k + 1) y0 y1 y2 y3))
  | 0 => fun _ _ _ _ r h => by simp [api_Label_45.l0] at h
  | k + 1 => by
    have ih0 := api_Label_45.mono_l k
    · intro y0 y1 y2 y3
      unfold api_Label_45.l0
      repeat' first
      | (with_reducible exact ih0 _ _ _ _)
      | (with_reducible exact labels_Print_1.mono _ _ _)
      | (with_reducible exact LeO.refl _)
      | (with_reducible exact LeO.none _)
      | (with_reducible refine LeO.ite ?_ ?_)
      | (with_reducible refine LeO.bind ?_ (fun _ => ?_))
      | exact ih0 _ _ _ _
      | exact labels_Print_1.mono _ _ _
      | exact LeO.none _
      | refine LeO.ite ?_ ?_
      | refine LeO.bind ?_ (fun _ => ?_)
theorem api_Label_45.mono : ∀ a0 k, LeO (api_Label_45.f k a0) (api_Label_45.f (k + 1) a0) := by
  intro a0 k; have ih0 := api_Label_45.mono_l k; unfold api_Label_45.f
  repeat' first
      | (with_reducible exact ih0 _ _ _ _)
      | (with_reducible exact labels_Print_1.mono _ _ _)
      | (with_reducible exact LeO.refl _)
      | (with_reducible exact LeO.none _)
      | (with_reducible refine LeO.ite ?_ ?_)
      | (with_reducible refine LeO.bind ?_ (fun _ => ?_))
      | exact ih0 _ _ _ _
      | exact labels_Print_1.mono _ _ _
      | exact LeO.none _
      | refine LeO.ite ?_ ?_
      | refine LeO.bind ?_ (fun _ => ?_)
set_option maxHeartbeats 8000000 in
set_option maxRecDepth 100000 in
theorem api_Label_45.calls (k : Nat) (A0 : Option Addr) (c0 : Nat) (l0 : List (S59))  (r : ByteArray) (w : World) (hr0 : Kd.C k59 w A0 l0.length l0) (hc0 : l0.length ≤ c0) (h : api_Label_45.f k l0 = some r) :
    Calls Tryd.prog 45 #[.slice A0 l0.length c0, .func (.func 46) #[] #[]] w fun e w' => e = .returned (.string r) ∧ Below w.heap.size w w' := by
  have hu59 := Tryd.underlying59; have HR0 := Aside0.mk hr0; have HC0 := Aside0.mk hc0; clear hr0 hc0; have HB := Aside0.mk (Below.refl w.heap.size w); have H : (api_Label_45.l0 k (⟨#[123]⟩ : ByteArray) l0 (l0.length : Int) 0) = some r := h; clear h; have H' := Aside0.mk H; clear H; go_enter Tryd.func45, Tryd.ntmps45; go_wp2; go_loopg [5, 10] k (fun kq v5 v10 w' => ∃ (x5_1 : ByteArray) (x10_1 : Int), v5 = .string x5_1 ∧ v10 = .int .i64 x10_1 ∧ Aside0 (api_Label_45.l0 kq x5_1 l0 (l0.length : Int) x10_1 = some r) ∧ Aside0 (kq ≤ k) ∧ Aside0 (Below w.heap.size w w'))
  case atStart => exact ⟨((⟨#[123]⟩ : ByteArray)), (0), zs, zs, H', ⟨Nat.le_refl _⟩, ⟨zb HB.out⟩⟩
  case round =>
    clear H'; (try clear p2); obtain ⟨x5_1, x10_1, rfl, rfl, HA, HK1, HB⟩ := hrel
    cases gk with
    | zero => exact absurd HA.out (by simp [api_Label_45.l0])
    | succ k1 =>
      have H := HA.out; clear HA; simp only [api_Label_45.l0] at H; by_cases c3 : x10_1 < (l0.length : Int)
      · rw [if_pos c3] at H
        have c3b0 : decide (x10_1 < (l0.length : Int)) = true := decide_eq_true c3; clear c3; by_cases c4 : 0 ≤ x10_1
        · rw [if_pos c4] at H
          have c4b0 : decide (0 ≤ x10_1) = true := decide_eq_true c4; clear c4; by_cases c5 : x10_1 < (l0.length : Int)
          · rw [if_pos c5] at H
            have c5b0 : decide (x10_1 < (l0.length : Int)) = true := decide_eq_true c5; clear c5; by_cases c6 : x10_1 > 0
            · rw [if_pos c6] at H
              have c6b0 : decide (0 < x10_1) = true := decide_eq_true c6; clear c6; by_cases c7 : x5_1.size + 1 ≤ 9223372036854775807
              · rw [if_pos c7] at H
                have c7b0 := eq_true c7; have c7b1 : decide (x5_1.size + 1 ≤ 9223372036854775807) = true := decide_eq_true c7; (try have c7b2 : (9223372036854775807 < x5_1.size + 1) = False := eq_false (Nat.not_lt.2 c7)); replace H := Option.bind_eq_some_iff.mp H; obtain ⟨t138, A80, H⟩ := H; replace H : (if (x5_1 ++ (⟨#[44]⟩ : ByteArray)).size + t138.size ≤ 9223372036854775807 then (api_Label_45.l0 k1 ((x5_1 ++ (⟨#[44]⟩ : ByteArray)) ++ t138) l0 (l0.length : Int) (wrap64 (x10_1 + 1))) else (none)) = some r := H; have A8 := Aside0.mk A80; clear A80; by_cases c9 : (x5_1 ++ (⟨#[44]⟩ : ByteArray)).size + t138.size ≤ 9223372036854775807
                · rw [if_pos c9] at H
                  have c9b0 := eq_true c9; have c9b1 : decide ((x5_1 ++ (⟨#[44]⟩ : ByteArray)).size + t138.size ≤ 9223372036854775807) = true := decide_eq_true c9; (try have c9b2 : (9223372036854775807 < (x5_1 ++ (⟨#[44]⟩ : ByteArray)).size + t138.size) = False := eq_false (Nat.not_lt.2 c9)); try have c9z : (9223372036854775807 < x5_1.size + 1 + t138.size) = False := by first | (rw [ByteArray.size_append] at c9b2; exact c9b2) | (simp only [ByteArray.size_append] at c9b2; exact c9b2)
                  have H' := Aside0.mk H; clear H; obtain ⟨ad136, e136, hx136_0, hx136_1⟩ := at_T59 HR0.out x10_1 zd zd
                  cases e136; replace hx136_0 := zw HB.out hx136_0; replace hx136_1 := zw HB.out hx136_1; have p136 := eq_true (zd : 0 ≤ (x10_1 : Int)); have q136 := eq_true (zd : x10_1 < (l0.length : Int))
                  go_wp2_with (first | ((with_reducible refine gate_dst (N := 7) rfl ?_); refine box_event ?hg (N := 7) ?hd (cs := #[.string (⟨#[]⟩ : ByteArray), .string (⟨#[]⟩ : ByteArray)]) (t := 59) ?hr ?_; (case hd => rfl); (case hg => rfl); (case hr => first | (go_simp; done) | (go_simp; rfl)); intro gb137 hg w10 hbox hb; have BK137 := Aside0.mk (hbox); have GW137 := Aside0.mk ((by rw [hg]; exact (below_size (zb HB.out)) : w.heap.size ≤ gb137)); have GE137 := Aside0.mk ((by rw [hg]; exact (below_size (zb HB.out)) : w.heap.size ≤ gb137)); replace HB := Aside0.mk (below_step (zb HB.out) hb); clear hb hbox hg; have hcz11_0 : w10.cell? ⟨gb137, 0, none⟩ = some (.string (⟨#[]⟩ : ByteArray)) := (blk_cell BK137.out 0).trans rfl; have hcz11_1 : w10.cell? ⟨gb137, 1, none⟩ = some (.string (⟨#[]⟩ : ByteArray)) := (blk_cell BK137.out 1).trans rfl; have hfz11_0 := blk_frozen BK137.out 0; have hfz11_1 := blk_frozen BK137.out 1) | (go_at_call 46; (with_reducible refine (labels_Print_1.calls k1 ((rd_T59 l0 x10_1).f0) ((rd_T59 l0 x10_1).f1) t138 _ A8.out).mono ?_); rintro e w12 ⟨rfl, hb⟩; replace BK137 := Aside0.mk (blk_below (g := gb137) (o := .cells #[.string ((rd_T59 l0 x10_1).f0), .string ((rd_T59 l0 x10_1).f1)] 59 (0, 0)) (by (with_reducible repeat (first | refine blk_drewN ?_ _ | refine blk_drew ?_ | refine blk_alloc ?_ _)); refine blk_put (cs := #[.string ((rd_T59 l0 x10_1).f0), .string (⟨#[]⟩ : ByteArray)]) ?_ 1 _ rfl; (with_reducible repeat (first | refine blk_drewN ?_ _ | refine blk_drew ?_ | refine blk_alloc ?_ _)); refine blk_put (cs := #[.string (⟨#[]⟩ : ByteArray), .string (⟨#[]⟩ : ByteArray)]) ?_ 0 _ rfl; (with_reducible repeat (first | refine blk_drewN ?_ _ | refine blk_drew ?_ | refine blk_alloc ?_ _)); exact BK137.out) hb); replace HB := Aside0.mk (below_step (zg HB.out GE137.out) hb); (try clear hb); (try clear hb2); (try clear hk); (try clear hi)))
                  go_roundg k1
                  case measure => have := HK1.out; omega
                  case rel => exact ⟨((x5_1 ++ (⟨#[44]⟩ : ByteArray)) ++ t138), (wrap64 (x10_1 + 1)), zs, zs, H', ⟨by have := HK1.out; omega⟩, ⟨zg HB.out GE137.out⟩⟩
                · rw [if_neg c9] at H
                  exact absurd H (by simp)
              · rw [if_neg c7] at H
                exact absurd H (by simp)
            · rw [if_neg c6] at H
              have c6b0 : decide (0 < x10_1) = false := decide_eq_false c6; clear c6; replace H := Option.bind_eq_some_iff.mp H; obtain ⟨t139, A130, H⟩ := H; replace H : (if x5_1.size + t139.size ≤ 9223372036854775807 then (api_Label_45.l0 k1 (x5_1 ++ t139) l0 (l0.length : Int) (wrap64 (x10_1 + 1))) else (none)) = some r := H; have A13 := Aside0.mk A130; clear A130; by_cases c14 : x5_1.size + t139.size ≤ 9223372036854775807
              · rw [if_pos c14] at H
                have c14b0 := eq_true c14; have c14b1 : decide (x5_1.size + t139.size ≤ 9223372036854775807) = true := decide_eq_true c14; (try have c14b2 : (9223372036854775807 < x5_1.size + t139.size) = False := eq_false (Nat.not_lt.2 c14)); have H' := Aside0.mk H; clear H; obtain ⟨ad136, e136, hx136_0, hx136_1⟩ := at_T59 HR0.out x10_1 zd zd
                cases e136; replace hx136_0 := zw HB.out hx136_0; replace hx136_1 := zw HB.out hx136_1; have p136 := eq_true (zd : 0 ≤ (x10_1 : Int)); have q136 := eq_true (zd : x10_1 < (l0.length : Int))
                go_wp2_with (first | ((with_reducible refine gate_dst (N := 7) rfl ?_); refine box_event ?hg (N := 7) ?hd (cs := #[.string (⟨#[]⟩ : ByteArray), .string (⟨#[]⟩ : ByteArray)]) (t := 59) ?hr ?_; (case hd => rfl); (case hg => rfl); (case hr => first | (go_simp; done) | (go_simp; rfl)); intro gb137 hg w15 hbox hb; have BK137 := Aside0.mk (hbox); have GW137 := Aside0.mk ((by rw [hg]; exact (below_size (zb HB.out)) : w.heap.size ≤ gb137)); have GE137 := Aside0.mk ((by rw [hg]; exact (below_size (zb HB.out)) : w.heap.size ≤ gb137)); replace HB := Aside0.mk (below_step (zb HB.out) hb); clear hb hbox hg; have hcz16_0 : w15.cell? ⟨gb137, 0, none⟩ = some (.string (⟨#[]⟩ : ByteArray)) := (blk_cell BK137.out 0).trans rfl; have hcz16_1 : w15.cell? ⟨gb137, 1, none⟩ = some (.string (⟨#[]⟩ : ByteArray)) := (blk_cell BK137.out 1).trans rfl; have hfz16_0 := blk_frozen BK137.out 0; have hfz16_1 := blk_frozen BK137.out 1) | (go_at_call 46; (with_reducible refine (labels_Print_1.calls k1 ((rd_T59 l0 x10_1).f0) ((rd_T59 l0 x10_1).f1) t139 _ A13.out).mono ?_); rintro e w17 ⟨rfl, hb⟩; replace BK137 := Aside0.mk (blk_below (g := gb137) (o := .cells #[.string ((rd_T59 l0 x10_1).f0), .string ((rd_T59 l0 x10_1).f1)] 59 (0, 0)) (by (with_reducible repeat (first | refine blk_drewN ?_ _ | refine blk_drew ?_ | refine blk_alloc ?_ _)); refine blk_put (cs := #[.string ((rd_T59 l0 x10_1).f0), .string (⟨#[]⟩ : ByteArray)]) ?_ 1 _ rfl; (with_reducible repeat (first | refine blk_drewN ?_ _ | refine blk_drew ?_ | refine blk_alloc ?_ _)); refine blk_put (cs := #[.string (⟨#[]⟩ : ByteArray), .string (⟨#[]⟩ : ByteArray)]) ?_ 0 _ rfl; (with_reducible repeat (first | refine blk_drewN ?_ _ | refine blk_drew ?_ | refine blk_alloc ?_ _)); exact BK137.out) hb); replace HB := Aside0.mk (below_step (zg HB.out GE137.out) hb); (try clear hb); (try clear hb2); (try clear hk); (try clear hi)))
                go_roundg k1
                case measure => have := HK1.out; omega
                case rel => exact ⟨(x5_1 ++ t139), (wrap64 (x10_1 + 1)), zs, zs, H', ⟨by have := HK1.out; omega⟩, ⟨zg HB.out GE137.out⟩⟩
              · rw [if_neg c14] at H
                exact absurd H (by simp)
          · rw [if_neg c5] at H
            exact absurd H (by simp)
        · rw [if_neg c4] at H
          exact absurd H (by simp)
      · rw [if_neg c3] at H
        have c3b0 : decide (x10_1 < (l0.length : Int)) = false := decide_eq_false c3; clear c3; by_cases c18 : x5_1.size + 1 ≤ 9223372036854775807
        · rw [if_pos c18] at H
          have c18b0 := eq_true c18; have c18b1 : decide (x5_1.size + 1 ≤ 9223372036854775807) = true := decide_eq_true c18; (try have c18b2 : (9223372036854775807 < x5_1.size + 1) = False := eq_false (Nat.not_lt.2 c18)); obtain rfl := Option.some.inj H; go_wp2; go_ret
          exact ⟨ze, zb HB.out⟩
        · rw [if_neg c18] at H
          exact absurd H (by simp)

def abacusref12_letter.f (a0 : Int) : Option (Bool) := if a0 ≥ 97 then (if a0 ≤ 122 then (some true) else (if a0 ≥ 65 then (if a0 ≤ 90 then (some true) else (some (a0 == 95))) else (some (a0 == 95)))) else (if a0 ≥ 65 then (if a0 ≤ 90 then (some true) else (some (a0 == 95))) else (some (a0 == 95)))
set_option maxHeartbeats 8000000 in
set_option maxRecDepth 100000 in
theorem abacusref12_letter.calls (a0 : Int) (r : Bool) (w : World) (h : abacusref12_letter.f a0 = some r) :
    Calls Tryd.prog 69 #[.int .u8 a0] w fun e w' => e = .returned (.bool r) ∧ Drawn0 w w' := by
  have H : (if a0 ≥ 97 then (if a0 ≤ 122 then (some true) else (if a0 ≥ 65 then (if a0 ≤ 90 then (some true) else (some (a0 == 95))) else (some (a0 == 95)))) else (if a0 ≥ 65 then (if a0 ≤ 90 then (some true) else (some (a0 == 95))) else (some (a0 == 95)))) = some r := h; clear h; by_cases c2 : a0 ≥ 97
  · rw [if_pos c2] at H
    have c2b0 : decide (97 ≤ a0) = true := decide_eq_true c2; clear c2; by_cases c3 : a0 ≤ 122
    · rw [if_pos c3] at H
      have c3b0 : decide (a0 ≤ 122) = true := decide_eq_true c3; clear c3; obtain rfl := Option.some.inj H; go_enter Tryd.func69, Tryd.ntmps69; go_wp2; go_ret
      exact ⟨zs, by repeat (first | exact Drawn0.refl _ | apply Drawn0.step)⟩
    · rw [if_neg c3] at H
      have c3b0 : decide (a0 ≤ 122) = false := decide_eq_false c3; clear c3; by_cases c4 : a0 ≥ 65
      · rw [if_pos c4] at H
        have c4b0 : decide (65 ≤ a0) = true := decide_eq_true c4; clear c4; by_cases c5 : a0 ≤ 90
        · rw [if_pos c5] at H
          have c5b0 : decide (a0 ≤ 90) = true := decide_eq_true c5; clear c5; obtain rfl := Option.some.inj H; go_enter Tryd.func69, Tryd.ntmps69; go_wp2; go_ret
          exact ⟨zs, by repeat (first | exact Drawn0.refl _ | apply Drawn0.step)⟩
        · rw [if_neg c5] at H
          have c5b0 : decide (a0 ≤ 90) = false := decide_eq_false c5; clear c5; obtain rfl := Option.some.inj H; go_enter Tryd.func69, Tryd.ntmps69; go_wp2; go_ret
          exact ⟨zs, by repeat (first | exact Drawn0.refl _ | apply Drawn0.step)⟩
      · rw [if_neg c4] at H
        have c4b0 : decide (65 ≤ a0) = false := decide_eq_false c4; clear c4; obtain rfl := Option.some.inj H; go_enter Tryd.func69, Tryd.ntmps69; go_wp2; go_ret
        exact ⟨zs, by repeat (first | exact Drawn0.refl _ | apply Drawn0.step)⟩
  · rw [if_neg c2] at H
    have c2b0 : decide (97 ≤ a0) = false := decide_eq_false c2; clear c2; by_cases c6 : a0 ≥ 65
    · rw [if_pos c6] at H
      have c6b0 : decide (65 ≤ a0) = true := decide_eq_true c6; clear c6; by_cases c7 : a0 ≤ 90
      · rw [if_pos c7] at H
        have c7b0 : decide (a0 ≤ 90) = true := decide_eq_true c7; clear c7; obtain rfl := Option.some.inj H; go_enter Tryd.func69, Tryd.ntmps69; go_wp2; go_ret
        exact ⟨zs, by repeat (first | exact Drawn0.refl _ | apply Drawn0.step)⟩
      · rw [if_neg c7] at H
        have c7b0 : decide (a0 ≤ 90) = false := decide_eq_false c7; clear c7; obtain rfl := Option.some.inj H; go_enter Tryd.func69, Tryd.ntmps69; go_wp2; go_ret
        exact ⟨zs, by repeat (first | exact Drawn0.refl _ | apply Drawn0.step)⟩
    · rw [if_neg c6] at H
      have c6b0 : decide (65 ≤ a0) = false := decide_eq_false c6; clear c6; obtain rfl := Option.some.inj H; go_enter Tryd.func69, Tryd.ntmps69; go_wp2; go_ret
      exact ⟨zs, by repeat (first | exact Drawn0.refl _ | apply Drawn0.step)⟩

def abacusref12_digit.f (a0 : Int) : Option (Bool) := if a0 ≥ 48 then (some (decide (a0 ≤ 57))) else (some false)
set_option maxHeartbeats 8000000 in
set_option maxRecDepth 100000 in
theorem abacusref12_digit.calls (a0 : Int) (r : Bool) (w : World) (h : abacusref12_digit.f a0 = some r) :
    Calls Tryd.prog 70 #[.int .u8 a0] w fun e w' => e = .returned (.bool r) ∧ Drawn0 w w' := by
  have H : (if a0 ≥ 48 then (some (decide (a0 ≤ 57))) else (some false)) = some r := h; clear h; by_cases c2 : a0 ≥ 48
  · rw [if_pos c2] at H
    have c2b0 : decide (48 ≤ a0) = true := decide_eq_true c2; clear c2; obtain rfl := Option.some.inj H; go_enter Tryd.func70, Tryd.ntmps70; go_wp2; go_ret
    exact ⟨zs, by repeat (first | exact Drawn0.refl _ | apply Drawn0.step)⟩
  · rw [if_neg c2] at H
    have c2b0 : decide (48 ≤ a0) = false := decide_eq_false c2; clear c2; obtain rfl := Option.some.inj H; go_enter Tryd.func70, Tryd.ntmps70; go_wp2; go_ret
    exact ⟨zs, by repeat (first | exact Drawn0.refl _ | apply Drawn0.step)⟩

mutual
def abacusref12_Name.j0 : Nat → ByteArray → Bool → Option (Bool)
  | 0, _, _ => none
  | k + 1, x0, x17 => if x17 = true then (some false) else (abacusref12_Name.l0 k x0 0)
def abacusref12_Name.l0 : Nat → ByteArray → Int → Option (Bool)
  | 0, _, _ => none
  | k + 1, x0, x3 => if x3 < (x0.size : Int) then (if 0 ≤ x3 then ((abacusref12_letter.f (bt x0 x3)).bind fun t143 => (if t143 = true then (abacusref12_Name.l0 k x0 (wrap64 (x3 + 1))) else ((abacusref12_digit.f (bt x0 x3)).bind fun t144 => (if t144 = true then (abacusref12_Name.l0 k x0 (wrap64 (x3 + 1))) else (some false))))) else (none)) else (some true)
end
def abacusref12_Name.f (k : Nat) (a0 : ByteArray) : Option (Bool) := if (a0.size : Int) < 1 then (abacusref12_Name.j0 k a0 true) else (if (a0.size : Int) > 64 then (abacusref12_Name.j0 k a0 true) else (if 0 < (a0.size : Int) then ((abacusref12_letter.f (bt a0 0)).bind fun t142 => (abacusref12_Name.j0 k a0 (!t142))) else (none)))
set_option maxHeartbeats 8000000 in
set_option maxRecDepth 100000 in
theorem abacusref12_Name.calls (k : Nat) (a0 : ByteArray) (r : Bool) (w : World) (h : abacusref12_Name.f k a0 = some r) :
    Calls Tryd.prog 31 #[.string a0] w fun e w' => e = .returned (.bool r) ∧ Drawn0 w w' := by
  have H : (if (a0.size : Int) < 1 then (abacusref12_Name.j0 k a0 true) else (if (a0.size : Int) > 64 then (abacusref12_Name.j0 k a0 true) else (if 0 < (a0.size : Int) then ((abacusref12_letter.f (bt a0 0)).bind fun t142 => (abacusref12_Name.j0 k a0 (!t142))) else (none)))) = some r := h; clear h; have HC2 := Aside0.mk H; clear H; go_enter Tryd.func31, Tryd.ntmps31; go_upto_region 1 with (fail)
  go_cut [17] (fun v17 wc => ∃ (kq : Nat) (x17_1 : Bool), v17 = .bool x17_1 ∧ Aside0 (abacusref12_Name.j0 kq a0 x17_1 = some r) ∧ Aside0 (kq ≤ k) ∧ Drawn0 w wc)
  case first =>
    have H := HC2.out; clear HC2; by_cases c3 : (a0.size : Int) < 1
    · rw [if_pos c3] at H
      have c3b0 : decide ((a0.size : Int) < 1) = true := decide_eq_true c3; have c3b1 : decide (a0.size < 1) = true := decide_eq_true (by omega); clear c3; (first | rw [c3b0] | (simp only [i64_w, i32_w]; rw [c3b0]) | skip); have H' := Aside0.mk H; clear H; go_wp2; go_meet
      case rel => exact ⟨_, (true), zs, H', ⟨by first | omega | exact Nat.le_refl _⟩, by repeat (first | exact Drawn0.refl _ | apply Drawn0.step)⟩
    · rw [if_neg c3] at H
      have c3b0 : decide ((a0.size : Int) < 1) = false := decide_eq_false c3; have c3b1 : decide (a0.size < 1) = false := decide_eq_false (by omega); clear c3; (first | rw [c3b0] | (simp only [i64_w, i32_w]; rw [c3b0]) | skip); by_cases c4 : (a0.size : Int) > 64
      · rw [if_pos c4] at H
        have c4b0 : decide (64 < (a0.size : Int)) = true := decide_eq_true c4; have c4b1 : decide (64 < a0.size) = true := decide_eq_true (by omega); clear c4; have H' := Aside0.mk H; clear H; go_wp2; go_meet
        case rel => exact ⟨_, (true), zs, H', ⟨by first | omega | exact Nat.le_refl _⟩, by repeat (first | exact Drawn0.refl _ | apply Drawn0.step)⟩
      · rw [if_neg c4] at H
        have c4b0 : decide (64 < (a0.size : Int)) = false := decide_eq_false c4; have c4b1 : decide (64 < a0.size) = false := decide_eq_false (by omega); clear c4; by_cases c5 : 0 < (a0.size : Int)
        · rw [if_pos c5] at H
          have c5b0 : decide (0 < (a0.size : Int)) = true := decide_eq_true c5; have c5b1 : decide (0 < a0.size) = true := decide_eq_true (by omega); clear c5; replace H := Option.bind_eq_some_iff.mp H; obtain ⟨t142, A70, H⟩ := H; replace H : (abacusref12_Name.j0 k a0 (!t142)) = some r := H; have A7 := Aside0.mk A70; clear A70; have H' := Aside0.mk H; clear H; have p6 : 0 ≤ (0 : Int) := (by omega); have q6 : 0 < a0.size := (by have : (0 : Int) < (a0.size : Int) := of_decide_eq_true za; omega); have hx6 : ∀ h : 0 < a0.size, ((a0[0]'h).toNat : Int) = bt a0 0 := bt_at a0 0; clear p6; have qi6 : (0 < (a0.size : Int)) = True := eq_true (of_decide_eq_true za); replace q6 := eq_true q6; go_wp2_with (first | (go_at_call 69; (with_reducible refine (abacusref12_letter.calls (bt a0 0) t142 _ A7.out).mono ?_); rintro e w' ⟨rfl, ⟨nd, rfl⟩⟩))
          go_meet
          case rel => exact ⟨_, (!t142), zs, H', ⟨by first | omega | exact Nat.le_refl _⟩, by repeat (first | exact Drawn0.refl _ | apply Drawn0.step)⟩
        · rw [if_neg c5] at H
          exact absurd H (by simp)
  case rest =>
    clear HC2; (try clear p2); (try clear c3); (try clear c3b0); (try clear c3b1); (try clear c4); (try clear c4b0); (try clear c4b1); (try clear c5); (try clear c5b0); (try clear c5b1); (try clear p6); (try clear q6); (try clear hx6); (try clear qi6); (try clear p6); (try clear q6); obtain ⟨kq, x17_1, rfl, HA, HJ1, ⟨mc1, rfl⟩⟩ := hcut
    cases kq with
    | zero => exact absurd HA.out (by simp [abacusref12_Name.j0])
    | succ kj1 =>
      have H := HA.out; clear HA; simp only [abacusref12_Name.j0] at H; by_cases c8 : x17_1 = true
      · subst c8
        have H1 : (some false) = some r := by rw [if_pos rfl] at H; exact H
        clear H; have H := H1; clear H1; obtain rfl := Option.some.inj H; go_wp2; go_ret
        exact ⟨zs, by repeat (first | exact Drawn0.refl _ | apply Drawn0.step)⟩
      · replace c8 := Bool.eq_false_iff.mpr c8
        subst c8; have H1 : (abacusref12_Name.l0 kj1 a0 0) = some r := by rw [if_neg (show ¬ (false = true) by decide)] at H; exact H
        clear H; have H := H1; clear H1; have H' := Aside0.mk H; clear H; go_wp2; go_loopg [3] kj1 (fun kq v3 w' => ∃ (x3_2 : Int), v3 = .int .i64 x3_2 ∧ Aside0 (abacusref12_Name.l0 kq a0 x3_2 = some r) ∧ Aside0 (kq ≤ kj1) ∧ Drawn0 w w')
        case atStart => exact ⟨(0), zs, H', ⟨Nat.le_refl _⟩, by repeat (first | exact Drawn0.refl _ | apply Drawn0.step)⟩
        case round =>
          clear H'; (try clear c1); (try clear p2); (try clear c3); (try clear c3b0); (try clear c3b1); (try clear c4); (try clear c4b0); (try clear c4b1); (try clear c5); (try clear c5b0); (try clear c5b1); (try clear p6); (try clear q6); (try clear hx6); (try clear qi6); (try clear c8); (try clear p2); (try clear p6); (try clear q6); obtain ⟨x3_2, rfl, HA, HK2, ⟨m2, rfl⟩⟩ := hrel
          cases gk with
          | zero => exact absurd HA.out (by simp [abacusref12_Name.l0])
          | succ k2 =>
            have H := HA.out; clear HA; simp only [abacusref12_Name.l0] at H; by_cases c9 : x3_2 < (a0.size : Int)
            · rw [if_pos c9] at H
              have c9b0 : decide (x3_2 < (a0.size : Int)) = true := decide_eq_true c9; clear c9; by_cases c10 : 0 ≤ x3_2
              · rw [if_pos c10] at H
                have c10b0 : decide (0 ≤ x3_2) = true := decide_eq_true c10; clear c10; replace H := Option.bind_eq_some_iff.mp H; obtain ⟨t143, A120, H⟩ := H; replace H : (if t143 = true then (abacusref12_Name.l0 k2 a0 (wrap64 (x3_2 + 1))) else ((abacusref12_digit.f (bt a0 x3_2)).bind fun t144 => (if t144 = true then (abacusref12_Name.l0 k2 a0 (wrap64 (x3_2 + 1))) else (some false)))) = some r := H; have A12 := Aside0.mk A120; clear A120; by_cases c13 : t143 = true
                · subst c13
                  have H1 : (abacusref12_Name.l0 k2 a0 (wrap64 (x3_2 + 1))) = some r := by rw [if_pos rfl] at H; exact H
                  clear H; have H := H1; clear H1; have H' := Aside0.mk H; clear H; have p11 := eq_true (zd : 0 ≤ (x3_2 : Int)); have q11 := eq_true (zd : x3_2 < (a0.size : Int)); have hx11 := bt_at a0 x3_2; go_wp2_with (first | ((with_reducible refine gate_callee (f := 69) rfl ?_); refine goesL_ (some 27) rfl rfl Tryd.func69 (by kernel_rfl) rfl #[.int .u8 (bt a0 x3_2)] rfl zl ?_; (with_reducible refine (abacusref12_letter.calls (bt a0 x3_2) true _ A12.out).mono ?_); rintro e w' ⟨rfl, ⟨nd, rfl⟩⟩; refine ⟨_, rfl, ?_⟩))
                  go_roundg k2
                  case measure => have := HJ1.out; have := HK2.out; omega
                  case rel => exact ⟨(wrap64 (x3_2 + 1)), zs, H', ⟨by have := HJ1.out; have := HK2.out; omega⟩, by repeat (first | exact Drawn0.refl _ | apply Drawn0.step)⟩
                · replace c13 := Bool.eq_false_iff.mpr c13
                  subst c13; have H1 : ((abacusref12_digit.f (bt a0 x3_2)).bind fun t144 => (if t144 = true then (abacusref12_Name.l0 k2 a0 (wrap64 (x3_2 + 1))) else (some false))) = some r := by rw [if_neg (show ¬ (false = true) by decide)] at H; exact H
                  clear H; have H := H1; clear H1; replace H := Option.bind_eq_some_iff.mp H; obtain ⟨t144, A150, H⟩ := H; replace H : (if t144 = true then (abacusref12_Name.l0 k2 a0 (wrap64 (x3_2 + 1))) else (some false)) = some r := H; have A15 := Aside0.mk A150; clear A150; by_cases c16 : t144 = true
                  · subst c16
                    have H1 : (abacusref12_Name.l0 k2 a0 (wrap64 (x3_2 + 1))) = some r := by rw [if_pos rfl] at H; exact H
                    clear H; have H := H1; clear H1; have H' := Aside0.mk H; clear H; have p11 := eq_true (zd : 0 ≤ (x3_2 : Int)); have q11 := eq_true (zd : x3_2 < (a0.size : Int)); have hx11 := bt_at a0 x3_2; go_wp2_with (first | ((with_reducible refine gate_callee (f := 69) rfl ?_); refine goesL_ (some 27) rfl rfl Tryd.func69 (by kernel_rfl) rfl #[.int .u8 (bt a0 x3_2)] rfl zl ?_; (with_reducible refine (abacusref12_letter.calls (bt a0 x3_2) false _ A12.out).mono ?_); rintro e w' ⟨rfl, ⟨nd, rfl⟩⟩; refine ⟨_, rfl, ?_⟩; have p14 := eq_true (zd : 0 ≤ (x3_2 : Int)); have q14 : x3_2 < (a0.size : Int) := zd; have hx14 := bt_at a0 x3_2; replace q14 := eq_true q14) | (go_at_call 70; (with_reducible refine (abacusref12_digit.calls (bt a0 x3_2) true _ A15.out).mono ?_); rintro e w' ⟨rfl, ⟨nd, rfl⟩⟩))
                    go_roundg k2
                    case measure => have := HJ1.out; have := HK2.out; omega
                    case rel => exact ⟨(wrap64 (x3_2 + 1)), zs, H', ⟨by have := HJ1.out; have := HK2.out; omega⟩, by repeat (first | exact Drawn0.refl _ | apply Drawn0.step)⟩
                  · replace c16 := Bool.eq_false_iff.mpr c16
                    subst c16; have H1 : (some false) = some r := by rw [if_neg (show ¬ (false = true) by decide)] at H; exact H
                    clear H; have H := H1; clear H1; obtain rfl := Option.some.inj H; have p11 := eq_true (zd : 0 ≤ (x3_2 : Int)); have q11 := eq_true (zd : x3_2 < (a0.size : Int)); have hx11 := bt_at a0 x3_2; go_wp2_with (first | ((with_reducible refine gate_callee (f := 69) rfl ?_); refine goesL_ (some 27) rfl rfl Tryd.func69 (by kernel_rfl) rfl #[.int .u8 (bt a0 x3_2)] rfl zl ?_; (with_reducible refine (abacusref12_letter.calls (bt a0 x3_2) false _ A12.out).mono ?_); rintro e w' ⟨rfl, ⟨nd, rfl⟩⟩; refine ⟨_, rfl, ?_⟩; have p14 := eq_true (zd : 0 ≤ (x3_2 : Int)); have q14 : x3_2 < (a0.size : Int) := zd; have hx14 := bt_at a0 x3_2; replace q14 := eq_true q14) | (go_at_call 70; (with_reducible refine (abacusref12_digit.calls (bt a0 x3_2) false _ A15.out).mono ?_); rintro e w' ⟨rfl, ⟨nd, rfl⟩⟩))
                    go_ret
                    exact ⟨zs, by repeat (first | exact Drawn0.refl _ | apply Drawn0.step)⟩
              · rw [if_neg c10] at H
                exact absurd H (by simp)
            · rw [if_neg c9] at H
              have c9b0 : decide (x3_2 < (a0.size : Int)) = false := decide_eq_false c9; clear c9; obtain rfl := Option.some.inj H; go_wp2; go_ret
              exact ⟨zs, by repeat (first | exact Drawn0.refl _ | apply Drawn0.step)⟩

mutual
def abacusref12_Char.j3 : Nat → ByteArray → Int → Int → Int → Int → Option (Int)
  | 0, _, _, _, _, _ => none
  | k + 1, x0, x1, x6, x7, x8 => if (wrap64 (x1 + x6)) > (x0.size : Int) then (abacusref12_Char.j4 k x0 x1 x6 true) else (if 0 ≤ (wrap64 (x1 + 1)) then (if (wrap64 (x1 + 1)) < (x0.size : Int) then (if (bt x0 (wrap64 (x1 + 1))) < x7 then (abacusref12_Char.j4 k x0 x1 x6 true) else (abacusref12_Char.j4 k x0 x1 x6 (decide ((bt x0 (wrap64 (x1 + 1))) > x8)))) else (none)) else (none))
def abacusref12_Char.j4 : Nat → ByteArray → Int → Int → Bool → Option (Int)
  | 0, _, _, _, _ => none
  | k + 1, x0, x1, x6, x66 => if x66 = true then (some 0) else (abacusref12_Char.l0 k x0 x1 x6 2)
def abacusref12_Char.l0 : Nat → ByteArray → Int → Int → Int → Option (Int)
  | 0, _, _, _, _ => none
  | k + 1, x0, x1, x6, x9 => if x9 < x6 then (if 0 ≤ (wrap64 (x1 + x9)) then (if (wrap64 (x1 + x9)) < (x0.size : Int) then (if (bt x0 (wrap64 (x1 + x9))) < 128 then (some 0) else (if (bt x0 (wrap64 (x1 + x9))) > 191 then (some 0) else (abacusref12_Char.l0 k x0 x1 x6 (wrap64 (x9 + 1))))) else (none)) else (none)) else (some x6)
def abacusref12_Char.j0 : Nat → ByteArray → Int → Int → Int → Int → Bool → Option (Int)
  | 0, _, _, _, _, _, _ => none
  | k + 1, x0, x1, x5, x7, x8, x16 => if x16 = true then (abacusref12_Char.j3 k x0 x1 2 x7 x8) else (if x5 ≥ 224 then (abacusref12_Char.j1 k x0 x1 x5 x7 x8 (decide (x5 ≤ 239))) else (abacusref12_Char.j1 k x0 x1 x5 x7 x8 false))
def abacusref12_Char.j1 : Nat → ByteArray → Int → Int → Int → Int → Bool → Option (Int)
  | 0, _, _, _, _, _, _ => none
  | k + 1, x0, x1, x5, x7, x8, x23 => if x23 = true then (if x5 = 224 then (if x5 = 237 then (abacusref12_Char.j3 k x0 x1 3 160 159) else (abacusref12_Char.j3 k x0 x1 3 160 x8)) else (if x5 = 237 then (abacusref12_Char.j3 k x0 x1 3 x7 159) else (abacusref12_Char.j3 k x0 x1 3 x7 x8))) else (if x5 ≥ 240 then (abacusref12_Char.j2 k x0 x1 x5 x7 x8 (decide (x5 ≤ 244))) else (abacusref12_Char.j2 k x0 x1 x5 x7 x8 false))
def abacusref12_Char.j2 : Nat → ByteArray → Int → Int → Int → Int → Bool → Option (Int)
  | 0, _, _, _, _, _, _ => none
  | k + 1, x0, x1, x5, x7, x8, x34 => if x34 = true then (if x5 = 240 then (if x5 = 244 then (abacusref12_Char.j3 k x0 x1 4 144 143) else (abacusref12_Char.j3 k x0 x1 4 144 x8)) else (if x5 = 244 then (abacusref12_Char.j3 k x0 x1 4 x7 143) else (abacusref12_Char.j3 k x0 x1 4 x7 x8))) else (some 0)
end
def abacusref12_Char.f (k : Nat) (a0 : ByteArray) (a1 : Int) : Option (Int) := if 0 ≤ a1 then (if a1 < (a0.size : Int) then (if (bt a0 a1) < 128 then (some 1) else (if (bt a0 a1) ≥ 194 then (abacusref12_Char.j0 k a0 a1 (bt a0 a1) 128 191 (decide ((bt a0 a1) ≤ 223))) else (abacusref12_Char.j0 k a0 a1 (bt a0 a1) 128 191 false))) else (none)) else (none)
set_option maxHeartbeats 8000000 in
set_option maxRecDepth 100000 in
theorem abacusref12_Char.calls (k : Nat) (a0 : ByteArray) (a1 : Int) (r : Int) (w : World) (h : abacusref12_Char.f k a0 a1 = some r) :
    Calls Tryd.prog 89 #[.string a0, .int .i64 a1] w fun e w' => e = .returned (.int .i64 r) ∧ Drawn0 w w' := by
  have H : (if 0 ≤ a1 then (if a1 < (a0.size : Int) then (if (bt a0 a1) < 128 then (some 1) else (if (bt a0 a1) ≥ 194 then (abacusref12_Char.j0 k a0 a1 (bt a0 a1) 128 191 (decide ((bt a0 a1) ≤ 223))) else (abacusref12_Char.j0 k a0 a1 (bt a0 a1) 128 191 false))) else (none)) else (none)) = some r := h; clear h; by_cases c3 : 0 ≤ a1
  · rw [if_pos c3] at H
    have c3b0 : decide (0 ≤ a1) = true := decide_eq_true c3; clear c3; by_cases c4 : a1 < (a0.size : Int)
    · rw [if_pos c4] at H
      have c4b0 : decide (a1 < (a0.size : Int)) = true := decide_eq_true c4; clear c4; have HC6 := Aside0.mk H; clear H; have p5 := eq_true (zd : 0 ≤ (a1 : Int)); have q5 := eq_true (zd : a1 < (a0.size : Int)); have hx5 := bt_at a0 a1; go_enter Tryd.func89, Tryd.ntmps89; go_upto_block 0 with (fail)
      go_cut [6, 7, 8] (fun v6 v7 v8 wc => ∃ (kq : Nat) (x6_5 : Int) (x7_5 : Int) (x8_5 : Int), v6 = .int .i64 x6_5 ∧ v7 = .int .u8 x7_5 ∧ v8 = .int .u8 x8_5 ∧ Aside0 (abacusref12_Char.j3 kq a0 a1 x6_5 x7_5 x8_5 = some r) ∧ Aside0 (kq ≤ k) ∧ Drawn0 w wc)
      case first =>
        have H := HC6.out; clear HC6; by_cases c7 : (bt a0 a1) < 128
        · rw [if_pos c7] at H
          have c7b0 : decide ((bt a0 a1) < 128) = true := decide_eq_true c7; clear c7; (first | rw [c7b0] | (simp only [i64_w, i32_w]; rw [c7b0]) | skip); obtain rfl := Option.some.inj H; go_wp2; go_ret
          exact ⟨zs, by repeat (first | exact Drawn0.refl _ | apply Drawn0.step)⟩
        · rw [if_neg c7] at H
          have c7b0 : decide ((bt a0 a1) < 128) = false := decide_eq_false c7; clear c7; (first | rw [c7b0] | (simp only [i64_w, i32_w]; rw [c7b0]) | skip); have HC8 := Aside0.mk H; clear H; go_upto_region 8 with (fail)
          go_cut [16] (fun v16 wc => ∃ (kq : Nat) (x16_7 : Bool), v16 = .bool x16_7 ∧ Aside0 (abacusref12_Char.j0 kq a0 a1 (bt a0 a1) 128 191 x16_7 = some r) ∧ Aside0 (kq ≤ k) ∧ Drawn0 w wc)
          case first =>
            have H := HC8.out; clear HC8; by_cases c9 : (bt a0 a1) ≥ 194
            · rw [if_pos c9] at H
              have c9b0 : decide (194 ≤ (bt a0 a1)) = true := decide_eq_true c9; clear c9; (first | rw [c9b0] | (simp only [i64_w, i32_w]; rw [c9b0]) | skip); have H' := Aside0.mk H; clear H; go_wp2; go_meet
              case rel => exact ⟨_, (decide ((bt a0 a1) ≤ 223)), zs, H', ⟨by first | omega | exact Nat.le_refl _⟩, by repeat (first | exact Drawn0.refl _ | apply Drawn0.step)⟩
            · rw [if_neg c9] at H
              have c9b0 : decide (194 ≤ (bt a0 a1)) = false := decide_eq_false c9; clear c9; (first | rw [c9b0] | (simp only [i64_w, i32_w]; rw [c9b0]) | skip); have H' := Aside0.mk H; clear H; go_wp2; go_meet
              case rel => exact ⟨_, (false), zs, H', ⟨by first | omega | exact Nat.le_refl _⟩, by repeat (first | exact Drawn0.refl _ | apply Drawn0.step)⟩
          case rest =>
            clear HC8; (try clear p2); (try clear c3); (try clear c3b0); (try clear c4); (try clear c4b0); (try clear p5); (try clear q5); (try clear hx5); (try clear c7); (try clear c7b0); (try clear c8); (try clear c9); (try clear c9b0); (try clear p5); (try clear q5); obtain ⟨kq, x16_7, rfl, HA, HJ7, ⟨mc7, rfl⟩⟩ := hcut
            cases kq with
            | zero => exact absurd HA.out (by simp [abacusref12_Char.j0])
            | succ kj7 =>
              have H := HA.out; clear HA; simp only [abacusref12_Char.j0] at H; by_cases c10 : x16_7 = true
              · subst c10
                have H1 : (abacusref12_Char.j3 kj7 a0 a1 2 128 191) = some r := by rw [if_pos rfl] at H; exact H
                clear H; have H := H1; clear H1; have H' := Aside0.mk H; clear H; go_wp2; go_meet
                case rel => exact ⟨_, (2), (128), (191), zs, zs, zs, H', ⟨by have := HJ7.out; first | omega | exact Nat.le_refl _⟩, by repeat (first | exact Drawn0.refl _ | apply Drawn0.step)⟩
              · replace c10 := Bool.eq_false_iff.mpr c10
                subst c10; have H1 : (if (bt a0 a1) ≥ 224 then (abacusref12_Char.j1 kj7 a0 a1 (bt a0 a1) 128 191 (decide ((bt a0 a1) ≤ 239))) else (abacusref12_Char.j1 kj7 a0 a1 (bt a0 a1) 128 191 false)) = some r := by rw [if_neg (show ¬ (false = true) by decide)] at H; exact H
                clear H; have H := H1; clear H1; have HC11 := Aside0.mk H; clear H; go_upto_region 10 with (fail)
                go_cut [23] (fun v23 wc => ∃ (kq : Nat) (x23_10 : Bool), v23 = .bool x23_10 ∧ Aside0 (abacusref12_Char.j1 kq a0 a1 (bt a0 a1) 128 191 x23_10 = some r) ∧ Aside0 (kq ≤ kj7) ∧ Drawn0 w wc)
                case first =>
                  have H := HC11.out; clear HC11; by_cases c12 : (bt a0 a1) ≥ 224
                  · rw [if_pos c12] at H
                    have c12b0 : decide (224 ≤ (bt a0 a1)) = true := decide_eq_true c12; clear c12; (first | rw [c12b0] | (simp only [i64_w, i32_w]; rw [c12b0]) | skip); have H' := Aside0.mk H; clear H; go_wp2; go_meet
                    case rel => exact ⟨_, (decide ((bt a0 a1) ≤ 239)), zs, H', ⟨by have := HJ7.out; first | omega | exact Nat.le_refl _⟩, by repeat (first | exact Drawn0.refl _ | apply Drawn0.step)⟩
                  · rw [if_neg c12] at H
                    have c12b0 : decide (224 ≤ (bt a0 a1)) = false := decide_eq_false c12; clear c12; (first | rw [c12b0] | (simp only [i64_w, i32_w]; rw [c12b0]) | skip); have H' := Aside0.mk H; clear H; go_wp2; go_meet
                    case rel => exact ⟨_, (false), zs, H', ⟨by have := HJ7.out; first | omega | exact Nat.le_refl _⟩, by repeat (first | exact Drawn0.refl _ | apply Drawn0.step)⟩
                case rest =>
                  clear HC11; (try clear c1); (try clear p2); (try clear c3); (try clear c3b0); (try clear c4); (try clear c4b0); (try clear p5); (try clear q5); (try clear hx5); (try clear c7); (try clear c7b0); (try clear c8); (try clear c9); (try clear c9b0); (try clear c10); (try clear c12); (try clear c12b0); (try clear p2); (try clear p5); (try clear q5); obtain ⟨kq, x23_10, rfl, HA, HJ10, ⟨mc10, rfl⟩⟩ := hcut
                  cases kq with
                  | zero => exact absurd HA.out (by simp [abacusref12_Char.j1])
                  | succ kj10 =>
                    have H := HA.out; clear HA; simp only [abacusref12_Char.j1] at H; by_cases c13 : x23_10 = true
                    · subst c13
                      have H1 : (if (bt a0 a1) = 224 then (if (bt a0 a1) = 237 then (abacusref12_Char.j3 kj10 a0 a1 3 160 159) else (abacusref12_Char.j3 kj10 a0 a1 3 160 191)) else (if (bt a0 a1) = 237 then (abacusref12_Char.j3 kj10 a0 a1 3 128 159) else (abacusref12_Char.j3 kj10 a0 a1 3 128 191))) = some r := by rw [if_pos rfl] at H; exact H
                      clear H; have H := H1; clear H1; by_cases c14 : (bt a0 a1) = 224
                      · rw [if_pos c14] at H
                        have c14b0 : ((bt a0 a1) == 224) = true := beq_iff_eq.mpr c14; have c14b1 : ((bt a0 a1) != 224) = false := bne_eq_false_iff_eq.mpr c14; clear c14; by_cases c15 : (bt a0 a1) = 237
                        · rw [if_pos c15] at H
                          have c15b0 : ((bt a0 a1) == 237) = true := beq_iff_eq.mpr c15; have c15b1 : ((bt a0 a1) != 237) = false := bne_eq_false_iff_eq.mpr c15; clear c15; have H' := Aside0.mk H; clear H; go_wp2; go_meet
                          case rel => exact ⟨_, (3), (160), (159), zs, zs, zs, H', ⟨by have := HJ7.out; have := HJ10.out; first | omega | exact Nat.le_refl _⟩, by repeat (first | exact Drawn0.refl _ | apply Drawn0.step)⟩
                        · rw [if_neg c15] at H
                          have c15b0 : ((bt a0 a1) == 237) = false := beq_eq_false_iff_ne.mpr c15; have c15b1 : ((bt a0 a1) != 237) = true := bne_iff_ne.mpr c15; have H' := Aside0.mk H; clear H; go_wp2; go_meet
                          case rel => exact ⟨_, (3), (160), (191), zs, zs, zs, H', ⟨by have := HJ7.out; have := HJ10.out; first | omega | exact Nat.le_refl _⟩, by repeat (first | exact Drawn0.refl _ | apply Drawn0.step)⟩
                      · rw [if_neg c14] at H
                        have c14b0 : ((bt a0 a1) == 224) = false := beq_eq_false_iff_ne.mpr c14; have c14b1 : ((bt a0 a1) != 224) = true := bne_iff_ne.mpr c14; by_cases c16 : (bt a0 a1) = 237
                        · rw [if_pos c16] at H
                          have c16b0 : ((bt a0 a1) == 237) = true := beq_iff_eq.mpr c16; have c16b1 : ((bt a0 a1) != 237) = false := bne_eq_false_iff_eq.mpr c16; clear c16; have H' := Aside0.mk H; clear H; go_wp2; go_meet
                          case rel => exact ⟨_, (3), (128), (159), zs, zs, zs, H', ⟨by have := HJ7.out; have := HJ10.out; first | omega | exact Nat.le_refl _⟩, by repeat (first | exact Drawn0.refl _ | apply Drawn0.step)⟩
                        · rw [if_neg c16] at H
                          have c16b0 : ((bt a0 a1) == 237) = false := beq_eq_false_iff_ne.mpr c16; have c16b1 : ((bt a0 a1) != 237) = true := bne_iff_ne.mpr c16; have H' := Aside0.mk H; clear H; go_wp2; go_meet
                          case rel => exact ⟨_, (3), (128), (191), zs, zs, zs, H', ⟨by have := HJ7.out; have := HJ10.out; first | omega | exact Nat.le_refl _⟩, by repeat (first | exact Drawn0.refl _ | apply Drawn0.step)⟩
                    · replace c13 := Bool.eq_false_iff.mpr c13
                      subst c13; have H1 : (if (bt a0 a1) ≥ 240 then (abacusref12_Char.j2 kj10 a0 a1 (bt a0 a1) 128 191 (decide ((bt a0 a1) ≤ 244))) else (abacusref12_Char.j2 kj10 a0 a1 (bt a0 a1) 128 191 false)) = some r := by rw [if_neg (show ¬ (false = true) by decide)] at H; exact H
                      clear H; have H := H1; clear H1; have HC17 := Aside0.mk H; clear H; go_upto_region 16 with (fail)
                      go_cut [34] (fun v34 wc => ∃ (kq : Nat) (x34_16 : Bool), v34 = .bool x34_16 ∧ Aside0 (abacusref12_Char.j2 kq a0 a1 (bt a0 a1) 128 191 x34_16 = some r) ∧ Aside0 (kq ≤ kj10) ∧ Drawn0 w wc)
                      case first =>
                        have H := HC17.out; clear HC17; by_cases c18 : (bt a0 a1) ≥ 240
                        · rw [if_pos c18] at H
                          have c18b0 : decide (240 ≤ (bt a0 a1)) = true := decide_eq_true c18; clear c18; (first | rw [c18b0] | (simp only [i64_w, i32_w]; rw [c18b0]) | skip); have H' := Aside0.mk H; clear H; go_wp2; go_meet
                          case rel => exact ⟨_, (decide ((bt a0 a1) ≤ 244)), zs, H', ⟨by have := HJ7.out; have := HJ10.out; first | omega | exact Nat.le_refl _⟩, by repeat (first | exact Drawn0.refl _ | apply Drawn0.step)⟩
                        · rw [if_neg c18] at H
                          have c18b0 : decide (240 ≤ (bt a0 a1)) = false := decide_eq_false c18; clear c18; (first | rw [c18b0] | (simp only [i64_w, i32_w]; rw [c18b0]) | skip); have H' := Aside0.mk H; clear H; go_wp2; go_meet
                          case rel => exact ⟨_, (false), zs, H', ⟨by have := HJ7.out; have := HJ10.out; first | omega | exact Nat.le_refl _⟩, by repeat (first | exact Drawn0.refl _ | apply Drawn0.step)⟩
                      case rest =>
                        clear HC17; (try clear c1); (try clear p2); (try clear c3); (try clear c3b0); (try clear c4); (try clear c4b0); (try clear p5); (try clear q5); (try clear hx5); (try clear c7); (try clear c7b0); (try clear c8); (try clear c9); (try clear c9b0); (try clear c10); (try clear c12); (try clear c12b0); (try clear c13); (try clear c14); (try clear c14b0); (try clear c14b1); (try clear c15); (try clear c15b0); (try clear c15b1); (try clear c16); (try clear c16b0); (try clear c16b1); (try clear c18); (try clear c18b0); (try clear p2); (try clear p5); (try clear q5); obtain ⟨kq, x34_16, rfl, HA, HJ16, ⟨mc16, rfl⟩⟩ := hcut
                        cases kq with
                        | zero => exact absurd HA.out (by simp [abacusref12_Char.j2])
                        | succ kj16 =>
                          have H := HA.out; clear HA; simp only [abacusref12_Char.j2] at H; by_cases c19 : x34_16 = true
                          · subst c19
                            have H1 : (if (bt a0 a1) = 240 then (if (bt a0 a1) = 244 then (abacusref12_Char.j3 kj16 a0 a1 4 144 143) else (abacusref12_Char.j3 kj16 a0 a1 4 144 191)) else (if (bt a0 a1) = 244 then (abacusref12_Char.j3 kj16 a0 a1 4 128 143) else (abacusref12_Char.j3 kj16 a0 a1 4 128 191))) = some r := by rw [if_pos rfl] at H; exact H
                            clear H; have H := H1; clear H1; by_cases c20 : (bt a0 a1) = 240
                            · rw [if_pos c20] at H
                              have c20b0 : ((bt a0 a1) == 240) = true := beq_iff_eq.mpr c20; have c20b1 : ((bt a0 a1) != 240) = false := bne_eq_false_iff_eq.mpr c20; clear c20; by_cases c21 : (bt a0 a1) = 244
                              · rw [if_pos c21] at H
                                have c21b0 : ((bt a0 a1) == 244) = true := beq_iff_eq.mpr c21; have c21b1 : ((bt a0 a1) != 244) = false := bne_eq_false_iff_eq.mpr c21; clear c21; have H' := Aside0.mk H; clear H; go_wp2; go_meet
                                case rel => exact ⟨_, (4), (144), (143), zs, zs, zs, H', ⟨by have := HJ7.out; have := HJ10.out; have := HJ16.out; first | omega | exact Nat.le_refl _⟩, by repeat (first | exact Drawn0.refl _ | apply Drawn0.step)⟩
                              · rw [if_neg c21] at H
                                have c21b0 : ((bt a0 a1) == 244) = false := beq_eq_false_iff_ne.mpr c21; have c21b1 : ((bt a0 a1) != 244) = true := bne_iff_ne.mpr c21; have H' := Aside0.mk H; clear H; go_wp2; go_meet
                                case rel => exact ⟨_, (4), (144), (191), zs, zs, zs, H', ⟨by have := HJ7.out; have := HJ10.out; have := HJ16.out; first | omega | exact Nat.le_refl _⟩, by repeat (first | exact Drawn0.refl _ | apply Drawn0.step)⟩
                            · rw [if_neg c20] at H
                              have c20b0 : ((bt a0 a1) == 240) = false := beq_eq_false_iff_ne.mpr c20; have c20b1 : ((bt a0 a1) != 240) = true := bne_iff_ne.mpr c20; by_cases c22 : (bt a0 a1) = 244
                              · rw [if_pos c22] at H
                                have c22b0 : ((bt a0 a1) == 244) = true := beq_iff_eq.mpr c22; have c22b1 : ((bt a0 a1) != 244) = false := bne_eq_false_iff_eq.mpr c22; clear c22; have H' := Aside0.mk H; clear H; go_wp2; go_meet
                                case rel => exact ⟨_, (4), (128), (143), zs, zs, zs, H', ⟨by have := HJ7.out; have := HJ10.out; have := HJ16.out; first | omega | exact Nat.le_refl _⟩, by repeat (first | exact Drawn0.refl _ | apply Drawn0.step)⟩
                              · rw [if_neg c22] at H
                                have c22b0 : ((bt a0 a1) == 244) = false := beq_eq_false_iff_ne.mpr c22; have c22b1 : ((bt a0 a1) != 244) = true := bne_iff_ne.mpr c22; have H' := Aside0.mk H; clear H; go_wp2; go_meet
                                case rel => exact ⟨_, (4), (128), (191), zs, zs, zs, H', ⟨by have := HJ7.out; have := HJ10.out; have := HJ16.out; first | omega | exact Nat.le_refl _⟩, by repeat (first | exact Drawn0.refl _ | apply Drawn0.step)⟩
                          · replace c19 := Bool.eq_false_iff.mpr c19
                            subst c19; have H1 : (some 0) = some r := by rw [if_neg (show ¬ (false = true) by decide)] at H; exact H
                            clear H; have H := H1; clear H1; obtain rfl := Option.some.inj H; go_wp2; go_ret
                            exact ⟨zs, by repeat (first | exact Drawn0.refl _ | apply Drawn0.step)⟩
      case rest =>
        clear HC6; (try clear c1); (try clear c2); (try clear p2); (try clear c3); (try clear c3b0); (try clear c4); (try clear c4b0); (try clear p5); (try clear q5); (try clear hx5); (try clear c7); (try clear c7b0); (try clear c8); (try clear c9); (try clear c9b0); (try clear c10); (try clear c12); (try clear c12b0); (try clear c13); (try clear c14); (try clear c14b0); (try clear c14b1); (try clear c15); (try clear c15b0); (try clear c15b1); (try clear c16); (try clear c16b0); (try clear c16b1); (try clear c18); (try clear c18b0); (try clear c19); (try clear c20); (try clear c20b0); (try clear c20b1); (try clear c21); (try clear c21b0); (try clear c21b1); (try clear c22); (try clear c22b0); (try clear c22b1); (try clear p2); (try clear p5); (try clear q5); obtain ⟨kq, x6_5, x7_5, x8_5, rfl, rfl, rfl, HA, HJ5, ⟨mc5, rfl⟩⟩ := hcut
        cases kq with
        | zero => exact absurd HA.out (by simp [abacusref12_Char.j3])
        | succ kj5 =>
          have H := HA.out; clear HA; simp only [abacusref12_Char.j3] at H; have HC23 := Aside0.mk H; clear H; go_upto_region 22 with (fail)
          go_cut [66] (fun v66 wc => ∃ (kq : Nat) (x66_22 : Bool), v66 = .bool x66_22 ∧ Aside0 (abacusref12_Char.j4 kq a0 a1 x6_5 x66_22 = some r) ∧ Aside0 (kq ≤ kj5) ∧ Drawn0 w wc)
          case first =>
            have H := HC23.out; clear HC23; by_cases c24 : (wrap64 (a1 + x6_5)) > (a0.size : Int)
            · rw [if_pos c24] at H
              have c24b0 : decide ((a0.size : Int) < (wrap64 (a1 + x6_5))) = true := decide_eq_true c24; clear c24; (first | rw [c24b0] | (simp only [i64_w, i32_w]; rw [c24b0]) | skip); have H' := Aside0.mk H; clear H; go_wp2; go_meet
              case rel => exact ⟨_, (true), zs, H', ⟨by have := HJ5.out; first | omega | exact Nat.le_refl _⟩, by repeat (first | exact Drawn0.refl _ | apply Drawn0.step)⟩
            · rw [if_neg c24] at H
              have c24b0 : decide ((a0.size : Int) < (wrap64 (a1 + x6_5))) = false := decide_eq_false c24; clear c24; (first | rw [c24b0] | (simp only [i64_w, i32_w]; rw [c24b0]) | skip); obtain ⟨ji25, hji25⟩ : ∃ j_ : Int, (wrap64 (a1 + 1)) = j_ := ⟨_, rfl⟩; replace H : (if 0 ≤ (ji25) then (if (ji25) < (a0.size : Int) then (if (bt a0 (ji25)) < x7_5 then (abacusref12_Char.j4 kj5 a0 a1 x6_5 true) else (abacusref12_Char.j4 kj5 a0 a1 x6_5 (decide ((bt a0 (ji25)) > x8_5)))) else (none)) else (none)) = some r := by first | (rw [hji25] at H; exact H) | (simp only [hji25] at H ⊢; exact H)
              have hji25w : (IntKind.i64.wrap (a1 + 1)) = ji25 := (i64_w _).trans hji25; by_cases c26 : 0 ≤ (ji25)
              · rw [if_pos c26] at H
                have c26b0 : decide (0 ≤ (ji25)) = true := decide_eq_true c26; clear c26; by_cases c27 : (ji25) < (a0.size : Int)
                · rw [if_pos c27] at H
                  have c27b0 : decide ((ji25) < (a0.size : Int)) = true := decide_eq_true c27; clear c27; by_cases c29 : (bt a0 (ji25)) < x7_5
                  · rw [if_pos c29] at H
                    have c29b0 : decide ((bt a0 (ji25)) < x7_5) = true := decide_eq_true c29; clear c29; have H' := Aside0.mk H; clear H; have p28 := eq_true (zd : 0 ≤ ((ji25) : Int)); have q28 := eq_true (zd : (ji25) < (a0.size : Int)); have hx28 := bt_at a0 (ji25); go_wp2; go_meet
                    case rel => exact ⟨_, (true), zs, H', ⟨by have := HJ5.out; first | omega | exact Nat.le_refl _⟩, by repeat (first | exact Drawn0.refl _ | apply Drawn0.step)⟩
                  · rw [if_neg c29] at H
                    have c29b0 : decide ((bt a0 (ji25)) < x7_5) = false := decide_eq_false c29; clear c29; have H' := Aside0.mk H; clear H; have p28 := eq_true (zd : 0 ≤ ((ji25) : Int)); have q28 := eq_true (zd : (ji25) < (a0.size : Int)); have hx28 := bt_at a0 (ji25); have p30 := eq_true (zd : 0 ≤ ((ji25) : Int)); have q30 := eq_true (zd : (ji25) < (a0.size : Int)); have hx30 := bt_at a0 (ji25); go_wp2; go_meet
                    case rel => exact ⟨_, (decide ((bt a0 (ji25)) > x8_5)), (by first | rfl | (simp; done) | (simp only [← hji25] <;> (first | rfl | simp)) | (simp [*]; done)), H', ⟨by have := HJ5.out; first | omega | exact Nat.le_refl _⟩, by repeat (first | exact Drawn0.refl _ | apply Drawn0.step)⟩
                · rw [if_neg c27] at H
                  exact absurd H (by simp)
              · rw [if_neg c26] at H
                exact absurd H (by simp)
          case rest =>
            clear HC23; (try clear c1); (try clear c2); (try clear p2); (try clear q2); (try clear hx2); (try clear c3); (try clear c3b0); (try clear p3); (try clear q3); (try clear hx3); (try clear c4); (try clear c4b0); (try clear c5); (try clear p5); (try clear q5); (try clear hx5); (try clear p6); (try clear c7); (try clear c7b0); (try clear c8); (try clear c9); (try clear c9b0); (try clear c10); (try clear c12); (try clear c12b0); (try clear c13); (try clear c14); (try clear c14b0); (try clear c14b1); (try clear c15); (try clear c15b0); (try clear c15b1); (try clear c16); (try clear c16b0); (try clear c16b1); (try clear c18); (try clear c18b0); (try clear c19); (try clear c20); (try clear c20b0); (try clear c20b1); (try clear c21); (try clear c21b0); (try clear c21b1); (try clear c22); (try clear c22b0); (try clear c22b1); (try clear c24); (try clear c24b0); (try clear c26); (try clear c26b0); (try clear c27); (try clear c27b0); (try clear p28); (try clear q28); (try clear hx28); (try clear c29); (try clear c29b0); (try clear p30); (try clear q30); (try clear hx30); (try clear p2); (try clear p28); (try clear p30); (try clear p5); (try clear q28); (try clear q30); (try clear q5); obtain ⟨kq, x66_22, rfl, HA, HJ22, ⟨mc22, rfl⟩⟩ := hcut
            cases kq with
            | zero => exact absurd HA.out (by simp [abacusref12_Char.j4])
            | succ kj22 =>
              have H := HA.out; clear HA; simp only [abacusref12_Char.j4] at H; by_cases c31 : x66_22 = true
              · subst c31
                have H1 : (some 0) = some r := by rw [if_pos rfl] at H; exact H
                clear H; have H := H1; clear H1; obtain rfl := Option.some.inj H; go_wp2; go_ret
                exact ⟨zs, by repeat (first | exact Drawn0.refl _ | apply Drawn0.step)⟩
              · replace c31 := Bool.eq_false_iff.mpr c31
                subst c31; have H1 : (abacusref12_Char.l0 kj22 a0 a1 x6_5 2) = some r := by rw [if_neg (show ¬ (false = true) by decide)] at H; exact H
                clear H; have H := H1; clear H1; have H' := Aside0.mk H; clear H; go_wp2; go_loopg [9] kj22 (fun kq v9 w' => ∃ (x9_3 : Int), v9 = .int .i64 x9_3 ∧ Aside0 (abacusref12_Char.l0 kq a0 a1 x6_5 x9_3 = some r) ∧ Aside0 (kq ≤ kj22) ∧ Drawn0 w w')
                case atStart => exact ⟨(2), zs, H', ⟨Nat.le_refl _⟩, by repeat (first | exact Drawn0.refl _ | apply Drawn0.step)⟩
                case round =>
                  clear H'; (try clear c1); (try clear c2); (try clear p2); (try clear q2); (try clear hx2); (try clear c3); (try clear c3b0); (try clear p3); (try clear q3); (try clear hx3); (try clear c4); (try clear c4b0); (try clear c5); (try clear p5); (try clear q5); (try clear hx5); (try clear p6); (try clear c7); (try clear c7b0); (try clear c8); (try clear c9); (try clear c9b0); (try clear c10); (try clear c12); (try clear c12b0); (try clear c13); (try clear c14); (try clear c14b0); (try clear c14b1); (try clear c15); (try clear c15b0); (try clear c15b1); (try clear c16); (try clear c16b0); (try clear c16b1); (try clear c18); (try clear c18b0); (try clear c19); (try clear c20); (try clear c20b0); (try clear c20b1); (try clear c21); (try clear c21b0); (try clear c21b1); (try clear c22); (try clear c22b0); (try clear c22b1); (try clear c24); (try clear c24b0); (try clear c26); (try clear c26b0); (try clear c27); (try clear c27b0); (try clear p28); (try clear q28); (try clear hx28); (try clear c29); (try clear c29b0); (try clear p30); (try clear q30); (try clear hx30); (try clear c31); (try clear p2); (try clear p28); (try clear p3); (try clear p30); (try clear p5); (try clear p6); (try clear q2); (try clear q28); (try clear q3); (try clear q30); (try clear q5); obtain ⟨x9_3, rfl, HA, HK3, ⟨m3, rfl⟩⟩ := hrel
                  cases gk with
                  | zero => exact absurd HA.out (by simp [abacusref12_Char.l0])
                  | succ k3 =>
                    have H := HA.out; clear HA; simp only [abacusref12_Char.l0] at H; by_cases c32 : x9_3 < x6_5
                    · rw [if_pos c32] at H
                      have c32b0 : decide (x9_3 < x6_5) = true := decide_eq_true c32; clear c32; obtain ⟨ji33, hji33⟩ : ∃ j_ : Int, (wrap64 (a1 + x9_3)) = j_ := ⟨_, rfl⟩; replace H : (if 0 ≤ (ji33) then (if (ji33) < (a0.size : Int) then (if (bt a0 (ji33)) < 128 then (some 0) else (if (bt a0 (ji33)) > 191 then (some 0) else (abacusref12_Char.l0 k3 a0 a1 x6_5 (wrap64 (x9_3 + 1))))) else (none)) else (none)) = some r := by first | (rw [hji33] at H; exact H) | (simp only [hji33] at H ⊢; exact H)
                      have hji33w : (IntKind.i64.wrap (a1 + x9_3)) = ji33 := (i64_w _).trans hji33; by_cases c34 : 0 ≤ (ji33)
                      · rw [if_pos c34] at H
                        have c34b0 : decide (0 ≤ (ji33)) = true := decide_eq_true c34; clear c34; by_cases c35 : (ji33) < (a0.size : Int)
                        · rw [if_pos c35] at H
                          have c35b0 : decide ((ji33) < (a0.size : Int)) = true := decide_eq_true c35; clear c35; by_cases c37 : (bt a0 (ji33)) < 128
                          · rw [if_pos c37] at H
                            have c37b0 : decide ((bt a0 (ji33)) < 128) = true := decide_eq_true c37; clear c37; obtain rfl := Option.some.inj H; have p36 := eq_true (zd : 0 ≤ ((ji33) : Int)); have q36 := eq_true (zd : (ji33) < (a0.size : Int)); have hx36 := bt_at a0 (ji33); go_wp2; go_ret
                            exact ⟨by first | rfl | (simp; done) | (simp only [← hji33] <;> (first | rfl | simp)) | (simp [*]; done), by repeat (first | exact Drawn0.refl _ | apply Drawn0.step)⟩
                          · rw [if_neg c37] at H
                            have c37b0 : decide ((bt a0 (ji33)) < 128) = false := decide_eq_false c37; clear c37; by_cases c39 : (bt a0 (ji33)) > 191
                            · rw [if_pos c39] at H
                              have c39b0 : decide (191 < (bt a0 (ji33))) = true := decide_eq_true c39; clear c39; obtain rfl := Option.some.inj H; have p36 := eq_true (zd : 0 ≤ ((ji33) : Int)); have q36 := eq_true (zd : (ji33) < (a0.size : Int)); have hx36 := bt_at a0 (ji33); have p38 := eq_true (zd : 0 ≤ ((ji33) : Int)); have q38 := eq_true (zd : (ji33) < (a0.size : Int)); have hx38 := bt_at a0 (ji33); go_wp2; go_ret
                              exact ⟨by first | rfl | (simp; done) | (simp only [← hji33] <;> (first | rfl | simp)) | (simp [*]; done), by repeat (first | exact Drawn0.refl _ | apply Drawn0.step)⟩
                            · rw [if_neg c39] at H
                              have c39b0 : decide (191 < (bt a0 (ji33))) = false := decide_eq_false c39; clear c39; have H' := Aside0.mk H; clear H; have p36 := eq_true (zd : 0 ≤ ((ji33) : Int)); have q36 := eq_true (zd : (ji33) < (a0.size : Int)); have hx36 := bt_at a0 (ji33); have p38 := eq_true (zd : 0 ≤ ((ji33) : Int)); have q38 := eq_true (zd : (ji33) < (a0.size : Int)); have hx38 := bt_at a0 (ji33); go_wp2; go_roundg k3
                              case measure => have := HJ5.out; have := HJ22.out; have := HK3.out; omega
                              case rel => exact ⟨(wrap64 (x9_3 + 1)), zs, H', ⟨by have := HJ5.out; have := HJ22.out; have := HK3.out; omega⟩, by repeat (first | exact Drawn0.refl _ | apply Drawn0.step)⟩
                        · rw [if_neg c35] at H
                          exact absurd H (by simp)
                      · rw [if_neg c34] at H
                        exact absurd H (by simp)
                    · rw [if_neg c32] at H
                      have c32b0 : decide (x9_3 < x6_5) = false := decide_eq_false c32; clear c32; obtain rfl := Option.some.inj H; go_wp2; go_ret
                      exact ⟨zs, by repeat (first | exact Drawn0.refl _ | apply Drawn0.step)⟩
    · rw [if_neg c4] at H
      exact absurd H (by simp)
  · rw [if_neg c3] at H
    exact absurd H (by simp)

def abacusref12_torn.l0 : Nat → ByteArray → Int → Option (Int)
  | 0, _, _ => none
  | k + 1, x0, x3 => if x3 < (x0.size : Int) then ((abacusref12_Char.f k x0 x3).bind fun t145 => (if t145 = 0 then (some x3) else (abacusref12_torn.l0 k x0 (wrap64 (x3 + t145))))) else (some (-1))
def abacusref12_torn.f (k : Nat) (a0 : ByteArray) : Option (Int) := abacusref12_torn.l0 k a0 0
set_option maxHeartbeats 8000000 in
set_option maxRecDepth 100000 in
theorem abacusref12_torn.calls (k : Nat) (a0 : ByteArray) (r : Int) (w : World) (h : abacusref12_torn.f k a0 = some r) :
    Calls Tryd.prog 59 #[.string a0] w fun e w' => e = .returned (.int .i64 r) ∧ Drawn0 w w' := by
  have H : (abacusref12_torn.l0 k a0 0) = some r := h; clear h; have H' := Aside0.mk H; clear H; go_enter Tryd.func59, Tryd.ntmps59; go_wp2; go_loopg [3] k (fun kq v3 w' => ∃ (x3_1 : Int), v3 = .int .i64 x3_1 ∧ Aside0 (abacusref12_torn.l0 kq a0 x3_1 = some r) ∧ Aside0 (kq ≤ k) ∧ Drawn0 w w')
  case atStart => exact ⟨(0), zs, H', ⟨Nat.le_refl _⟩, by repeat (first | exact Drawn0.refl _ | apply Drawn0.step)⟩
  case round =>
    clear H'; obtain ⟨x3_1, rfl, HA, HK1, ⟨m1, rfl⟩⟩ := hrel
    cases gk with
    | zero => exact absurd HA.out (by simp [abacusref12_torn.l0])
    | succ k1 =>
      have H := HA.out; clear HA; simp only [abacusref12_torn.l0] at H; by_cases c2 : x3_1 < (a0.size : Int)
      · rw [if_pos c2] at H
        have c2b0 : decide (x3_1 < (a0.size : Int)) = true := decide_eq_true c2; clear c2; replace H := Option.bind_eq_some_iff.mp H; obtain ⟨t145, A30, H⟩ := H; replace H : (if t145 = 0 then (some x3_1) else (abacusref12_torn.l0 k1 a0 (wrap64 (x3_1 + t145)))) = some r := H; have A3 := Aside0.mk A30; clear A30; by_cases c4 : t145 = 0
        · rw [if_pos c4] at H
          have c4b0 : (t145 == 0) = true := beq_iff_eq.mpr c4; have c4b1 : (t145 != 0) = false := bne_eq_false_iff_eq.mpr c4; clear c4; obtain rfl := Option.some.inj H; go_wp2_with (first | ((with_reducible refine gate_callee (f := 89) rfl ?_); refine goesL_ (some 11) rfl rfl Tryd.func89 (by kernel_rfl) rfl #[.string a0, .int .i64 x3_1] rfl zl ?_; (with_reducible refine (abacusref12_Char.calls k1 a0 x3_1 t145 _ A3.out).mono ?_); rintro e w' ⟨rfl, ⟨nd, rfl⟩⟩; refine ⟨_, rfl, ?_⟩))
          go_ret
          exact ⟨zs, by repeat (first | exact Drawn0.refl _ | apply Drawn0.step)⟩
        · rw [if_neg c4] at H
          have c4b0 : (t145 == 0) = false := beq_eq_false_iff_ne.mpr c4; have c4b1 : (t145 != 0) = true := bne_iff_ne.mpr c4; have H' := Aside0.mk H; clear H; go_wp2_with (first | ((with_reducible refine gate_callee (f := 89) rfl ?_); refine goesL_ (some 11) rfl rfl Tryd.func89 (by kernel_rfl) rfl #[.string a0, .int .i64 x3_1] rfl zl ?_; (with_reducible refine (abacusref12_Char.calls k1 a0 x3_1 t145 _ A3.out).mono ?_); rintro e w' ⟨rfl, ⟨nd, rfl⟩⟩; refine ⟨_, rfl, ?_⟩))
          go_roundg k1
          case measure => have := HK1.out; omega
          case rel => exact ⟨(wrap64 (x3_1 + t145)), zs, H', ⟨by have := HK1.out; omega⟩, by repeat (first | exact Drawn0.refl _ | apply Drawn0.step)⟩
      · rw [if_neg c2] at H
        have c2b0 : decide (x3_1 < (a0.size : Int)) = false := decide_eq_false c2; clear c2; obtain rfl := Option.some.inj H; go_wp2; go_ret
        exact ⟨zs, by repeat (first | exact Drawn0.refl _ | apply Drawn0.step)⟩

def abacusref12_Value.j0 : Nat → ByteArray → Int → Bool → Option (Int)
  | 0, _, _, _ => none
  | k + 1, x0, x3, x11 => if x11 = true then (some x3) else (if (x0.size : Int) > 256 then (some 256) else (if x0.toList = ([] : List UInt8) then (some 0) else (some x3)))
def abacusref12_Value.f (k : Nat) (a0 : ByteArray) : Option (Int) := (abacusref12_torn.f k a0).bind fun t146 => (if t146 ≥ 0 then (abacusref12_Value.j0 k a0 t146 (decide (t146 < 256))) else (abacusref12_Value.j0 k a0 t146 false))
set_option maxHeartbeats 8000000 in
set_option maxRecDepth 100000 in
theorem abacusref12_Value.calls (k : Nat) (a0 : ByteArray) (r : Int) (w : World) (h : abacusref12_Value.f k a0 = some r) :
    Calls Tryd.prog 32 #[.string a0] w fun e w' => e = .returned (.int .i64 r) ∧ Drawn0 w w' := by
  have H : ((abacusref12_torn.f k a0).bind fun t146 => (if t146 ≥ 0 then (abacusref12_Value.j0 k a0 t146 (decide (t146 < 256))) else (abacusref12_Value.j0 k a0 t146 false))) = some r := h; clear h; replace H := Option.bind_eq_some_iff.mp H; obtain ⟨t146, A20, H⟩ := H; replace H : (if t146 ≥ 0 then (abacusref12_Value.j0 k a0 t146 (decide (t146 < 256))) else (abacusref12_Value.j0 k a0 t146 false)) = some r := H; have A2 := Aside0.mk A20; clear A20; have HC3 := Aside0.mk H; clear H; go_enter Tryd.func32, Tryd.ntmps32; go_upto_region 2 with (first | ((with_reducible refine gate_callee (f := 59) rfl ?_); refine goesL_ (some 5) rfl rfl Tryd.func59 (by kernel_rfl) rfl #[.string a0] rfl zl ?_; (with_reducible refine (abacusref12_torn.calls k a0 t146 _ A2.out).mono ?_); rintro e w' ⟨rfl, ⟨nd, rfl⟩⟩; refine ⟨_, rfl, ?_⟩))
  (try simp only [Act.put, List.setIfInBounds_toArray, List.set_cons_zero, List.set_cons_succ]); go_cut [11] (fun v11 wc => ∃ (kq : Nat) (x11_2 : Bool), v11 = .bool x11_2 ∧ Aside0 (abacusref12_Value.j0 kq a0 t146 x11_2 = some r) ∧ Aside0 (kq ≤ k) ∧ Drawn0 w wc)
  case first =>
    have H := HC3.out; clear HC3; by_cases c4 : t146 ≥ 0
    · rw [if_pos c4] at H
      have c4b0 : decide (0 ≤ t146) = true := decide_eq_true c4; clear c4; (first | rw [c4b0] | (simp only [i64_w, i32_w]; rw [c4b0]) | skip); have H' := Aside0.mk H; clear H; go_wp2; go_meet
      case rel => exact ⟨_, (decide (t146 < 256)), zs, H', ⟨by first | omega | exact Nat.le_refl _⟩, by repeat (first | exact Drawn0.refl _ | apply Drawn0.step)⟩
    · rw [if_neg c4] at H
      have c4b0 : decide (0 ≤ t146) = false := decide_eq_false c4; clear c4; (first | rw [c4b0] | (simp only [i64_w, i32_w]; rw [c4b0]) | skip); have H' := Aside0.mk H; clear H; go_wp2; go_meet
      case rel => exact ⟨_, (false), zs, H', ⟨by first | omega | exact Nat.le_refl _⟩, by repeat (first | exact Drawn0.refl _ | apply Drawn0.step)⟩
  case rest =>
    clear HC3; (try clear p2); (try clear c3); (try clear c4); (try clear c4b0); obtain ⟨kq, x11_2, rfl, HA, HJ2, ⟨mc2, rfl⟩⟩ := hcut
    cases kq with
    | zero => exact absurd HA.out (by simp [abacusref12_Value.j0])
    | succ kj2 =>
      have H := HA.out; clear HA; simp only [abacusref12_Value.j0] at H; by_cases c5 : x11_2 = true
      · subst c5
        have H1 : (some t146) = some r := by rw [if_pos rfl] at H; exact H
        clear H; have H := H1; clear H1; obtain rfl := Option.some.inj H; go_wp2; go_ret
        exact ⟨zs, by repeat (first | exact Drawn0.refl _ | apply Drawn0.step)⟩
      · replace c5 := Bool.eq_false_iff.mpr c5
        subst c5; have H1 : (if (a0.size : Int) > 256 then (some 256) else (if a0.toList = ([] : List UInt8) then (some 0) else (some t146))) = some r := by rw [if_neg (show ¬ (false = true) by decide)] at H; exact H
        clear H; have H := H1; clear H1; by_cases c6 : (a0.size : Int) > 256
        · rw [if_pos c6] at H
          have c6b0 : decide (256 < (a0.size : Int)) = true := decide_eq_true c6; have c6b1 : decide (256 < a0.size) = true := decide_eq_true (by omega); clear c6; obtain rfl := Option.some.inj H; go_wp2; go_ret
          exact ⟨zs, by repeat (first | exact Drawn0.refl _ | apply Drawn0.step)⟩
        · rw [if_neg c6] at H
          have c6b0 : decide (256 < (a0.size : Int)) = false := decide_eq_false c6; have c6b1 : decide (256 < a0.size) = false := decide_eq_false (by omega); clear c6; by_cases c7 : a0.toList = ([] : List UInt8)
          · rw [if_pos c7] at H
            have c7b0 : (a0.toList == ([] : List UInt8)) = true := beq_iff_eq.mpr c7; have c7b1 : (a0.toList != ([] : List UInt8)) = false := bne_eq_false_iff_eq.mpr c7; clear c7; obtain rfl := Option.some.inj H; go_wp2; go_ret
            exact ⟨zs, by repeat (first | exact Drawn0.refl _ | apply Drawn0.step)⟩
          · rw [if_neg c7] at H
            have c7b0 : (a0.toList == ([] : List UInt8)) = false := beq_eq_false_iff_ne.mpr c7; have c7b1 : (a0.toList != ([] : List UInt8)) = true := bne_iff_ne.mpr c7; obtain rfl := Option.some.inj H; go_wp2; go_ret
            exact ⟨zs, by repeat (first | exact Drawn0.refl _ | apply Drawn0.step)⟩

def abacusref12_Right.l0 : Nat → List (S59) → Int → Option (Bool)
  | 0, _, _ => none
  | k + 1, x0, x3 => if x3 < (x0.length : Int) then (if 0 ≤ x3 then ((abacusref12_Name.f k ((rd_T59 x0 x3).f0)).bind fun t148 => ((abacusref12_Value.f k ((rd_T59 x0 x3).f1)).bind fun t150 => (if t148 = true then (if t150 ≥ 0 then (some false) else (if x3 > 0 then (if 0 ≤ (wrap64 (x3 - 1)) then (if (wrap64 (x3 - 1)) < (x0.length : Int) then (if ((Op.bytesLess (((rd_T59 x0 (wrap64 (x3 - 1))).f0).toList) (((rd_T59 x0 x3).f0).toList)) = true) then (abacusref12_Right.l0 k x0 (wrap64 (x3 + 1))) else (some false)) else (none)) else (none)) else (abacusref12_Right.l0 k x0 (wrap64 (x3 + 1))))) else (some false)))) else (none)) else (some true)
def abacusref12_Right.f (k : Nat) (l0 : List (S59)) : Option (Bool) := if (l0.length : Int) > 32 then (some false) else (abacusref12_Right.l0 k l0 0)
set_option maxHeartbeats 8000000 in
set_option maxRecDepth 100000 in
theorem abacusref12_Right.calls (k : Nat) (A0 : Option Addr) (c0 : Nat) (l0 : List (S59)) (r : Bool) (w : World) (hr0 : Kd.C k59 w A0 l0.length l0) (hc0 : l0.length ≤ c0) (h : abacusref12_Right.f k l0 = some r) :
    Calls Tryd.prog 33 #[.slice A0 l0.length c0] w fun e w' => e = .returned (.bool r) ∧ Drawn0 w w' := by
  have HR0 := Aside0.mk hr0; have HC0 := Aside0.mk hc0; clear hr0 hc0; have H : (if (l0.length : Int) > 32 then (some false) else (abacusref12_Right.l0 k l0 0)) = some r := h; clear h; by_cases c2 : (l0.length : Int) > 32
  · rw [if_pos c2] at H
    have c2b0 : decide (32 < (l0.length : Int)) = true := decide_eq_true c2; have c2b1 : decide (32 < l0.length) = true := decide_eq_true (by omega); clear c2; obtain rfl := Option.some.inj H; go_enter Tryd.func33, Tryd.ntmps33; go_wp2
    repeat (go_quiet (fail); try go_wp2)
    go_ret
    exact ⟨zs, by repeat (first | exact Drawn0.refl _ | apply Drawn0.step)⟩
  · rw [if_neg c2] at H
    have c2b0 : decide (32 < (l0.length : Int)) = false := decide_eq_false c2; have c2b1 : decide (32 < l0.length) = false := decide_eq_false (by omega); clear c2; have H' := Aside0.mk H; clear H; go_enter Tryd.func33, Tryd.ntmps33; go_wp2
    repeat (go_quiet (fail); try go_wp2)
    go_loopg [3] k (fun kq v3 w' => ∃ (x3_1 : Int), v3 = .int .i64 x3_1 ∧ Aside0 (abacusref12_Right.l0 kq l0 x3_1 = some r) ∧ Aside0 (kq ≤ k) ∧ Drawn0 w w')
    case atStart => exact ⟨(0), zs, H', ⟨Nat.le_refl _⟩, by repeat (first | exact Drawn0.refl _ | apply Drawn0.step)⟩
    case round =>
      clear H'; (try clear c2); (try clear c2b0); (try clear c2b1); (try clear p2); obtain ⟨x3_1, rfl, HA, HK1, ⟨m1, rfl⟩⟩ := hrel
      cases gk with
      | zero => exact absurd HA.out (by simp [abacusref12_Right.l0])
      | succ k1 =>
        have H := HA.out; clear HA; simp only [abacusref12_Right.l0] at H; by_cases c3 : x3_1 < (l0.length : Int)
        · rw [if_pos c3] at H
          have c3b0 : decide (x3_1 < (l0.length : Int)) = true := decide_eq_true c3; clear c3; by_cases c4 : 0 ≤ x3_1
          · rw [if_pos c4] at H
            have c4b0 : decide (0 ≤ x3_1) = true := decide_eq_true c4; clear c4; replace H := Option.bind_eq_some_iff.mp H; obtain ⟨t148, A50, H⟩ := H; replace H : ((abacusref12_Value.f k1 ((rd_T59 l0 x3_1).f1)).bind fun t150 => (if t148 = true then (if t150 ≥ 0 then (some false) else (if x3_1 > 0 then (if 0 ≤ (wrap64 (x3_1 - 1)) then (if (wrap64 (x3_1 - 1)) < (l0.length : Int) then (if ((Op.bytesLess (((rd_T59 l0 (wrap64 (x3_1 - 1))).f0).toList) (((rd_T59 l0 x3_1).f0).toList)) = true) then (abacusref12_Right.l0 k1 l0 (wrap64 (x3_1 + 1))) else (some false)) else (none)) else (none)) else (abacusref12_Right.l0 k1 l0 (wrap64 (x3_1 + 1))))) else (some false))) = some r := H; have A5 := Aside0.mk A50; clear A50; replace H := Option.bind_eq_some_iff.mp H; obtain ⟨t150, A60, H⟩ := H; replace H : (if t148 = true then (if t150 ≥ 0 then (some false) else (if x3_1 > 0 then (if 0 ≤ (wrap64 (x3_1 - 1)) then (if (wrap64 (x3_1 - 1)) < (l0.length : Int) then (if ((Op.bytesLess (((rd_T59 l0 (wrap64 (x3_1 - 1))).f0).toList) (((rd_T59 l0 x3_1).f0).toList)) = true) then (abacusref12_Right.l0 k1 l0 (wrap64 (x3_1 + 1))) else (some false)) else (none)) else (none)) else (abacusref12_Right.l0 k1 l0 (wrap64 (x3_1 + 1))))) else (some false)) = some r := H; have A6 := Aside0.mk A60; clear A60; by_cases c7 : t148 = true
            · subst c7
              have H1 : (if t150 ≥ 0 then (some false) else (if x3_1 > 0 then (if 0 ≤ (wrap64 (x3_1 - 1)) then (if (wrap64 (x3_1 - 1)) < (l0.length : Int) then (if ((Op.bytesLess (((rd_T59 l0 (wrap64 (x3_1 - 1))).f0).toList) (((rd_T59 l0 x3_1).f0).toList)) = true) then (abacusref12_Right.l0 k1 l0 (wrap64 (x3_1 + 1))) else (some false)) else (none)) else (none)) else (abacusref12_Right.l0 k1 l0 (wrap64 (x3_1 + 1))))) = some r := by rw [if_pos rfl] at H; exact H
              clear H; have H := H1; clear H1; by_cases c8 : t150 ≥ 0
              · rw [if_pos c8] at H
                have c8b0 : decide (0 ≤ t150) = true := decide_eq_true c8; clear c8; obtain rfl := Option.some.inj H; obtain ⟨ad147, e147, hx147_0, hx147_1⟩ := at_T59 HR0.out x3_1 zd zd
                cases e147; have p147 := eq_true (zd : 0 ≤ (x3_1 : Int)); have q147 := eq_true (zd : x3_1 < (l0.length : Int)); go_wp2_with (first | (go_at_call 31; (with_reducible refine (abacusref12_Name.calls k1 ((rd_T59 l0 x3_1).f0) true _ A5.out).mono ?_); rintro e w' ⟨rfl, ⟨nd, rfl⟩⟩; (try exact zj); obtain ⟨ad149, e149, hx149_0, hx149_1⟩ := at_T59 HR0.out x3_1 zd zd; obtain rfl : ad147 = ad149 := (by injection e149); have p149 := eq_true (zd : 0 ≤ (x3_1 : Int)); have q149 := eq_true (zd : x3_1 < (l0.length : Int))) | (go_at_call 32; (with_reducible refine (abacusref12_Value.calls k1 ((rd_T59 l0 x3_1).f1) t150 _ A6.out).mono ?_); rintro e w' ⟨rfl, ⟨nd, rfl⟩⟩; (try exact zj)))
                repeat (go_quiet (first | (go_at_call 31; (with_reducible refine (abacusref12_Name.calls k1 ((rd_T59 l0 x3_1).f0) true _ A5.out).mono ?_); rintro e w' ⟨rfl, ⟨nd, rfl⟩⟩; (try exact zj); obtain ⟨ad149, e149, hx149_0, hx149_1⟩ := at_T59 HR0.out x3_1 zd zd; obtain rfl : ad147 = ad149 := (by injection e149); have p149 := eq_true (zd : 0 ≤ (x3_1 : Int)); have q149 := eq_true (zd : x3_1 < (l0.length : Int))) | (go_at_call 32; (with_reducible refine (abacusref12_Value.calls k1 ((rd_T59 l0 x3_1).f1) t150 _ A6.out).mono ?_); rintro e w' ⟨rfl, ⟨nd, rfl⟩⟩; (try exact zj))); try go_wp2_with (first | (go_at_call 31; (with_reducible refine (abacusref12_Name.calls k1 ((rd_T59 l0 x3_1).f0) true _ A5.out).mono ?_); rintro e w' ⟨rfl, ⟨nd, rfl⟩⟩; (try exact zj); obtain ⟨ad149, e149, hx149_0, hx149_1⟩ := at_T59 HR0.out x3_1 zd zd; obtain rfl : ad147 = ad149 := (by injection e149); have p149 := eq_true (zd : 0 ≤ (x3_1 : Int)); have q149 := eq_true (zd : x3_1 < (l0.length : Int))) | (go_at_call 32; (with_reducible refine (abacusref12_Value.calls k1 ((rd_T59 l0 x3_1).f1) t150 _ A6.out).mono ?_); rintro e w' ⟨rfl, ⟨nd, rfl⟩⟩; (try exact zj))))
                go_ret
                exact ⟨zs, by repeat (first | exact Drawn0.refl _ | apply Drawn0.step)⟩
              · rw [if_neg c8] at H
                have c8b0 : decide (0 ≤ t150) = false := decide_eq_false c8; clear c8; by_cases c9 : x3_1 > 0
                · rw [if_pos c9] at H
                  have c9b0 : decide (0 < x3_1) = true := decide_eq_true c9; clear c9; obtain ⟨ji10, hji10⟩ : ∃ j_ : Int, (wrap64 (x3_1 - 1)) = j_ := ⟨_, rfl⟩; replace H : (if 0 ≤ (ji10) then (if (ji10) < (l0.length : Int) then (if ((Op.bytesLess (((rd_T59 l0 (ji10)).f0).toList) (((rd_T59 l0 x3_1).f0).toList)) = true) then (abacusref12_Right.l0 k1 l0 (wrap64 (x3_1 + 1))) else (some false)) else (none)) else (none)) = some r := by first | (rw [hji10] at H; exact H) | (simp only [hji10] at H ⊢; exact H)
                  (try rw [hji10] at A5); (try rw [hji10] at A6); have hji10w : (IntKind.i64.wrap (x3_1 - 1)) = ji10 := (i64_w _).trans hji10; by_cases c11 : 0 ≤ (ji10)
                  · rw [if_pos c11] at H
                    have c11b0 : decide (0 ≤ (ji10)) = true := decide_eq_true c11; clear c11; by_cases c12 : (ji10) < (l0.length : Int)
                    · rw [if_pos c12] at H
                      have c12b0 : decide ((ji10) < (l0.length : Int)) = true := decide_eq_true c12; clear c12; by_cases c13 : ((Op.bytesLess (((rd_T59 l0 (ji10)).f0).toList) (((rd_T59 l0 x3_1).f0).toList)) = true)
                      · rw [if_pos c13] at H
                        have c13b0 : (Op.bytesLess (((rd_T59 l0 (ji10)).f0).toList) (((rd_T59 l0 x3_1).f0).toList)) = true := c13; clear c13; have H' := Aside0.mk H; clear H; obtain ⟨ad147, e147, hx147_0, hx147_1⟩ := at_T59 HR0.out x3_1 zd zd
                        cases e147; have p147 := eq_true (zd : 0 ≤ (x3_1 : Int)); have q147 := eq_true (zd : x3_1 < (l0.length : Int)); go_wp2_with (first | (go_at_call 31; (with_reducible refine (abacusref12_Name.calls k1 ((rd_T59 l0 x3_1).f0) true _ A5.out).mono ?_); rintro e w' ⟨rfl, ⟨nd, rfl⟩⟩; (try exact zj); obtain ⟨ad149, e149, hx149_0, hx149_1⟩ := at_T59 HR0.out x3_1 zd zd; obtain rfl : ad147 = ad149 := (by injection e149); have p149 := eq_true (zd : 0 ≤ (x3_1 : Int)); have q149 := eq_true (zd : x3_1 < (l0.length : Int))) | (go_at_call 32; (with_reducible refine (abacusref12_Value.calls k1 ((rd_T59 l0 x3_1).f1) t150 _ A6.out).mono ?_); rintro e w' ⟨rfl, ⟨nd, rfl⟩⟩; (try exact zj); obtain ⟨ad151, e151, hx151_0, hx151_1⟩ := at_T59 HR0.out (ji10) zd zd; obtain rfl : ad147 = ad151 := (by injection e151); have p151 := eq_true (zd : 0 ≤ ((ji10) : Int)); have q151 := eq_true (zd : (ji10) < (l0.length : Int)); obtain ⟨ad152, e152, hx152_0, hx152_1⟩ := at_T59 HR0.out x3_1 zd zd; obtain rfl : ad147 = ad152 := (by injection e152); have p152 := eq_true (zd : 0 ≤ (x3_1 : Int)); have q152 := eq_true (zd : x3_1 < (l0.length : Int))))
                        repeat (go_quiet (first | (go_at_call 31; (with_reducible refine (abacusref12_Name.calls k1 ((rd_T59 l0 x3_1).f0) true _ A5.out).mono ?_); rintro e w' ⟨rfl, ⟨nd, rfl⟩⟩; (try exact zj); obtain ⟨ad149, e149, hx149_0, hx149_1⟩ := at_T59 HR0.out x3_1 zd zd; obtain rfl : ad147 = ad149 := (by injection e149); have p149 := eq_true (zd : 0 ≤ (x3_1 : Int)); have q149 := eq_true (zd : x3_1 < (l0.length : Int))) | (go_at_call 32; (with_reducible refine (abacusref12_Value.calls k1 ((rd_T59 l0 x3_1).f1) t150 _ A6.out).mono ?_); rintro e w' ⟨rfl, ⟨nd, rfl⟩⟩; (try exact zj); obtain ⟨ad151, e151, hx151_0, hx151_1⟩ := at_T59 HR0.out (ji10) zd zd; obtain rfl : ad147 = ad151 := (by injection e151); have p151 := eq_true (zd : 0 ≤ ((ji10) : Int)); have q151 := eq_true (zd : (ji10) < (l0.length : Int)); obtain ⟨ad152, e152, hx152_0, hx152_1⟩ := at_T59 HR0.out x3_1 zd zd; obtain rfl : ad147 = ad152 := (by injection e152); have p152 := eq_true (zd : 0 ≤ (x3_1 : Int)); have q152 := eq_true (zd : x3_1 < (l0.length : Int)))); try go_wp2_with (first | (go_at_call 31; (with_reducible refine (abacusref12_Name.calls k1 ((rd_T59 l0 x3_1).f0) true _ A5.out).mono ?_); rintro e w' ⟨rfl, ⟨nd, rfl⟩⟩; (try exact zj); obtain ⟨ad149, e149, hx149_0, hx149_1⟩ := at_T59 HR0.out x3_1 zd zd; obtain rfl : ad147 = ad149 := (by injection e149); have p149 := eq_true (zd : 0 ≤ (x3_1 : Int)); have q149 := eq_true (zd : x3_1 < (l0.length : Int))) | (go_at_call 32; (with_reducible refine (abacusref12_Value.calls k1 ((rd_T59 l0 x3_1).f1) t150 _ A6.out).mono ?_); rintro e w' ⟨rfl, ⟨nd, rfl⟩⟩; (try exact zj); obtain ⟨ad151, e151, hx151_0, hx151_1⟩ := at_T59 HR0.out (ji10) zd zd; obtain rfl : ad147 = ad151 := (by injection e151); have p151 := eq_true (zd : 0 ≤ ((ji10) : Int)); have q151 := eq_true (zd : (ji10) < (l0.length : Int)); obtain ⟨ad152, e152, hx152_0, hx152_1⟩ := at_T59 HR0.out x3_1 zd zd; obtain rfl : ad147 = ad152 := (by injection e152); have p152 := eq_true (zd : 0 ≤ (x3_1 : Int)); have q152 := eq_true (zd : x3_1 < (l0.length : Int)))))
                        go_roundg k1
                        case measure => have := HK1.out; omega
                        case rel => exact ⟨(wrap64 (x3_1 + 1)), zs, H', ⟨by have := HK1.out; omega⟩, by repeat (first | exact Drawn0.refl _ | apply Drawn0.step)⟩
                      · rw [if_neg c13] at H
                        have c13b0 : (Op.bytesLess (((rd_T59 l0 (ji10)).f0).toList) (((rd_T59 l0 x3_1).f0).toList)) = false := by simpa using c13
                        clear c13; obtain rfl := Option.some.inj H; obtain ⟨ad147, e147, hx147_0, hx147_1⟩ := at_T59 HR0.out x3_1 zd zd
                        cases e147; have p147 := eq_true (zd : 0 ≤ (x3_1 : Int)); have q147 := eq_true (zd : x3_1 < (l0.length : Int)); go_wp2_with (first | (go_at_call 31; (with_reducible refine (abacusref12_Name.calls k1 ((rd_T59 l0 x3_1).f0) true _ A5.out).mono ?_); rintro e w' ⟨rfl, ⟨nd, rfl⟩⟩; (try exact zj); obtain ⟨ad149, e149, hx149_0, hx149_1⟩ := at_T59 HR0.out x3_1 zd zd; obtain rfl : ad147 = ad149 := (by injection e149); have p149 := eq_true (zd : 0 ≤ (x3_1 : Int)); have q149 := eq_true (zd : x3_1 < (l0.length : Int))) | (go_at_call 32; (with_reducible refine (abacusref12_Value.calls k1 ((rd_T59 l0 x3_1).f1) t150 _ A6.out).mono ?_); rintro e w' ⟨rfl, ⟨nd, rfl⟩⟩; (try exact zj); obtain ⟨ad151, e151, hx151_0, hx151_1⟩ := at_T59 HR0.out (ji10) zd zd; obtain rfl : ad147 = ad151 := (by injection e151); have p151 := eq_true (zd : 0 ≤ ((ji10) : Int)); have q151 := eq_true (zd : (ji10) < (l0.length : Int)); obtain ⟨ad152, e152, hx152_0, hx152_1⟩ := at_T59 HR0.out x3_1 zd zd; obtain rfl : ad147 = ad152 := (by injection e152); have p152 := eq_true (zd : 0 ≤ (x3_1 : Int)); have q152 := eq_true (zd : x3_1 < (l0.length : Int))))
                        repeat (go_quiet (first | (go_at_call 31; (with_reducible refine (abacusref12_Name.calls k1 ((rd_T59 l0 x3_1).f0) true _ A5.out).mono ?_); rintro e w' ⟨rfl, ⟨nd, rfl⟩⟩; (try exact zj); obtain ⟨ad149, e149, hx149_0, hx149_1⟩ := at_T59 HR0.out x3_1 zd zd; obtain rfl : ad147 = ad149 := (by injection e149); have p149 := eq_true (zd : 0 ≤ (x3_1 : Int)); have q149 := eq_true (zd : x3_1 < (l0.length : Int))) | (go_at_call 32; (with_reducible refine (abacusref12_Value.calls k1 ((rd_T59 l0 x3_1).f1) t150 _ A6.out).mono ?_); rintro e w' ⟨rfl, ⟨nd, rfl⟩⟩; (try exact zj); obtain ⟨ad151, e151, hx151_0, hx151_1⟩ := at_T59 HR0.out (ji10) zd zd; obtain rfl : ad147 = ad151 := (by injection e151); have p151 := eq_true (zd : 0 ≤ ((ji10) : Int)); have q151 := eq_true (zd : (ji10) < (l0.length : Int)); obtain ⟨ad152, e152, hx152_0, hx152_1⟩ := at_T59 HR0.out x3_1 zd zd; obtain rfl : ad147 = ad152 := (by injection e152); have p152 := eq_true (zd : 0 ≤ (x3_1 : Int)); have q152 := eq_true (zd : x3_1 < (l0.length : Int)))); try go_wp2_with (first | (go_at_call 31; (with_reducible refine (abacusref12_Name.calls k1 ((rd_T59 l0 x3_1).f0) true _ A5.out).mono ?_); rintro e w' ⟨rfl, ⟨nd, rfl⟩⟩; (try exact zj); obtain ⟨ad149, e149, hx149_0, hx149_1⟩ := at_T59 HR0.out x3_1 zd zd; obtain rfl : ad147 = ad149 := (by injection e149); have p149 := eq_true (zd : 0 ≤ (x3_1 : Int)); have q149 := eq_true (zd : x3_1 < (l0.length : Int))) | (go_at_call 32; (with_reducible refine (abacusref12_Value.calls k1 ((rd_T59 l0 x3_1).f1) t150 _ A6.out).mono ?_); rintro e w' ⟨rfl, ⟨nd, rfl⟩⟩; (try exact zj); obtain ⟨ad151, e151, hx151_0, hx151_1⟩ := at_T59 HR0.out (ji10) zd zd; obtain rfl : ad147 = ad151 := (by injection e151); have p151 := eq_true (zd : 0 ≤ ((ji10) : Int)); have q151 := eq_true (zd : (ji10) < (l0.length : Int)); obtain ⟨ad152, e152, hx152_0, hx152_1⟩ := at_T59 HR0.out x3_1 zd zd; obtain rfl : ad147 = ad152 := (by injection e152); have p152 := eq_true (zd : 0 ≤ (x3_1 : Int)); have q152 := eq_true (zd : x3_1 < (l0.length : Int)))))
                        go_ret
                        exact ⟨by first | rfl | (simp; done) | (simp only [← hji10] <;> (first | rfl | simp)) | (simp [*]; done), by repeat (first | exact Drawn0.refl _ | apply Drawn0.step)⟩
                    · rw [if_neg c12] at H
                      exact absurd H (by simp)
                  · rw [if_neg c11] at H
                    exact absurd H (by simp)
                · rw [if_neg c9] at H
                  have c9b0 : decide (0 < x3_1) = false := decide_eq_false c9; clear c9; have H' := Aside0.mk H; clear H; obtain ⟨ad147, e147, hx147_0, hx147_1⟩ := at_T59 HR0.out x3_1 zd zd
                  cases e147; have p147 := eq_true (zd : 0 ≤ (x3_1 : Int)); have q147 := eq_true (zd : x3_1 < (l0.length : Int)); go_wp2_with (first | (go_at_call 31; (with_reducible refine (abacusref12_Name.calls k1 ((rd_T59 l0 x3_1).f0) true _ A5.out).mono ?_); rintro e w' ⟨rfl, ⟨nd, rfl⟩⟩; (try exact zj); obtain ⟨ad149, e149, hx149_0, hx149_1⟩ := at_T59 HR0.out x3_1 zd zd; obtain rfl : ad147 = ad149 := (by injection e149); have p149 := eq_true (zd : 0 ≤ (x3_1 : Int)); have q149 := eq_true (zd : x3_1 < (l0.length : Int))) | (go_at_call 32; (with_reducible refine (abacusref12_Value.calls k1 ((rd_T59 l0 x3_1).f1) t150 _ A6.out).mono ?_); rintro e w' ⟨rfl, ⟨nd, rfl⟩⟩; (try exact zj)))
                  repeat (go_quiet (first | (go_at_call 31; (with_reducible refine (abacusref12_Name.calls k1 ((rd_T59 l0 x3_1).f0) true _ A5.out).mono ?_); rintro e w' ⟨rfl, ⟨nd, rfl⟩⟩; (try exact zj); obtain ⟨ad149, e149, hx149_0, hx149_1⟩ := at_T59 HR0.out x3_1 zd zd; obtain rfl : ad147 = ad149 := (by injection e149); have p149 := eq_true (zd : 0 ≤ (x3_1 : Int)); have q149 := eq_true (zd : x3_1 < (l0.length : Int))) | (go_at_call 32; (with_reducible refine (abacusref12_Value.calls k1 ((rd_T59 l0 x3_1).f1) t150 _ A6.out).mono ?_); rintro e w' ⟨rfl, ⟨nd, rfl⟩⟩; (try exact zj))); try go_wp2_with (first | (go_at_call 31; (with_reducible refine (abacusref12_Name.calls k1 ((rd_T59 l0 x3_1).f0) true _ A5.out).mono ?_); rintro e w' ⟨rfl, ⟨nd, rfl⟩⟩; (try exact zj); obtain ⟨ad149, e149, hx149_0, hx149_1⟩ := at_T59 HR0.out x3_1 zd zd; obtain rfl : ad147 = ad149 := (by injection e149); have p149 := eq_true (zd : 0 ≤ (x3_1 : Int)); have q149 := eq_true (zd : x3_1 < (l0.length : Int))) | (go_at_call 32; (with_reducible refine (abacusref12_Value.calls k1 ((rd_T59 l0 x3_1).f1) t150 _ A6.out).mono ?_); rintro e w' ⟨rfl, ⟨nd, rfl⟩⟩; (try exact zj))))
                  go_roundg k1
                  case measure => have := HK1.out; omega
                  case rel => exact ⟨(wrap64 (x3_1 + 1)), zs, H', ⟨by have := HK1.out; omega⟩, by repeat (first | exact Drawn0.refl _ | apply Drawn0.step)⟩
            · replace c7 := Bool.eq_false_iff.mpr c7
              subst c7; have H1 : (some false) = some r := by rw [if_neg (show ¬ (false = true) by decide)] at H; exact H
              clear H; have H := H1; clear H1; obtain rfl := Option.some.inj H; obtain ⟨ad147, e147, hx147_0, hx147_1⟩ := at_T59 HR0.out x3_1 zd zd
              cases e147; have p147 := eq_true (zd : 0 ≤ (x3_1 : Int)); have q147 := eq_true (zd : x3_1 < (l0.length : Int)); go_wp2_with (first | (go_at_call 31; (with_reducible refine (abacusref12_Name.calls k1 ((rd_T59 l0 x3_1).f0) false _ A5.out).mono ?_); rintro e w' ⟨rfl, ⟨nd, rfl⟩⟩; (try exact zj); obtain ⟨ad149, e149, hx149_0, hx149_1⟩ := at_T59 HR0.out x3_1 zd zd; obtain rfl : ad147 = ad149 := (by injection e149); have p149 := eq_true (zd : 0 ≤ (x3_1 : Int)); have q149 := eq_true (zd : x3_1 < (l0.length : Int))) | (go_at_call 32; (with_reducible refine (abacusref12_Value.calls k1 ((rd_T59 l0 x3_1).f1) t150 _ A6.out).mono ?_); rintro e w' ⟨rfl, ⟨nd, rfl⟩⟩; (try exact zj)))
              repeat (go_quiet (first | (go_at_call 31; (with_reducible refine (abacusref12_Name.calls k1 ((rd_T59 l0 x3_1).f0) false _ A5.out).mono ?_); rintro e w' ⟨rfl, ⟨nd, rfl⟩⟩; (try exact zj); obtain ⟨ad149, e149, hx149_0, hx149_1⟩ := at_T59 HR0.out x3_1 zd zd; obtain rfl : ad147 = ad149 := (by injection e149); have p149 := eq_true (zd : 0 ≤ (x3_1 : Int)); have q149 := eq_true (zd : x3_1 < (l0.length : Int))) | (go_at_call 32; (with_reducible refine (abacusref12_Value.calls k1 ((rd_T59 l0 x3_1).f1) t150 _ A6.out).mono ?_); rintro e w' ⟨rfl, ⟨nd, rfl⟩⟩; (try exact zj))); try go_wp2_with (first | (go_at_call 31; (with_reducible refine (abacusref12_Name.calls k1 ((rd_T59 l0 x3_1).f0) false _ A5.out).mono ?_); rintro e w' ⟨rfl, ⟨nd, rfl⟩⟩; (try exact zj); obtain ⟨ad149, e149, hx149_0, hx149_1⟩ := at_T59 HR0.out x3_1 zd zd; obtain rfl : ad147 = ad149 := (by injection e149); have p149 := eq_true (zd : 0 ≤ (x3_1 : Int)); have q149 := eq_true (zd : x3_1 < (l0.length : Int))) | (go_at_call 32; (with_reducible refine (abacusref12_Value.calls k1 ((rd_T59 l0 x3_1).f1) t150 _ A6.out).mono ?_); rintro e w' ⟨rfl, ⟨nd, rfl⟩⟩; (try exact zj))))
              go_ret
              exact ⟨zs, by repeat (first | exact Drawn0.refl _ | apply Drawn0.step)⟩
          · rw [if_neg c4] at H
            exact absurd H (by simp)
        · rw [if_neg c3] at H
          have c3b0 : decide (x3_1 < (l0.length : Int)) = false := decide_eq_false c3; clear c3; obtain rfl := Option.some.inj H; go_wp2
          repeat (go_quiet (fail); try go_wp2)
          go_ret
          exact ⟨zs, by repeat (first | exact Drawn0.refl _ | apply Drawn0.step)⟩

mutual
def abacusref12_Quote.l0 : Nat → ByteArray → List Int → Int → Option (ByteArray)
  | 0, _, _, _ => none
  | k + 1, x0, x3, x4 => if x4 < (x0.size : Int) then (if 0 ≤ x4 then (if (bt x0 x4) = 92 then (abacusref12_Quote.j1 k x0 x3 x4 (bt x0 x4) ((bt x0 x4) == 92)) else (abacusref12_Quote.j1 k x0 x3 x4 (bt x0 x4) ((bt x0 x4) == 34))) else (none)) else (if x3.length < 140737488355328 then (some (strOfNums (x3 ++ [34]))) else (none))
def abacusref12_Quote.j1 : Nat → ByteArray → List Int → Int → Int → Bool → Option (ByteArray)
  | 0, _, _, _, _, _ => none
  | k + 1, x0, x3, x4, x14, x21 => if x21 = true then (if 0 ≤ x4 then (if x4 < (x0.size : Int) then ((some (([92, bt x0 x4] : List Int) : List Int)).bind fun y159 => (if x3.length + y159.length < 140737488355328 then (abacusref12_Quote.l0 k x0 (x3 ++ y159) (wrap64 (x4 + 1))) else (none))) else (none)) else (none)) else (if x14 = 10 then ((some (([92, 110] : List Int) : List Int)).bind fun y165 => (if x3.length + y165.length < 140737488355328 then (abacusref12_Quote.l0 k x0 (x3 ++ y165) (wrap64 (x4 + 1))) else (none))) else (if 0 ≤ x4 then (if x4 < (x0.size : Int) then (if x3.length < 140737488355328 then (abacusref12_Quote.l0 k x0 (x3 ++ [bt x0 x4]) (wrap64 (x4 + 1))) else (none)) else (none)) else (none)))
end
def abacusref12_Quote.f (k : Nat) (a0 : ByteArray) : Option (ByteArray) := abacusref12_Quote.l0 k a0 (([34] : List Int)) 0
set_option maxHeartbeats 8000000 in
set_option maxRecDepth 100000 in
theorem abacusref12_Quote.calls (k : Nat) (a0 : ByteArray) (r : ByteArray) (w : World) (h : abacusref12_Quote.f k a0 = some r) :
    Calls Tryd.prog 48 #[.string a0] w fun e w' => e = .returned (.string r) ∧ Below w.heap.size w w' := by
  have HB := Aside0.mk (Below.refl w.heap.size w); have H : (abacusref12_Quote.l0 k a0 (([34] : List Int)) 0) = some r := h; clear h; obtain ⟨y153, hy153⟩ : ∃ y_ : List Int, y_ = (([34] : List Int)) := ⟨_, rfl⟩; replace H : (abacusref12_Quote.l0 k a0 y153 0) = some r := by first | (rw [hy153]; with_reducible exact H) | (have H2_ := (Option.bind_some _ _).symm.trans H; rw [hy153]; with_reducible exact H2_) | (have H2_ := (Option.bind_some _ _).symm.trans H; with_reducible exact H2_) | with_reducible exact H | (rw [hy153]; exact H) | exact H
  have Ny153 := Aside0.mk hy153; clear hy153; have H' := Aside0.mk H; clear H; go_enter Tryd.func48, Tryd.ntmps48; go_wp2_with (first | ((with_reducible refine gate_dst (N := 5) rfl ?_); refine Kd.R_lit (Kd.int .u8) _ 5 ?hg (N := 5) ?hd (xs := ([34] : List Int)) (inner := [.int .u8 34]) (ok := fun _ => True) (okp := fun _ => True) ?hr ?hp (fun _ hk => hk) trivial (Below.refl _ _) (Nat.le_refl _) (by simp) ?_; (case hd => rfl); (case hg => rfl); (case hr => first | (go_simp; done) | (go_simp; rfl)); (case hp => exact (Reps.one (show Kd.M (Kd.int .u8) _ _ _ 34 [.int .u8 34] from rfl) (Reps.none _ _))); intro v154 w2 ho3 hb hg_ hnew_; clear hg_ hnew_; (first | rw [← Ny153.out] at ho3 | (simp only [Int.reduceToNat] at ho3; rw [← Ny153.out] at ho3)); have HO155 := Aside0.mk (Kd.R_lower ho3 (below_size (zb HB.out))); replace HB := Aside0.mk (below_step (zb HB.out) hb); clear hb ho3))
  go_loopg [3, 4] k (fun kq v3 v4 w' => ∃ (x3_1 : List Int) (x4_1 : Int), v4 = .int .i64 x4_1 ∧ Aside0 (abacusref12_Quote.l0 kq a0 x3_1 x4_1 = some r) ∧ Aside0 (kq ≤ k) ∧ Aside0 (Kd.R (Kd.int .u8) 5 w' w.heap.size (fun _ => True) v3 x3_1) ∧ Aside0 (Below w.heap.size w w'))
  case atStart => exact ⟨(y153), (0), zs, H', ⟨Nat.le_refl _⟩, ⟨zr HO155.out⟩, ⟨zb HB.out⟩⟩
  case round =>
    clear H'; (try clear p2); obtain ⟨x3_1, x4_1, rfl, HA, HK1, HO_3, HB⟩ := hrel
    cases gk with
    | zero => exact absurd HA.out (by simp [abacusref12_Quote.l0])
    | succ k1 =>
      have H := HA.out; clear HA; simp only [abacusref12_Quote.l0] at H; by_cases c4 : x4_1 < (a0.size : Int)
      · rw [if_pos c4] at H
        have c4b0 : decide (x4_1 < (a0.size : Int)) = true := decide_eq_true c4; clear c4; by_cases c5 : 0 ≤ x4_1
        · rw [if_pos c5] at H
          have c5b0 : decide (0 ≤ x4_1) = true := decide_eq_true c5; clear c5; have HC7 := Aside0.mk H; clear H; have p6 := eq_true (zd : 0 ≤ (x4_1 : Int)); have q6 := eq_true (zd : x4_1 < (a0.size : Int)); have hx6 := bt_at a0 x4_1; go_upto_if 21 with (fail)
          go_cut [21] (fun v21 wc => ∃ (kq : Nat) (x21_6 : Bool), v21 = .bool x21_6 ∧ Aside0 (abacusref12_Quote.j1 kq a0 x3_1 x4_1 (bt a0 x4_1) x21_6 = some r) ∧ Aside0 (kq ≤ k1) ∧ Aside0 (Kd.R (Kd.int .u8) 5 wc w.heap.size (fun _ => True) u3 x3_1) ∧ Aside0 (Below w.heap.size w wc))
          case first =>
            have H := HC7.out; clear HC7; by_cases c8 : (bt a0 x4_1) = 92
            · rw [if_pos c8] at H
              have c8b0 : ((bt a0 x4_1) == 92) = true := beq_iff_eq.mpr c8; have c8b1 : ((bt a0 x4_1) != 92) = false := bne_eq_false_iff_eq.mpr c8; clear c8; (first | rw [c8b0] | (simp only [i64_w, i32_w]; rw [c8b0]) | skip); have H' := Aside0.mk H; clear H; go_wp2; go_meet
              case rel => exact ⟨_, (((bt a0 x4_1) == 92)), zs, H', ⟨by have := HK1.out; first | omega | exact Nat.le_refl _⟩, ⟨zr HO_3.out⟩, ⟨zb HB.out⟩⟩
            · rw [if_neg c8] at H
              have c8b0 : ((bt a0 x4_1) == 92) = false := beq_eq_false_iff_ne.mpr c8; have c8b1 : ((bt a0 x4_1) != 92) = true := bne_iff_ne.mpr c8; (first | rw [c8b0] | (simp only [i64_w, i32_w]; rw [c8b0]) | skip); have H' := Aside0.mk H; clear H; go_wp2; go_meet
              case rel => exact ⟨_, (((bt a0 x4_1) == 34)), zs, H', ⟨by have := HK1.out; first | omega | exact Nat.le_refl _⟩, ⟨zr HO_3.out⟩, ⟨zb HB.out⟩⟩
          case rest =>
            clear HC7; (try clear p2); (try clear c4); (try clear c4b0); (try clear c5); (try clear c5b0); (try clear p6); (try clear q6); (try clear hx6); (try clear c8); (try clear c8b0); (try clear c8b1); (try clear p2); (try clear p6); (try clear q6); obtain ⟨kq, x21_6, rfl, HA, HJ6, HO_3, HB⟩ := hcut
            cases kq with
            | zero => exact absurd HA.out (by simp [abacusref12_Quote.j1])
            | succ kj6 =>
              have H := HA.out; clear HA; simp only [abacusref12_Quote.j1] at H; by_cases c9 : x21_6 = true
              · subst c9
                have H1 : (if 0 ≤ x4_1 then (if x4_1 < (a0.size : Int) then ((some (([92, bt a0 x4_1] : List Int) : List Int)).bind fun y159 => (if x3_1.length + y159.length < 140737488355328 then (abacusref12_Quote.l0 kj6 a0 (x3_1 ++ y159) (wrap64 (x4_1 + 1))) else (none))) else (none)) else (none)) = some r := by rw [if_pos rfl] at H; exact H
                clear H; have H := H1; clear H1; by_cases c10 : 0 ≤ x4_1
                · rw [if_pos c10] at H
                  have c10b0 : decide (0 ≤ x4_1) = true := decide_eq_true c10; clear c10; by_cases c11 : x4_1 < (a0.size : Int)
                  · rw [if_pos c11] at H
                    have c11b0 : decide (x4_1 < (a0.size : Int)) = true := decide_eq_true c11; clear c11; obtain ⟨y159, hy159⟩ : ∃ y_ : List Int, y_ = (([92, bt a0 x4_1] : List Int)) := ⟨_, rfl⟩; replace H : (if x3_1.length + y159.length < 140737488355328 then (abacusref12_Quote.l0 kj6 a0 (x3_1 ++ y159) (wrap64 (x4_1 + 1))) else (none)) = some r := by first | (rw [hy159]; with_reducible exact H) | (have H2_ := (Option.bind_some _ _).symm.trans H; rw [hy159]; with_reducible exact H2_) | (have H2_ := (Option.bind_some _ _).symm.trans H; with_reducible exact H2_) | with_reducible exact H | (rw [hy159]; exact H) | exact H
                    have Ny159 := Aside0.mk hy159; clear hy159; by_cases c13 : x3_1.length + y159.length < 140737488355328
                    · rw [if_pos c13] at H
                      have LMc13 := Aside0.mk c13; clear c13; obtain ⟨y162, hy162⟩ : ∃ y_ : List Int, y_ = (x3_1 ++ y159) := ⟨_, rfl⟩; replace H : (abacusref12_Quote.l0 kj6 a0 y162 (wrap64 (x4_1 + 1))) = some r := by first | (rw [hy162]; with_reducible exact H) | (have H2_ := (Option.bind_some _ _).symm.trans H; rw [hy162]; with_reducible exact H2_) | (have H2_ := (Option.bind_some _ _).symm.trans H; with_reducible exact H2_) | with_reducible exact H | (rw [hy162]; exact H) | exact H
                      have Ny162 := Aside0.mk hy162; clear hy162; have H' := Aside0.mk H; clear H; have p12 := eq_true (zd : 0 ≤ (x4_1 : Int)); have q12 := eq_true (zd : x4_1 < (a0.size : Int)); have hx12 := bt_at a0 x4_1
                      go_wp2_with (first | ((with_reducible refine gate_dst (N := 28) rfl ?_); refine Kd.R_lit (Kd.int .u8) _ 5 ?hg (N := 28) ?hd (xs := ([92, bt a0 x4_1] : List Int)) (inner := [.int .u8 92, .int .u8 (bt a0 x4_1)]) (ok := fun _ => True) (okp := fun _ => True) ?hr ?hp (fun _ hk => hk) trivial (Below.refl _ _) (Nat.le_refl _) (by simp) ?_; (case hd => rfl); (case hg => rfl); (case hr => first | (go_simp; done) | (go_simp; rfl)); (case hp => exact (Reps.one (show Kd.M (Kd.int .u8) _ _ _ 92 [.int .u8 92] from rfl) (Reps.one (show Kd.M (Kd.int .u8) _ _ _ (bt a0 x4_1) [.int .u8 (bt a0 x4_1)] from rfl) (Reps.none _ _)))); intro v160 w14 ho15 hb hg_ hnew_; clear hg_ hnew_; (first | rw [← Ny159.out] at ho15 | (simp only [Int.reduceToNat] at ho15; rw [← Ny159.out] at ho15)); have HO161 := Aside0.mk (Kd.R_lower (Kd.R_new' ho15 (Kd.R_lt (zr HO_3.out))) (below_size (zb HB.out))); replace HO_3 := Aside0.mk (Kd.R_elder' (zr HO_3.out) (Kd.R_base ho15) hb); replace HB := Aside0.mk (below_step (zb HB.out) hb); clear hb ho15; obtain ⟨Ao17, co17, eo17⟩ := Kd.R_slice HO161.out; subst eo17) | ((with_reducible refine gate_builtin (b := .append) (xs := #[.tmp 24, .tmp 28]) rfl ?_); at_builtin; refine Kd.R_append_rows (Kd.int .u8) (w0 := w) w.heap.size rfl (.tmp 24) (.tmp 28) 92 5 (.int .u8 0) 1 rfl Tryd.underlying92 info5 rfl (by decide) (by omega) u3 x3_1 y159 _ _ _ (fun k_ => some k_ ≠ (.slice Ao17 y159.length co17 : Value).ownBlock) (fun _ => False) rfl rfl ?aO ?aR (fun _ _ h => h) (fun _ h => h.elim) ?aF ?aB ?aS ?aL ?_; (case aR => exact zc (Kd.R_reads' HO161.out).2.2); (case aB => exact (zb HB.out)); (case aF => exact (fun k_ hk => Kd.fresh' (Kd.R_lt (zr HO161.out)) k_ hk)); (case aO => exact (by (with_reducible repeat (first | apply Kd.R_alloc | apply Kd.R_drewN | apply Kd.R_drew)); exact Kd.R_mono HO_3.out (fun _ hk => hk.2))); (case aS => exact (below_size (zb HB.out))); (case aL => have := LMc13.out; omega); intro v163 w16 ho hb hg hat; rw [← Ny162.out] at ho; have n0_ := Aside0.mk (Kd.R_after (ok := (fun _ => True)) (zr HO161.out) hg hat); have n1_ := Aside0.mk (hb); have n2_ := Aside0.mk (ho); clear HO161; clear HB; clear HO_3; have HO161 := n0_; have HB := n1_; have HO164 := n2_; clear n0_ n1_ n2_; clear ho hb hg hat))
                      go_roundg kj6
                      case measure => have := HK1.out; have := HJ6.out; omega
                      case rel => exact ⟨(y162), (wrap64 (x4_1 + 1)), zs, H', ⟨by have := HK1.out; have := HJ6.out; omega⟩, ⟨by (with_reducible repeat (first | apply Kd.R_alloc | apply Kd.R_drewN | apply Kd.R_drew)); exact Kd.R_mono HO164.out (fun _ hk => trivial)⟩, ⟨zb HB.out⟩⟩
                    · rw [if_neg c13] at H
                      exact absurd H (by simp)
                  · rw [if_neg c11] at H
                    exact absurd H (by simp)
                · rw [if_neg c10] at H
                  exact absurd H (by simp)
              · replace c9 := Bool.eq_false_iff.mpr c9
                subst c9; have H1 : (if (bt a0 x4_1) = 10 then ((some (([92, 110] : List Int) : List Int)).bind fun y165 => (if x3_1.length + y165.length < 140737488355328 then (abacusref12_Quote.l0 kj6 a0 (x3_1 ++ y165) (wrap64 (x4_1 + 1))) else (none))) else (if 0 ≤ x4_1 then (if x4_1 < (a0.size : Int) then (if x3_1.length < 140737488355328 then (abacusref12_Quote.l0 kj6 a0 (x3_1 ++ [bt a0 x4_1]) (wrap64 (x4_1 + 1))) else (none)) else (none)) else (none))) = some r := by rw [if_neg (show ¬ (false = true) by decide)] at H; exact H
                clear H; have H := H1; clear H1; by_cases c18 : (bt a0 x4_1) = 10
                · rw [if_pos c18] at H
                  have c18b0 : ((bt a0 x4_1) == 10) = true := beq_iff_eq.mpr c18; have c18b1 : ((bt a0 x4_1) != 10) = false := bne_eq_false_iff_eq.mpr c18; clear c18; obtain ⟨y165, hy165⟩ : ∃ y_ : List Int, y_ = (([92, 110] : List Int)) := ⟨_, rfl⟩; replace H : (if x3_1.length + y165.length < 140737488355328 then (abacusref12_Quote.l0 kj6 a0 (x3_1 ++ y165) (wrap64 (x4_1 + 1))) else (none)) = some r := by first | (rw [hy165]; with_reducible exact H) | (have H2_ := (Option.bind_some _ _).symm.trans H; rw [hy165]; with_reducible exact H2_) | (have H2_ := (Option.bind_some _ _).symm.trans H; with_reducible exact H2_) | with_reducible exact H | (rw [hy165]; exact H) | exact H
                  have Ny165 := Aside0.mk hy165; clear hy165; by_cases c19 : x3_1.length + y165.length < 140737488355328
                  · rw [if_pos c19] at H
                    have LMc19 := Aside0.mk c19; clear c19; obtain ⟨y168, hy168⟩ : ∃ y_ : List Int, y_ = (x3_1 ++ y165) := ⟨_, rfl⟩; replace H : (abacusref12_Quote.l0 kj6 a0 y168 (wrap64 (x4_1 + 1))) = some r := by first | (rw [hy168]; with_reducible exact H) | (have H2_ := (Option.bind_some _ _).symm.trans H; rw [hy168]; with_reducible exact H2_) | (have H2_ := (Option.bind_some _ _).symm.trans H; with_reducible exact H2_) | with_reducible exact H | (rw [hy168]; exact H) | exact H
                    have Ny168 := Aside0.mk hy168; clear hy168; have H' := Aside0.mk H; clear H
                    go_wp2_with (first | ((with_reducible refine gate_dst (N := 33) rfl ?_); refine Kd.R_lit (Kd.int .u8) _ 5 ?hg (N := 33) ?hd (xs := ([92, 110] : List Int)) (inner := [.int .u8 92, .int .u8 110]) (ok := fun _ => True) (okp := fun _ => True) ?hr ?hp (fun _ hk => hk) trivial (Below.refl _ _) (Nat.le_refl _) (by simp) ?_; (case hd => rfl); (case hg => rfl); (case hr => first | (go_simp; done) | (go_simp; rfl)); (case hp => exact (Reps.one (show Kd.M (Kd.int .u8) _ _ _ 92 [.int .u8 92] from rfl) (Reps.one (show Kd.M (Kd.int .u8) _ _ _ 110 [.int .u8 110] from rfl) (Reps.none _ _)))); intro v166 w20 ho21 hb hg_ hnew_; clear hg_ hnew_; (first | rw [← Ny165.out] at ho21 | (simp only [Int.reduceToNat] at ho21; rw [← Ny165.out] at ho21)); have HO167 := Aside0.mk (Kd.R_lower (Kd.R_new' ho21 (Kd.R_lt (zr HO_3.out))) (below_size (zb HB.out))); replace HO_3 := Aside0.mk (Kd.R_elder' (zr HO_3.out) (Kd.R_base ho21) hb); replace HB := Aside0.mk (below_step (zb HB.out) hb); clear hb ho21; obtain ⟨Ao23, co23, eo23⟩ := Kd.R_slice HO167.out; subst eo23) | ((with_reducible refine gate_builtin (b := .append) (xs := #[.tmp 32, .tmp 33]) rfl ?_); at_builtin; refine Kd.R_append_rows (Kd.int .u8) (w0 := w) w.heap.size rfl (.tmp 32) (.tmp 33) 92 5 (.int .u8 0) 1 rfl Tryd.underlying92 info5 rfl (by decide) (by omega) u3 x3_1 y165 _ _ _ (fun k_ => some k_ ≠ (.slice Ao23 y165.length co23 : Value).ownBlock) (fun _ => False) rfl rfl ?aO ?aR (fun _ _ h => h) (fun _ h => h.elim) ?aF ?aB ?aS ?aL ?_; (case aR => exact zc (Kd.R_reads' HO167.out).2.2); (case aB => exact (zb HB.out)); (case aF => exact (fun k_ hk => Kd.fresh' (Kd.R_lt (zr HO167.out)) k_ hk)); (case aO => exact (by (with_reducible repeat (first | apply Kd.R_alloc | apply Kd.R_drewN | apply Kd.R_drew)); exact Kd.R_mono HO_3.out (fun _ hk => hk.2))); (case aS => exact (below_size (zb HB.out))); (case aL => have := LMc19.out; omega); intro v169 w22 ho hb hg hat; rw [← Ny168.out] at ho; have n0_ := Aside0.mk (Kd.R_after (ok := (fun _ => True)) (zr HO167.out) hg hat); have n1_ := Aside0.mk (hb); have n2_ := Aside0.mk (ho); clear HO167; clear HB; clear HO_3; have HO167 := n0_; have HB := n1_; have HO170 := n2_; clear n0_ n1_ n2_; clear ho hb hg hat))
                    go_roundg kj6
                    case measure => have := HK1.out; have := HJ6.out; omega
                    case rel => exact ⟨(y168), (wrap64 (x4_1 + 1)), zs, H', ⟨by have := HK1.out; have := HJ6.out; omega⟩, ⟨by (with_reducible repeat (first | apply Kd.R_alloc | apply Kd.R_drewN | apply Kd.R_drew)); exact Kd.R_mono HO170.out (fun _ hk => trivial)⟩, ⟨zb HB.out⟩⟩
                  · rw [if_neg c19] at H
                    exact absurd H (by simp)
                · rw [if_neg c18] at H
                  have c18b0 : ((bt a0 x4_1) == 10) = false := beq_eq_false_iff_ne.mpr c18; have c18b1 : ((bt a0 x4_1) != 10) = true := bne_iff_ne.mpr c18; by_cases c24 : 0 ≤ x4_1
                  · rw [if_pos c24] at H
                    have c24b0 : decide (0 ≤ x4_1) = true := decide_eq_true c24; clear c24; by_cases c25 : x4_1 < (a0.size : Int)
                    · rw [if_pos c25] at H
                      have c25b0 : decide (x4_1 < (a0.size : Int)) = true := decide_eq_true c25; clear c25; by_cases c27 : x3_1.length < 140737488355328
                      · rw [if_pos c27] at H
                        have LMc27 := Aside0.mk c27; clear c27; obtain ⟨y171, hy171⟩ : ∃ y_ : List Int, y_ = (x3_1 ++ [bt a0 x4_1]) := ⟨_, rfl⟩; replace H : (abacusref12_Quote.l0 kj6 a0 y171 (wrap64 (x4_1 + 1))) = some r := by first | (rw [hy171]; with_reducible exact H) | (have H2_ := (Option.bind_some _ _).symm.trans H; rw [hy171]; with_reducible exact H2_) | (have H2_ := (Option.bind_some _ _).symm.trans H; with_reducible exact H2_) | with_reducible exact H | (rw [hy171]; exact H) | exact H
                        have Ny171 := Aside0.mk hy171; clear hy171; have H' := Aside0.mk H; clear H; have p26 := eq_true (zd : 0 ≤ (x4_1 : Int)); have q26 := eq_true (zd : x4_1 < (a0.size : Int)); have hx26 := bt_at a0 x4_1; go_wp2_with (first | ((with_reducible refine gate_builtin (b := .append) (xs := #[.tmp 15, .tmp 19]) rfl ?_); at_builtin; refine Kd.R_append (Kd.int .u8) (w0 := w) w.heap.size rfl (.tmp 15) (.tmp 19) 92 5 (.int .u8 0) 1 rfl Tryd.underlying92 info5 rfl (by decide) (by omega) u3 x3_1 (bt a0 x4_1) [.int .u8 (bt a0 x4_1)] (fun _ => True) (fun _ => False) rfl rfl ?aP (fun _ hk => hk.elim) ?aF ?aO ?aB ?aS ?aL ?_; (case aP => exact rfl); (case aB => exact (zb HB.out)); (case aF => exact (fun _ _ => trivial)); (case aO => exact (zr HO_3.out)); (case aS => exact (below_size (zb HB.out))); (case aL => have := LMc27.out; omega); intro v172 w28 ho hb hg hat; rw [← Ny171.out] at ho; have n0_ := Aside0.mk (hb); have n1_ := Aside0.mk (ho); clear HB; clear HO_3; have HB := n0_; have HO173 := n1_; clear n0_ n1_; clear ho hb hg hat))
                        go_roundg kj6
                        case measure => have := HK1.out; have := HJ6.out; omega
                        case rel => exact ⟨(y171), (wrap64 (x4_1 + 1)), zs, H', ⟨by have := HK1.out; have := HJ6.out; omega⟩, ⟨zr HO173.out⟩, ⟨zb HB.out⟩⟩
                      · rw [if_neg c27] at H
                        exact absurd H (by simp)
                    · rw [if_neg c25] at H
                      exact absurd H (by simp)
                  · rw [if_neg c24] at H
                    exact absurd H (by simp)
        · rw [if_neg c5] at H
          exact absurd H (by simp)
      · rw [if_neg c4] at H
        have c4b0 : decide (x4_1 < (a0.size : Int)) = false := decide_eq_false c4; clear c4; by_cases c29 : x3_1.length < 140737488355328
        · rw [if_pos c29] at H
          have LMc29 := Aside0.mk c29; clear c29; obtain ⟨y156, hy156⟩ : ∃ y_ : List Int, y_ = (x3_1 ++ [34]) := ⟨_, rfl⟩; replace H : (some (strOfNums y156)) = some r := by first | (rw [hy156]; with_reducible exact H) | (have H2_ := (Option.bind_some _ _).symm.trans H; rw [hy156]; with_reducible exact H2_) | (have H2_ := (Option.bind_some _ _).symm.trans H; with_reducible exact H2_) | with_reducible exact H | (rw [hy156]; exact H) | exact H
          have Ny156 := Aside0.mk hy156; clear hy156; obtain rfl := Option.some.inj H; go_wp2_with (first | ((with_reducible refine gate_builtin (b := .append) (xs := #[.tmp 35, .tmp 36]) rfl ?_); at_builtin; refine Kd.R_append (Kd.int .u8) (w0 := w) w.heap.size rfl (.tmp 35) (.tmp 36) 92 5 (.int .u8 0) 1 rfl Tryd.underlying92 info5 rfl (by decide) (by omega) u3 x3_1 34 [.int .u8 34] (fun _ => True) (fun _ => False) rfl rfl ?aP (fun _ hk => hk.elim) ?aF ?aO ?aB ?aS ?aL ?_; (case aP => exact rfl); (case aB => exact (zb HB.out)); (case aF => exact (fun _ _ => trivial)); (case aO => exact (zr HO_3.out)); (case aS => exact (below_size (zb HB.out))); (case aL => have := LMc29.out; omega); intro v157 w30 ho hb hg hat; rw [← Ny156.out] at ho; have n0_ := Aside0.mk (hb); have n1_ := Aside0.mk (ho); clear HB; clear HO_3; have HB := n0_; have HO158 := n1_; clear n0_ n1_; clear ho hb hg hat; have hcv31 := own_string (P := Tryd.prog) Tryd.underlying92 Tryd.underlying5 Tryd.underlying9 (Kd.own_of_R HO158.out)))
          go_ret
          exact ⟨ze, zb HB.out⟩
        · rw [if_neg c29] at H
          exact absurd H (by simp)

mutual
def abacusref12_put.l0 : Nat → List (S59) → List (S59) → Bool → Int → ByteArray → ByteArray → Option ((List (S59)))
  | 0, _, _, _, _, _, _ => none
  | k + 1, x0, x5, x6, x7, x506000, x506001 => if x7 < (x0.length : Int) then (if x6 = true then (abacusref12_put.j1 k x0 x5 x6 x7 false x506000 x506001) else (if 0 ≤ x7 then (abacusref12_put.j1 k x0 x5 x6 x7 (!(Op.bytesLess (((rd_T59 x0 x7).f0).toList) x506000.toList)) x506000 x506001) else (none))) else (if x6 = true then (some x5) else (if x5.length < 4398046511104 then (some (x5 ++ [(⟨x506000, x506001⟩ : S59)])) else (none)))
def abacusref12_put.j1 : Nat → List (S59) → List (S59) → Bool → Int → Bool → ByteArray → ByteArray → Option ((List (S59)))
  | 0, _, _, _, _, _, _, _ => none
  | k + 1, x0, x5, x6, x7, x25, x506000, x506001 => if x25 = true then (if x5.length < 4398046511104 then ((some (x5 ++ [(⟨x506000, x506001⟩ : S59)] : List (S59))).bind fun y510 => (if 0 ≤ x7 then (if x7 < (x0.length : Int) then (if ((rd_T59 x0 x7).f0).toList = x506000.toList then (abacusref12_put.l0 k x0 y510 true (wrap64 (x7 + 1)) x506000 x506001) else (if y510.length < 4398046511104 then (abacusref12_put.l0 k x0 (y510 ++ [(⟨(rd_T59 x0 x7).f0, (rd_T59 x0 x7).f1⟩ : S59)]) true (wrap64 (x7 + 1)) x506000 x506001) else (none))) else (none)) else (none))) else (none)) else (if 0 ≤ x7 then (if x7 < (x0.length : Int) then (if ((rd_T59 x0 x7).f0).toList = x506000.toList then (abacusref12_put.l0 k x0 x5 x6 (wrap64 (x7 + 1)) x506000 x506001) else (if x5.length < 4398046511104 then (abacusref12_put.l0 k x0 (x5 ++ [(⟨(rd_T59 x0 x7).f0, (rd_T59 x0 x7).f1⟩ : S59)]) x6 (wrap64 (x7 + 1)) x506000 x506001) else (none))) else (none)) else (none))
end
def abacusref12_put.f (k : Nat) (l0 : List (S59)) (a1_0 : ByteArray) (a1_1 : ByteArray) : Option ((List (S59))) := abacusref12_put.l0 k l0 ([] : List (S59)) false 0 a1_0 a1_1
set_option maxHeartbeats 8000000 in
set_option maxRecDepth 100000 in
theorem abacusref12_put.calls (k : Nat) (A0 : Option Addr) (c0 : Nat) (l0 : List (S59)) (a1_0 : ByteArray) (a1_1 : ByteArray) (r : List (S59)) (w : World) (hr0 : Kd.C k59 w A0 l0.length l0) (hc0 : l0.length ≤ c0) (h : abacusref12_put.f k l0 a1_0 a1_1 = some r) :
    Calls Tryd.prog 53 #[.slice A0 l0.length c0, .agg #[.string a1_0, .string a1_1]] w fun e w' => ∃ v0_ : Value, e = .returned (v0_) ∧ Kd.R k59 59 w' w.heap.size (fun _ => True) v0_ r ∧ Below w.heap.size w w' := by
  have hu59 := Tryd.underlying59; have HR0 := Aside0.mk hr0; have HC0 := Aside0.mk hc0; clear hr0 hc0; have HB := Aside0.mk (Below.refl w.heap.size w); have H : (abacusref12_put.l0 k l0 ([] : List (S59)) false 0 a1_0 a1_1) = some r := h; clear h; have H' := Aside0.mk H; clear H; go_enter Tryd.func53, Tryd.ntmps53; go_wp2_with (first | ((with_reducible refine gate_dst (N := 3) rfl ?_); refine box_event ?hg (N := 3) ?hd (cs := #[.string a1_0, .string a1_1]) (t := 59) ?hr ?_; (case hd => rfl); (case hg => rfl); (case hr => first | (go_simp; done) | (go_simp; rfl)); intro gb505 hg w3 hbox hb; have BK505 := Aside0.mk (hbox); have GW505 := Aside0.mk ((by rw [hg]; exact (below_size (zb HB.out)) : w.heap.size ≤ gb505)); have GE505 := Aside0.mk ((by rw [hg]; exact (below_size (zb HB.out)) : w.heap.size ≤ gb505)); replace HB := Aside0.mk (below_step (zb HB.out) hb); clear hb hbox hg))
  repeat (go_quiet (first | ((with_reducible refine gate_dst (N := 3) rfl ?_); refine box_event ?hg (N := 3) ?hd (cs := #[.string a1_0, .string a1_1]) (t := 59) ?hr ?_; (case hd => rfl); (case hg => rfl); (case hr => first | (go_simp; done) | (go_simp; rfl)); intro gb505 hg w3 hbox hb; have BK505 := Aside0.mk (hbox); have GW505 := Aside0.mk ((by rw [hg]; exact (below_size (zb HB.out)) : w.heap.size ≤ gb505)); have GE505 := Aside0.mk ((by rw [hg]; exact (below_size (zb HB.out)) : w.heap.size ≤ gb505)); replace HB := Aside0.mk (below_step (zb HB.out) hb); clear hb hbox hg)); try go_wp2_with (first | ((with_reducible refine gate_dst (N := 3) rfl ?_); refine box_event ?hg (N := 3) ?hd (cs := #[.string a1_0, .string a1_1]) (t := 59) ?hr ?_; (case hd => rfl); (case hg => rfl); (case hr => first | (go_simp; done) | (go_simp; rfl)); intro gb505 hg w3 hbox hb; have BK505 := Aside0.mk (hbox); have GW505 := Aside0.mk ((by rw [hg]; exact (below_size (zb HB.out)) : w.heap.size ≤ gb505)); have GE505 := Aside0.mk ((by rw [hg]; exact (below_size (zb HB.out)) : w.heap.size ≤ gb505)); replace HB := Aside0.mk (below_step (zb HB.out) hb); clear hb hbox hg)))
  go_loopg [5, 6, 7] k (fun kq v5 v6 v7 w' => ∃ (x5_1 : List (S59)) (x6_1 : Bool) (x7_1 : Int), v6 = .bool x6_1 ∧ v7 = .int .i64 x7_1 ∧ Aside0 (abacusref12_put.l0 kq l0 x5_1 x6_1 x7_1 a1_0 a1_1 = some r) ∧ Aside0 (kq ≤ k) ∧ Aside0 (Kd.R k59 59 w' w.heap.size (fun k_ => k_ ≠ gb505) v5 x5_1) ∧ Aside0 (w'.heap[gb505]? = some (.cells #[.string a1_0, .string a1_1] 59 (0, 0))) ∧ Aside0 (Below w.heap.size w w'))
  case atStart => exact ⟨(([] : List (S59))), (false), (0), zs, zs, H', ⟨Nat.le_refl _⟩, ⟨by first | exact Kd.R_nil _ _ _ _ _ | exact Kd.N_nil _ _ _ _ _ | exact Kd.V_nil _ _ _ _ _ | exact Kd.Q_nil _ _ _ _ _ | exact Kd.S_nil _ _ _ _ _⟩, ⟨by (with_reducible repeat (first | refine blk_drewN ?_ _ | refine blk_drew ?_ | refine blk_alloc ?_ _)); exact BK505.out⟩, ⟨zg HB.out GE505.out⟩⟩
  case round =>
    clear H'; (try clear p2); obtain ⟨x5_1, x6_1, x7_1, rfl, rfl, HA, HK1, HO_5, BK505, HB⟩ := hrel
    cases gk with
    | zero => exact absurd HA.out (by simp [abacusref12_put.l0])
    | succ k1 =>
      have H := HA.out; clear HA; simp only [abacusref12_put.l0] at H; by_cases c4 : x7_1 < (l0.length : Int)
      · rw [if_pos c4] at H
        have c4b0 : decide (x7_1 < (l0.length : Int)) = true := decide_eq_true c4; clear c4; have HC5 := Aside0.mk H; clear H; go_upto_region 6 with (fail)
        repeat (go_quiet (fail); go_upto_region 6 with (fail))
        go_cut [25] (fun v25 wc => ∃ (kq : Nat) (x25_4 : Bool), v25 = .bool x25_4 ∧ Aside0 (abacusref12_put.j1 kq l0 x5_1 x6_1 x7_1 x25_4 a1_0 a1_1 = some r) ∧ Aside0 (kq ≤ k1) ∧ Aside0 (Kd.R k59 59 wc w.heap.size (fun k_ => k_ ≠ gb505) u5 x5_1) ∧ Aside0 (wc.heap[gb505]? = some (.cells #[.string a1_0, .string a1_1] 59 (0, 0))) ∧ Aside0 (Below w.heap.size w wc))
        case first =>
          have H := HC5.out; clear HC5; by_cases c6 : x6_1 = true
          · subst c6
            have H1 : (abacusref12_put.j1 k1 l0 x5_1 true x7_1 false a1_0 a1_1) = some r := by rw [if_pos rfl] at H; exact H
            clear H; have H := H1; clear H1; have H' := Aside0.mk H; clear H; go_wp2
            repeat (go_quiet (fail); try go_wp2)
            go_meet
            case rel => exact ⟨_, (false), zs, H', ⟨by have := HK1.out; first | omega | exact Nat.le_refl _⟩, ⟨zr HO_5.out⟩, ⟨by (with_reducible repeat (first | refine blk_drewN ?_ _ | refine blk_drew ?_ | refine blk_alloc ?_ _)); exact BK505.out⟩, ⟨zg HB.out GE505.out⟩⟩
          · replace c6 := Bool.eq_false_iff.mpr c6
            subst c6; have H1 : (if 0 ≤ x7_1 then (abacusref12_put.j1 k1 l0 x5_1 false x7_1 (!(Op.bytesLess (((rd_T59 l0 x7_1).f0).toList) a1_0.toList)) a1_0 a1_1) else (none)) = some r := by rw [if_neg (show ¬ (false = true) by decide)] at H; exact H
            clear H; have H := H1; clear H1; by_cases c7 : 0 ≤ x7_1
            · rw [if_pos c7] at H
              have c7b0 : decide (0 ≤ x7_1) = true := decide_eq_true c7; clear c7; (first | rw [c7b0] | (simp only [i64_w, i32_w]; rw [c7b0]) | skip); have H' := Aside0.mk H; clear H; obtain ⟨ad509, e509, hx509_0, hx509_1⟩ := at_T59 HR0.out x7_1 zd zd
              cases e509; replace hx509_0 := zw HB.out hx509_0; replace hx509_1 := zw HB.out hx509_1; have p509 := eq_true (zd : 0 ≤ (x7_1 : Int)); have q509 := eq_true (zd : x7_1 < (l0.length : Int)); have hcz8_0 : wr.cell? ⟨gb505, 0, none⟩ = some (.string a1_0) := (blk_cell BK505.out 0).trans rfl; have hcz8_1 : wr.cell? ⟨gb505, 1, none⟩ = some (.string a1_1) := (blk_cell BK505.out 1).trans rfl; have hfz8_0 := blk_frozen BK505.out 0; have hfz8_1 := blk_frozen BK505.out 1; go_wp2
              repeat (go_quiet (fail); try go_wp2)
              go_meet
              case rel => exact ⟨_, (!(Op.bytesLess (((rd_T59 l0 x7_1).f0).toList) a1_0.toList)), zs, H', ⟨by have := HK1.out; first | omega | exact Nat.le_refl _⟩, ⟨zr HO_5.out⟩, ⟨by (with_reducible repeat (first | refine blk_drewN ?_ _ | refine blk_drew ?_ | refine blk_alloc ?_ _)); exact BK505.out⟩, ⟨zg HB.out GE505.out⟩⟩
            · rw [if_neg c7] at H
              exact absurd H (by simp)
        case rest =>
          clear HC5; (try clear p2); (try clear c4); (try clear c4b0); (try clear c5); (try clear p5); (try clear q5); (try clear hx5); (try clear c6); (try clear c7); (try clear c7b0); (try clear hcz8_0 hcz8_1 hfz8_0 hfz8_1); (try clear hx509_0); (try clear hx509_1); (try clear p2); (try clear p509); (try clear q509); obtain ⟨kq, x25_4, rfl, HA, HJ4, HO_5, BK505, HB⟩ := hcut
          cases kq with
          | zero => exact absurd HA.out (by simp [abacusref12_put.j1])
          | succ kj4 =>
            have H := HA.out; clear HA; simp only [abacusref12_put.j1] at H; by_cases c9 : x25_4 = true
            · subst c9
              have H1 : (if x5_1.length < 4398046511104 then ((some (x5_1 ++ [(⟨a1_0, a1_1⟩ : S59)] : List (S59))).bind fun y510 => (if 0 ≤ x7_1 then (if x7_1 < (l0.length : Int) then (if ((rd_T59 l0 x7_1).f0).toList = a1_0.toList then (abacusref12_put.l0 kj4 l0 y510 true (wrap64 (x7_1 + 1)) a1_0 a1_1) else (if y510.length < 4398046511104 then (abacusref12_put.l0 kj4 l0 (y510 ++ [(⟨(rd_T59 l0 x7_1).f0, (rd_T59 l0 x7_1).f1⟩ : S59)]) true (wrap64 (x7_1 + 1)) a1_0 a1_1) else (none))) else (none)) else (none))) else (none)) = some r := by rw [if_pos rfl] at H; exact H
              clear H; have H := H1; clear H1; by_cases c10 : x5_1.length < 4398046511104
              · rw [if_pos c10] at H
                have LMc10 := Aside0.mk c10; clear c10; obtain ⟨y510, hy510⟩ : ∃ y_ : List (S59), y_ = (x5_1 ++ [(⟨a1_0, a1_1⟩ : S59)]) := ⟨_, rfl⟩; replace H : (if 0 ≤ x7_1 then (if x7_1 < (l0.length : Int) then (if ((rd_T59 l0 x7_1).f0).toList = a1_0.toList then (abacusref12_put.l0 kj4 l0 y510 true (wrap64 (x7_1 + 1)) a1_0 a1_1) else (if y510.length < 4398046511104 then (abacusref12_put.l0 kj4 l0 (y510 ++ [(⟨(rd_T59 l0 x7_1).f0, (rd_T59 l0 x7_1).f1⟩ : S59)]) true (wrap64 (x7_1 + 1)) a1_0 a1_1) else (none))) else (none)) else (none)) = some r := by first | (rw [hy510]; with_reducible exact H) | (have H2_ := (Option.bind_some _ _).symm.trans H; rw [hy510]; with_reducible exact H2_) | (have H2_ := (Option.bind_some _ _).symm.trans H; with_reducible exact H2_) | with_reducible exact H | (rw [hy510]; exact H) | exact H
                have Ny510 := Aside0.mk hy510; clear hy510; by_cases c11 : 0 ≤ x7_1
                · rw [if_pos c11] at H
                  have c11b0 : decide (0 ≤ x7_1) = true := decide_eq_true c11; clear c11; by_cases c12 : x7_1 < (l0.length : Int)
                  · rw [if_pos c12] at H
                    have c12b0 : decide (x7_1 < (l0.length : Int)) = true := decide_eq_true c12; clear c12; by_cases c13 : ((rd_T59 l0 x7_1).f0).toList = a1_0.toList
                    · rw [if_pos c13] at H
                      have c13b0 : (((rd_T59 l0 x7_1).f0).toList == a1_0.toList) = true := beq_iff_eq.mpr c13; have c13b1 : (((rd_T59 l0 x7_1).f0).toList != a1_0.toList) = false := bne_eq_false_iff_eq.mpr c13; clear c13; have H' := Aside0.mk H; clear H; have hcz14_0 : wc.cell? ⟨gb505, 0, none⟩ = some (.string a1_0) := (blk_cell BK505.out 0).trans rfl; have hcz14_1 : wc.cell? ⟨gb505, 1, none⟩ = some (.string a1_1) := (blk_cell BK505.out 1).trans rfl; have hfz14_0 := blk_frozen BK505.out 0; have hfz14_1 := blk_frozen BK505.out 1
                      go_wp2_with (first | ((with_reducible refine gate_builtin (b := .append) (xs := #[.tmp 26, .tmp 28]) rfl ?_); at_builtin; refine Kd.R_append k59 (w0 := w) w.heap.size rfl (.tmp 26) (.tmp 28) 22 59 (.agg #[(.string ⟨#[]⟩), (.string ⟨#[]⟩)]) 32 rfl Tryd.underlying22 info59 rfl (by decide) (by omega) u5 x5_1 (⟨a1_0, a1_1⟩ : S59) [.string a1_0, .string a1_1] (fun k_ => k_ ≠ gb505) (fun _ => False) rfl rfl ?aP (fun _ hk => hk.elim) ?aF ?aO ?aB ?aS ?aL ?_; (case aP => exact k59_mkM _ _ _ (⟨a1_0, a1_1⟩ : S59)); (case aB => exact (zg HB.out GE505.out)); (case aF => exact (fun k_ hk => Kd.freshB (g := gb505) (o := .cells #[.string a1_0, .string a1_1] 59 (0, 0)) (by (with_reducible repeat (first | refine blk_drewN ?_ _ | refine blk_drew ?_ | refine blk_alloc ?_ _)); exact BK505.out) k_ hk)); (case aO => exact (zr HO_5.out)); (case aS => exact (below_size (zg HB.out GE505.out))); (case aL => have := LMc10.out; omega); intro v511 w15 ho hb hg hat; rw [← Ny510.out] at ho; have n0_ := Aside0.mk (blk_grown (g := gb505) (o := .cells #[.string a1_0, .string a1_1] 59 (0, 0)) (by (with_reducible repeat (first | refine blk_drewN ?_ _ | refine blk_drew ?_ | refine blk_alloc ?_ _)); exact BK505.out) hg (Kd.R_away HO_5.out (fun _ hk => hk))); have n1_ := Aside0.mk (hb); have n2_ := Aside0.mk (ho); clear BK505; clear HB; clear HO_5; have BK505 := n0_; have HB := n1_; have HO512 := n2_; clear n0_ n1_ n2_; clear ho hb hg hat; obtain ⟨ad513, e513, hx513_0, hx513_1⟩ := at_T59 HR0.out x7_1 zd zd; cases e513; replace hx513_0 := zw HB.out hx513_0; replace hx513_1 := zw HB.out hx513_1; have p513 := eq_true (zd : 0 ≤ (x7_1 : Int)); have q513 := eq_true (zd : x7_1 < (l0.length : Int)); have hcz16_0 : w15.cell? ⟨gb505, 0, none⟩ = some (.string a1_0) := (blk_cell BK505.out 0).trans rfl; have hcz16_1 : w15.cell? ⟨gb505, 1, none⟩ = some (.string a1_1) := (blk_cell BK505.out 1).trans rfl; have hfz16_0 := blk_frozen BK505.out 0; have hfz16_1 := blk_frozen BK505.out 1))
                      repeat (go_quiet (first | ((with_reducible refine gate_builtin (b := .append) (xs := #[.tmp 26, .tmp 28]) rfl ?_); at_builtin; refine Kd.R_append k59 (w0 := w) w.heap.size rfl (.tmp 26) (.tmp 28) 22 59 (.agg #[(.string ⟨#[]⟩), (.string ⟨#[]⟩)]) 32 rfl Tryd.underlying22 info59 rfl (by decide) (by omega) u5 x5_1 (⟨a1_0, a1_1⟩ : S59) [.string a1_0, .string a1_1] (fun k_ => k_ ≠ gb505) (fun _ => False) rfl rfl ?aP (fun _ hk => hk.elim) ?aF ?aO ?aB ?aS ?aL ?_; (case aP => exact k59_mkM _ _ _ (⟨a1_0, a1_1⟩ : S59)); (case aB => exact (zg HB.out GE505.out)); (case aF => exact (fun k_ hk => Kd.freshB (g := gb505) (o := .cells #[.string a1_0, .string a1_1] 59 (0, 0)) (by (with_reducible repeat (first | refine blk_drewN ?_ _ | refine blk_drew ?_ | refine blk_alloc ?_ _)); exact BK505.out) k_ hk)); (case aO => exact (zr HO_5.out)); (case aS => exact (below_size (zg HB.out GE505.out))); (case aL => have := LMc10.out; omega); intro v511 w15 ho hb hg hat; rw [← Ny510.out] at ho; have n0_ := Aside0.mk (blk_grown (g := gb505) (o := .cells #[.string a1_0, .string a1_1] 59 (0, 0)) (by (with_reducible repeat (first | refine blk_drewN ?_ _ | refine blk_drew ?_ | refine blk_alloc ?_ _)); exact BK505.out) hg (Kd.R_away HO_5.out (fun _ hk => hk))); have n1_ := Aside0.mk (hb); have n2_ := Aside0.mk (ho); clear BK505; clear HB; clear HO_5; have BK505 := n0_; have HB := n1_; have HO512 := n2_; clear n0_ n1_ n2_; clear ho hb hg hat; obtain ⟨ad513, e513, hx513_0, hx513_1⟩ := at_T59 HR0.out x7_1 zd zd; cases e513; replace hx513_0 := zw HB.out hx513_0; replace hx513_1 := zw HB.out hx513_1; have p513 := eq_true (zd : 0 ≤ (x7_1 : Int)); have q513 := eq_true (zd : x7_1 < (l0.length : Int)); have hcz16_0 : w15.cell? ⟨gb505, 0, none⟩ = some (.string a1_0) := (blk_cell BK505.out 0).trans rfl; have hcz16_1 : w15.cell? ⟨gb505, 1, none⟩ = some (.string a1_1) := (blk_cell BK505.out 1).trans rfl; have hfz16_0 := blk_frozen BK505.out 0; have hfz16_1 := blk_frozen BK505.out 1)); try go_wp2_with (first | ((with_reducible refine gate_builtin (b := .append) (xs := #[.tmp 26, .tmp 28]) rfl ?_); at_builtin; refine Kd.R_append k59 (w0 := w) w.heap.size rfl (.tmp 26) (.tmp 28) 22 59 (.agg #[(.string ⟨#[]⟩), (.string ⟨#[]⟩)]) 32 rfl Tryd.underlying22 info59 rfl (by decide) (by omega) u5 x5_1 (⟨a1_0, a1_1⟩ : S59) [.string a1_0, .string a1_1] (fun k_ => k_ ≠ gb505) (fun _ => False) rfl rfl ?aP (fun _ hk => hk.elim) ?aF ?aO ?aB ?aS ?aL ?_; (case aP => exact k59_mkM _ _ _ (⟨a1_0, a1_1⟩ : S59)); (case aB => exact (zg HB.out GE505.out)); (case aF => exact (fun k_ hk => Kd.freshB (g := gb505) (o := .cells #[.string a1_0, .string a1_1] 59 (0, 0)) (by (with_reducible repeat (first | refine blk_drewN ?_ _ | refine blk_drew ?_ | refine blk_alloc ?_ _)); exact BK505.out) k_ hk)); (case aO => exact (zr HO_5.out)); (case aS => exact (below_size (zg HB.out GE505.out))); (case aL => have := LMc10.out; omega); intro v511 w15 ho hb hg hat; rw [← Ny510.out] at ho; have n0_ := Aside0.mk (blk_grown (g := gb505) (o := .cells #[.string a1_0, .string a1_1] 59 (0, 0)) (by (with_reducible repeat (first | refine blk_drewN ?_ _ | refine blk_drew ?_ | refine blk_alloc ?_ _)); exact BK505.out) hg (Kd.R_away HO_5.out (fun _ hk => hk))); have n1_ := Aside0.mk (hb); have n2_ := Aside0.mk (ho); clear BK505; clear HB; clear HO_5; have BK505 := n0_; have HB := n1_; have HO512 := n2_; clear n0_ n1_ n2_; clear ho hb hg hat; obtain ⟨ad513, e513, hx513_0, hx513_1⟩ := at_T59 HR0.out x7_1 zd zd; cases e513; replace hx513_0 := zw HB.out hx513_0; replace hx513_1 := zw HB.out hx513_1; have p513 := eq_true (zd : 0 ≤ (x7_1 : Int)); have q513 := eq_true (zd : x7_1 < (l0.length : Int)); have hcz16_0 : w15.cell? ⟨gb505, 0, none⟩ = some (.string a1_0) := (blk_cell BK505.out 0).trans rfl; have hcz16_1 : w15.cell? ⟨gb505, 1, none⟩ = some (.string a1_1) := (blk_cell BK505.out 1).trans rfl; have hfz16_0 := blk_frozen BK505.out 0; have hfz16_1 := blk_frozen BK505.out 1)))
                      go_roundg kj4
                      case measure => have := HK1.out; have := HJ4.out; omega
                      case rel => exact ⟨(y510), (true), (wrap64 (x7_1 + 1)), zs, zs, H', ⟨by have := HK1.out; have := HJ4.out; omega⟩, ⟨zr HO512.out⟩, ⟨by (with_reducible repeat (first | refine blk_drewN ?_ _ | refine blk_drew ?_ | refine blk_alloc ?_ _)); exact BK505.out⟩, ⟨zg HB.out GE505.out⟩⟩
                    · rw [if_neg c13] at H
                      have c13b0 : (((rd_T59 l0 x7_1).f0).toList == a1_0.toList) = false := beq_eq_false_iff_ne.mpr c13; have c13b1 : (((rd_T59 l0 x7_1).f0).toList != a1_0.toList) = true := bne_iff_ne.mpr c13; by_cases c17 : y510.length < 4398046511104
                      · rw [if_pos c17] at H
                        have LMc17 := Aside0.mk c17; clear c17; obtain ⟨y515, hy515⟩ : ∃ y_ : List (S59), y_ = (y510 ++ [(⟨(rd_T59 l0 x7_1).f0, (rd_T59 l0 x7_1).f1⟩ : S59)]) := ⟨_, rfl⟩; replace H : (abacusref12_put.l0 kj4 l0 y515 true (wrap64 (x7_1 + 1)) a1_0 a1_1) = some r := by first | (rw [hy515]; with_reducible exact H) | (have H2_ := (Option.bind_some _ _).symm.trans H; rw [hy515]; with_reducible exact H2_) | (have H2_ := (Option.bind_some _ _).symm.trans H; with_reducible exact H2_) | with_reducible exact H | (rw [hy515]; exact H) | exact H
                        have Ny515 := Aside0.mk hy515; clear hy515; have H' := Aside0.mk H; clear H; have hcz18_0 : wc.cell? ⟨gb505, 0, none⟩ = some (.string a1_0) := (blk_cell BK505.out 0).trans rfl; have hcz18_1 : wc.cell? ⟨gb505, 1, none⟩ = some (.string a1_1) := (blk_cell BK505.out 1).trans rfl; have hfz18_0 := blk_frozen BK505.out 0; have hfz18_1 := blk_frozen BK505.out 1
                        go_wp2_with (first | ((with_reducible refine gate_builtin (b := .append) (xs := #[.tmp 26, .tmp 28]) rfl ?_); at_builtin; refine Kd.R_append k59 (w0 := w) w.heap.size rfl (.tmp 26) (.tmp 28) 22 59 (.agg #[(.string ⟨#[]⟩), (.string ⟨#[]⟩)]) 32 rfl Tryd.underlying22 info59 rfl (by decide) (by omega) u5 x5_1 (⟨a1_0, a1_1⟩ : S59) [.string a1_0, .string a1_1] (fun k_ => k_ ≠ gb505) (fun _ => False) rfl rfl ?aP (fun _ hk => hk.elim) ?aF ?aO ?aB ?aS ?aL ?_; (case aP => exact k59_mkM _ _ _ (⟨a1_0, a1_1⟩ : S59)); (case aB => exact (zg HB.out GE505.out)); (case aF => exact (fun k_ hk => Kd.freshB (g := gb505) (o := .cells #[.string a1_0, .string a1_1] 59 (0, 0)) (by (with_reducible repeat (first | refine blk_drewN ?_ _ | refine blk_drew ?_ | refine blk_alloc ?_ _)); exact BK505.out) k_ hk)); (case aO => exact (zr HO_5.out)); (case aS => exact (below_size (zg HB.out GE505.out))); (case aL => have := LMc10.out; omega); intro v511 w19 ho hb hg hat; rw [← Ny510.out] at ho; have n0_ := Aside0.mk (blk_grown (g := gb505) (o := .cells #[.string a1_0, .string a1_1] 59 (0, 0)) (by (with_reducible repeat (first | refine blk_drewN ?_ _ | refine blk_drew ?_ | refine blk_alloc ?_ _)); exact BK505.out) hg (Kd.R_away HO_5.out (fun _ hk => hk))); have n1_ := Aside0.mk (hb); have n2_ := Aside0.mk (ho); clear BK505; clear HB; clear HO_5; have BK505 := n0_; have HB := n1_; have HO512 := n2_; clear n0_ n1_ n2_; clear ho hb hg hat; obtain ⟨ad513, e513, hx513_0, hx513_1⟩ := at_T59 HR0.out x7_1 zd zd; cases e513; replace hx513_0 := zw HB.out hx513_0; replace hx513_1 := zw HB.out hx513_1; have p513 := eq_true (zd : 0 ≤ (x7_1 : Int)); have q513 := eq_true (zd : x7_1 < (l0.length : Int)); have hcz20_0 : w19.cell? ⟨gb505, 0, none⟩ = some (.string a1_0) := (blk_cell BK505.out 0).trans rfl; have hcz20_1 : w19.cell? ⟨gb505, 1, none⟩ = some (.string a1_1) := (blk_cell BK505.out 1).trans rfl; have hfz20_0 := blk_frozen BK505.out 0; have hfz20_1 := blk_frozen BK505.out 1; obtain ⟨ad514, e514, hx514_0, hx514_1⟩ := at_T59 HR0.out x7_1 zd zd; obtain rfl : ad513 = ad514 := (by injection e514); replace hx514_0 := zw HB.out hx514_0; replace hx514_1 := zw HB.out hx514_1; have p514 := eq_true (zd : 0 ≤ (x7_1 : Int)); have q514 := eq_true (zd : x7_1 < (l0.length : Int))) | ((with_reducible refine gate_builtin (b := .append) (xs := #[.tmp 38, .tmp 43]) rfl ?_); at_builtin; refine Kd.R_append k59 (w0 := w) w.heap.size rfl (.tmp 38) (.tmp 43) 22 59 (.agg #[(.string ⟨#[]⟩), (.string ⟨#[]⟩)]) 32 rfl Tryd.underlying22 info59 rfl (by decide) (by omega) v511 y510 (⟨(rd_T59 l0 x7_1).f0, (rd_T59 l0 x7_1).f1⟩ : S59) [.string ((rd_T59 l0 x7_1).f0), .string ((rd_T59 l0 x7_1).f1)] (fun k_ => k_ ≠ gb505) (fun _ => False) rfl rfl ?aP (fun _ hk => hk.elim) ?aF ?aO ?aB ?aS ?aL ?_; (case aP => exact k59_mkM _ _ _ (⟨(rd_T59 l0 x7_1).f0, (rd_T59 l0 x7_1).f1⟩ : S59)); (case aB => exact (zg HB.out GE505.out)); (case aF => exact (fun k_ hk => Kd.freshB (g := gb505) (o := .cells #[.string a1_0, .string a1_1] 59 (0, 0)) (by (with_reducible repeat (first | refine blk_drewN ?_ _ | refine blk_drew ?_ | refine blk_alloc ?_ _)); exact BK505.out) k_ hk)); (case aO => exact (zr HO512.out)); (case aS => exact (below_size (zg HB.out GE505.out))); (case aL => have := LMc17.out; omega); intro v516 w21 ho hb hg hat; rw [← Ny515.out] at ho; have n0_ := Aside0.mk (blk_grown (g := gb505) (o := .cells #[.string a1_0, .string a1_1] 59 (0, 0)) (by (with_reducible repeat (first | refine blk_drewN ?_ _ | refine blk_drew ?_ | refine blk_alloc ?_ _)); exact BK505.out) hg (Kd.R_away HO512.out (fun _ hk => hk))); have n1_ := Aside0.mk (hb); have n2_ := Aside0.mk (ho); clear BK505; clear HB; clear HO512; have BK505 := n0_; have HB := n1_; have HO517 := n2_; clear n0_ n1_ n2_; clear ho hb hg hat))
                        repeat (go_quiet (first | ((with_reducible refine gate_builtin (b := .append) (xs := #[.tmp 26, .tmp 28]) rfl ?_); at_builtin; refine Kd.R_append k59 (w0 := w) w.heap.size rfl (.tmp 26) (.tmp 28) 22 59 (.agg #[(.string ⟨#[]⟩), (.string ⟨#[]⟩)]) 32 rfl Tryd.underlying22 info59 rfl (by decide) (by omega) u5 x5_1 (⟨a1_0, a1_1⟩ : S59) [.string a1_0, .string a1_1] (fun k_ => k_ ≠ gb505) (fun _ => False) rfl rfl ?aP (fun _ hk => hk.elim) ?aF ?aO ?aB ?aS ?aL ?_; (case aP => exact k59_mkM _ _ _ (⟨a1_0, a1_1⟩ : S59)); (case aB => exact (zg HB.out GE505.out)); (case aF => exact (fun k_ hk => Kd.freshB (g := gb505) (o := .cells #[.string a1_0, .string a1_1] 59 (0, 0)) (by (with_reducible repeat (first | refine blk_drewN ?_ _ | refine blk_drew ?_ | refine blk_alloc ?_ _)); exact BK505.out) k_ hk)); (case aO => exact (zr HO_5.out)); (case aS => exact (below_size (zg HB.out GE505.out))); (case aL => have := LMc10.out; omega); intro v511 w19 ho hb hg hat; rw [← Ny510.out] at ho; have n0_ := Aside0.mk (blk_grown (g := gb505) (o := .cells #[.string a1_0, .string a1_1] 59 (0, 0)) (by (with_reducible repeat (first | refine blk_drewN ?_ _ | refine blk_drew ?_ | refine blk_alloc ?_ _)); exact BK505.out) hg (Kd.R_away HO_5.out (fun _ hk => hk))); have n1_ := Aside0.mk (hb); have n2_ := Aside0.mk (ho); clear BK505; clear HB; clear HO_5; have BK505 := n0_; have HB := n1_; have HO512 := n2_; clear n0_ n1_ n2_; clear ho hb hg hat; obtain ⟨ad513, e513, hx513_0, hx513_1⟩ := at_T59 HR0.out x7_1 zd zd; cases e513; replace hx513_0 := zw HB.out hx513_0; replace hx513_1 := zw HB.out hx513_1; have p513 := eq_true (zd : 0 ≤ (x7_1 : Int)); have q513 := eq_true (zd : x7_1 < (l0.length : Int)); have hcz20_0 : w19.cell? ⟨gb505, 0, none⟩ = some (.string a1_0) := (blk_cell BK505.out 0).trans rfl; have hcz20_1 : w19.cell? ⟨gb505, 1, none⟩ = some (.string a1_1) := (blk_cell BK505.out 1).trans rfl; have hfz20_0 := blk_frozen BK505.out 0; have hfz20_1 := blk_frozen BK505.out 1; obtain ⟨ad514, e514, hx514_0, hx514_1⟩ := at_T59 HR0.out x7_1 zd zd; obtain rfl : ad513 = ad514 := (by injection e514); replace hx514_0 := zw HB.out hx514_0; replace hx514_1 := zw HB.out hx514_1; have p514 := eq_true (zd : 0 ≤ (x7_1 : Int)); have q514 := eq_true (zd : x7_1 < (l0.length : Int))) | ((with_reducible refine gate_builtin (b := .append) (xs := #[.tmp 38, .tmp 43]) rfl ?_); at_builtin; refine Kd.R_append k59 (w0 := w) w.heap.size rfl (.tmp 38) (.tmp 43) 22 59 (.agg #[(.string ⟨#[]⟩), (.string ⟨#[]⟩)]) 32 rfl Tryd.underlying22 info59 rfl (by decide) (by omega) v511 y510 (⟨(rd_T59 l0 x7_1).f0, (rd_T59 l0 x7_1).f1⟩ : S59) [.string ((rd_T59 l0 x7_1).f0), .string ((rd_T59 l0 x7_1).f1)] (fun k_ => k_ ≠ gb505) (fun _ => False) rfl rfl ?aP (fun _ hk => hk.elim) ?aF ?aO ?aB ?aS ?aL ?_; (case aP => exact k59_mkM _ _ _ (⟨(rd_T59 l0 x7_1).f0, (rd_T59 l0 x7_1).f1⟩ : S59)); (case aB => exact (zg HB.out GE505.out)); (case aF => exact (fun k_ hk => Kd.freshB (g := gb505) (o := .cells #[.string a1_0, .string a1_1] 59 (0, 0)) (by (with_reducible repeat (first | refine blk_drewN ?_ _ | refine blk_drew ?_ | refine blk_alloc ?_ _)); exact BK505.out) k_ hk)); (case aO => exact (zr HO512.out)); (case aS => exact (below_size (zg HB.out GE505.out))); (case aL => have := LMc17.out; omega); intro v516 w21 ho hb hg hat; rw [← Ny515.out] at ho; have n0_ := Aside0.mk (blk_grown (g := gb505) (o := .cells #[.string a1_0, .string a1_1] 59 (0, 0)) (by (with_reducible repeat (first | refine blk_drewN ?_ _ | refine blk_drew ?_ | refine blk_alloc ?_ _)); exact BK505.out) hg (Kd.R_away HO512.out (fun _ hk => hk))); have n1_ := Aside0.mk (hb); have n2_ := Aside0.mk (ho); clear BK505; clear HB; clear HO512; have BK505 := n0_; have HB := n1_; have HO517 := n2_; clear n0_ n1_ n2_; clear ho hb hg hat)); try go_wp2_with (first | ((with_reducible refine gate_builtin (b := .append) (xs := #[.tmp 26, .tmp 28]) rfl ?_); at_builtin; refine Kd.R_append k59 (w0 := w) w.heap.size rfl (.tmp 26) (.tmp 28) 22 59 (.agg #[(.string ⟨#[]⟩), (.string ⟨#[]⟩)]) 32 rfl Tryd.underlying22 info59 rfl (by decide) (by omega) u5 x5_1 (⟨a1_0, a1_1⟩ : S59) [.string a1_0, .string a1_1] (fun k_ => k_ ≠ gb505) (fun _ => False) rfl rfl ?aP (fun _ hk => hk.elim) ?aF ?aO ?aB ?aS ?aL ?_; (case aP => exact k59_mkM _ _ _ (⟨a1_0, a1_1⟩ : S59)); (case aB => exact (zg HB.out GE505.out)); (case aF => exact (fun k_ hk => Kd.freshB (g := gb505) (o := .cells #[.string a1_0, .string a1_1] 59 (0, 0)) (by (with_reducible repeat (first | refine blk_drewN ?_ _ | refine blk_drew ?_ | refine blk_alloc ?_ _)); exact BK505.out) k_ hk)); (case aO => exact (zr HO_5.out)); (case aS => exact (below_size (zg HB.out GE505.out))); (case aL => have := LMc10.out; omega); intro v511 w19 ho hb hg hat; rw [← Ny510.out] at ho; have n0_ := Aside0.mk (blk_grown (g := gb505) (o := .cells #[.string a1_0, .string a1_1] 59 (0, 0)) (by (with_reducible repeat (first | refine blk_drewN ?_ _ | refine blk_drew ?_ | refine blk_alloc ?_ _)); exact BK505.out) hg (Kd.R_away HO_5.out (fun _ hk => hk))); have n1_ := Aside0.mk (hb); have n2_ := Aside0.mk (ho); clear BK505; clear HB; clear HO_5; have BK505 := n0_; have HB := n1_; have HO512 := n2_; clear n0_ n1_ n2_; clear ho hb hg hat; obtain ⟨ad513, e513, hx513_0, hx513_1⟩ := at_T59 HR0.out x7_1 zd zd; cases e513; replace hx513_0 := zw HB.out hx513_0; replace hx513_1 := zw HB.out hx513_1; have p513 := eq_true (zd : 0 ≤ (x7_1 : Int)); have q513 := eq_true (zd : x7_1 < (l0.length : Int)); have hcz20_0 : w19.cell? ⟨gb505, 0, none⟩ = some (.string a1_0) := (blk_cell BK505.out 0).trans rfl; have hcz20_1 : w19.cell? ⟨gb505, 1, none⟩ = some (.string a1_1) := (blk_cell BK505.out 1).trans rfl; have hfz20_0 := blk_frozen BK505.out 0; have hfz20_1 := blk_frozen BK505.out 1; obtain ⟨ad514, e514, hx514_0, hx514_1⟩ := at_T59 HR0.out x7_1 zd zd; obtain rfl : ad513 = ad514 := (by injection e514); replace hx514_0 := zw HB.out hx514_0; replace hx514_1 := zw HB.out hx514_1; have p514 := eq_true (zd : 0 ≤ (x7_1 : Int)); have q514 := eq_true (zd : x7_1 < (l0.length : Int))) | ((with_reducible refine gate_builtin (b := .append) (xs := #[.tmp 38, .tmp 43]) rfl ?_); at_builtin; refine Kd.R_append k59 (w0 := w) w.heap.size rfl (.tmp 38) (.tmp 43) 22 59 (.agg #[(.string ⟨#[]⟩), (.string ⟨#[]⟩)]) 32 rfl Tryd.underlying22 info59 rfl (by decide) (by omega) v511 y510 (⟨(rd_T59 l0 x7_1).f0, (rd_T59 l0 x7_1).f1⟩ : S59) [.string ((rd_T59 l0 x7_1).f0), .string ((rd_T59 l0 x7_1).f1)] (fun k_ => k_ ≠ gb505) (fun _ => False) rfl rfl ?aP (fun _ hk => hk.elim) ?aF ?aO ?aB ?aS ?aL ?_; (case aP => exact k59_mkM _ _ _ (⟨(rd_T59 l0 x7_1).f0, (rd_T59 l0 x7_1).f1⟩ : S59)); (case aB => exact (zg HB.out GE505.out)); (case aF => exact (fun k_ hk => Kd.freshB (g := gb505) (o := .cells #[.string a1_0, .string a1_1] 59 (0, 0)) (by (with_reducible repeat (first | refine blk_drewN ?_ _ | refine blk_drew ?_ | refine blk_alloc ?_ _)); exact BK505.out) k_ hk)); (case aO => exact (zr HO512.out)); (case aS => exact (below_size (zg HB.out GE505.out))); (case aL => have := LMc17.out; omega); intro v516 w21 ho hb hg hat; rw [← Ny515.out] at ho; have n0_ := Aside0.mk (blk_grown (g := gb505) (o := .cells #[.string a1_0, .string a1_1] 59 (0, 0)) (by (with_reducible repeat (first | refine blk_drewN ?_ _ | refine blk_drew ?_ | refine blk_alloc ?_ _)); exact BK505.out) hg (Kd.R_away HO512.out (fun _ hk => hk))); have n1_ := Aside0.mk (hb); have n2_ := Aside0.mk (ho); clear BK505; clear HB; clear HO512; have BK505 := n0_; have HB := n1_; have HO517 := n2_; clear n0_ n1_ n2_; clear ho hb hg hat)))
                        go_roundg kj4
                        case measure => have := HK1.out; have := HJ4.out; omega
                        case rel => exact ⟨(y515), (true), (wrap64 (x7_1 + 1)), zs, zs, H', ⟨by have := HK1.out; have := HJ4.out; omega⟩, ⟨zr HO517.out⟩, ⟨by (with_reducible repeat (first | refine blk_drewN ?_ _ | refine blk_drew ?_ | refine blk_alloc ?_ _)); exact BK505.out⟩, ⟨zg HB.out GE505.out⟩⟩
                      · rw [if_neg c17] at H
                        exact absurd H (by simp)
                  · rw [if_neg c12] at H
                    exact absurd H (by simp)
                · rw [if_neg c11] at H
                  exact absurd H (by simp)
              · rw [if_neg c10] at H
                exact absurd H (by simp)
            · replace c9 := Bool.eq_false_iff.mpr c9
              subst c9; have H1 : (if 0 ≤ x7_1 then (if x7_1 < (l0.length : Int) then (if ((rd_T59 l0 x7_1).f0).toList = a1_0.toList then (abacusref12_put.l0 kj4 l0 x5_1 x6_1 (wrap64 (x7_1 + 1)) a1_0 a1_1) else (if x5_1.length < 4398046511104 then (abacusref12_put.l0 kj4 l0 (x5_1 ++ [(⟨(rd_T59 l0 x7_1).f0, (rd_T59 l0 x7_1).f1⟩ : S59)]) x6_1 (wrap64 (x7_1 + 1)) a1_0 a1_1) else (none))) else (none)) else (none)) = some r := by rw [if_neg (show ¬ (false = true) by decide)] at H; exact H
              clear H; have H := H1; clear H1; by_cases c22 : 0 ≤ x7_1
              · rw [if_pos c22] at H
                have c22b0 : decide (0 ≤ x7_1) = true := decide_eq_true c22; clear c22; by_cases c23 : x7_1 < (l0.length : Int)
                · rw [if_pos c23] at H
                  have c23b0 : decide (x7_1 < (l0.length : Int)) = true := decide_eq_true c23; clear c23; by_cases c24 : ((rd_T59 l0 x7_1).f0).toList = a1_0.toList
                  · rw [if_pos c24] at H
                    have c24b0 : (((rd_T59 l0 x7_1).f0).toList == a1_0.toList) = true := beq_iff_eq.mpr c24; have c24b1 : (((rd_T59 l0 x7_1).f0).toList != a1_0.toList) = false := bne_eq_false_iff_eq.mpr c24; clear c24; have H' := Aside0.mk H; clear H; obtain ⟨ad518, e518, hx518_0, hx518_1⟩ := at_T59 HR0.out x7_1 zd zd
                    cases e518; replace hx518_0 := zw HB.out hx518_0; replace hx518_1 := zw HB.out hx518_1; have p518 := eq_true (zd : 0 ≤ (x7_1 : Int)); have q518 := eq_true (zd : x7_1 < (l0.length : Int)); have hcz25_0 : wc.cell? ⟨gb505, 0, none⟩ = some (.string a1_0) := (blk_cell BK505.out 0).trans rfl; have hcz25_1 : wc.cell? ⟨gb505, 1, none⟩ = some (.string a1_1) := (blk_cell BK505.out 1).trans rfl; have hfz25_0 := blk_frozen BK505.out 0; have hfz25_1 := blk_frozen BK505.out 1; go_wp2
                    repeat (go_quiet (fail); try go_wp2)
                    go_roundg kj4
                    case measure => have := HK1.out; have := HJ4.out; omega
                    case rel => exact ⟨(x5_1), (x6_1), (wrap64 (x7_1 + 1)), zs, zs, H', ⟨by have := HK1.out; have := HJ4.out; omega⟩, ⟨zr HO_5.out⟩, ⟨by (with_reducible repeat (first | refine blk_drewN ?_ _ | refine blk_drew ?_ | refine blk_alloc ?_ _)); exact BK505.out⟩, ⟨zg HB.out GE505.out⟩⟩
                  · rw [if_neg c24] at H
                    have c24b0 : (((rd_T59 l0 x7_1).f0).toList == a1_0.toList) = false := beq_eq_false_iff_ne.mpr c24; have c24b1 : (((rd_T59 l0 x7_1).f0).toList != a1_0.toList) = true := bne_iff_ne.mpr c24; by_cases c26 : x5_1.length < 4398046511104
                    · rw [if_pos c26] at H
                      have LMc26 := Aside0.mk c26; clear c26; obtain ⟨y520, hy520⟩ : ∃ y_ : List (S59), y_ = (x5_1 ++ [(⟨(rd_T59 l0 x7_1).f0, (rd_T59 l0 x7_1).f1⟩ : S59)]) := ⟨_, rfl⟩; replace H : (abacusref12_put.l0 kj4 l0 y520 x6_1 (wrap64 (x7_1 + 1)) a1_0 a1_1) = some r := by first | (rw [hy520]; with_reducible exact H) | (have H2_ := (Option.bind_some _ _).symm.trans H; rw [hy520]; with_reducible exact H2_) | (have H2_ := (Option.bind_some _ _).symm.trans H; with_reducible exact H2_) | with_reducible exact H | (rw [hy520]; exact H) | exact H
                      have Ny520 := Aside0.mk hy520; clear hy520; have H' := Aside0.mk H; clear H; obtain ⟨ad518, e518, hx518_0, hx518_1⟩ := at_T59 HR0.out x7_1 zd zd
                      cases e518; replace hx518_0 := zw HB.out hx518_0; replace hx518_1 := zw HB.out hx518_1; have p518 := eq_true (zd : 0 ≤ (x7_1 : Int)); have q518 := eq_true (zd : x7_1 < (l0.length : Int)); have hcz27_0 : wc.cell? ⟨gb505, 0, none⟩ = some (.string a1_0) := (blk_cell BK505.out 0).trans rfl; have hcz27_1 : wc.cell? ⟨gb505, 1, none⟩ = some (.string a1_1) := (blk_cell BK505.out 1).trans rfl; have hfz27_0 := blk_frozen BK505.out 0; have hfz27_1 := blk_frozen BK505.out 1; obtain ⟨ad519, e519, hx519_0, hx519_1⟩ := at_T59 HR0.out x7_1 zd zd; obtain rfl : ad518 = ad519 := (by injection e519); replace hx519_0 := zw HB.out hx519_0; replace hx519_1 := zw HB.out hx519_1; have p519 := eq_true (zd : 0 ≤ (x7_1 : Int)); have q519 := eq_true (zd : x7_1 < (l0.length : Int))
                      go_wp2_with (first | ((with_reducible refine gate_builtin (b := .append) (xs := #[.tmp 38, .tmp 43]) rfl ?_); at_builtin; refine Kd.R_append k59 (w0 := w) w.heap.size rfl (.tmp 38) (.tmp 43) 22 59 (.agg #[(.string ⟨#[]⟩), (.string ⟨#[]⟩)]) 32 rfl Tryd.underlying22 info59 rfl (by decide) (by omega) u5 x5_1 (⟨(rd_T59 l0 x7_1).f0, (rd_T59 l0 x7_1).f1⟩ : S59) [.string ((rd_T59 l0 x7_1).f0), .string ((rd_T59 l0 x7_1).f1)] (fun k_ => k_ ≠ gb505) (fun _ => False) rfl rfl ?aP (fun _ hk => hk.elim) ?aF ?aO ?aB ?aS ?aL ?_; (case aP => exact k59_mkM _ _ _ (⟨(rd_T59 l0 x7_1).f0, (rd_T59 l0 x7_1).f1⟩ : S59)); (case aB => exact (zg HB.out GE505.out)); (case aF => exact (fun k_ hk => Kd.freshB (g := gb505) (o := .cells #[.string a1_0, .string a1_1] 59 (0, 0)) (by (with_reducible repeat (first | refine blk_drewN ?_ _ | refine blk_drew ?_ | refine blk_alloc ?_ _)); exact BK505.out) k_ hk)); (case aO => exact (zr HO_5.out)); (case aS => exact (below_size (zg HB.out GE505.out))); (case aL => have := LMc26.out; omega); intro v521 w28 ho hb hg hat; rw [← Ny520.out] at ho; have n0_ := Aside0.mk (blk_grown (g := gb505) (o := .cells #[.string a1_0, .string a1_1] 59 (0, 0)) (by (with_reducible repeat (first | refine blk_drewN ?_ _ | refine blk_drew ?_ | refine blk_alloc ?_ _)); exact BK505.out) hg (Kd.R_away HO_5.out (fun _ hk => hk))); have n1_ := Aside0.mk (hb); have n2_ := Aside0.mk (ho); clear BK505; clear HB; clear HO_5; have BK505 := n0_; have HB := n1_; have HO522 := n2_; clear n0_ n1_ n2_; clear ho hb hg hat))
                      repeat (go_quiet (first | ((with_reducible refine gate_builtin (b := .append) (xs := #[.tmp 38, .tmp 43]) rfl ?_); at_builtin; refine Kd.R_append k59 (w0 := w) w.heap.size rfl (.tmp 38) (.tmp 43) 22 59 (.agg #[(.string ⟨#[]⟩), (.string ⟨#[]⟩)]) 32 rfl Tryd.underlying22 info59 rfl (by decide) (by omega) u5 x5_1 (⟨(rd_T59 l0 x7_1).f0, (rd_T59 l0 x7_1).f1⟩ : S59) [.string ((rd_T59 l0 x7_1).f0), .string ((rd_T59 l0 x7_1).f1)] (fun k_ => k_ ≠ gb505) (fun _ => False) rfl rfl ?aP (fun _ hk => hk.elim) ?aF ?aO ?aB ?aS ?aL ?_; (case aP => exact k59_mkM _ _ _ (⟨(rd_T59 l0 x7_1).f0, (rd_T59 l0 x7_1).f1⟩ : S59)); (case aB => exact (zg HB.out GE505.out)); (case aF => exact (fun k_ hk => Kd.freshB (g := gb505) (o := .cells #[.string a1_0, .string a1_1] 59 (0, 0)) (by (with_reducible repeat (first | refine blk_drewN ?_ _ | refine blk_drew ?_ | refine blk_alloc ?_ _)); exact BK505.out) k_ hk)); (case aO => exact (zr HO_5.out)); (case aS => exact (below_size (zg HB.out GE505.out))); (case aL => have := LMc26.out; omega); intro v521 w28 ho hb hg hat; rw [← Ny520.out] at ho; have n0_ := Aside0.mk (blk_grown (g := gb505) (o := .cells #[.string a1_0, .string a1_1] 59 (0, 0)) (by (with_reducible repeat (first | refine blk_drewN ?_ _ | refine blk_drew ?_ | refine blk_alloc ?_ _)); exact BK505.out) hg (Kd.R_away HO_5.out (fun _ hk => hk))); have n1_ := Aside0.mk (hb); have n2_ := Aside0.mk (ho); clear BK505; clear HB; clear HO_5; have BK505 := n0_; have HB := n1_; have HO522 := n2_; clear n0_ n1_ n2_; clear ho hb hg hat)); try go_wp2_with (first | ((with_reducible refine gate_builtin (b := .append) (xs := #[.tmp 38, .tmp 43]) rfl ?_); at_builtin; refine Kd.R_append k59 (w0 := w) w.heap.size rfl (.tmp 38) (.tmp 43) 22 59 (.agg #[(.string ⟨#[]⟩), (.string ⟨#[]⟩)]) 32 rfl Tryd.underlying22 info59 rfl (by decide) (by omega) u5 x5_1 (⟨(rd_T59 l0 x7_1).f0, (rd_T59 l0 x7_1).f1⟩ : S59) [.string ((rd_T59 l0 x7_1).f0), .string ((rd_T59 l0 x7_1).f1)] (fun k_ => k_ ≠ gb505) (fun _ => False) rfl rfl ?aP (fun _ hk => hk.elim) ?aF ?aO ?aB ?aS ?aL ?_; (case aP => exact k59_mkM _ _ _ (⟨(rd_T59 l0 x7_1).f0, (rd_T59 l0 x7_1).f1⟩ : S59)); (case aB => exact (zg HB.out GE505.out)); (case aF => exact (fun k_ hk => Kd.freshB (g := gb505) (o := .cells #[.string a1_0, .string a1_1] 59 (0, 0)) (by (with_reducible repeat (first | refine blk_drewN ?_ _ | refine blk_drew ?_ | refine blk_alloc ?_ _)); exact BK505.out) k_ hk)); (case aO => exact (zr HO_5.out)); (case aS => exact (below_size (zg HB.out GE505.out))); (case aL => have := LMc26.out; omega); intro v521 w28 ho hb hg hat; rw [← Ny520.out] at ho; have n0_ := Aside0.mk (blk_grown (g := gb505) (o := .cells #[.string a1_0, .string a1_1] 59 (0, 0)) (by (with_reducible repeat (first | refine blk_drewN ?_ _ | refine blk_drew ?_ | refine blk_alloc ?_ _)); exact BK505.out) hg (Kd.R_away HO_5.out (fun _ hk => hk))); have n1_ := Aside0.mk (hb); have n2_ := Aside0.mk (ho); clear BK505; clear HB; clear HO_5; have BK505 := n0_; have HB := n1_; have HO522 := n2_; clear n0_ n1_ n2_; clear ho hb hg hat)))
                      go_roundg kj4
                      case measure => have := HK1.out; have := HJ4.out; omega
                      case rel => exact ⟨(y520), (x6_1), (wrap64 (x7_1 + 1)), zs, zs, H', ⟨by have := HK1.out; have := HJ4.out; omega⟩, ⟨zr HO522.out⟩, ⟨by (with_reducible repeat (first | refine blk_drewN ?_ _ | refine blk_drew ?_ | refine blk_alloc ?_ _)); exact BK505.out⟩, ⟨zg HB.out GE505.out⟩⟩
                    · rw [if_neg c26] at H
                      exact absurd H (by simp)
                · rw [if_neg c23] at H
                  exact absurd H (by simp)
              · rw [if_neg c22] at H
                exact absurd H (by simp)
      · rw [if_neg c4] at H
        have c4b0 : decide (x7_1 < (l0.length : Int)) = false := decide_eq_false c4; clear c4; by_cases c29 : x6_1 = true
        · subst c29
          have H1 : (some x5_1) = some r := by rw [if_pos rfl] at H; exact H
          clear H; have H := H1; clear H1; obtain rfl := Option.some.inj H; go_wp2
          repeat (go_quiet (fail); try go_wp2)
          go_ret
          exact ⟨_, ze, by (with_reducible repeat (first | apply Kd.R_alloc | apply Kd.R_drewN | apply Kd.R_drew)); exact Kd.R_mono HO_5.out (fun _ hk => trivial), zg HB.out GE505.out⟩
        · replace c29 := Bool.eq_false_iff.mpr c29
          subst c29; have H1 : (if x5_1.length < 4398046511104 then (some (x5_1 ++ [(⟨a1_0, a1_1⟩ : S59)])) else (none)) = some r := by rw [if_neg (show ¬ (false = true) by decide)] at H; exact H
          clear H; have H := H1; clear H1; by_cases c30 : x5_1.length < 4398046511104
          · rw [if_pos c30] at H
            have LMc30 := Aside0.mk c30; clear c30; obtain ⟨y506, hy506⟩ : ∃ y_ : List (S59), y_ = (x5_1 ++ [(⟨a1_0, a1_1⟩ : S59)]) := ⟨_, rfl⟩; replace H : (some y506) = some r := by first | (rw [hy506]; with_reducible exact H) | (have H2_ := (Option.bind_some _ _).symm.trans H; rw [hy506]; with_reducible exact H2_) | (have H2_ := (Option.bind_some _ _).symm.trans H; with_reducible exact H2_) | with_reducible exact H | (rw [hy506]; exact H) | exact H
            have Ny506 := Aside0.mk hy506; clear hy506; obtain rfl := Option.some.inj H; have hcz31_0 : wr.cell? ⟨gb505, 0, none⟩ = some (.string a1_0) := (blk_cell BK505.out 0).trans rfl; have hcz31_1 : wr.cell? ⟨gb505, 1, none⟩ = some (.string a1_1) := (blk_cell BK505.out 1).trans rfl; have hfz31_0 := blk_frozen BK505.out 0; have hfz31_1 := blk_frozen BK505.out 1; go_wp2_with (first | ((with_reducible refine gate_builtin (b := .append) (xs := #[.tmp 47, .tmp 49]) rfl ?_); at_builtin; refine Kd.R_append k59 (w0 := w) w.heap.size rfl (.tmp 47) (.tmp 49) 22 59 (.agg #[(.string ⟨#[]⟩), (.string ⟨#[]⟩)]) 32 rfl Tryd.underlying22 info59 rfl (by decide) (by omega) u5 x5_1 (⟨a1_0, a1_1⟩ : S59) [.string a1_0, .string a1_1] (fun k_ => k_ ≠ gb505) (fun _ => False) rfl rfl ?aP (fun _ hk => hk.elim) ?aF ?aO ?aB ?aS ?aL ?_; (case aP => exact k59_mkM _ _ _ (⟨a1_0, a1_1⟩ : S59)); (case aB => exact (zg HB.out GE505.out)); (case aF => exact (fun k_ hk => Kd.freshB (g := gb505) (o := .cells #[.string a1_0, .string a1_1] 59 (0, 0)) (by (with_reducible repeat (first | refine blk_drewN ?_ _ | refine blk_drew ?_ | refine blk_alloc ?_ _)); exact BK505.out) k_ hk)); (case aO => exact (zr HO_5.out)); (case aS => exact (below_size (zg HB.out GE505.out))); (case aL => have := LMc30.out; omega); intro v507 w32 ho hb hg hat; rw [← Ny506.out] at ho; have n0_ := Aside0.mk (blk_grown (g := gb505) (o := .cells #[.string a1_0, .string a1_1] 59 (0, 0)) (by (with_reducible repeat (first | refine blk_drewN ?_ _ | refine blk_drew ?_ | refine blk_alloc ?_ _)); exact BK505.out) hg (Kd.R_away HO_5.out (fun _ hk => hk))); have n1_ := Aside0.mk (hb); have n2_ := Aside0.mk (ho); clear BK505; clear HB; clear HO_5; have BK505 := n0_; have HB := n1_; have HO508 := n2_; clear n0_ n1_ n2_; clear ho hb hg hat))
            repeat (go_quiet (first | ((with_reducible refine gate_builtin (b := .append) (xs := #[.tmp 47, .tmp 49]) rfl ?_); at_builtin; refine Kd.R_append k59 (w0 := w) w.heap.size rfl (.tmp 47) (.tmp 49) 22 59 (.agg #[(.string ⟨#[]⟩), (.string ⟨#[]⟩)]) 32 rfl Tryd.underlying22 info59 rfl (by decide) (by omega) u5 x5_1 (⟨a1_0, a1_1⟩ : S59) [.string a1_0, .string a1_1] (fun k_ => k_ ≠ gb505) (fun _ => False) rfl rfl ?aP (fun _ hk => hk.elim) ?aF ?aO ?aB ?aS ?aL ?_; (case aP => exact k59_mkM _ _ _ (⟨a1_0, a1_1⟩ : S59)); (case aB => exact (zg HB.out GE505.out)); (case aF => exact (fun k_ hk => Kd.freshB (g := gb505) (o := .cells #[.string a1_0, .string a1_1] 59 (0, 0)) (by (with_reducible repeat (first | refine blk_drewN ?_ _ | refine blk_drew ?_ | refine blk_alloc ?_ _)); exact BK505.out) k_ hk)); (case aO => exact (zr HO_5.out)); (case aS => exact (below_size (zg HB.out GE505.out))); (case aL => have := LMc30.out; omega); intro v507 w32 ho hb hg hat; rw [← Ny506.out] at ho; have n0_ := Aside0.mk (blk_grown (g := gb505) (o := .cells #[.string a1_0, .string a1_1] 59 (0, 0)) (by (with_reducible repeat (first | refine blk_drewN ?_ _ | refine blk_drew ?_ | refine blk_alloc ?_ _)); exact BK505.out) hg (Kd.R_away HO_5.out (fun _ hk => hk))); have n1_ := Aside0.mk (hb); have n2_ := Aside0.mk (ho); clear BK505; clear HB; clear HO_5; have BK505 := n0_; have HB := n1_; have HO508 := n2_; clear n0_ n1_ n2_; clear ho hb hg hat)); try go_wp2_with (first | ((with_reducible refine gate_builtin (b := .append) (xs := #[.tmp 47, .tmp 49]) rfl ?_); at_builtin; refine Kd.R_append k59 (w0 := w) w.heap.size rfl (.tmp 47) (.tmp 49) 22 59 (.agg #[(.string ⟨#[]⟩), (.string ⟨#[]⟩)]) 32 rfl Tryd.underlying22 info59 rfl (by decide) (by omega) u5 x5_1 (⟨a1_0, a1_1⟩ : S59) [.string a1_0, .string a1_1] (fun k_ => k_ ≠ gb505) (fun _ => False) rfl rfl ?aP (fun _ hk => hk.elim) ?aF ?aO ?aB ?aS ?aL ?_; (case aP => exact k59_mkM _ _ _ (⟨a1_0, a1_1⟩ : S59)); (case aB => exact (zg HB.out GE505.out)); (case aF => exact (fun k_ hk => Kd.freshB (g := gb505) (o := .cells #[.string a1_0, .string a1_1] 59 (0, 0)) (by (with_reducible repeat (first | refine blk_drewN ?_ _ | refine blk_drew ?_ | refine blk_alloc ?_ _)); exact BK505.out) k_ hk)); (case aO => exact (zr HO_5.out)); (case aS => exact (below_size (zg HB.out GE505.out))); (case aL => have := LMc30.out; omega); intro v507 w32 ho hb hg hat; rw [← Ny506.out] at ho; have n0_ := Aside0.mk (blk_grown (g := gb505) (o := .cells #[.string a1_0, .string a1_1] 59 (0, 0)) (by (with_reducible repeat (first | refine blk_drewN ?_ _ | refine blk_drew ?_ | refine blk_alloc ?_ _)); exact BK505.out) hg (Kd.R_away HO_5.out (fun _ hk => hk))); have n1_ := Aside0.mk (hb); have n2_ := Aside0.mk (ho); clear BK505; clear HB; clear HO_5; have BK505 := n0_; have HB := n1_; have HO508 := n2_; clear n0_ n1_ n2_; clear ho hb hg hat)))
            go_ret
            exact ⟨_, ze, by (with_reducible repeat (first | apply Kd.R_alloc | apply Kd.R_drewN | apply Kd.R_drew)); exact Kd.R_mono HO508.out (fun _ hk => trivial), zg HB.out GE505.out⟩
          · rw [if_neg c30] at H
            exact absurd H (by simp)

end Go.Proofs.YtogegkfefpgbcaaDoor.PL
