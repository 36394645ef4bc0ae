/- Functions of the labels (packed). -/
import Derived.Test.YtogegkfefpgbcaaDoorZXPLx0
import Derived.Test.YtogegkfefpgbcaaDoorZXPLx1
import Derived.Test.YtogegkfefpgbcaaDoorZXPLx2
import Derived.Test.YtogegkfefpgbcaaDoorZXQ1
import Derived.Test.YtogegkfefpgbcaaDoorZXQ2
import Derived.Test.YtogegkfefpgbcaaDoorZXHB
import Derived.Test.YtogegkfefpgbcaaDoorZXHG0
import Derived.Test.YtogegkfefpgbcaaDoorZXPD
import Derived.Test.YtogegkfefpgbcaaDoorZXShelf
import Derived.Test.YtogegkfefpgbcaaDoorZXHA
import Derived.Test.YtogegkfefpgbcaaDoorZXHD
import Derived.Test.YtogegkfefpgbcaaDoorZXLC
import Derived.Test.YtogegkfefpgbcaaDoorZXLB
import Derived.Test.YtogegkfefpgbcaaDoorZXLD
import Derived.Test.YtogegkfefpgbcaaDoorZXQ3
import Derived.Test.YtogegkfefpgbcaaDoorZXQ4
import Derived.Test.YtogegkfefpgbcaaDoorZXHI
import Derived.Test.YtogegkfefpgbcaaDoorZXPA
import Derived.Test.YtogegkfefpgbcaaDoorZXHF
import Derived.Test.YtogegkfefpgbcaaDoorZXQ5
import Derived.Test.YtogegkfefpgbcaaDoorZXQ6
import Derived.Test.YtogegkfefpgbcaaDoorZXHJ
import Derived.Test.YtogegkfefpgbcaaDoorZXPB
import Derived.Test.YtogegkfefpgbcaaDoorZXHG
import Derived.Test.YtogegkfefpgbcaaDoorZXHK
import Derived.Test.YtogegkfefpgbcaaDoorZXPC
import Derived.Test.YtogegkfefpgbcaaDoorZXHL
import Derived.Test.YtogegkfefpgbcaaDoorZXHM
import Derived.Test.YtogegkfefpgbcaaDoorZXHP
namespace Go.Proofs.YtogegkfefpgbcaaDoor.PL
open Go.RowKit Go.Proofs.YtogegkfefpgbcaaDoorW.PrintWords Go.Proofs.YtogegkfefpgbcaaDoorW.PrintLast Go.Proofs.YtogegkfefpgbcaaDoorW.PrintMore
attribute [local go_sem] max2_int min2_int max_two min_two max_three min_three max_four min_four   -- for this text's walks alone
set_option linter.unusedVariables false
set_option linter.unusedSimpArgs false
attribute [local go_sem high] eqA59
attribute [local go_sem high] eqA36

def abacusref12_Parse.l0 : Nat → List (S36) → Int → Int → List (S59) → Int → Option ((List (S59)) × Int × Int)
  | 0, _, _, _, _, _ => none
  | k + 1, x5, x6, x7, x8, x9 => if x9 < (x5.length : Int) then (if 0 ≤ x9 then ((abacusref12_put.f k x8 ((rd_T36 x5 x9).f1) ((rd_T36 x5 x9).f2)).bind fun t530 => (abacusref12_Parse.l0 k x5 x6 x7 t530 (wrap64 (x9 + 1)))) else (none)) else (some (x8, x6, x7))
def abacusref12_Parse.f (k : Nat) (a0 : ByteArray) : Option ((List (S59)) × Int × Int) := (abacusref12_read.f k a0 false).bind fun bt523 => (abacusref12_Parse.l0 k bt523.1 bt523.2.1 bt523.2.2 ([] : List (S59)) 0)
def abacusref12_Parse.T6 : Bool × List (List Nat × List Nat) := (true, [([], []), ([], []), ([], []), ([1, 2], [1, 2]), ([3], [3]), ([4], [4]), ([], []), ([], []), ([6, 7], [6, 7]), ([8], [8]), ([9], [9]), ([5, 10], [5, 10]), ([0, 11], [0, 11]), ([12, 12, 0, 1, 2, 3, 4, 5, 6, 7, 8, 9, 10, 11, 12], [0, 12])])
def abacusref12_Parse.B6 : List Nat := [0, 0, 0, 6, 14, 30, 0, 0, 192, 448, 960, 2046, 4095, 8191]
theorem abacusref12_Parse.tab6 : rtab .any (opsOf Tryd.f15 6) = abacusref12_Parse.T6 := by kernel_rfl
theorem abacusref12_Parse.bits6 : waitsOk abacusref12_Parse.T6.2 abacusref12_Parse.B6 = true := by kernel_rfl
set_option maxHeartbeats 8000000 in
set_option maxRecDepth 100000 in
theorem abacusref12_Parse.calls (k : Nat) (a0 : ByteArray) (r1 : List (S59)) (r2 : Int) (r3 : Int) (w : World) (h : abacusref12_Parse.f k a0 = some (r1, r2, r3)) :
    Calls Tryd.prog 15 #[.string a0] w fun e w' => ∃ v0_ : Value, e = .returned (.tuple #[v0_, .int .i64 r2, .int .i64 r3]) ∧ Kd.R k59 59 w' w.heap.size (fun _ => True) v0_ r1 ∧ Below w.heap.size w w' := by
  have hu59 := Tryd.underlying59; have HB := Aside0.mk (Below.refl w.heap.size w); have H : ((abacusref12_read.f k a0 false).bind fun bt523 => (abacusref12_Parse.l0 k bt523.1 bt523.2.1 bt523.2.2 ([] : List (S59)) 0)) = some (r1, r2, r3) := h; clear h; replace H := Option.bind_eq_some_iff.mp H; obtain ⟨⟨t523, t524, t525⟩, A20, H⟩ := H; replace H : (abacusref12_Parse.l0 k t523 t524 t525 ([] : List (S59)) 0) = some (r1, r2, r3) := H; have A2 := Aside0.mk A20; clear A20; have H' := Aside0.mk H; clear H; go_enter Tryd.func15, Tryd.ntmps15; go_wp2_with (first | ((with_reducible refine gate_callee (f := 52) rfl ?_); refine goesL_ (some 12) rfl rfl Tryd.func52 (by kernel_rfl) rfl #[.string a0, .bool false] rfl zl ?_; (with_reducible refine (abacusref12_read.calls k a0 false t523 t524 t525 _ A2.out).mono ?_); rintro e w3 ⟨v526, rfl, ho0, hb⟩; refine ⟨_, rfl, ?_⟩; have HO527 := Aside0.mk (Kd.R_lower ho0 (below_size (zb HB.out))); replace HB := Aside0.mk (below_step (zb HB.out) hb); (try clear hb); (try clear hb2); (try clear hk); (try clear hi); (try clear ho0)))
  go_loopg [8, 9] k (fun kq v8 v9 w' => ∃ (x8_1 : List (S59)) (x9_1 : Int), v9 = .int .i64 x9_1 ∧ Aside0 (abacusref12_Parse.l0 kq t523 t524 t525 x8_1 x9_1 = some (r1, r2, r3)) ∧ Aside0 (kq ≤ k) ∧ Aside0 (Kd.R k36 36 w' w.heap.size (fun _ => True) v526 t523) ∧ Aside0 (Kd.R k59 59 w' w.heap.size (fun _ => True) v8 x8_1) ∧ Aside0 (Below w.heap.size w w'))
  case atStart => exact ⟨(([] : List (S59))), (0), zs, H', ⟨Nat.le_refl _⟩, ⟨zr HO527.out⟩, ⟨by first | exact Kd.R_nil _ _ _ _ _ | exact Kd.N_nil _ _ _ _ _ | exact Kd.V_nil _ _ _ _ _ | exact Kd.Q_nil _ _ _ _ _ | exact Kd.S_nil _ _ _ _ _⟩, ⟨zb HB.out⟩⟩
  case round =>
    clear H'; (try clear c1); (try clear p2); obtain ⟨x8_1, x9_1, rfl, HA, HK1, HO_5, HO_8, HB⟩ := hrel
    cases gk with
    | zero => exact absurd HA.out (by simp [abacusref12_Parse.l0])
    | succ k1 =>
      have H := HA.out; clear HA; simp only [abacusref12_Parse.l0] at H; by_cases c4 : x9_1 < (t523.length : Int)
      · rw [if_pos c4] at H
        have c4b0 : decide (x9_1 < (t523.length : Int)) = true := decide_eq_true c4; clear c4; by_cases c5 : 0 ≤ x9_1
        · rw [if_pos c5] at H
          have c5b0 : decide (0 ≤ x9_1) = true := decide_eq_true c5; clear c5; replace H := Option.bind_eq_some_iff.mp H; obtain ⟨t530, A60, H⟩ := H; replace H : (abacusref12_Parse.l0 k1 t523 t524 t525 t530 (wrap64 (x9_1 + 1))) = some (r1, r2, r3) := H; have A6 := Aside0.mk A60; clear A60; have H' := Aside0.mk H; clear H; obtain ⟨Ao7, co7, eo7⟩ := Kd.R_slice HO_5.out; subst eo7; (try go_wp2); replace HO_5 := Aside0.mk (Kd.R_drew HO_5.out); replace HO_8 := Aside0.mk (Kd.R_drew HO_8.out); replace HB := Aside0.mk (below_drew1 HB.out); have p528 : 0 ≤ (x9_1 : Int) := zd; have q528 : x9_1 < (t523.length : Int) := zd; obtain ⟨ad528, e528, hx528_0, hx528_1, hx528_2⟩ := at_T36 (Kd.R_reads' HO_5.out).2.2 x9_1 p528 q528
          cases e528; replace p528 := eq_true p528; replace q528 := eq_true q528; have p529 : 0 ≤ (x9_1 : Int) := zd; have q529 : x9_1 < (t523.length : Int) := zd; obtain ⟨ad529, e529, hx529_0, hx529_1, hx529_2⟩ := at_T36 (Kd.R_reads' HO_5.out).2.2 x9_1 p529 q529; obtain rfl : ad528 = ad529 := (by injection e529); replace p529 := eq_true p529; replace q529 := eq_true q529; obtain ⟨Ao9, co9, eo9⟩ := Kd.R_slice HO_8.out; (first | subst eo9 | (injection eo9 with f1_ f2_ f3_; have f4_ := f1_.symm; have f5_ := f3_.symm; clear f1_ f2_ f3_; subst f4_; subst f5_)); refine start_ (n := 14) (S := fun w' => w'.cell? (ad528.add ((x9_1).toNat * 3)) = some (.int .u8 ((rd_T36 t523 x9_1).f0)) ∧ w'.cell? ⟨(ad528.add ((x9_1).toNat * 3)).block, (ad528.add ((x9_1).toNat * 3)).off + 1, none⟩ = some (.string ((rd_T36 t523 x9_1).f1)) ∧ w'.cell? ⟨(ad528.add ((x9_1).toNat * 3)).block, (ad528.add ((x9_1).toNat * 3)).off + 2, none⟩ = some (.string ((rd_T36 t523 x9_1).f2)) ∧ w'.cell? (ad528.add ((x9_1).toNat * 3)) = some (.int .u8 ((rd_T36 t523 x9_1).f0)) ∧ w'.cell? ⟨(ad528.add ((x9_1).toNat * 3)).block, (ad528.add ((x9_1).toNat * 3)).off + 1, none⟩ = some (.string ((rd_T36 t523 x9_1).f1)) ∧ w'.cell? ⟨(ad528.add ((x9_1).toNat * 3)).block, (ad528.add ((x9_1).toNat * 3)).off + 2, none⟩ = some (.string ((rd_T36 t523 x9_1).f2))) (ds := []) (zm 14 0) (by kernel_rfl) rfl rfl ⟨hx528_0, hx528_1, hx528_2, hx529_0, hx529_1, hx529_2⟩ (fun hHeld => ?_); refine with_tabW abacusref12_Parse.tab6 abacusref12_Parse.bits6 (fun HT_ HW_ => ?_); generalize wr.drew = w8 at HO_5 HO_8 HB hx528_0 hx528_1 hx528_2 hx529_0 hx529_1 hx529_2 hHeld ⊢; refine zpure HT_.out 0 22 14 1 ?_; refine zpure HT_.out 1 23 14 3 ?_; refine zpure HT_.out 2 24 14 7 ?_; refine zpure HT_.out 3 25 14 15 ?_
          refine zpure HT_.out 4 26 14 31 ?_; refine zpure HT_.out 6 28 14 95 ?_; refine zpure HT_.out 7 29 14 223 ?_; refine zpure HT_.out 8 30 14 479 ?_; refine zpure HT_.out 9 31 14 991 ?_; refine ztake6 HT_.out HW_.out 5 27 14 1023 hHeld ?_; refine ztake6 HT_.out HW_.out 10 32 14 2047 hHeld ?_; refine zpure HT_.out 11 33 14 4095 ?_; refine one_ (i := 12) (N := some 34) (zm 14 8191) rfl rfl (one_of HT_.out (by kernel_rfl)) (by decide) (fun K hK => ?_); refine goes_ Tryd.func53 (by kernel_rfl) rfl #[.slice Ao9 x8_1.length co9, .agg #[.string ((rd_T36 t523 x9_1).f1), .string ((rd_T36 t523 x9_1).f2)]] (by rfl) rfl rfl zl ?_; with_reducible refine (abacusref12_put.calls k1 _ _ x8_1 ((rd_T36 t523 x9_1).f1) ((rd_T36 t523 x9_1).f2) t530 _ ?side1 ?side2 A6.out).mono ?_
          (case side1 => exact zc (Kd.R_reads' HO_8.out).2.2); (case side2 => exact (Kd.R_reads' HO_8.out).2.1); rintro e w10 ⟨v531, rfl, ho0, hb⟩; have HS0_ := (hb.cell (World.block_lt_of_cell? _ _ (hHeld.1))).trans (hHeld.1); have HS1_ := (hb.cell (World.block_lt_of_cell? _ _ (hHeld.2.1))).trans (hHeld.2.1); have HS2_ := (hb.cell (World.block_lt_of_cell? _ _ (hHeld.2.2.1))).trans (hHeld.2.2.1); have HS3_ := (hb.cell (World.block_lt_of_cell? _ _ (hHeld.2.2.2.1))).trans (hHeld.2.2.2.1); have HS4_ := (hb.cell (World.block_lt_of_cell? _ _ (hHeld.2.2.2.2.1))).trans (hHeld.2.2.2.2.1); have HS5_ := (hb.cell (World.block_lt_of_cell? _ _ (hHeld.2.2.2.2.2))).trans (hHeld.2.2.2.2.2); refine ⟨_, rfl, ?_⟩; replace HO_5 := Aside0.mk (Kd.R_below (zr HO_5.out) hb); have HO532 := Aside0.mk (Kd.R_lower (Kd.R_new' ho0 (Kd.R_lt (zr HO_8.out))) (below_size (zb HB.out))); replace HO_8 := Aside0.mk (Kd.R_elder' (zr HO_8.out) (Kd.R_base ho0) hb); replace HB := Aside0.mk (below_step (zb HB.out) hb); (try clear hb); (try clear hb2); (try clear hk); (try clear hi); (try clear ho0); refine hK.out _ _ ⟨HS0_, HS1_, HS2_, HS3_, HS4_, HS5_⟩ (fun hHeld => ?_); clear hK K; refine norm_ (a' := ?_) ?_ ?_
          rotate_left
          · show Act.put _ (some 34) _ = _
            simp only [Act.put, List.setIfInBounds_toArray, List.set_cons_zero, List.set_cons_succ, i64_w, i32_w]; rfl
          refine zpure HT_.out 13 8 14 16383 ?_; refine done_ (done_of HT_.out (by kernel_rfl)) ?_; (try go_wp2); go_roundg k1
          case measure => have := HK1.out; omega
          case rel => exact ⟨(t530), (wrap64 (x9_1 + 1)), zs, H', ⟨by have := HK1.out; omega⟩, ⟨zr HO_5.out⟩, ⟨by (with_reducible repeat (first | apply Kd.R_alloc | apply Kd.R_drewN | apply Kd.R_drew)); exact Kd.R_mono HO532.out (fun _ hk => trivial)⟩, ⟨zb HB.out⟩⟩
        · rw [if_neg c5] at H
          exact absurd H (by simp)
      · rw [if_neg c4] at H
        have c4b0 : decide (x9_1 < (t523.length : Int)) = false := decide_eq_false c4; clear c4; simp only [Option.some.injEq, Prod.mk.injEq] at H; obtain ⟨rfl, rfl, rfl⟩ := H; obtain ⟨Ao11, co11, eo11⟩ := Kd.R_slice HO_5.out; subst eo11; go_wp2; go_ret3
        exact ⟨_, ze, zr HO_8.out, zb HB.out⟩

def abacuslaw12_begins.f (k : Nat)  : Option (Bool) := (labels_Parse.f (⟨#[123, 98, 61, 34, 49, 34, 44, 97, 61, 34, 120, 34, 125]⟩ : ByteArray)).bind fun bt593 => ((labels_Print.f k bt593.1).bind fun bt598 => ((labels_Matches.f k bt593.1 (([(⟨3, (⟨#[97]⟩ : ByteArray), (⟨#[63]⟩ : ByteArray)⟩ : S36)] : List (S36)))).bind fun bt603 => (if bt593.2.1 = 0 then (if bt598.2 = 0 then (if bt598.1.toList = ([123, 97, 61, 34, 120, 34, 44, 98, 61, 34, 49, 34, 125] : List UInt8) then (if bt603.2 = 0 then (if bt603.1 = true then ((labels_Value.f (⟨#[97, 233]⟩ : ByteArray)).bind fun t605 => (if t605 = 1 then ((labels_Says.f k (⟨#[63, 63]⟩ : ByteArray) (⟨#[195, 169]⟩ : ByteArray)).bind fun t606 => (some (!t606))) else (some false))) else (some false)) else (some false)) else (some false)) else (some false)) else (some false))))
theorem abacuslaw12_begins.mono : ∀ k, LeO (abacuslaw12_begins.f k ) (abacuslaw12_begins.f (k + 1) ) := by
  intro  k; unfold abacuslaw12_begins.f
  repeat' first
      | (with_reducible exact labels_Matches.mono _ _ _)
      | (with_reducible exact labels_Print.mono _ _)
      | (with_reducible exact labels_Says.mono _ _ _)
      | (with_reducible exact LeO.refl _)
      | (with_reducible exact LeO.none _)
      | (with_reducible refine LeO.ite ?_ ?_)
      | (with_reducible refine LeO.bind ?_ (fun _ => ?_))
      | exact labels_Matches.mono _ _ _
      | exact labels_Print.mono _ _
      | exact labels_Says.mono _ _ _
      | exact LeO.none _
      | refine LeO.ite ?_ ?_
      | refine LeO.bind ?_ (fun _ => ?_)
theorem abacuslaw12_begins_r (k : Nat) (r : Bool) (h : abacuslaw12_begins.f k = some r) : r = true := by
  have h0 : abacuslaw12_begins.f 100 = some true := by kernel_rfl
  have up : ∀ n j r, abacuslaw12_begins.f j = some r → abacuslaw12_begins.f (j + n) = some r := by
    intro n
    induction n with
    | zero => intro j r h; exact h
    | succ n ih => intro j r h; exact abacuslaw12_begins.mono (j + n) r (ih j r h)
  have a := up 100 k r h; have b := up k 100 true h0; rw [Nat.add_comm] at b; exact Option.some.inj (a.symm.trans b)
set_option maxHeartbeats 8000000 in
set_option maxRecDepth 100000 in
theorem abacuslaw12_begins.calls (k : Nat)  (r : Bool) (w : World) (hG : G w) (h : abacuslaw12_begins.f k  = some r) :
    Calls Tryd.prog 17 #[] w fun e w' => e = .returned (.bool r) ∧ Below w.heap.size w w' := by
  obtain rfl := abacuslaw12_begins_r k r h; have hu36 := Tryd.underlying36; have HB := Aside0.mk (Below.refl w.heap.size w); have HG := Aside0.mk hG; clear hG; have H : ((labels_Parse.f (⟨#[123, 98, 61, 34, 49, 34, 44, 97, 61, 34, 120, 34, 125]⟩ : ByteArray)).bind fun bt593 => ((labels_Print.f k bt593.1).bind fun bt598 => ((labels_Matches.f k bt593.1 (([(⟨3, (⟨#[97]⟩ : ByteArray), (⟨#[63]⟩ : ByteArray)⟩ : S36)] : List (S36)))).bind fun bt603 => (if bt593.2.1 = 0 then (if bt598.2 = 0 then (if bt598.1.toList = ([123, 97, 61, 34, 120, 34, 44, 98, 61, 34, 49, 34, 125] : List UInt8) then (if bt603.2 = 0 then (if bt603.1 = true then ((labels_Value.f (⟨#[97, 233]⟩ : ByteArray)).bind fun t605 => (if t605 = 1 then ((labels_Says.f k (⟨#[63, 63]⟩ : ByteArray) (⟨#[195, 169]⟩ : ByteArray)).bind fun t606 => (some (!t606))) else (some false))) else (some false)) else (some false)) else (some false)) else (some false)) else (some false))))) = some true := h; clear h; replace H := Option.bind_eq_some_iff.mp H; obtain ⟨⟨t593, t594, t595⟩, A10, H⟩ := H; replace H : ((labels_Print.f k t593).bind fun bt598 => ((labels_Matches.f k t593 (([(⟨3, (⟨#[97]⟩ : ByteArray), (⟨#[63]⟩ : ByteArray)⟩ : S36)] : List (S36)))).bind fun bt603 => (if t594 = 0 then (if bt598.2 = 0 then (if bt598.1.toList = ([123, 97, 61, 34, 120, 34, 44, 98, 61, 34, 49, 34, 125] : List UInt8) then (if bt603.2 = 0 then (if bt603.1 = true then ((labels_Value.f (⟨#[97, 233]⟩ : ByteArray)).bind fun t605 => (if t605 = 1 then ((labels_Says.f k (⟨#[63, 63]⟩ : ByteArray) (⟨#[195, 169]⟩ : ByteArray)).bind fun t606 => (some (!t606))) else (some false))) else (some false)) else (some false)) else (some false)) else (some false)) else (some false)))) = some true := H; have A1 := Aside0.mk A10; clear A10
  replace H := Option.bind_eq_some_iff.mp H; obtain ⟨⟨t598, t599⟩, A20, H⟩ := H; replace H : ((labels_Matches.f k t593 (([(⟨3, (⟨#[97]⟩ : ByteArray), (⟨#[63]⟩ : ByteArray)⟩ : S36)] : List (S36)))).bind fun bt603 => (if t594 = 0 then (if t599 = 0 then (if t598.toList = ([123, 97, 61, 34, 120, 34, 44, 98, 61, 34, 49, 34, 125] : List UInt8) then (if bt603.2 = 0 then (if bt603.1 = true then ((labels_Value.f (⟨#[97, 233]⟩ : ByteArray)).bind fun t605 => (if t605 = 1 then ((labels_Says.f k (⟨#[63, 63]⟩ : ByteArray) (⟨#[195, 169]⟩ : ByteArray)).bind fun t606 => (some (!t606))) else (some false))) else (some false)) else (some false)) else (some false)) else (some false)) else (some false))) = some true := H; have A2 := Aside0.mk A20; clear A20; obtain ⟨y600, hy600⟩ : ∃ y_ : List (S36), y_ = (([(⟨3, (⟨#[97]⟩ : ByteArray), (⟨#[63]⟩ : ByteArray)⟩ : S36)] : List (S36))) := ⟨_, rfl⟩; replace H : ((labels_Matches.f k t593 y600).bind fun bt603 => (if t594 = 0 then (if t599 = 0 then (if t598.toList = ([123, 97, 61, 34, 120, 34, 44, 98, 61, 34, 49, 34, 125] : List UInt8) then (if bt603.2 = 0 then (if bt603.1 = true then ((labels_Value.f (⟨#[97, 233]⟩ : ByteArray)).bind fun t605 => (if t605 = 1 then ((labels_Says.f k (⟨#[63, 63]⟩ : ByteArray) (⟨#[195, 169]⟩ : ByteArray)).bind fun t606 => (some (!t606))) else (some false))) else (some false)) else (some false)) else (some false)) else (some false)) else (some false))) = some true := by first | (rw [hy600]; with_reducible exact H) | (have H2_ := (Option.bind_some _ _).symm.trans H; rw [hy600]; with_reducible exact H2_) | (have H2_ := (Option.bind_some _ _).symm.trans H; with_reducible exact H2_) | with_reducible exact H | (rw [hy600]; exact H) | exact H
  have Ny600 := Aside0.mk hy600; clear hy600; replace H := Option.bind_eq_some_iff.mp H; obtain ⟨⟨t603, t604⟩, A30, H⟩ := H; replace H : (if t594 = 0 then (if t599 = 0 then (if t598.toList = ([123, 97, 61, 34, 120, 34, 44, 98, 61, 34, 49, 34, 125] : List UInt8) then (if t604 = 0 then (if t603 = true then ((labels_Value.f (⟨#[97, 233]⟩ : ByteArray)).bind fun t605 => (if t605 = 1 then ((labels_Says.f k (⟨#[63, 63]⟩ : ByteArray) (⟨#[195, 169]⟩ : ByteArray)).bind fun t606 => (some (!t606))) else (some false))) else (some false)) else (some false)) else (some false)) else (some false)) else (some false)) = some true := H; have A3 := Aside0.mk A30; clear A30; by_cases c4 : t594 = 0
  · rw [if_pos c4] at H
    have c4b0 : (t594 == 0) = true := beq_iff_eq.mpr c4; have c4b1 : (t594 != 0) = false := bne_eq_false_iff_eq.mpr c4; clear c4; by_cases c5 : t599 = 0
    · rw [if_pos c5] at H
      have c5b0 : (t599 == 0) = true := beq_iff_eq.mpr c5; have c5b1 : (t599 != 0) = false := bne_eq_false_iff_eq.mpr c5; clear c5; by_cases c6 : t598.toList = ([123, 97, 61, 34, 120, 34, 44, 98, 61, 34, 49, 34, 125] : List UInt8)
      · rw [if_pos c6] at H
        have c6b0 : (t598.toList == ([123, 97, 61, 34, 120, 34, 44, 98, 61, 34, 49, 34, 125] : List UInt8)) = true := beq_iff_eq.mpr c6; have c6b1 : (t598.toList != ([123, 97, 61, 34, 120, 34, 44, 98, 61, 34, 49, 34, 125] : List UInt8)) = false := bne_eq_false_iff_eq.mpr c6; clear c6; by_cases c7 : t604 = 0
        · rw [if_pos c7] at H
          have c7b0 : (t604 == 0) = true := beq_iff_eq.mpr c7; have c7b1 : (t604 != 0) = false := bne_eq_false_iff_eq.mpr c7; clear c7; by_cases c8 : t603 = true
          · subst c8
            have H1 : ((labels_Value.f (⟨#[97, 233]⟩ : ByteArray)).bind fun t605 => (if t605 = 1 then ((labels_Says.f k (⟨#[63, 63]⟩ : ByteArray) (⟨#[195, 169]⟩ : ByteArray)).bind fun t606 => (some (!t606))) else (some false))) = some true := by rw [if_pos rfl] at H; exact H
            clear H; have H := H1; clear H1; replace H := Option.bind_eq_some_iff.mp H; obtain ⟨t605, A90, H⟩ := H; replace H : (if t605 = 1 then ((labels_Says.f k (⟨#[63, 63]⟩ : ByteArray) (⟨#[195, 169]⟩ : ByteArray)).bind fun t606 => (some (!t606))) else (some false)) = some true := H; have A9 := Aside0.mk A90; clear A90; by_cases c10 : t605 = 1
            · rw [if_pos c10] at H
              have c10b0 : (t605 == 1) = true := beq_iff_eq.mpr c10; have c10b1 : (t605 != 1) = false := bne_eq_false_iff_eq.mpr c10; clear c10; replace H := Option.bind_eq_some_iff.mp H; obtain ⟨t606, A110, H⟩ := H; replace H : (some (!t606)) = some true := H; have A11 := Aside0.mk A110; clear A110; have hr_ := Option.some.inj H; go_enter Tryd.func17, Tryd.ntmps17
              go_wp2_with (first | ((with_reducible refine gate_callee (f := 14) rfl ?_); refine goesL_ (some 9) rfl rfl Tryd.func14 (by kernel_rfl) rfl #[.string (⟨#[123, 98, 61, 34, 49, 34, 44, 97, 61, 34, 120, 34, 125]⟩ : ByteArray)] rfl zl ?_; (with_reducible refine (labels_Parse.calls (⟨#[123, 98, 61, 34, 49, 34, 44, 97, 61, 34, 120, 34, 125]⟩ : ByteArray) t593 t594 t595 _ ?side1 A1.out).mono ?_); (case side1 => first | exact zG HG.out | exact G.below HG.out (zb HB.out)); rintro e w12 ⟨v596, rfl, ho0, hb⟩; refine ⟨_, rfl, ?_⟩; have HO597 := Aside0.mk (Kd.R_lower ho0 (below_size (zb HB.out))); replace HB := Aside0.mk (below_step (zb HB.out) hb); (try clear hb); (try clear hb2); (try clear hk); (try clear hi); (try clear ho0); obtain ⟨Ao13, co13, eo13⟩ := Kd.R_slice HO597.out; subst eo13) | ((with_reducible refine gate_callee (f := 12) rfl ?_); refine goesL_ (some 15) rfl rfl Tryd.func12 (by kernel_rfl) rfl #[.slice Ao13 t593.length co13] rfl zl ?_; (with_reducible refine (labels_Print.calls k _ _ t593 t598 t599 _ ?side1 ?side2 ?side3 A2.out).mono ?_); (case side1 => exact zc (Kd.R_reads' HO597.out).2.2); (case side2 => exact (Kd.R_reads' HO597.out).2.1); (case side3 => first | exact zG HG.out | exact G.below HG.out (zb HB.out)); rintro e w14 ⟨rfl, hb⟩; refine ⟨_, rfl, ?_⟩; replace HO597 := Aside0.mk (Kd.R_below (zr HO597.out) hb); replace HB := Aside0.mk (below_step (zb HB.out) hb); (try clear hb); (try clear hb2); (try clear hk); (try clear hi)) | ((with_reducible refine gate_dst (N := 21) rfl ?_); refine Kd.R_lit k36 _ 36 ?hg (N := 21) ?hd (xs := ([(⟨3, (⟨#[97]⟩ : ByteArray), (⟨#[63]⟩ : ByteArray)⟩ : S36)] : List (S36))) (inner := [.int .u8 3, .string (⟨#[97]⟩ : ByteArray), .string (⟨#[63]⟩ : ByteArray)]) (ok := fun _ => True) (okp := fun _ => True) ?hr ?hp (fun _ hk => hk) trivial (Below.refl _ _) (Nat.le_refl _) (by simp) ?_; (case hd => rfl); (case hg => rfl); (case hr => first | (go_simp; done) | (go_simp; rfl)); (case hp => exact (Reps.c3 (show Kd.M k36 _ _ _ (⟨3, (⟨#[97]⟩ : ByteArray), (⟨#[63]⟩ : ByteArray)⟩ : S36) [.int .u8 3, .string (⟨#[97]⟩ : ByteArray), .string (⟨#[63]⟩ : ByteArray)] from (k36_mkM _ _ _ (⟨3, (⟨#[97]⟩ : ByteArray), (⟨#[63]⟩ : ByteArray)⟩ : S36) )) (Reps.none _ _))); intro v601 w15 ho16 hb hg_ hnew_; clear hg_ hnew_; (first | rw [← Ny600.out] at ho16 | (simp only [Int.reduceToNat] at ho16; rw [← Ny600.out] at ho16)); replace HO597 := Aside0.mk (Kd.R_below (zr HO597.out) hb); have HO602 := Aside0.mk (Kd.R_lower ho16 (below_size (zb HB.out))); replace HB := Aside0.mk (below_step (zb HB.out) hb); clear hb ho16; obtain ⟨Ao17, co17, eo17⟩ := Kd.R_slice HO602.out; subst eo17) | ((with_reducible refine gate_callee (f := 18) rfl ?_); refine goesL_ (some 22) rfl rfl Tryd.func18 (by kernel_rfl) rfl #[.slice Ao13 t593.length co13, .slice Ao17 y600.length co17] rfl zl ?_; (with_reducible refine (labels_Matches.calls k _ _ t593 _ _ y600 true t604 _ ?side1 ?side2 ?side3 ?side4 ?side5 A3.out).mono ?_); (case side1 => exact zc (Kd.R_reads' HO597.out).2.2); (case side2 => exact (Kd.R_reads' HO597.out).2.1); (case side3 => exact zc (Kd.R_reads' HO602.out).2.2); (case side4 => exact (Kd.R_reads' HO602.out).2.1); (case side5 => first | exact zG HG.out | exact G.below HG.out (zb HB.out)); rintro e w18 ⟨rfl, hb⟩; refine ⟨_, rfl, ?_⟩; replace HO597 := Aside0.mk (Kd.R_below (zr HO597.out) hb); replace HO602 := Aside0.mk (Kd.R_below (zr HO602.out) hb); replace HB := Aside0.mk (below_step (zb HB.out) hb); (try clear hb); (try clear hb2); (try clear hk); (try clear hi)) | (go_at_call 20; (with_reducible refine (labels_Value.calls (⟨#[97, 233]⟩ : ByteArray) t605 _ ?side1 A9.out).mono ?_); (case side1 => first | exact zG HG.out | exact G.below HG.out (zb HB.out)); rintro e w19 ⟨rfl, hb⟩; replace HO597 := Aside0.mk (Kd.R_below (zr HO597.out) hb); replace HO602 := Aside0.mk (Kd.R_below (zr HO602.out) hb); replace HB := Aside0.mk (below_step (zb HB.out) hb); (try clear hb); (try clear hb2); (try clear hk); (try clear hi)) | (go_at_call 19; (with_reducible refine (labels_Says.calls k (⟨#[63, 63]⟩ : ByteArray) (⟨#[195, 169]⟩ : ByteArray) t606 _ ?side1 A11.out).mono ?_); (case side1 => first | exact zG HG.out | exact G.below HG.out (zb HB.out)); rintro e w20 ⟨rfl, hb⟩; replace HO597 := Aside0.mk (Kd.R_below (zr HO597.out) hb); replace HO602 := Aside0.mk (Kd.R_below (zr HO602.out) hb); replace HB := Aside0.mk (below_step (zb HB.out) hb); (try clear hb); (try clear hb2); (try clear hk); (try clear hi)))
              go_ret
              exact ⟨ze, zb HB.out⟩
            · rw [if_neg c10] at H
              have c10b0 : (t605 == 1) = false := beq_eq_false_iff_ne.mpr c10; have c10b1 : (t605 != 1) = true := bne_iff_ne.mpr c10
              cases Option.some.inj H
          · replace c8 := Bool.eq_false_iff.mpr c8
            subst c8; have H1 : (some false) = some true := by rw [if_neg (show ¬ (false = true) by decide)] at H; exact H
            clear H; have H := H1; clear H1
            cases Option.some.inj H
        · rw [if_neg c7] at H
          have c7b0 : (t604 == 0) = false := beq_eq_false_iff_ne.mpr c7; have c7b1 : (t604 != 0) = true := bne_iff_ne.mpr c7
          cases Option.some.inj H
      · rw [if_neg c6] at H
        have c6b0 : (t598.toList == ([123, 97, 61, 34, 120, 34, 44, 98, 61, 34, 49, 34, 125] : List UInt8)) = false := beq_eq_false_iff_ne.mpr c6; have c6b1 : (t598.toList != ([123, 97, 61, 34, 120, 34, 44, 98, 61, 34, 49, 34, 125] : List UInt8)) = true := bne_iff_ne.mpr c6
        cases Option.some.inj H
    · rw [if_neg c5] at H
      have c5b0 : (t599 == 0) = false := beq_eq_false_iff_ne.mpr c5; have c5b1 : (t599 != 0) = true := bne_iff_ne.mpr c5
      cases Option.some.inj H
  · rw [if_neg c4] at H
    have c4b0 : (t594 == 0) = false := beq_eq_false_iff_ne.mpr c4; have c4b1 : (t594 != 0) = true := bne_iff_ne.mpr c4
    cases Option.some.inj H

def abacuslaw12_LabelsTexts.j0 : Nat → ByteArray → Bool → Option (Bool)
  | 0, _, _ => none
  | k + 1, x1, x30 => if x30 = true then (some false) else ((labels_Parse.f x1).bind fun bt611 => ((abacusref12_Parse.f k x1).bind fun bt616 => ((abacusref12_Same.f k bt611.1 bt616.1).bind fun t621 => (if t621 = true then (if bt611.2.1 = bt616.2.1 then (if bt611.2.2 = bt616.2.2 then ((abacuslaw12_begins.f k).bind fun t622 => (some t622)) else (some false)) else (some false)) else (some false)))))
def abacuslaw12_LabelsTexts.f (k : Nat) (l0 : List (S59)) (a1 : ByteArray) : Option (Bool) := (labels_Print.f k l0).bind fun bt607 => ((abacusref12_Print.f k l0).bind fun bt609 => (if bt607.1.toList = bt609.1.toList then (abacuslaw12_LabelsTexts.j0 k a1 (bt607.2 != bt609.2)) else (abacuslaw12_LabelsTexts.j0 k a1 true)))
set_option maxHeartbeats 8000000 in
set_option maxRecDepth 100000 in
theorem abacuslaw12_LabelsTexts.calls (k : Nat) (A0 : Option Addr) (c0 : Nat) (l0 : List (S59)) (a1 : ByteArray) (w : World) (hr0 : Kd.C k59 w A0 l0.length l0) (hc0 : l0.length ≤ c0) (hG : G w) (h : abacuslaw12_LabelsTexts.f k l0 a1 = some true) :
    Calls Tryd.prog 3 #[.slice A0 l0.length c0, .string a1] w fun e w' => e = .returned (.bool true) ∧ Below w.heap.size w w' := by
  have HR0 := Aside0.mk hr0; have HC0 := Aside0.mk hc0; clear hr0 hc0; have HB := Aside0.mk (Below.refl w.heap.size w); have HG := Aside0.mk hG; clear hG; have H : ((labels_Print.f k l0).bind fun bt607 => ((abacusref12_Print.f k l0).bind fun bt609 => (if bt607.1.toList = bt609.1.toList then (abacuslaw12_LabelsTexts.j0 k a1 (bt607.2 != bt609.2)) else (abacuslaw12_LabelsTexts.j0 k a1 true)))) = some true := h; clear h; replace H := Option.bind_eq_some_iff.mp H; obtain ⟨⟨t607, t608⟩, A30, H⟩ := H; replace H : ((abacusref12_Print.f k l0).bind fun bt609 => (if t607.toList = bt609.1.toList then (abacuslaw12_LabelsTexts.j0 k a1 (t608 != bt609.2)) else (abacuslaw12_LabelsTexts.j0 k a1 true))) = some true := H; have A3 := Aside0.mk A30; clear A30; replace H := Option.bind_eq_some_iff.mp H; obtain ⟨⟨t609, t610⟩, A40, H⟩ := H; replace H : (if t607.toList = t609.toList then (abacuslaw12_LabelsTexts.j0 k a1 (t608 != t610)) else (abacuslaw12_LabelsTexts.j0 k a1 true)) = some true := H; have A4 := Aside0.mk A40; clear A40; have HC5 := Aside0.mk H; clear H; go_enter Tryd.func3, Tryd.ntmps3
  go_upto_region 3 with (first | ((with_reducible refine gate_callee (f := 12) rfl ?_); refine goesL_ (some 15) rfl rfl Tryd.func12 (by kernel_rfl) rfl #[.slice A0 l0.length c0] rfl zl ?_; (with_reducible refine (labels_Print.calls k _ _ l0 t607 t608 _ ?side1 ?side2 ?side3 A3.out).mono ?_); (case side1 => repeat (first | exact HR0.out | (with_reducible refine Kd.C_alloc ?_ _) | (with_reducible refine Kd.C_drewN ?_ _) | (with_reducible refine Kd.C_drew ?_))); (case side2 => exact HC0.out); (case side3 => first | exact zG HG.out | exact G.below HG.out (zb HB.out)); rintro e w6 ⟨rfl, hb⟩; refine ⟨_, rfl, ?_⟩; replace HB := Aside0.mk (below_step (zb HB.out) hb); (try clear hb); (try clear hb2); (try clear hk); (try clear hi)) | ((with_reducible refine gate_callee (f := 13) rfl ?_); refine goesL_ (some 20) rfl rfl Tryd.func13 (by kernel_rfl) rfl #[.slice A0 l0.length c0] rfl zl ?_; (with_reducible refine (abacusref12_Print.calls k _ _ l0 t609 t610 _ ?side1 ?side2 A4.out).mono ?_); (case side1 => exact zc (Kd.C_below HR0.out HB.out)); (case side2 => exact HC0.out); rintro e w7 ⟨rfl, hb⟩; refine ⟨_, rfl, ?_⟩; replace HB := Aside0.mk (below_step (zb HB.out) hb); (try clear hb); (try clear hb2); (try clear hk); (try clear hi)))
  (try simp only [Act.put, List.setIfInBounds_toArray, List.set_cons_zero, List.set_cons_succ]); go_cut [30] (fun v30 wc => ∃ (kq : Nat) (x30_4 : Bool), v30 = .bool x30_4 ∧ Aside0 (abacuslaw12_LabelsTexts.j0 kq a1 x30_4 = some true) ∧ Aside0 (kq ≤ k) ∧ Aside0 (Below w.heap.size w wc))
  case first =>
    have H := HC5.out; clear HC5; by_cases c8 : t607.toList = t609.toList
    · rw [if_pos c8] at H
      have c8b0 : (t607.toList == t609.toList) = true := beq_iff_eq.mpr c8; have c8b1 : (t607.toList != t609.toList) = false := bne_eq_false_iff_eq.mpr c8; clear c8; (first | rw [c8b0] | (simp only [i64_w, i32_w]; rw [c8b0]) | skip); have H' := Aside0.mk H; clear H; go_wp2; go_meet
      case rel => exact ⟨_, ((t608 != t610)), zs, H', ⟨by first | omega | exact Nat.le_refl _⟩, ⟨zb HB.out⟩⟩
    · rw [if_neg c8] at H
      have c8b0 : (t607.toList == t609.toList) = false := beq_eq_false_iff_ne.mpr c8; have c8b1 : (t607.toList != t609.toList) = true := bne_iff_ne.mpr c8; (first | rw [c8b0] | (simp only [i64_w, i32_w]; rw [c8b0]) | skip); have H' := Aside0.mk H; clear H; go_wp2; go_meet
      case rel => exact ⟨_, (true), zs, H', ⟨by first | omega | exact Nat.le_refl _⟩, ⟨zb HB.out⟩⟩
  case rest =>
    clear HC5; (try clear c1); (try clear p2); (try clear c3); (try clear c8); (try clear c8b0); (try clear c8b1); obtain ⟨kq, x30_4, rfl, HA, HJ4, HB⟩ := hcut
    cases kq with
    | zero => exact absurd HA.out (by simp [abacuslaw12_LabelsTexts.j0])
    | succ kj4 =>
      have H := HA.out; clear HA; simp only [abacuslaw12_LabelsTexts.j0] at H; by_cases c9 : x30_4 = true
      · subst c9
        have H1 : (some false) = some true := by rw [if_pos rfl] at H; exact H
        clear H; have H := H1; clear H1
        cases Option.some.inj H
      · replace c9 := Bool.eq_false_iff.mpr c9
        subst c9; have H1 : ((labels_Parse.f a1).bind fun bt611 => ((abacusref12_Parse.f kj4 a1).bind fun bt616 => ((abacusref12_Same.f kj4 bt611.1 bt616.1).bind fun t621 => (if t621 = true then (if bt611.2.1 = bt616.2.1 then (if bt611.2.2 = bt616.2.2 then ((abacuslaw12_begins.f kj4).bind fun t622 => (some t622)) else (some false)) else (some false)) else (some false))))) = some true := by rw [if_neg (show ¬ (false = true) by decide)] at H; exact H
        clear H; have H := H1; clear H1; replace H := Option.bind_eq_some_iff.mp H; obtain ⟨⟨t611, t612, t613⟩, A100, H⟩ := H; replace H : ((abacusref12_Parse.f kj4 a1).bind fun bt616 => ((abacusref12_Same.f kj4 t611 bt616.1).bind fun t621 => (if t621 = true then (if t612 = bt616.2.1 then (if t613 = bt616.2.2 then ((abacuslaw12_begins.f kj4).bind fun t622 => (some t622)) else (some false)) else (some false)) else (some false)))) = some true := H; have A10 := Aside0.mk A100; clear A100; replace H := Option.bind_eq_some_iff.mp H; obtain ⟨⟨t616, t617, t618⟩, A110, H⟩ := H; replace H : ((abacusref12_Same.f kj4 t611 t616).bind fun t621 => (if t621 = true then (if t612 = t617 then (if t613 = t618 then ((abacuslaw12_begins.f kj4).bind fun t622 => (some t622)) else (some false)) else (some false)) else (some false))) = some true := H; have A11 := Aside0.mk A110; clear A110; replace H := Option.bind_eq_some_iff.mp H; obtain ⟨t621, A120, H⟩ := H; replace H : (if t621 = true then (if t612 = t617 then (if t613 = t618 then ((abacuslaw12_begins.f kj4).bind fun t622 => (some t622)) else (some false)) else (some false)) else (some false)) = some true := H; have A12 := Aside0.mk A120; clear A120; by_cases c13 : t621 = true
        · subst c13
          have H1 : (if t612 = t617 then (if t613 = t618 then ((abacuslaw12_begins.f kj4).bind fun t622 => (some t622)) else (some false)) else (some false)) = some true := by rw [if_pos rfl] at H; exact H
          clear H; have H := H1; clear H1; by_cases c14 : t612 = t617
          · rw [if_pos c14] at H
            have c14b0 : (t612 == t617) = true := beq_iff_eq.mpr c14; have c14b1 : (t612 != t617) = false := bne_eq_false_iff_eq.mpr c14; clear c14; by_cases c15 : t613 = t618
            · rw [if_pos c15] at H
              have c15b0 : (t613 == t618) = true := beq_iff_eq.mpr c15; have c15b1 : (t613 != t618) = false := bne_eq_false_iff_eq.mpr c15; clear c15; replace H := Option.bind_eq_some_iff.mp H; obtain ⟨t622, A160, H⟩ := H; replace H : (some t622) = some true := H; have A16 := Aside0.mk A160; clear A160; have hr_ := Option.some.inj H
              go_wp2_with (first | ((with_reducible refine gate_callee (f := 14) rfl ?_); refine goesL_ (some 33) rfl rfl Tryd.func14 (by kernel_rfl) rfl #[.string a1] rfl zl ?_; (with_reducible refine (labels_Parse.calls a1 t611 t612 t613 _ ?side1 A10.out).mono ?_); (case side1 => first | exact zG HG.out | exact G.below HG.out (zb HB.out)); rintro e w17 ⟨v614, rfl, ho0, hb⟩; refine ⟨_, rfl, ?_⟩; have HO615 := Aside0.mk (Kd.R_lower ho0 (below_size (zb HB.out))); replace HB := Aside0.mk (below_step (zb HB.out) hb); (try clear hb); (try clear hb2); (try clear hk); (try clear hi); (try clear ho0)) | ((with_reducible refine gate_callee (f := 15) rfl ?_); refine goesL_ (some 39) rfl rfl Tryd.func15 (by kernel_rfl) rfl #[.string a1] rfl zl ?_; (with_reducible refine (abacusref12_Parse.calls kj4 a1 t616 t617 t618 _ A11.out).mono ?_); rintro e w18 ⟨v619, rfl, ho0, hb⟩; refine ⟨_, rfl, ?_⟩; have HO620 := Aside0.mk (Kd.R_lower (Kd.R_new' ho0 (Kd.R_lt (zr HO615.out))) (below_size (zb HB.out))); replace HO615 := Aside0.mk (Kd.R_elder' (zr HO615.out) (Kd.R_base ho0) hb); replace HB := Aside0.mk (below_step (zb HB.out) hb); (try clear hb); (try clear hb2); (try clear hk); (try clear hi); (try clear ho0); obtain ⟨Ao19, co19, eo19⟩ := Kd.R_slice HO615.out; subst eo19; obtain ⟨Ao20, co20, eo20⟩ := Kd.R_slice HO620.out; subst eo20) | ((with_reducible refine gate_callee (f := 16) rfl ?_); refine goesL_ (some 45) rfl rfl Tryd.func16 (by kernel_rfl) rfl #[.slice Ao19 t611.length co19, .slice Ao20 t616.length co20] rfl zl ?_; (with_reducible refine (abacusref12_Same.calls kj4 _ _ t611 _ _ t616 true _ ?side1 ?side2 ?side3 ?side4 A12.out).mono ?_); (case side1 => exact zc (Kd.R_reads' HO615.out).2.2); (case side2 => exact (Kd.R_reads' HO615.out).2.1); (case side3 => exact zc (Kd.R_reads' HO620.out).2.2); (case side4 => exact (Kd.R_reads' HO620.out).2.1); rintro e w' ⟨rfl, ⟨nd, rfl⟩⟩; refine ⟨_, rfl, ?_⟩) | (go_at_call 17; (with_reducible refine (abacuslaw12_begins.calls kj4  t622 _ ?side1 A16.out).mono ?_); (case side1 => first | exact zG HG.out | exact G.below HG.out (zb HB.out)); rintro e w21 ⟨rfl, hb⟩; replace HO615 := Aside0.mk (Kd.R_below (zr HO615.out) hb); replace HO620 := Aside0.mk (Kd.R_below (zr HO620.out) hb); replace HB := Aside0.mk (below_step (zb HB.out) hb); (try clear hb); (try clear hb2); (try clear hk); (try clear hi)))
              go_ret
              exact ⟨ze, zb HB.out⟩
            · rw [if_neg c15] at H
              have c15b0 : (t613 == t618) = false := beq_eq_false_iff_ne.mpr c15; have c15b1 : (t613 != t618) = true := bne_iff_ne.mpr c15
              cases Option.some.inj H
          · rw [if_neg c14] at H
            have c14b0 : (t612 == t617) = false := beq_eq_false_iff_ne.mpr c14; have c14b1 : (t612 != t617) = true := bne_iff_ne.mpr c14
            cases Option.some.inj H
        · replace c13 := Bool.eq_false_iff.mpr c13
          subst c13; have H1 : (some false) = some true := by rw [if_neg (show ¬ (false = true) by decide)] at H; exact H
          clear H; have H := H1; clear H1
          cases Option.some.inj H

end Go.Proofs.YtogegkfefpgbcaaDoor.PL
