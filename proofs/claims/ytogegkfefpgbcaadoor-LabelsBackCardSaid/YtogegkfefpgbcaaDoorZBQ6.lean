/- Functions of the labels (packed). -/
import Derived.Test.YtogegkfefpgbcaaDoorZBPLx0
import Derived.Test.YtogegkfefpgbcaaDoorZBPLx1
import Derived.Test.YtogegkfefpgbcaaDoorZBPLx2
import Derived.Test.YtogegkfefpgbcaaDoorZBQ1
import Derived.Test.YtogegkfefpgbcaaDoorZBQ2
import Derived.Test.YtogegkfefpgbcaaDoorZBQ3
import Derived.Test.YtogegkfefpgbcaaDoorZBHB
import Derived.Test.YtogegkfefpgbcaaDoorZBHG0
import Derived.Test.YtogegkfefpgbcaaDoorZBPD
import Derived.Test.YtogegkfefpgbcaaDoorZBShelf
import Derived.Test.YtogegkfefpgbcaaDoorZBHA
import Derived.Test.YtogegkfefpgbcaaDoorZBHD
import Derived.Test.YtogegkfefpgbcaaDoorZBHI
import Derived.Test.YtogegkfefpgbcaaDoorZBLC
import Derived.Test.YtogegkfefpgbcaaDoorZBLB
import Derived.Test.YtogegkfefpgbcaaDoorZBLD
import Derived.Test.YtogegkfefpgbcaaDoorZBQ4
import Derived.Test.YtogegkfefpgbcaaDoorZBQ5
import Derived.Test.YtogegkfefpgbcaaDoorZBPA
import Derived.Test.YtogegkfefpgbcaaDoorZBPB
import Derived.Test.YtogegkfefpgbcaaDoorZBHG
import Derived.Test.YtogegkfefpgbcaaDoorZBHK
import Derived.Test.YtogegkfefpgbcaaDoorZBPC
import Derived.Test.YtogegkfefpgbcaaDoorZBHL
import Derived.Test.YtogegkfefpgbcaaDoorZBHM
import Derived.Test.YtogegkfefpgbcaaDoorZBHP
namespace Go.Proofs.YtogegkfefpgbcaaDoor.PL
open Go.RowKit Go.Proofs.YtogegkfefpgbcaaDoorW.PrintWords Go.Proofs.YtogegkfefpgbcaaDoorW.PrintLast Go.Proofs.YtogegkfefpgbcaaDoorW.PrintMore
attribute [local go_sem] max2_int min2_int max_two min_two max_three min_three max_four min_four   -- for this text's walks alone
set_option linter.unusedVariables false
set_option linter.unusedSimpArgs false
attribute [local go_sem high] eqA59
attribute [local go_sem high] eqA36

/-! ### abacuslaw12_begins: function 17 -/
def abacuslaw12_begins.f (k : Nat)  : Option (Bool) := (labels_Parse.f (⟨#[123, 98, 61, 34, 49, 34, 44, 97, 61, 34, 120, 34, 125]⟩ : ByteArray)).bind fun bt518 => ((labels_Print.f k bt518.1).bind fun bt523 => ((labels_Matches.f k bt518.1 (([(⟨3, (⟨#[97]⟩ : ByteArray), (⟨#[63]⟩ : ByteArray)⟩ : S36)] : List (S36)))).bind fun bt528 => (if bt518.2.1 = 0 then (if bt523.2 = 0 then (if bt523.1.toList = ([123, 97, 61, 34, 120, 34, 44, 98, 61, 34, 49, 34, 125] : List UInt8) then (if bt528.2 = 0 then (if bt528.1 = true then ((labels_Value.f (⟨#[97, 233]⟩ : ByteArray)).bind fun t530 => (if t530 = 1 then ((labels_Says.f k (⟨#[63, 63]⟩ : ByteArray) (⟨#[195, 169]⟩ : ByteArray)).bind fun t531 => (some (!t531))) else (some false))) else (some false)) else (some false)) else (some false)) else (some false)) else (some false))))
theorem abacuslaw12_begins.mono : ∀ k, LeO (abacuslaw12_begins.f k ) (abacuslaw12_begins.f (k + 1) ) := by
  intro  k
  unfold abacuslaw12_begins.f
  repeat' first
      | (with_reducible exact labels_Matches.mono _ _ _)
      | (with_reducible exact labels_Print.mono _ _)
      | (with_reducible exact labels_Says.mono _ _ _)
      | (with_reducible exact LeO.refl _)
      | (with_reducible exact LeO.none _)
      | (with_reducible refine LeO.ite ?_ ?_)
      | (with_reducible refine LeO.bind ?_ (fun _ => ?_))
      | exact labels_Matches.mono _ _ _
      | exact labels_Print.mono _ _
      | exact labels_Says.mono _ _ _
      | exact LeO.none _
      | refine LeO.ite ?_ ?_
      | refine LeO.bind ?_ (fun _ => ?_)
theorem abacuslaw12_begins_r (k : Nat) (r : Bool) (h : abacuslaw12_begins.f k = some r) : r = true := by
  have h0 : abacuslaw12_begins.f 100 = some true := by kernel_rfl
  have up : ∀ n j r, abacuslaw12_begins.f j = some r → abacuslaw12_begins.f (j + n) = some r := by
    intro n
    induction n with
    | zero => intro j r h; exact h
    | succ n ih => intro j r h; exact abacuslaw12_begins.mono (j + n) r (ih j r h)
  have a := up 100 k r h
  have b := up k 100 true h0
  rw [Nat.add_comm] at b
  exact Option.some.inj (a.symm.trans b)
set_option maxHeartbeats 8000000 in
set_option maxRecDepth 100000 in
theorem abacuslaw12_begins.calls (k : Nat)  (r : Bool) (w : World) (hG : G w) (h : abacuslaw12_begins.f k  = some r) :
    Calls Tryd.prog 17 #[] w fun e w' => e = .returned (.bool r) ∧ Below w.heap.size w w' := by
  obtain rfl := abacuslaw12_begins_r k r h
  have hu36 := Tryd.underlying36
  have HB := Aside0.mk (Below.refl w.heap.size w)
  have HG := Aside0.mk hG
  clear hG
  have H : ((labels_Parse.f (⟨#[123, 98, 61, 34, 49, 34, 44, 97, 61, 34, 120, 34, 125]⟩ : ByteArray)).bind fun bt518 => ((labels_Print.f k bt518.1).bind fun bt523 => ((labels_Matches.f k bt518.1 (([(⟨3, (⟨#[97]⟩ : ByteArray), (⟨#[63]⟩ : ByteArray)⟩ : S36)] : List (S36)))).bind fun bt528 => (if bt518.2.1 = 0 then (if bt523.2 = 0 then (if bt523.1.toList = ([123, 97, 61, 34, 120, 34, 44, 98, 61, 34, 49, 34, 125] : List UInt8) then (if bt528.2 = 0 then (if bt528.1 = true then ((labels_Value.f (⟨#[97, 233]⟩ : ByteArray)).bind fun t530 => (if t530 = 1 then ((labels_Says.f k (⟨#[63, 63]⟩ : ByteArray) (⟨#[195, 169]⟩ : ByteArray)).bind fun t531 => (some (!t531))) else (some false))) else (some false)) else (some false)) else (some false)) else (some false)) else (some false))))) = some true := h
  clear h
  replace H := Option.bind_eq_some_iff.mp H
  obtain ⟨⟨t518, t519, t520⟩, A10, H⟩ := H
  replace H : ((labels_Print.f k t518).bind fun bt523 => ((labels_Matches.f k t518 (([(⟨3, (⟨#[97]⟩ : ByteArray), (⟨#[63]⟩ : ByteArray)⟩ : S36)] : List (S36)))).bind fun bt528 => (if t519 = 0 then (if bt523.2 = 0 then (if bt523.1.toList = ([123, 97, 61, 34, 120, 34, 44, 98, 61, 34, 49, 34, 125] : List UInt8) then (if bt528.2 = 0 then (if bt528.1 = true then ((labels_Value.f (⟨#[97, 233]⟩ : ByteArray)).bind fun t530 => (if t530 = 1 then ((labels_Says.f k (⟨#[63, 63]⟩ : ByteArray) (⟨#[195, 169]⟩ : ByteArray)).bind fun t531 => (some (!t531))) else (some false))) else (some false)) else (some false)) else (some false)) else (some false)) else (some false)))) = some true := H
  have A1 := Aside0.mk A10
  clear A10
  replace H := Option.bind_eq_some_iff.mp H
  obtain ⟨⟨t523, t524⟩, A20, H⟩ := H
  replace H : ((labels_Matches.f k t518 (([(⟨3, (⟨#[97]⟩ : ByteArray), (⟨#[63]⟩ : ByteArray)⟩ : S36)] : List (S36)))).bind fun bt528 => (if t519 = 0 then (if t524 = 0 then (if t523.toList = ([123, 97, 61, 34, 120, 34, 44, 98, 61, 34, 49, 34, 125] : List UInt8) then (if bt528.2 = 0 then (if bt528.1 = true then ((labels_Value.f (⟨#[97, 233]⟩ : ByteArray)).bind fun t530 => (if t530 = 1 then ((labels_Says.f k (⟨#[63, 63]⟩ : ByteArray) (⟨#[195, 169]⟩ : ByteArray)).bind fun t531 => (some (!t531))) else (some false))) else (some false)) else (some false)) else (some false)) else (some false)) else (some false))) = some true := H
  have A2 := Aside0.mk A20
  clear A20
  obtain ⟨y525, hy525⟩ : ∃ y_ : List (S36), y_ = (([(⟨3, (⟨#[97]⟩ : ByteArray), (⟨#[63]⟩ : ByteArray)⟩ : S36)] : List (S36))) := ⟨_, rfl⟩
  replace H : ((labels_Matches.f k t518 y525).bind fun bt528 => (if t519 = 0 then (if t524 = 0 then (if t523.toList = ([123, 97, 61, 34, 120, 34, 44, 98, 61, 34, 49, 34, 125] : List UInt8) then (if bt528.2 = 0 then (if bt528.1 = true then ((labels_Value.f (⟨#[97, 233]⟩ : ByteArray)).bind fun t530 => (if t530 = 1 then ((labels_Says.f k (⟨#[63, 63]⟩ : ByteArray) (⟨#[195, 169]⟩ : ByteArray)).bind fun t531 => (some (!t531))) else (some false))) else (some false)) else (some false)) else (some false)) else (some false)) else (some false))) = some true := by first | (rw [hy525]; with_reducible exact H) | (have H2_ := (Option.bind_some _ _).symm.trans H; rw [hy525]; with_reducible exact H2_) | (have H2_ := (Option.bind_some _ _).symm.trans H; with_reducible exact H2_) | with_reducible exact H | (rw [hy525]; exact H) | exact H
  have Ny525 := Aside0.mk hy525
  clear hy525
  replace H := Option.bind_eq_some_iff.mp H
  obtain ⟨⟨t528, t529⟩, A30, H⟩ := H
  replace H : (if t519 = 0 then (if t524 = 0 then (if t523.toList = ([123, 97, 61, 34, 120, 34, 44, 98, 61, 34, 49, 34, 125] : List UInt8) then (if t529 = 0 then (if t528 = true then ((labels_Value.f (⟨#[97, 233]⟩ : ByteArray)).bind fun t530 => (if t530 = 1 then ((labels_Says.f k (⟨#[63, 63]⟩ : ByteArray) (⟨#[195, 169]⟩ : ByteArray)).bind fun t531 => (some (!t531))) else (some false))) else (some false)) else (some false)) else (some false)) else (some false)) else (some false)) = some true := H
  have A3 := Aside0.mk A30
  clear A30
  by_cases c4 : t519 = 0
  · rw [if_pos c4] at H
    have c4b0 : (t519 == 0) = true := beq_iff_eq.mpr c4
    have c4b1 : (t519 != 0) = false := bne_eq_false_iff_eq.mpr c4
    clear c4
    by_cases c5 : t524 = 0
    · rw [if_pos c5] at H
      have c5b0 : (t524 == 0) = true := beq_iff_eq.mpr c5
      have c5b1 : (t524 != 0) = false := bne_eq_false_iff_eq.mpr c5
      clear c5
      by_cases c6 : t523.toList = ([123, 97, 61, 34, 120, 34, 44, 98, 61, 34, 49, 34, 125] : List UInt8)
      · rw [if_pos c6] at H
        have c6b0 : (t523.toList == ([123, 97, 61, 34, 120, 34, 44, 98, 61, 34, 49, 34, 125] : List UInt8)) = true := beq_iff_eq.mpr c6
        have c6b1 : (t523.toList != ([123, 97, 61, 34, 120, 34, 44, 98, 61, 34, 49, 34, 125] : List UInt8)) = false := bne_eq_false_iff_eq.mpr c6
        clear c6
        by_cases c7 : t529 = 0
        · rw [if_pos c7] at H
          have c7b0 : (t529 == 0) = true := beq_iff_eq.mpr c7
          have c7b1 : (t529 != 0) = false := bne_eq_false_iff_eq.mpr c7
          clear c7
          by_cases c8 : t528 = true
          · subst c8
            have H1 : ((labels_Value.f (⟨#[97, 233]⟩ : ByteArray)).bind fun t530 => (if t530 = 1 then ((labels_Says.f k (⟨#[63, 63]⟩ : ByteArray) (⟨#[195, 169]⟩ : ByteArray)).bind fun t531 => (some (!t531))) else (some false))) = some true := by rw [if_pos rfl] at H; exact H
            clear H
            have H := H1
            clear H1
            replace H := Option.bind_eq_some_iff.mp H
            obtain ⟨t530, A90, H⟩ := H
            replace H : (if t530 = 1 then ((labels_Says.f k (⟨#[63, 63]⟩ : ByteArray) (⟨#[195, 169]⟩ : ByteArray)).bind fun t531 => (some (!t531))) else (some false)) = some true := H
            have A9 := Aside0.mk A90
            clear A90
            by_cases c10 : t530 = 1
            · rw [if_pos c10] at H
              have c10b0 : (t530 == 1) = true := beq_iff_eq.mpr c10
              have c10b1 : (t530 != 1) = false := bne_eq_false_iff_eq.mpr c10
              clear c10
              replace H := Option.bind_eq_some_iff.mp H
              obtain ⟨t531, A110, H⟩ := H
              replace H : (some (!t531)) = some true := H
              have A11 := Aside0.mk A110
              clear A110
              have hr_ := Option.some.inj H
              go_enter Tryd.func17, Tryd.ntmps17
              go_wp2_with (first | ((with_reducible refine gate_callee (f := 14) rfl ?_); refine goesL_ (some 9) rfl rfl Tryd.func14 (by kernel_rfl) rfl #[.string (⟨#[123, 98, 61, 34, 49, 34, 44, 97, 61, 34, 120, 34, 125]⟩ : ByteArray)] rfl zl ?_; (with_reducible refine (labels_Parse.calls (⟨#[123, 98, 61, 34, 49, 34, 44, 97, 61, 34, 120, 34, 125]⟩ : ByteArray) t518 t519 t520 _ ?side1 A1.out).mono ?_); (case side1 => first | (with_reducible exact HG.out) | (with_reducible exact G.drewN HG.out _) | exact G.below HG.out (zb HB.out)); rintro e w12 ⟨v521, rfl, ho0, hb⟩; refine ⟨_, rfl, ?_⟩; have n0_ := Aside0.mk (Kd.R_lower ho0 (below_size (zb HB.out))); have n1_ := Aside0.mk (below_step (zb HB.out) hb); clear HB; have HO522 := n0_; have HB := n1_; clear n0_ n1_; (try clear hb); (try clear hb2); (try clear hk); (try clear hi); (try clear ho0); obtain ⟨Ao13, co13, eo13⟩ := Kd.R_slice HO522.out; subst eo13) | ((with_reducible refine gate_callee (f := 12) rfl ?_); refine goesL_ (some 15) rfl rfl Tryd.func12 (by kernel_rfl) rfl #[.slice Ao13 t518.length co13] rfl zl ?_; (with_reducible refine (labels_Print.calls k _ _ t518 t523 t524 _ ?side1 ?side2 ?side3 A2.out).mono ?_); (case side1 => exact zc (Kd.R_reads' HO522.out).2.2); (case side2 => exact (Kd.R_reads' HO522.out).2.1); (case side3 => first | (with_reducible exact HG.out) | (with_reducible exact G.drewN HG.out _) | exact G.below HG.out (zb HB.out)); rintro e w14 ⟨rfl, hb⟩; refine ⟨_, rfl, ?_⟩; have n0_ := Aside0.mk (Kd.R_below (zr HO522.out) hb); have n1_ := Aside0.mk (below_step (zb HB.out) hb); clear HO522; clear HB; have HO522 := n0_; have HB := n1_; clear n0_ n1_; (try clear hb); (try clear hb2); (try clear hk); (try clear hi)) | ((with_reducible refine gate_dst (N := 21) rfl ?_); refine Kd.R_lit k36 _ 36 ?hg (N := 21) ?hd (xs := ([(⟨3, (⟨#[97]⟩ : ByteArray), (⟨#[63]⟩ : ByteArray)⟩ : S36)] : List (S36))) (inner := [.int .u8 3, .string (⟨#[97]⟩ : ByteArray), .string (⟨#[63]⟩ : ByteArray)]) (ok := fun _ => True) (okp := fun _ => True) ?hr ?hp (fun _ hk => hk) trivial (Below.refl _ _) (Nat.le_refl _) (by simp) ?_; (case hd => rfl); (case hg => rfl); (case hr => first | (go_simp; done) | (go_simp; rfl)); (case hp => exact (Reps.c3 (show Kd.M k36 _ _ _ (⟨3, (⟨#[97]⟩ : ByteArray), (⟨#[63]⟩ : ByteArray)⟩ : S36) [.int .u8 3, .string (⟨#[97]⟩ : ByteArray), .string (⟨#[63]⟩ : ByteArray)] from (k36_mkM _ _ _ (⟨3, (⟨#[97]⟩ : ByteArray), (⟨#[63]⟩ : ByteArray)⟩ : S36) )) (Reps.none _ _))); intro v526 w15 ho16 hb hg_ hnew_; clear hg_ hnew_; (first | rw [← Ny525.out] at ho16 | (simp only [Int.reduceToNat] at ho16; rw [← Ny525.out] at ho16)); have n0_ := Aside0.mk (Kd.R_below (zr HO522.out) hb); have n1_ := Aside0.mk (Kd.R_lower ho16 (below_size (zb HB.out))); have n2_ := Aside0.mk (below_step (zb HB.out) hb); clear HO522; clear HB; have HO522 := n0_; have HO527 := n1_; have HB := n2_; clear n0_ n1_ n2_; clear hb ho16; obtain ⟨Ao17, co17, eo17⟩ := Kd.R_slice HO527.out; subst eo17) | ((with_reducible refine gate_callee (f := 18) rfl ?_); refine goesL_ (some 22) rfl rfl Tryd.func18 (by kernel_rfl) rfl #[.slice Ao13 t518.length co13, .slice Ao17 y525.length co17] rfl zl ?_; (with_reducible refine (labels_Matches.calls k _ _ t518 _ _ y525 true t529 _ ?side1 ?side2 ?side3 ?side4 ?side5 A3.out).mono ?_); (case side1 => exact zc (Kd.R_reads' HO522.out).2.2); (case side2 => exact (Kd.R_reads' HO522.out).2.1); (case side3 => exact zc (Kd.R_reads' HO527.out).2.2); (case side4 => exact (Kd.R_reads' HO527.out).2.1); (case side5 => first | (with_reducible exact HG.out) | (with_reducible exact G.drewN HG.out _) | exact G.below HG.out (zb HB.out)); rintro e w18 ⟨rfl, hb⟩; refine ⟨_, rfl, ?_⟩; have n0_ := Aside0.mk (Kd.R_below (zr HO522.out) hb); have n1_ := Aside0.mk (Kd.R_below (zr HO527.out) hb); have n2_ := Aside0.mk (below_step (zb HB.out) hb); clear HO522; clear HO527; clear HB; have HO522 := n0_; have HO527 := n1_; have HB := n2_; clear n0_ n1_ n2_; (try clear hb); (try clear hb2); (try clear hk); (try clear hi)) | (go_at_call 20; (with_reducible refine (labels_Value.calls (⟨#[97, 233]⟩ : ByteArray) t530 _ ?side1 A9.out).mono ?_); (case side1 => first | (with_reducible exact HG.out) | (with_reducible exact G.drewN HG.out _) | exact G.below HG.out (zb HB.out)); rintro e w19 ⟨rfl, hb⟩; have n0_ := Aside0.mk (Kd.R_below (zr HO522.out) hb); have n1_ := Aside0.mk (Kd.R_below (zr HO527.out) hb); have n2_ := Aside0.mk (below_step (zb HB.out) hb); clear HO522; clear HO527; clear HB; have HO522 := n0_; have HO527 := n1_; have HB := n2_; clear n0_ n1_ n2_; (try clear hb); (try clear hb2); (try clear hk); (try clear hi)) | (go_at_call 19; (with_reducible refine (labels_Says.calls k (⟨#[63, 63]⟩ : ByteArray) (⟨#[195, 169]⟩ : ByteArray) t531 _ ?side1 A11.out).mono ?_); (case side1 => first | (with_reducible exact HG.out) | (with_reducible exact G.drewN HG.out _) | exact G.below HG.out (zb HB.out)); rintro e w20 ⟨rfl, hb⟩; have n0_ := Aside0.mk (Kd.R_below (zr HO522.out) hb); have n1_ := Aside0.mk (Kd.R_below (zr HO527.out) hb); have n2_ := Aside0.mk (below_step (zb HB.out) hb); clear HO522; clear HO527; clear HB; have HO522 := n0_; have HO527 := n1_; have HB := n2_; clear n0_ n1_ n2_; (try clear hb); (try clear hb2); (try clear hk); (try clear hi)))
              go_ret
              exact ⟨ze, zb HB.out⟩
            · rw [if_neg c10] at H
              have c10b0 : (t530 == 1) = false := beq_eq_false_iff_ne.mpr c10
              have c10b1 : (t530 != 1) = true := bne_iff_ne.mpr c10
              cases Option.some.inj H
          · replace c8 := Bool.eq_false_iff.mpr c8
            subst c8
            have H1 : (some false) = some true := by rw [if_neg (show ¬ (false = true) by decide)] at H; exact H
            clear H
            have H := H1
            clear H1
            cases Option.some.inj H
        · rw [if_neg c7] at H
          have c7b0 : (t529 == 0) = false := beq_eq_false_iff_ne.mpr c7
          have c7b1 : (t529 != 0) = true := bne_iff_ne.mpr c7
          cases Option.some.inj H
      · rw [if_neg c6] at H
        have c6b0 : (t523.toList == ([123, 97, 61, 34, 120, 34, 44, 98, 61, 34, 49, 34, 125] : List UInt8)) = false := beq_eq_false_iff_ne.mpr c6
        have c6b1 : (t523.toList != ([123, 97, 61, 34, 120, 34, 44, 98, 61, 34, 49, 34, 125] : List UInt8)) = true := bne_iff_ne.mpr c6
        cases Option.some.inj H
    · rw [if_neg c5] at H
      have c5b0 : (t524 == 0) = false := beq_eq_false_iff_ne.mpr c5
      have c5b1 : (t524 != 0) = true := bne_iff_ne.mpr c5
      cases Option.some.inj H
  · rw [if_neg c4] at H
    have c4b0 : (t519 == 0) = false := beq_eq_false_iff_ne.mpr c4
    have c4b1 : (t519 != 0) = true := bne_iff_ne.mpr c4
    cases Option.some.inj H

/-! ### abacuslaw12_LabelsWants: function 4 -/
mutual
def abacuslaw12_LabelsWants.j0 : Nat → List (S59) → List (S36) → ByteArray → ByteArray → Bool → Option (Bool)
  | 0, _, _, _, _, _ => none
  | k + 1, x0, x1, x3, x4, x68 => if x68 = true then (some false) else (abacuslaw12_LabelsWants.l0 k x0 x1 x3 x4 0)
def abacuslaw12_LabelsWants.l0 : Nat → List (S59) → List (S36) → ByteArray → ByteArray → Int → Option (Bool)
  | 0, _, _, _, _, _ => none
  | k + 1, x0, x1, x3, x4, x18 => if x18 < (x1.length : Int) then (if 0 ≤ x18 then (if ((rd_T36 x1 x18).f0) = 1 then (abacuslaw12_LabelsWants.j2 k x0 x1 x3 x4 x18 2 ((rd_T36 x1 x18).f1) ((rd_T36 x1 x18).f2)) else (if ((rd_T36 x1 x18).f0) = 2 then (abacuslaw12_LabelsWants.j2 k x0 x1 x3 x4 x18 1 ((rd_T36 x1 x18).f1) ((rd_T36 x1 x18).f2)) else (if ((rd_T36 x1 x18).f0) = 3 then (abacuslaw12_LabelsWants.j2 k x0 x1 x3 x4 x18 4 ((rd_T36 x1 x18).f1) ((rd_T36 x1 x18).f2)) else (if ((rd_T36 x1 x18).f0) = 4 then (abacuslaw12_LabelsWants.j2 k x0 x1 x3 x4 x18 3 ((rd_T36 x1 x18).f1) ((rd_T36 x1 x18).f2)) else (abacuslaw12_LabelsWants.j2 k x0 x1 x3 x4 x18 ((rd_T36 x1 x18).f0) ((rd_T36 x1 x18).f1) ((rd_T36 x1 x18).f2)))))) else (none)) else (abacuslaw12_LabelsWants.l1 k x3 x4 0)
def abacuslaw12_LabelsWants.j2 : Nat → List (S59) → List (S36) → ByteArray → ByteArray → Int → Int → ByteArray → ByteArray → Option (Bool)
  | 0, _, _, _, _, _, _, _, _ => none
  | k + 1, x0, x1, x3, x4, x18, x566000, x566001, x566002 => if 0 ≤ x18 then (if x18 < (x1.length : Int) then ((labels_Matches.f k x0 (([(⟨(rd_T36 x1 x18).f0, (rd_T36 x1 x18).f1, (rd_T36 x1 x18).f2⟩ : S36)] : List (S36)))).bind fun bt570 => ((labels_Matches.f k x0 (([(⟨x566000, x566001, x566002⟩ : S36)] : List (S36)))).bind fun bt575 => (if bt570.2 = bt575.2 then (if bt570.2 = 0 then (if (bt570.1 == bt575.1) = true then (some false) else (abacuslaw12_LabelsWants.l0 k x0 x1 x3 x4 (wrap64 (x18 + 1)))) else (abacuslaw12_LabelsWants.l0 k x0 x1 x3 x4 (wrap64 (x18 + 1)))) else (some false)))) else (none)) else (none)
def abacuslaw12_LabelsWants.l1 : Nat → ByteArray → ByteArray → Int → Option (Bool)
  | 0, _, _, _ => none
  | k + 1, x3, x4, x24 => if x24 < (x3.size : Int) then (if 0 ≤ x24 then (if (bt x3 x24) = 42 then ((labels_Says.f k (⟨#[42]⟩ : ByteArray) x4).bind fun t577 => (some t577)) else (if (bt x3 x24) = 63 then ((labels_Says.f k (⟨#[42]⟩ : ByteArray) x4).bind fun t578 => (some t578)) else (if (bt x3 x24) = 92 then ((labels_Says.f k (⟨#[42]⟩ : ByteArray) x4).bind fun t579 => (some t579)) else (abacuslaw12_LabelsWants.l1 k x3 x4 (wrap64 (x24 + 1)))))) else (none)) else ((labels_Value.f x3).bind fun t580 => (if x3.toList = ([] : List UInt8) then (abacuslaw12_LabelsWants.j4 k x3 x4 false) else (abacuslaw12_LabelsWants.j4 k x3 x4 (decide (t580 ≥ 0)))))
def abacuslaw12_LabelsWants.j4 : Nat → ByteArray → ByteArray → Bool → Option (Bool)
  | 0, _, _, _ => none
  | k + 1, x3, x4, x153 => if x153 = true then ((labels_Says.f k x3 x3).bind fun t581 => (if t581 = true then (some false) else ((labels_Says.f k (⟨#[42]⟩ : ByteArray) x4).bind fun t582 => (some t582)))) else ((labels_Says.f k x3 x3).bind fun t583 => (if t583 = true then ((labels_Says.f k x3 x4).bind fun t584 => (if (t584 == (x3.toList == x4.toList)) = true then ((labels_Says.f k (⟨#[42]⟩ : ByteArray) x4).bind fun t585 => (some t585)) else (some false))) else (some false)))
end
def abacuslaw12_LabelsWants.f (k : Nat) (l0 : List (S59)) (l1 : List (S36)) (l2 : List (S36)) (a3 : ByteArray) (a4 : ByteArray) : Option (Bool) := (abacuslaw12_begins.f k).bind fun t548 => (if t548 = true then ((labels_Matches.f k l0 l1).bind fun bt549 => ((labels_Matches.f k l0 l2).bind fun bt551 => ((some (([] : List (S36)) : List (S36))).bind fun y553 => (if y553.length + l1.length < 3518437208883 then ((some (y553 ++ l1 : List (S36))).bind fun y556 => (if y556.length + l2.length < 3518437208883 then ((labels_Matches.f k l0 (y556 ++ l2)).bind fun bt562 => (if bt549.2 = 0 then (if bt551.2 = 0 then (if bt562.2 = 0 then (if bt549.1 = true then (abacuslaw12_LabelsWants.j0 k l0 l1 a3 a4 (bt562.1 != bt551.1)) else (abacuslaw12_LabelsWants.j0 k l0 l1 a3 a4 (bt562.1 != false))) else (abacuslaw12_LabelsWants.j0 k l0 l1 a3 a4 false)) else (abacuslaw12_LabelsWants.j0 k l0 l1 a3 a4 false)) else (abacuslaw12_LabelsWants.j0 k l0 l1 a3 a4 false))) else (none))) else (none))))) else (some false))
/-! ### abacuslaw12_LabelsBack: function 6 -/
mutual
def abacuslaw12_LabelsBack.j0 : Nat → List (S36) → ByteArray → Option (Bool)
  | 0, _, _ => none
  | k + 1, x2, x3 => (labels_PrintMatch.f k x2).bind fun bt709 => (if bt709.2 = 0 then ((labels_ParseMatch.f bt709.1).bind fun bt711 => (if bt711.2.1 = 0 then ((abacusref12_SameMatch.f k bt711.1 x2).bind fun t716 => (if t716 = true then (abacuslaw12_LabelsBack.j1 k x3) else (some false))) else (some false))) else (abacuslaw12_LabelsBack.j1 k x3))
def abacuslaw12_LabelsBack.j1 : Nat → ByteArray → Option (Bool)
  | 0, _ => none
  | k + 1, x3 => (labels_Parse.f x3).bind fun bt717 => (if bt717.2.1 = 0 then ((labels_Print.f k bt717.1).bind fun bt722 => ((labels_Parse.f bt722.1).bind fun bt724 => ((labels_Right.f k bt717.1).bind fun t729 => (if t729 = true then (if bt722.2 = 0 then (if bt724.2.1 = 0 then ((abacusref12_Same.f k bt717.1 bt724.1).bind fun t730 => (some t730)) else (some false)) else (some false)) else (some false))))) else (if (bt717.1.length : Int) = 0 then (if bt717.2.2 ≥ 0 then (some (decide (bt717.2.2 ≤ (x3.size : Int)))) else (some false)) else (some false)))
end
def abacuslaw12_LabelsBack.f (k : Nat) (l0 : List (S59)) (l1 : List (S59)) (l2 : List (S36)) (a3 : ByteArray) : Option (Bool) := (abacuslaw12_begins.f k).bind fun t697 => (if t697 = true then ((labels_Print.f k l0).bind fun bt698 => ((labels_Print.f k l1).bind fun bt700 => (if bt698.2 = 0 then ((labels_Parse.f bt698.1).bind fun bt702 => (if bt702.2.1 = 0 then ((abacusref12_Same.f k bt702.1 l0).bind fun t707 => (if t707 = true then (if bt700.2 = 0 then ((abacusref12_Same.f k l0 l1).bind fun t708 => (if ((bt698.1.toList == bt700.1.toList) != t708) = true then (some false) else (abacuslaw12_LabelsBack.j0 k l2 a3))) else (abacuslaw12_LabelsBack.j0 k l2 a3)) else (some false))) else (some false))) else (abacuslaw12_LabelsBack.j0 k l2 a3)))) else (some false))
set_option maxHeartbeats 8000000 in
set_option maxRecDepth 100000 in
theorem abacuslaw12_LabelsBack.calls (k : Nat) (A0 : Option Addr) (c0 : Nat) (l0 : List (S59)) (A1 : Option Addr) (c1 : Nat) (l1 : List (S59)) (A2 : Option Addr) (c2 : Nat) (l2 : List (S36)) (a3 : ByteArray) (w : World) (hr0 : Kd.C k59 w A0 l0.length l0) (hc0 : l0.length ≤ c0) (hr1 : Kd.C k59 w A1 l1.length l1) (hc1 : l1.length ≤ c1) (hr2 : Kd.C k36 w A2 l2.length l2) (hc2 : l2.length ≤ c2) (hG : G w) (h : abacuslaw12_LabelsBack.f k l0 l1 l2 a3 = some true) :
    Calls Tryd.prog 6 #[.slice A0 l0.length c0, .slice A1 l1.length c1, .slice A2 l2.length c2, .string a3] w fun e w' => e = .returned (.bool true) ∧ Below w.heap.size w w' := by
  have HR0 := Aside0.mk hr0
  have HC0 := Aside0.mk hc0
  clear hr0 hc0
  have HR1 := Aside0.mk hr1
  have HC1 := Aside0.mk hc1
  clear hr1 hc1
  have HR2 := Aside0.mk hr2
  have HC2 := Aside0.mk hc2
  clear hr2 hc2
  have HB := Aside0.mk (Below.refl w.heap.size w)
  have HG := Aside0.mk hG
  clear hG
  have H : ((abacuslaw12_begins.f k).bind fun t697 => (if t697 = true then ((labels_Print.f k l0).bind fun bt698 => ((labels_Print.f k l1).bind fun bt700 => (if bt698.2 = 0 then ((labels_Parse.f bt698.1).bind fun bt702 => (if bt702.2.1 = 0 then ((abacusref12_Same.f k bt702.1 l0).bind fun t707 => (if t707 = true then (if bt700.2 = 0 then ((abacusref12_Same.f k l0 l1).bind fun t708 => (if ((bt698.1.toList == bt700.1.toList) != t708) = true then (some false) else (abacuslaw12_LabelsBack.j0 k l2 a3))) else (abacuslaw12_LabelsBack.j0 k l2 a3)) else (some false))) else (some false))) else (abacuslaw12_LabelsBack.j0 k l2 a3)))) else (some false))) = some true := h
  clear h
  replace H := Option.bind_eq_some_iff.mp H
  obtain ⟨t697, A50, H⟩ := H
  replace H : (if t697 = true then ((labels_Print.f k l0).bind fun bt698 => ((labels_Print.f k l1).bind fun bt700 => (if bt698.2 = 0 then ((labels_Parse.f bt698.1).bind fun bt702 => (if bt702.2.1 = 0 then ((abacusref12_Same.f k bt702.1 l0).bind fun t707 => (if t707 = true then (if bt700.2 = 0 then ((abacusref12_Same.f k l0 l1).bind fun t708 => (if ((bt698.1.toList == bt700.1.toList) != t708) = true then (some false) else (abacuslaw12_LabelsBack.j0 k l2 a3))) else (abacuslaw12_LabelsBack.j0 k l2 a3)) else (some false))) else (some false))) else (abacuslaw12_LabelsBack.j0 k l2 a3)))) else (some false)) = some true := H
  have A5 := Aside0.mk A50
  clear A50
  by_cases c6 : t697 = true
  · subst c6
    have H1 : ((labels_Print.f k l0).bind fun bt698 => ((labels_Print.f k l1).bind fun bt700 => (if bt698.2 = 0 then ((labels_Parse.f bt698.1).bind fun bt702 => (if bt702.2.1 = 0 then ((abacusref12_Same.f k bt702.1 l0).bind fun t707 => (if t707 = true then (if bt700.2 = 0 then ((abacusref12_Same.f k l0 l1).bind fun t708 => (if ((bt698.1.toList == bt700.1.toList) != t708) = true then (some false) else (abacuslaw12_LabelsBack.j0 k l2 a3))) else (abacuslaw12_LabelsBack.j0 k l2 a3)) else (some false))) else (some false))) else (abacuslaw12_LabelsBack.j0 k l2 a3)))) = some true := by rw [if_pos rfl] at H; exact H
    clear H
    have H := H1
    clear H1
    replace H := Option.bind_eq_some_iff.mp H
    obtain ⟨⟨t698, t699⟩, A70, H⟩ := H
    replace H : ((labels_Print.f k l1).bind fun bt700 => (if t699 = 0 then ((labels_Parse.f t698).bind fun bt702 => (if bt702.2.1 = 0 then ((abacusref12_Same.f k bt702.1 l0).bind fun t707 => (if t707 = true then (if bt700.2 = 0 then ((abacusref12_Same.f k l0 l1).bind fun t708 => (if ((t698.toList == bt700.1.toList) != t708) = true then (some false) else (abacuslaw12_LabelsBack.j0 k l2 a3))) else (abacuslaw12_LabelsBack.j0 k l2 a3)) else (some false))) else (some false))) else (abacuslaw12_LabelsBack.j0 k l2 a3))) = some true := H
    have A7 := Aside0.mk A70
    clear A70
    replace H := Option.bind_eq_some_iff.mp H
    obtain ⟨⟨t700, t701⟩, A80, H⟩ := H
    replace H : (if t699 = 0 then ((labels_Parse.f t698).bind fun bt702 => (if bt702.2.1 = 0 then ((abacusref12_Same.f k bt702.1 l0).bind fun t707 => (if t707 = true then (if t701 = 0 then ((abacusref12_Same.f k l0 l1).bind fun t708 => (if ((t698.toList == t700.toList) != t708) = true then (some false) else (abacuslaw12_LabelsBack.j0 k l2 a3))) else (abacuslaw12_LabelsBack.j0 k l2 a3)) else (some false))) else (some false))) else (abacuslaw12_LabelsBack.j0 k l2 a3)) = some true := H
    have A8 := Aside0.mk A80
    clear A80
    have HC9 := Aside0.mk H
    clear H
    go_enter Tryd.func6, Tryd.ntmps6
    go_upto_if 38 with (first | ((with_reducible refine gate_callee (f := 17) rfl ?_); refine goesL_ (some 25) rfl rfl Tryd.func17 (by kernel_rfl) rfl #[] rfl zl ?_; (with_reducible refine (abacuslaw12_begins.calls k  true _ ?side1 A5.out).mono ?_); (case side1 => first | (with_reducible exact HG.out) | (with_reducible exact G.drewN HG.out _) | exact G.below HG.out (zb HB.out)); rintro e w10 ⟨rfl, hb⟩; refine ⟨_, rfl, ?_⟩; have n0_ := Aside0.mk (below_step (zb HB.out) hb); clear HB; have HB := n0_; clear n0_; (try clear hb); (try clear hb2); (try clear hk); (try clear hi)) | ((with_reducible refine gate_callee (f := 12) rfl ?_); refine goesL_ (some 29) rfl rfl Tryd.func12 (by kernel_rfl) rfl #[.slice A0 l0.length c0] rfl zl ?_; (with_reducible refine (labels_Print.calls k _ _ l0 t698 t699 _ ?side1 ?side2 ?side3 A7.out).mono ?_); (case side1 => exact zc (Kd.C_below HR0.out HB.out)); (case side2 => exact HC0.out); (case side3 => first | (with_reducible exact HG.out) | (with_reducible exact G.drewN HG.out _) | exact G.below HG.out (zb HB.out)); rintro e w11 ⟨rfl, hb⟩; refine ⟨_, rfl, ?_⟩; have n0_ := Aside0.mk (below_step (zb HB.out) hb); clear HB; have HB := n0_; clear n0_; (try clear hb); (try clear hb2); (try clear hk); (try clear hi)) | ((with_reducible refine gate_callee (f := 12) rfl ?_); refine goesL_ (some 34) rfl rfl Tryd.func12 (by kernel_rfl) rfl #[.slice A1 l1.length c1] rfl zl ?_; (with_reducible refine (labels_Print.calls k _ _ l1 t700 t701 _ ?side1 ?side2 ?side3 A8.out).mono ?_); (case side1 => exact zc (Kd.C_below HR1.out HB.out)); (case side2 => exact HC1.out); (case side3 => first | (with_reducible exact HG.out) | (with_reducible exact G.drewN HG.out _) | exact G.below HG.out (zb HB.out)); rintro e w12 ⟨rfl, hb⟩; refine ⟨_, rfl, ?_⟩; have n0_ := Aside0.mk (below_step (zb HB.out) hb); clear HB; have HB := n0_; clear n0_; (try clear hb); (try clear hb2); (try clear hk); (try clear hi)))
    (try simp only [Act.put, List.setIfInBounds_toArray, List.set_cons_zero, List.set_cons_succ])
    go_cut [] (fun wc => ∃ (kq : Nat), Aside0 (abacuslaw12_LabelsBack.j0 kq l2 a3 = some true) ∧ Aside0 (kq ≤ k) ∧ Aside0 (Below w.heap.size w wc))
    case first =>
      have H := HC9.out
      clear HC9
      by_cases c13 : t699 = 0
      · rw [if_pos c13] at H
        have c13b0 : (t699 == 0) = true := beq_iff_eq.mpr c13
        have c13b1 : (t699 != 0) = false := bne_eq_false_iff_eq.mpr c13
        clear c13
        (first | rw [c13b0] | (simp only [i64_w, i32_w]; rw [c13b0]) | skip)
        replace H := Option.bind_eq_some_iff.mp H
        obtain ⟨⟨t702, t703, t704⟩, A140, H⟩ := H
        replace H : (if t703 = 0 then ((abacusref12_Same.f k t702 l0).bind fun t707 => (if t707 = true then (if t701 = 0 then ((abacusref12_Same.f k l0 l1).bind fun t708 => (if ((t698.toList == t700.toList) != t708) = true then (some false) else (abacuslaw12_LabelsBack.j0 k l2 a3))) else (abacuslaw12_LabelsBack.j0 k l2 a3)) else (some false))) else (some false)) = some true := H
        have A14 := Aside0.mk A140
        clear A140
        by_cases c15 : t703 = 0
        · rw [if_pos c15] at H
          have c15b0 : (t703 == 0) = true := beq_iff_eq.mpr c15
          have c15b1 : (t703 != 0) = false := bne_eq_false_iff_eq.mpr c15
          clear c15
          replace H := Option.bind_eq_some_iff.mp H
          obtain ⟨t707, A160, H⟩ := H
          replace H : (if t707 = true then (if t701 = 0 then ((abacusref12_Same.f k l0 l1).bind fun t708 => (if ((t698.toList == t700.toList) != t708) = true then (some false) else (abacuslaw12_LabelsBack.j0 k l2 a3))) else (abacuslaw12_LabelsBack.j0 k l2 a3)) else (some false)) = some true := H
          have A16 := Aside0.mk A160
          clear A160
          by_cases c17 : t707 = true
          · subst c17
            have H1 : (if t701 = 0 then ((abacusref12_Same.f k l0 l1).bind fun t708 => (if ((t698.toList == t700.toList) != t708) = true then (some false) else (abacuslaw12_LabelsBack.j0 k l2 a3))) else (abacuslaw12_LabelsBack.j0 k l2 a3)) = some true := by rw [if_pos rfl] at H; exact H
            clear H
            have H := H1
            clear H1
            by_cases c18 : t701 = 0
            · rw [if_pos c18] at H
              have c18b0 : (t701 == 0) = true := beq_iff_eq.mpr c18
              have c18b1 : (t701 != 0) = false := bne_eq_false_iff_eq.mpr c18
              clear c18
              replace H := Option.bind_eq_some_iff.mp H
              obtain ⟨t708, A190, H⟩ := H
              replace H : (if ((t698.toList == t700.toList) != t708) = true then (some false) else (abacuslaw12_LabelsBack.j0 k l2 a3)) = some true := H
              have A19 := Aside0.mk A190
              clear A190
              by_cases c20 : ((t698.toList == t700.toList) != t708) = true
              · rw [if_pos c20] at H
                have c20b0 : ((t698.toList == t700.toList) != t708) = true := c20
                (try (have c20b1 : decide ((t698.toList == t700.toList) = t708) = false := by simpa using c20))
                (try (have c20b2 : ((t698.toList == t700.toList) == t708) = false := by simpa using c20))
                (try (have c20b3 : ¬ ((t698.toList == t700.toList) = t708) := by simpa using c20))
                clear c20
                cases Option.some.inj H
              · rw [if_neg c20] at H
                have c20b0 : ((t698.toList == t700.toList) != t708) = false := by simpa using c20
                (try (have c20b1 : decide ((t698.toList == t700.toList) = t708) = true := by simpa using c20))
                (try (have c20b2 : ((t698.toList == t700.toList) == t708) = true := by simpa using c20))
                clear c20
                have H' := Aside0.mk H
                clear H
                go_wp2_with (first | ((with_reducible refine gate_callee (f := 14) rfl ?_); refine goesL_ (some 41) rfl rfl Tryd.func14 (by kernel_rfl) rfl #[.string t698] rfl zl ?_; (with_reducible refine (labels_Parse.calls t698 t702 t703 t704 _ ?side1 A14.out).mono ?_); (case side1 => first | (with_reducible exact HG.out) | (with_reducible exact G.drewN HG.out _) | exact G.below HG.out (zb HB.out)); rintro e w23 ⟨v705, rfl, ho0, hb⟩; refine ⟨_, rfl, ?_⟩; have n0_ := Aside0.mk (Kd.R_lower ho0 (below_size (zb HB.out))); have n1_ := Aside0.mk (below_step (zb HB.out) hb); clear HB; have HO706 := n0_; have HB := n1_; clear n0_ n1_; (try clear hb); (try clear hb2); (try clear hk); (try clear hi); (try clear ho0); obtain ⟨Ao24, co24, eo24⟩ := Kd.R_slice HO706.out; subst eo24) | (go_at_call 16; (with_reducible refine (abacusref12_Same.calls k _ _ t702 _ _ l0 true _ ?side1 ?side2 ?side3 ?side4 A16.out).mono ?_); (case side1 => exact zc (Kd.R_reads' HO706.out).2.2); (case side2 => exact (Kd.R_reads' HO706.out).2.1); (case side3 => exact zc (Kd.C_below HR0.out HB.out)); (case side4 => exact HC0.out); rintro e w' ⟨rfl, ⟨nd, rfl⟩⟩) | (go_at_call 16; (with_reducible refine (abacusref12_Same.calls k _ _ l0 _ _ l1 t708 _ ?side1 ?side2 ?side3 ?side4 A19.out).mono ?_); (case side1 => repeat (first | exact (Kd.C_below HR0.out (zb HB.out)) | (with_reducible refine Kd.C_alloc ?_ _) | (with_reducible refine Kd.C_drewN ?_ _) | (with_reducible refine Kd.C_drew ?_))); (case side2 => exact HC0.out); (case side3 => repeat (first | exact (Kd.C_below HR1.out (zb HB.out)) | (with_reducible refine Kd.C_alloc ?_ _) | (with_reducible refine Kd.C_drewN ?_ _) | (with_reducible refine Kd.C_drew ?_))); (case side4 => exact HC1.out); rintro e w' ⟨rfl, ⟨nd, rfl⟩⟩))
                go_meet
                case rel => exact ⟨_, H', ⟨by first | omega | exact Nat.le_refl _⟩, ⟨zb HB.out⟩⟩
            · rw [if_neg c18] at H
              have c18b0 : (t701 == 0) = false := beq_eq_false_iff_ne.mpr c18
              have c18b1 : (t701 != 0) = true := bne_iff_ne.mpr c18
              have H' := Aside0.mk H
              clear H
              go_wp2_with (first | ((with_reducible refine gate_callee (f := 14) rfl ?_); refine goesL_ (some 41) rfl rfl Tryd.func14 (by kernel_rfl) rfl #[.string t698] rfl zl ?_; (with_reducible refine (labels_Parse.calls t698 t702 t703 t704 _ ?side1 A14.out).mono ?_); (case side1 => first | (with_reducible exact HG.out) | (with_reducible exact G.drewN HG.out _) | exact G.below HG.out (zb HB.out)); rintro e w25 ⟨v705, rfl, ho0, hb⟩; refine ⟨_, rfl, ?_⟩; have n0_ := Aside0.mk (Kd.R_lower ho0 (below_size (zb HB.out))); have n1_ := Aside0.mk (below_step (zb HB.out) hb); clear HB; have HO706 := n0_; have HB := n1_; clear n0_ n1_; (try clear hb); (try clear hb2); (try clear hk); (try clear hi); (try clear ho0); obtain ⟨Ao26, co26, eo26⟩ := Kd.R_slice HO706.out; subst eo26) | (go_at_call 16; (with_reducible refine (abacusref12_Same.calls k _ _ t702 _ _ l0 true _ ?side1 ?side2 ?side3 ?side4 A16.out).mono ?_); (case side1 => exact zc (Kd.R_reads' HO706.out).2.2); (case side2 => exact (Kd.R_reads' HO706.out).2.1); (case side3 => exact zc (Kd.C_below HR0.out HB.out)); (case side4 => exact HC0.out); rintro e w' ⟨rfl, ⟨nd, rfl⟩⟩))
              go_meet
              case rel => exact ⟨_, H', ⟨by first | omega | exact Nat.le_refl _⟩, ⟨zb HB.out⟩⟩
          · replace c17 := Bool.eq_false_iff.mpr c17
            subst c17
            have H1 : (some false) = some true := by rw [if_neg (show ¬ (false = true) by decide)] at H; exact H
            clear H
            have H := H1
            clear H1
            cases Option.some.inj H
        · rw [if_neg c15] at H
          have c15b0 : (t703 == 0) = false := beq_eq_false_iff_ne.mpr c15
          have c15b1 : (t703 != 0) = true := bne_iff_ne.mpr c15
          cases Option.some.inj H
      · rw [if_neg c13] at H
        have c13b0 : (t699 == 0) = false := beq_eq_false_iff_ne.mpr c13
        have c13b1 : (t699 != 0) = true := bne_iff_ne.mpr c13
        (first | rw [c13b0] | (simp only [i64_w, i32_w]; rw [c13b0]) | skip)
        have H' := Aside0.mk H
        clear H
        go_wp2
        go_meet
        case rel => exact ⟨_, H', ⟨by first | omega | exact Nat.le_refl _⟩, ⟨zb HB.out⟩⟩
    case rest =>
      clear HC9
      try clear c1
      try clear c2
      try clear p2
      try clear c6
      try clear c12
      try clear c13
      try clear c13b0
      try clear c13b1
      try clear c14
      try clear c15
      try clear c15b0
      try clear c15b1
      try clear c17
      try clear c18
      try clear c18b0
      try clear c18b1
      try clear c20
      try clear c20b0
      try clear c20b1
      try clear c20b2
      obtain ⟨kq, HA, HJ8, HB⟩ := hcut
      cases kq with
      | zero => exact absurd HA.out (by simp [abacuslaw12_LabelsBack.j0])
      | succ kj8 =>
        have H := HA.out
        clear HA
        simp only [abacuslaw12_LabelsBack.j0] at H
        replace H := Option.bind_eq_some_iff.mp H
        obtain ⟨⟨t709, t710⟩, A300, H⟩ := H
        replace H : (if t710 = 0 then ((labels_ParseMatch.f t709).bind fun bt711 => (if bt711.2.1 = 0 then ((abacusref12_SameMatch.f kj8 bt711.1 l2).bind fun t716 => (if t716 = true then (abacuslaw12_LabelsBack.j1 kj8 a3) else (some false))) else (some false))) else (abacuslaw12_LabelsBack.j1 kj8 a3)) = some true := H
        have A30 := Aside0.mk A300
        clear A300
        have HC31 := Aside0.mk H
        clear H
        go_upto_if 72 with (first | ((with_reducible refine gate_callee (f := 23) rfl ?_); refine goesL_ (some 68) rfl rfl Tryd.func23 (by kernel_rfl) rfl #[.slice A2 l2.length c2] rfl zl ?_; (with_reducible refine (labels_PrintMatch.calls kj8 _ _ l2 t709 t710 _ ?side1 ?side2 ?side3 A30.out).mono ?_); (case side1 => exact zc (Kd.C_below HR2.out HB.out)); (case side2 => exact HC2.out); (case side3 => first | (with_reducible exact HG.out) | (with_reducible exact G.drewN HG.out _) | exact G.below HG.out (zb HB.out)); rintro e w32 ⟨rfl, hb⟩; refine ⟨_, rfl, ?_⟩; have n0_ := Aside0.mk (below_step (zb HB.out) hb); clear HB; have HB := n0_; clear n0_; (try clear hb); (try clear hb2); (try clear hk); (try clear hi)))
        (try simp only [Act.put, List.setIfInBounds_toArray, List.set_cons_zero, List.set_cons_succ])
        go_cut [] (fun wc => ∃ (kq : Nat), Aside0 (abacuslaw12_LabelsBack.j1 kq a3 = some true) ∧ Aside0 (kq ≤ kj8) ∧ Aside0 (Below w.heap.size w wc))
        case first =>
          have H := HC31.out
          clear HC31
          by_cases c33 : t710 = 0
          · rw [if_pos c33] at H
            have c33b0 : (t710 == 0) = true := beq_iff_eq.mpr c33
            have c33b1 : (t710 != 0) = false := bne_eq_false_iff_eq.mpr c33
            clear c33
            (first | rw [c33b0] | (simp only [i64_w, i32_w]; rw [c33b0]) | skip)
            replace H := Option.bind_eq_some_iff.mp H
            obtain ⟨⟨t711, t712, t713⟩, A340, H⟩ := H
            replace H : (if t712 = 0 then ((abacusref12_SameMatch.f kj8 t711 l2).bind fun t716 => (if t716 = true then (abacuslaw12_LabelsBack.j1 kj8 a3) else (some false))) else (some false)) = some true := H
            have A34 := Aside0.mk A340
            clear A340
            by_cases c35 : t712 = 0
            · rw [if_pos c35] at H
              have c35b0 : (t712 == 0) = true := beq_iff_eq.mpr c35
              have c35b1 : (t712 != 0) = false := bne_eq_false_iff_eq.mpr c35
              clear c35
              replace H := Option.bind_eq_some_iff.mp H
              obtain ⟨t716, A360, H⟩ := H
              replace H : (if t716 = true then (abacuslaw12_LabelsBack.j1 kj8 a3) else (some false)) = some true := H
              have A36 := Aside0.mk A360
              clear A360
              by_cases c37 : t716 = true
              · subst c37
                have H1 : (abacuslaw12_LabelsBack.j1 kj8 a3) = some true := by rw [if_pos rfl] at H; exact H
                clear H
                have H := H1
                clear H1
                have H' := Aside0.mk H
                clear H
                go_wp2_with (first | ((with_reducible refine gate_callee (f := 25) rfl ?_); refine goesL_ (some 75) rfl rfl Tryd.func25 (by kernel_rfl) rfl #[.string t709] rfl zl ?_; (with_reducible refine (labels_ParseMatch.calls t709 t711 t712 t713 _ ?side1 A34.out).mono ?_); (case side1 => first | (with_reducible exact HG.out) | (with_reducible exact G.drewN HG.out _) | exact G.below HG.out (zb HB.out)); rintro e w38 ⟨v714, rfl, ho0, hb⟩; refine ⟨_, rfl, ?_⟩; have n0_ := Aside0.mk (Kd.R_lower ho0 (below_size (zb HB.out))); have n1_ := Aside0.mk (below_step (zb HB.out) hb); clear HB; have HO715 := n0_; have HB := n1_; clear n0_ n1_; (try clear hb); (try clear hb2); (try clear hk); (try clear hi); (try clear ho0); obtain ⟨Ao39, co39, eo39⟩ := Kd.R_slice HO715.out; subst eo39) | (go_at_call 27; (with_reducible refine (abacusref12_SameMatch.calls kj8 _ _ t711 _ _ l2 true _ ?side1 ?side2 ?side3 ?side4 A36.out).mono ?_); (case side1 => exact zc (Kd.R_reads' HO715.out).2.2); (case side2 => exact (Kd.R_reads' HO715.out).2.1); (case side3 => exact zc (Kd.C_below HR2.out HB.out)); (case side4 => exact HC2.out); rintro e w' ⟨rfl, ⟨nd, rfl⟩⟩))
                go_meet
                case rel => exact ⟨_, H', ⟨by have := HJ8.out; first | omega | exact Nat.le_refl _⟩, ⟨zb HB.out⟩⟩
              · replace c37 := Bool.eq_false_iff.mpr c37
                subst c37
                have H1 : (some false) = some true := by rw [if_neg (show ¬ (false = true) by decide)] at H; exact H
                clear H
                have H := H1
                clear H1
                cases Option.some.inj H
            · rw [if_neg c35] at H
              have c35b0 : (t712 == 0) = false := beq_eq_false_iff_ne.mpr c35
              have c35b1 : (t712 != 0) = true := bne_iff_ne.mpr c35
              cases Option.some.inj H
          · rw [if_neg c33] at H
            have c33b0 : (t710 == 0) = false := beq_eq_false_iff_ne.mpr c33
            have c33b1 : (t710 != 0) = true := bne_iff_ne.mpr c33
            (first | rw [c33b0] | (simp only [i64_w, i32_w]; rw [c33b0]) | skip)
            have H' := Aside0.mk H
            clear H
            go_wp2
            go_meet
            case rel => exact ⟨_, H', ⟨by have := HJ8.out; first | omega | exact Nat.le_refl _⟩, ⟨zb HB.out⟩⟩
        case rest =>
          clear HC31
          try clear c1
          try clear c2
          try clear p2
          try clear c3
          try clear c6
          try clear c12
          try clear c13
          try clear c13b0
          try clear c13b1
          try clear c14
          try clear c15
          try clear c15b0
          try clear c15b1
          try clear c17
          try clear c18
          try clear c18b0
          try clear c18b1
          try clear c20
          try clear c20b0
          try clear c20b1
          try clear c20b2
          try clear c23
          try clear c25
          try clear c33
          try clear c33b0
          try clear c33b1
          try clear c35
          try clear c35b0
          try clear c35b1
          try clear c37
          try clear p2
          obtain ⟨kq, HA, HJ30, HB⟩ := hcut
          cases kq with
          | zero => exact absurd HA.out (by simp [abacuslaw12_LabelsBack.j1])
          | succ kj30 =>
            have H := HA.out
            clear HA
            simp only [abacuslaw12_LabelsBack.j1] at H
            replace H := Option.bind_eq_some_iff.mp H
            obtain ⟨⟨t717, t718, t719⟩, A430, H⟩ := H
            replace H : (if t718 = 0 then ((labels_Print.f kj30 t717).bind fun bt722 => ((labels_Parse.f bt722.1).bind fun bt724 => ((labels_Right.f kj30 t717).bind fun t729 => (if t729 = true then (if bt722.2 = 0 then (if bt724.2.1 = 0 then ((abacusref12_Same.f kj30 t717 bt724.1).bind fun t730 => (some t730)) else (some false)) else (some false)) else (some false))))) else (if (t717.length : Int) = 0 then (if t719 ≥ 0 then (some (decide (t719 ≤ (a3.size : Int)))) else (some false)) else (some false))) = some true := H
            have A43 := Aside0.mk A430
            clear A430
            by_cases c44 : t718 = 0
            · rw [if_pos c44] at H
              have c44b0 : (t718 == 0) = true := beq_iff_eq.mpr c44
              have c44b1 : (t718 != 0) = false := bne_eq_false_iff_eq.mpr c44
              clear c44
              replace H := Option.bind_eq_some_iff.mp H
              obtain ⟨⟨t722, t723⟩, A450, H⟩ := H
              replace H : ((labels_Parse.f t722).bind fun bt724 => ((labels_Right.f kj30 t717).bind fun t729 => (if t729 = true then (if t723 = 0 then (if bt724.2.1 = 0 then ((abacusref12_Same.f kj30 t717 bt724.1).bind fun t730 => (some t730)) else (some false)) else (some false)) else (some false)))) = some true := H
              have A45 := Aside0.mk A450
              clear A450
              replace H := Option.bind_eq_some_iff.mp H
              obtain ⟨⟨t724, t725, t726⟩, A460, H⟩ := H
              replace H : ((labels_Right.f kj30 t717).bind fun t729 => (if t729 = true then (if t723 = 0 then (if t725 = 0 then ((abacusref12_Same.f kj30 t717 t724).bind fun t730 => (some t730)) else (some false)) else (some false)) else (some false))) = some true := H
              have A46 := Aside0.mk A460
              clear A460
              replace H := Option.bind_eq_some_iff.mp H
              obtain ⟨t729, A470, H⟩ := H
              replace H : (if t729 = true then (if t723 = 0 then (if t725 = 0 then ((abacusref12_Same.f kj30 t717 t724).bind fun t730 => (some t730)) else (some false)) else (some false)) else (some false)) = some true := H
              have A47 := Aside0.mk A470
              clear A470
              by_cases c48 : t729 = true
              · subst c48
                have H1 : (if t723 = 0 then (if t725 = 0 then ((abacusref12_Same.f kj30 t717 t724).bind fun t730 => (some t730)) else (some false)) else (some false)) = some true := by rw [if_pos rfl] at H; exact H
                clear H
                have H := H1
                clear H1
                by_cases c49 : t723 = 0
                · rw [if_pos c49] at H
                  have c49b0 : (t723 == 0) = true := beq_iff_eq.mpr c49
                  have c49b1 : (t723 != 0) = false := bne_eq_false_iff_eq.mpr c49
                  clear c49
                  by_cases c50 : t725 = 0
                  · rw [if_pos c50] at H
                    have c50b0 : (t725 == 0) = true := beq_iff_eq.mpr c50
                    have c50b1 : (t725 != 0) = false := bne_eq_false_iff_eq.mpr c50
                    clear c50
                    replace H := Option.bind_eq_some_iff.mp H
                    obtain ⟨t730, A510, H⟩ := H
                    replace H : (some t730) = some true := H
                    have A51 := Aside0.mk A510
                    clear A510
                    have hr_ := Option.some.inj H
                    go_wp2_with (first | ((with_reducible refine gate_callee (f := 14) rfl ?_); refine goesL_ (some 89) rfl rfl Tryd.func14 (by kernel_rfl) rfl #[.string a3] rfl zl ?_; (with_reducible refine (labels_Parse.calls a3 t717 t718 t719 _ ?side1 A43.out).mono ?_); (case side1 => first | (with_reducible exact HG.out) | (with_reducible exact G.drewN HG.out _) | exact G.below HG.out (zb HB.out)); rintro e w52 ⟨v720, rfl, ho0, hb⟩; refine ⟨_, rfl, ?_⟩; have n0_ := Aside0.mk (Kd.R_lower ho0 (below_size (zb HB.out))); have n1_ := Aside0.mk (below_step (zb HB.out) hb); clear HB; have HO721 := n0_; have HB := n1_; clear n0_ n1_; (try clear hb); (try clear hb2); (try clear hk); (try clear hi); (try clear ho0); obtain ⟨Ao53, co53, eo53⟩ := Kd.R_slice HO721.out; subst eo53) | ((with_reducible refine gate_callee (f := 12) rfl ?_); refine goesL_ (some 110) rfl rfl Tryd.func12 (by kernel_rfl) rfl #[.slice Ao53 t717.length co53] rfl zl ?_; (with_reducible refine (labels_Print.calls kj30 _ _ t717 t722 t723 _ ?side1 ?side2 ?side3 A45.out).mono ?_); (case side1 => exact zc (Kd.R_reads' HO721.out).2.2); (case side2 => exact (Kd.R_reads' HO721.out).2.1); (case side3 => first | (with_reducible exact HG.out) | (with_reducible exact G.drewN HG.out _) | exact G.below HG.out (zb HB.out)); rintro e w54 ⟨rfl, hb⟩; refine ⟨_, rfl, ?_⟩; have n0_ := Aside0.mk (Kd.R_below (zr HO721.out) hb); have n1_ := Aside0.mk (below_step (zb HB.out) hb); clear HO721; clear HB; have HO721 := n0_; have HB := n1_; clear n0_ n1_; (try clear hb); (try clear hb2); (try clear hk); (try clear hi)) | ((with_reducible refine gate_callee (f := 14) rfl ?_); refine goesL_ (some 115) rfl rfl Tryd.func14 (by kernel_rfl) rfl #[.string t722] rfl zl ?_; (with_reducible refine (labels_Parse.calls t722 t724 t725 t726 _ ?side1 A46.out).mono ?_); (case side1 => first | (with_reducible exact HG.out) | (with_reducible exact G.drewN HG.out _) | exact G.below HG.out (zb HB.out)); rintro e w55 ⟨v727, rfl, ho0, hb⟩; refine ⟨_, rfl, ?_⟩; have n0_ := Aside0.mk (Kd.R_elder' (zr HO721.out) (Kd.R_base ho0) hb); have n1_ := Aside0.mk (Kd.R_lower (Kd.R_new' ho0 (Kd.R_lt (zr HO721.out))) (below_size (zb HB.out))); have n2_ := Aside0.mk (below_step (zb HB.out) hb); clear HO721; clear HB; have HO721 := n0_; have HO728 := n1_; have HB := n2_; clear n0_ n1_ n2_; (try clear hb); (try clear hb2); (try clear hk); (try clear hi); (try clear ho0)) | ((with_reducible refine gate_callee (f := 28) rfl ?_); refine goesL_ (some 120) rfl rfl Tryd.func28 (by kernel_rfl) rfl #[.slice Ao53 t717.length co53] rfl zl ?_; (with_reducible refine (labels_Right.calls kj30 _ _ t717 true _ ?side1 ?side2 ?side3 A47.out).mono ?_); (case side1 => exact zc (Kd.R_reads' HO721.out).2.2); (case side2 => exact (Kd.R_reads' HO721.out).2.1); (case side3 => first | (with_reducible exact HG.out) | (with_reducible exact G.drewN HG.out _) | exact G.below HG.out (zb HB.out)); rintro e w56 ⟨rfl, hb⟩; refine ⟨_, rfl, ?_⟩; have n0_ := Aside0.mk (Kd.R_below (zr HO721.out) hb); have n1_ := Aside0.mk (Kd.R_below (zr HO728.out) hb); have n2_ := Aside0.mk (below_step (zb HB.out) hb); clear HO721; clear HO728; clear HB; have HO721 := n0_; have HO728 := n1_; have HB := n2_; clear n0_ n1_ n2_; (try clear hb); (try clear hb2); (try clear hk); (try clear hi); obtain ⟨Ao57, co57, eo57⟩ := Kd.R_slice HO728.out; subst eo57) | (go_at_call 16; (with_reducible refine (abacusref12_Same.calls kj30 _ _ t717 _ _ t724 t730 _ ?side1 ?side2 ?side3 ?side4 A51.out).mono ?_); (case side1 => exact zc (Kd.R_reads' HO721.out).2.2); (case side2 => exact (Kd.R_reads' HO721.out).2.1); (case side3 => exact zc (Kd.R_reads' HO728.out).2.2); (case side4 => exact (Kd.R_reads' HO728.out).2.1); rintro e w' ⟨rfl, ⟨nd, rfl⟩⟩))
                    go_ret
                    exact ⟨ze, zb HB.out⟩
                  · rw [if_neg c50] at H
                    have c50b0 : (t725 == 0) = false := beq_eq_false_iff_ne.mpr c50
                    have c50b1 : (t725 != 0) = true := bne_iff_ne.mpr c50
                    cases Option.some.inj H
                · rw [if_neg c49] at H
                  have c49b0 : (t723 == 0) = false := beq_eq_false_iff_ne.mpr c49
                  have c49b1 : (t723 != 0) = true := bne_iff_ne.mpr c49
                  cases Option.some.inj H
              · replace c48 := Bool.eq_false_iff.mpr c48
                subst c48
                have H1 : (some false) = some true := by rw [if_neg (show ¬ (false = true) by decide)] at H; exact H
                clear H
                have H := H1
                clear H1
                cases Option.some.inj H
            · rw [if_neg c44] at H
              have c44b0 : (t718 == 0) = false := beq_eq_false_iff_ne.mpr c44
              have c44b1 : (t718 != 0) = true := bne_iff_ne.mpr c44
              by_cases c73 : (t717.length : Int) = 0
              · rw [if_pos c73] at H
                have c73b0 : ((t717.length : Int) == 0) = true := beq_iff_eq.mpr c73
                have c73b1 : ((t717.length : Int) != 0) = false := bne_eq_false_iff_eq.mpr c73
                clear c73
                by_cases c74 : t719 ≥ 0
                · rw [if_pos c74] at H
                  have c74b0 : decide (0 ≤ t719) = true := decide_eq_true c74
                  clear c74
                  have hr_ := Option.some.inj H
                  go_wp2_with (first | ((with_reducible refine gate_callee (f := 14) rfl ?_); refine goesL_ (some 89) rfl rfl Tryd.func14 (by kernel_rfl) rfl #[.string a3] rfl zl ?_; (with_reducible refine (labels_Parse.calls a3 t717 t718 t719 _ ?side1 A43.out).mono ?_); (case side1 => first | (with_reducible exact HG.out) | (with_reducible exact G.drewN HG.out _) | exact G.below HG.out (zb HB.out)); rintro e w75 ⟨v720, rfl, ho0, hb⟩; refine ⟨_, rfl, ?_⟩; have n0_ := Aside0.mk (Kd.R_lower ho0 (below_size (zb HB.out))); have n1_ := Aside0.mk (below_step (zb HB.out) hb); clear HB; have HO721 := n0_; have HB := n1_; clear n0_ n1_; (try clear hb); (try clear hb2); (try clear hk); (try clear hi); (try clear ho0); obtain ⟨Ao76, co76, eo76⟩ := Kd.R_slice HO721.out; subst eo76))
                  go_ret
                  exact ⟨ze, zb HB.out⟩
                · rw [if_neg c74] at H
                  have c74b0 : decide (0 ≤ t719) = false := decide_eq_false c74
                  clear c74
                  cases Option.some.inj H
              · rw [if_neg c73] at H
                have c73b0 : ((t717.length : Int) == 0) = false := beq_eq_false_iff_ne.mpr c73
                have c73b1 : ((t717.length : Int) != 0) = true := bne_iff_ne.mpr c73
                have c73b2 : ¬ (t717 = []) := fun h_ => c73 (by rw [h_]; rfl)
                cases Option.some.inj H
  · replace c6 := Bool.eq_false_iff.mpr c6
    subst c6
    have H1 : (some false) = some true := by rw [if_neg (show ¬ (false = true) by decide)] at H; exact H
    clear H
    have H := H1
    clear H1
    cases Option.some.inj H

end Go.Proofs.YtogegkfefpgbcaaDoor.PL
