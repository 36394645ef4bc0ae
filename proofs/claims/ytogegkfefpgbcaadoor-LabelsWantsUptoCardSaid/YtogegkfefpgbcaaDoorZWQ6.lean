/- Functions of the labels (packed). -/
import Derived.Test.YtogegkfefpgbcaaDoorZWPLx0
import Derived.Test.YtogegkfefpgbcaaDoorZWPLx1
import Derived.Test.YtogegkfefpgbcaaDoorZWPLx2
import Derived.Test.YtogegkfefpgbcaaDoorZWQ1
import Derived.Test.YtogegkfefpgbcaaDoorZWQ2
import Derived.Test.YtogegkfefpgbcaaDoorZWQ3
import Derived.Test.YtogegkfefpgbcaaDoorZWHB
import Derived.Test.YtogegkfefpgbcaaDoorZWHG0
import Derived.Test.YtogegkfefpgbcaaDoorZWPD
import Derived.Test.YtogegkfefpgbcaaDoorZWShelf
import Derived.Test.YtogegkfefpgbcaaDoorZWHA
import Derived.Test.YtogegkfefpgbcaaDoorZWHD
import Derived.Test.YtogegkfefpgbcaaDoorZWHI
import Derived.Test.YtogegkfefpgbcaaDoorZWLC
import Derived.Test.YtogegkfefpgbcaaDoorZWLB
import Derived.Test.YtogegkfefpgbcaaDoorZWLD
import Derived.Test.YtogegkfefpgbcaaDoorZWLE
import Derived.Test.YtogegkfefpgbcaaDoorZWQ4
import Derived.Test.YtogegkfefpgbcaaDoorZWQ5
import Derived.Test.YtogegkfefpgbcaaDoorZWPA
import Derived.Test.YtogegkfefpgbcaaDoorZWPB
import Derived.Test.YtogegkfefpgbcaaDoorZWHG
import Derived.Test.YtogegkfefpgbcaaDoorZWHK
import Derived.Test.YtogegkfefpgbcaaDoorZWPC
import Derived.Test.YtogegkfefpgbcaaDoorZWHL
import Derived.Test.YtogegkfefpgbcaaDoorZWHM
import Derived.Test.YtogegkfefpgbcaaDoorZWHP
namespace Go.Proofs.YtogegkfefpgbcaaDoor.PL
open Go.RowKit Go.Proofs.YtogegkfefpgbcaaDoorW.PrintWords Go.Proofs.YtogegkfefpgbcaaDoorW.PrintLast Go.Proofs.YtogegkfefpgbcaaDoorW.PrintMore
attribute [local go_sem] max2_int min2_int max_two min_two max_three min_three max_four min_four   -- for this text's walks alone
set_option linter.unusedVariables false
set_option linter.unusedSimpArgs false
attribute [local go_sem high] eqA59
attribute [local go_sem high] eqA36

/-! ### abacuslaw12_begins: function 17 -/
def abacuslaw12_begins.f (k : Nat)  : Option (Bool) := (labels_Parse.f (⟨#[123, 98, 61, 34, 49, 34, 44, 97, 61, 34, 120, 34, 125]⟩ : ByteArray)).bind fun bt518 => ((labels_Print.f k bt518.1).bind fun bt523 => ((labels_Matches.f k bt518.1 (([(⟨3, (⟨#[97]⟩ : ByteArray), (⟨#[63]⟩ : ByteArray)⟩ : S36)] : List (S36)))).bind fun bt528 => (if bt518.2.1 = 0 then (if bt523.2 = 0 then (if bt523.1.toList = ([123, 97, 61, 34, 120, 34, 44, 98, 61, 34, 49, 34, 125] : List UInt8) then (if bt528.2 = 0 then (if bt528.1 = true then ((labels_Value.f (⟨#[97, 233]⟩ : ByteArray)).bind fun t530 => (if t530 = 1 then ((labels_Says.f k (⟨#[63, 63]⟩ : ByteArray) (⟨#[195, 169]⟩ : ByteArray)).bind fun t531 => (some (!t531))) else (some false))) else (some false)) else (some false)) else (some false)) else (some false)) else (some false))))
theorem abacuslaw12_begins.mono : ∀ k, LeO (abacuslaw12_begins.f k ) (abacuslaw12_begins.f (k + 1) ) := by
  intro  k
  unfold abacuslaw12_begins.f
  repeat' first
      | (with_reducible exact labels_Matches.mono _ _ _)
      | (with_reducible exact labels_Print.mono _ _)
      | (with_reducible exact labels_Says.mono _ _ _)
      | (with_reducible exact LeO.refl _)
      | (with_reducible exact LeO.none _)
      | (with_reducible refine LeO.ite ?_ ?_)
      | (with_reducible refine LeO.bind ?_ (fun _ => ?_))
      | exact labels_Matches.mono _ _ _
      | exact labels_Print.mono _ _
      | exact labels_Says.mono _ _ _
      | exact LeO.none _
      | refine LeO.ite ?_ ?_
      | refine LeO.bind ?_ (fun _ => ?_)
theorem abacuslaw12_begins_r (k : Nat) (r : Bool) (h : abacuslaw12_begins.f k = some r) : r = true := by
  have h0 : abacuslaw12_begins.f 100 = some true := by kernel_rfl
  have up : ∀ n j r, abacuslaw12_begins.f j = some r → abacuslaw12_begins.f (j + n) = some r := by
    intro n
    induction n with
    | zero => intro j r h; exact h
    | succ n ih => intro j r h; exact abacuslaw12_begins.mono (j + n) r (ih j r h)
  have a := up 100 k r h
  have b := up k 100 true h0
  rw [Nat.add_comm] at b
  exact Option.some.inj (a.symm.trans b)
set_option maxHeartbeats 8000000 in
set_option maxRecDepth 100000 in
theorem abacuslaw12_begins.calls (k : Nat)  (r : Bool) (w : World) (hG : G w) (h : abacuslaw12_begins.f k  = some r) :
    Calls Tryd.prog 17 #[] w fun e w' => e = .returned (.bool r) ∧ Below w.heap.size w w' := by
  obtain rfl := abacuslaw12_begins_r k r h
  have hu36 := Tryd.underlying36
  have HB := Aside0.mk (Below.refl w.heap.size w)
  have HG := Aside0.mk hG
  clear hG
  have H : ((labels_Parse.f (⟨#[123, 98, 61, 34, 49, 34, 44, 97, 61, 34, 120, 34, 125]⟩ : ByteArray)).bind fun bt518 => ((labels_Print.f k bt518.1).bind fun bt523 => ((labels_Matches.f k bt518.1 (([(⟨3, (⟨#[97]⟩ : ByteArray), (⟨#[63]⟩ : ByteArray)⟩ : S36)] : List (S36)))).bind fun bt528 => (if bt518.2.1 = 0 then (if bt523.2 = 0 then (if bt523.1.toList = ([123, 97, 61, 34, 120, 34, 44, 98, 61, 34, 49, 34, 125] : List UInt8) then (if bt528.2 = 0 then (if bt528.1 = true then ((labels_Value.f (⟨#[97, 233]⟩ : ByteArray)).bind fun t530 => (if t530 = 1 then ((labels_Says.f k (⟨#[63, 63]⟩ : ByteArray) (⟨#[195, 169]⟩ : ByteArray)).bind fun t531 => (some (!t531))) else (some false))) else (some false)) else (some false)) else (some false)) else (some false)) else (some false))))) = some true := h
  clear h
  replace H := Option.bind_eq_some_iff.mp H
  obtain ⟨⟨t518, t519, t520⟩, A10, H⟩ := H
  replace H : ((labels_Print.f k t518).bind fun bt523 => ((labels_Matches.f k t518 (([(⟨3, (⟨#[97]⟩ : ByteArray), (⟨#[63]⟩ : ByteArray)⟩ : S36)] : List (S36)))).bind fun bt528 => (if t519 = 0 then (if bt523.2 = 0 then (if bt523.1.toList = ([123, 97, 61, 34, 120, 34, 44, 98, 61, 34, 49, 34, 125] : List UInt8) then (if bt528.2 = 0 then (if bt528.1 = true then ((labels_Value.f (⟨#[97, 233]⟩ : ByteArray)).bind fun t530 => (if t530 = 1 then ((labels_Says.f k (⟨#[63, 63]⟩ : ByteArray) (⟨#[195, 169]⟩ : ByteArray)).bind fun t531 => (some (!t531))) else (some false))) else (some false)) else (some false)) else (some false)) else (some false)) else (some false)))) = some true := H
  have A1 := Aside0.mk A10
  clear A10
  replace H := Option.bind_eq_some_iff.mp H
  obtain ⟨⟨t523, t524⟩, A20, H⟩ := H
  replace H : ((labels_Matches.f k t518 (([(⟨3, (⟨#[97]⟩ : ByteArray), (⟨#[63]⟩ : ByteArray)⟩ : S36)] : List (S36)))).bind fun bt528 => (if t519 = 0 then (if t524 = 0 then (if t523.toList = ([123, 97, 61, 34, 120, 34, 44, 98, 61, 34, 49, 34, 125] : List UInt8) then (if bt528.2 = 0 then (if bt528.1 = true then ((labels_Value.f (⟨#[97, 233]⟩ : ByteArray)).bind fun t530 => (if t530 = 1 then ((labels_Says.f k (⟨#[63, 63]⟩ : ByteArray) (⟨#[195, 169]⟩ : ByteArray)).bind fun t531 => (some (!t531))) else (some false))) else (some false)) else (some false)) else (some false)) else (some false)) else (some false))) = some true := H
  have A2 := Aside0.mk A20
  clear A20
  obtain ⟨y525, hy525⟩ : ∃ y_ : List (S36), y_ = (([(⟨3, (⟨#[97]⟩ : ByteArray), (⟨#[63]⟩ : ByteArray)⟩ : S36)] : List (S36))) := ⟨_, rfl⟩
  replace H : ((labels_Matches.f k t518 y525).bind fun bt528 => (if t519 = 0 then (if t524 = 0 then (if t523.toList = ([123, 97, 61, 34, 120, 34, 44, 98, 61, 34, 49, 34, 125] : List UInt8) then (if bt528.2 = 0 then (if bt528.1 = true then ((labels_Value.f (⟨#[97, 233]⟩ : ByteArray)).bind fun t530 => (if t530 = 1 then ((labels_Says.f k (⟨#[63, 63]⟩ : ByteArray) (⟨#[195, 169]⟩ : ByteArray)).bind fun t531 => (some (!t531))) else (some false))) else (some false)) else (some false)) else (some false)) else (some false)) else (some false))) = some true := by first | (rw [hy525]; with_reducible exact H) | (have H2_ := (Option.bind_some _ _).symm.trans H; rw [hy525]; with_reducible exact H2_) | (have H2_ := (Option.bind_some _ _).symm.trans H; with_reducible exact H2_) | with_reducible exact H | (rw [hy525]; exact H) | exact H
  have Ny525 := Aside0.mk hy525
  clear hy525
  replace H := Option.bind_eq_some_iff.mp H
  obtain ⟨⟨t528, t529⟩, A30, H⟩ := H
  replace H : (if t519 = 0 then (if t524 = 0 then (if t523.toList = ([123, 97, 61, 34, 120, 34, 44, 98, 61, 34, 49, 34, 125] : List UInt8) then (if t529 = 0 then (if t528 = true then ((labels_Value.f (⟨#[97, 233]⟩ : ByteArray)).bind fun t530 => (if t530 = 1 then ((labels_Says.f k (⟨#[63, 63]⟩ : ByteArray) (⟨#[195, 169]⟩ : ByteArray)).bind fun t531 => (some (!t531))) else (some false))) else (some false)) else (some false)) else (some false)) else (some false)) else (some false)) = some true := H
  have A3 := Aside0.mk A30
  clear A30
  by_cases c4 : t519 = 0
  · rw [if_pos c4] at H
    have c4b0 : (t519 == 0) = true := beq_iff_eq.mpr c4
    have c4b1 : (t519 != 0) = false := bne_eq_false_iff_eq.mpr c4
    clear c4
    by_cases c5 : t524 = 0
    · rw [if_pos c5] at H
      have c5b0 : (t524 == 0) = true := beq_iff_eq.mpr c5
      have c5b1 : (t524 != 0) = false := bne_eq_false_iff_eq.mpr c5
      clear c5
      by_cases c6 : t523.toList = ([123, 97, 61, 34, 120, 34, 44, 98, 61, 34, 49, 34, 125] : List UInt8)
      · rw [if_pos c6] at H
        have c6b0 : (t523.toList == ([123, 97, 61, 34, 120, 34, 44, 98, 61, 34, 49, 34, 125] : List UInt8)) = true := beq_iff_eq.mpr c6
        have c6b1 : (t523.toList != ([123, 97, 61, 34, 120, 34, 44, 98, 61, 34, 49, 34, 125] : List UInt8)) = false := bne_eq_false_iff_eq.mpr c6
        clear c6
        by_cases c7 : t529 = 0
        · rw [if_pos c7] at H
          have c7b0 : (t529 == 0) = true := beq_iff_eq.mpr c7
          have c7b1 : (t529 != 0) = false := bne_eq_false_iff_eq.mpr c7
          clear c7
          by_cases c8 : t528 = true
          · subst c8
            have H1 : ((labels_Value.f (⟨#[97, 233]⟩ : ByteArray)).bind fun t530 => (if t530 = 1 then ((labels_Says.f k (⟨#[63, 63]⟩ : ByteArray) (⟨#[195, 169]⟩ : ByteArray)).bind fun t531 => (some (!t531))) else (some false))) = some true := by rw [if_pos rfl] at H; exact H
            clear H
            have H := H1
            clear H1
            replace H := Option.bind_eq_some_iff.mp H
            obtain ⟨t530, A90, H⟩ := H
            replace H : (if t530 = 1 then ((labels_Says.f k (⟨#[63, 63]⟩ : ByteArray) (⟨#[195, 169]⟩ : ByteArray)).bind fun t531 => (some (!t531))) else (some false)) = some true := H
            have A9 := Aside0.mk A90
            clear A90
            by_cases c10 : t530 = 1
            · rw [if_pos c10] at H
              have c10b0 : (t530 == 1) = true := beq_iff_eq.mpr c10
              have c10b1 : (t530 != 1) = false := bne_eq_false_iff_eq.mpr c10
              clear c10
              replace H := Option.bind_eq_some_iff.mp H
              obtain ⟨t531, A110, H⟩ := H
              replace H : (some (!t531)) = some true := H
              have A11 := Aside0.mk A110
              clear A110
              have hr_ := Option.some.inj H
              go_enter Tryd.func17, Tryd.ntmps17
              go_wp2_with (first | ((with_reducible refine gate_callee (f := 14) rfl ?_); refine goesL_ (some 9) rfl rfl Tryd.func14 (by kernel_rfl) rfl #[.string (⟨#[123, 98, 61, 34, 49, 34, 44, 97, 61, 34, 120, 34, 125]⟩ : ByteArray)] rfl zl ?_; (with_reducible refine (labels_Parse.calls (⟨#[123, 98, 61, 34, 49, 34, 44, 97, 61, 34, 120, 34, 125]⟩ : ByteArray) t518 t519 t520 _ ?side1 A1.out).mono ?_); (case side1 => first | (with_reducible exact HG.out) | (with_reducible exact G.drewN HG.out _) | exact G.below HG.out (zb HB.out)); rintro e w12 ⟨v521, rfl, ho0, hb⟩; refine ⟨_, rfl, ?_⟩; have n0_ := Aside0.mk (Kd.R_lower ho0 (below_size (zb HB.out))); have n1_ := Aside0.mk (below_step (zb HB.out) hb); clear HB; have HO522 := n0_; have HB := n1_; clear n0_ n1_; (try clear hb); (try clear hb2); (try clear hk); (try clear hi); (try clear ho0); obtain ⟨Ao13, co13, eo13⟩ := Kd.R_slice HO522.out; subst eo13) | ((with_reducible refine gate_callee (f := 12) rfl ?_); refine goesL_ (some 15) rfl rfl Tryd.func12 (by kernel_rfl) rfl #[.slice Ao13 t518.length co13] rfl zl ?_; (with_reducible refine (labels_Print.calls k _ _ t518 t523 t524 _ ?side1 ?side2 ?side3 A2.out).mono ?_); (case side1 => exact zc (Kd.R_reads' HO522.out).2.2); (case side2 => exact (Kd.R_reads' HO522.out).2.1); (case side3 => first | (with_reducible exact HG.out) | (with_reducible exact G.drewN HG.out _) | exact G.below HG.out (zb HB.out)); rintro e w14 ⟨rfl, hb⟩; refine ⟨_, rfl, ?_⟩; have n0_ := Aside0.mk (Kd.R_below (zr HO522.out) hb); have n1_ := Aside0.mk (below_step (zb HB.out) hb); clear HO522; clear HB; have HO522 := n0_; have HB := n1_; clear n0_ n1_; (try clear hb); (try clear hb2); (try clear hk); (try clear hi)) | ((with_reducible refine gate_dst (N := 21) rfl ?_); refine Kd.R_lit k36 _ 36 ?hg (N := 21) ?hd (xs := ([(⟨3, (⟨#[97]⟩ : ByteArray), (⟨#[63]⟩ : ByteArray)⟩ : S36)] : List (S36))) (inner := [.int .u8 3, .string (⟨#[97]⟩ : ByteArray), .string (⟨#[63]⟩ : ByteArray)]) (ok := fun _ => True) (okp := fun _ => True) ?hr ?hp (fun _ hk => hk) trivial (Below.refl _ _) (Nat.le_refl _) (by simp) ?_; (case hd => rfl); (case hg => rfl); (case hr => first | (go_simp; done) | (go_simp; rfl)); (case hp => exact (Reps.c3 (show Kd.M k36 _ _ _ (⟨3, (⟨#[97]⟩ : ByteArray), (⟨#[63]⟩ : ByteArray)⟩ : S36) [.int .u8 3, .string (⟨#[97]⟩ : ByteArray), .string (⟨#[63]⟩ : ByteArray)] from (k36_mkM _ _ _ (⟨3, (⟨#[97]⟩ : ByteArray), (⟨#[63]⟩ : ByteArray)⟩ : S36) )) (Reps.none _ _))); intro v526 w15 ho16 hb hg_ hnew_; clear hg_ hnew_; (first | rw [← Ny525.out] at ho16 | (simp only [Int.reduceToNat] at ho16; rw [← Ny525.out] at ho16)); have n0_ := Aside0.mk (Kd.R_below (zr HO522.out) hb); have n1_ := Aside0.mk (Kd.R_lower ho16 (below_size (zb HB.out))); have n2_ := Aside0.mk (below_step (zb HB.out) hb); clear HO522; clear HB; have HO522 := n0_; have HO527 := n1_; have HB := n2_; clear n0_ n1_ n2_; clear hb ho16; obtain ⟨Ao17, co17, eo17⟩ := Kd.R_slice HO527.out; subst eo17) | ((with_reducible refine gate_callee (f := 18) rfl ?_); refine goesL_ (some 22) rfl rfl Tryd.func18 (by kernel_rfl) rfl #[.slice Ao13 t518.length co13, .slice Ao17 y525.length co17] rfl zl ?_; (with_reducible refine (labels_Matches.calls k _ _ t518 _ _ y525 true t529 _ ?side1 ?side2 ?side3 ?side4 ?side5 A3.out).mono ?_); (case side1 => exact zc (Kd.R_reads' HO522.out).2.2); (case side2 => exact (Kd.R_reads' HO522.out).2.1); (case side3 => exact zc (Kd.R_reads' HO527.out).2.2); (case side4 => exact (Kd.R_reads' HO527.out).2.1); (case side5 => first | (with_reducible exact HG.out) | (with_reducible exact G.drewN HG.out _) | exact G.below HG.out (zb HB.out)); rintro e w18 ⟨rfl, hb⟩; refine ⟨_, rfl, ?_⟩; have n0_ := Aside0.mk (Kd.R_below (zr HO522.out) hb); have n1_ := Aside0.mk (Kd.R_below (zr HO527.out) hb); have n2_ := Aside0.mk (below_step (zb HB.out) hb); clear HO522; clear HO527; clear HB; have HO522 := n0_; have HO527 := n1_; have HB := n2_; clear n0_ n1_ n2_; (try clear hb); (try clear hb2); (try clear hk); (try clear hi)) | (go_at_call 20; (with_reducible refine (labels_Value.calls (⟨#[97, 233]⟩ : ByteArray) t530 _ ?side1 A9.out).mono ?_); (case side1 => first | (with_reducible exact HG.out) | (with_reducible exact G.drewN HG.out _) | exact G.below HG.out (zb HB.out)); rintro e w19 ⟨rfl, hb⟩; have n0_ := Aside0.mk (Kd.R_below (zr HO522.out) hb); have n1_ := Aside0.mk (Kd.R_below (zr HO527.out) hb); have n2_ := Aside0.mk (below_step (zb HB.out) hb); clear HO522; clear HO527; clear HB; have HO522 := n0_; have HO527 := n1_; have HB := n2_; clear n0_ n1_ n2_; (try clear hb); (try clear hb2); (try clear hk); (try clear hi)) | (go_at_call 19; (with_reducible refine (labels_Says.calls k (⟨#[63, 63]⟩ : ByteArray) (⟨#[195, 169]⟩ : ByteArray) t531 _ ?side1 A11.out).mono ?_); (case side1 => first | (with_reducible exact HG.out) | (with_reducible exact G.drewN HG.out _) | exact G.below HG.out (zb HB.out)); rintro e w20 ⟨rfl, hb⟩; have n0_ := Aside0.mk (Kd.R_below (zr HO522.out) hb); have n1_ := Aside0.mk (Kd.R_below (zr HO527.out) hb); have n2_ := Aside0.mk (below_step (zb HB.out) hb); clear HO522; clear HO527; clear HB; have HO522 := n0_; have HO527 := n1_; have HB := n2_; clear n0_ n1_ n2_; (try clear hb); (try clear hb2); (try clear hk); (try clear hi)))
              go_ret
              exact ⟨ze, zb HB.out⟩
            · rw [if_neg c10] at H
              have c10b0 : (t530 == 1) = false := beq_eq_false_iff_ne.mpr c10
              have c10b1 : (t530 != 1) = true := bne_iff_ne.mpr c10
              cases Option.some.inj H
          · replace c8 := Bool.eq_false_iff.mpr c8
            subst c8
            have H1 : (some false) = some true := by rw [if_neg (show ¬ (false = true) by decide)] at H; exact H
            clear H
            have H := H1
            clear H1
            cases Option.some.inj H
        · rw [if_neg c7] at H
          have c7b0 : (t529 == 0) = false := beq_eq_false_iff_ne.mpr c7
          have c7b1 : (t529 != 0) = true := bne_iff_ne.mpr c7
          cases Option.some.inj H
      · rw [if_neg c6] at H
        have c6b0 : (t523.toList == ([123, 97, 61, 34, 120, 34, 44, 98, 61, 34, 49, 34, 125] : List UInt8)) = false := beq_eq_false_iff_ne.mpr c6
        have c6b1 : (t523.toList != ([123, 97, 61, 34, 120, 34, 44, 98, 61, 34, 49, 34, 125] : List UInt8)) = true := bne_iff_ne.mpr c6
        cases Option.some.inj H
    · rw [if_neg c5] at H
      have c5b0 : (t524 == 0) = false := beq_eq_false_iff_ne.mpr c5
      have c5b1 : (t524 != 0) = true := bne_iff_ne.mpr c5
      cases Option.some.inj H
  · rw [if_neg c4] at H
    have c4b0 : (t519 == 0) = false := beq_eq_false_iff_ne.mpr c4
    have c4b1 : (t519 != 0) = true := bne_iff_ne.mpr c4
    cases Option.some.inj H

/-! ### abacuslaw12_LabelsWants: function 4 -/
mutual
def abacuslaw12_LabelsWants.j0 : Nat → List (S59) → List (S36) → ByteArray → ByteArray → Bool → Option (Bool)
  | 0, _, _, _, _, _ => none
  | k + 1, x0, x1, x3, x4, x68 => if x68 = true then (some false) else (abacuslaw12_LabelsWants.l0 k x0 x1 x3 x4 0)
def abacuslaw12_LabelsWants.l0 : Nat → List (S59) → List (S36) → ByteArray → ByteArray → Int → Option (Bool)
  | 0, _, _, _, _, _ => none
  | k + 1, x0, x1, x3, x4, x18 => if x18 < (x1.length : Int) then (if 0 ≤ x18 then (if ((rd_T36 x1 x18).f0) = 1 then (abacuslaw12_LabelsWants.j2 k x0 x1 x3 x4 x18 2 ((rd_T36 x1 x18).f1) ((rd_T36 x1 x18).f2)) else (if ((rd_T36 x1 x18).f0) = 2 then (abacuslaw12_LabelsWants.j2 k x0 x1 x3 x4 x18 1 ((rd_T36 x1 x18).f1) ((rd_T36 x1 x18).f2)) else (if ((rd_T36 x1 x18).f0) = 3 then (abacuslaw12_LabelsWants.j2 k x0 x1 x3 x4 x18 4 ((rd_T36 x1 x18).f1) ((rd_T36 x1 x18).f2)) else (if ((rd_T36 x1 x18).f0) = 4 then (abacuslaw12_LabelsWants.j2 k x0 x1 x3 x4 x18 3 ((rd_T36 x1 x18).f1) ((rd_T36 x1 x18).f2)) else (abacuslaw12_LabelsWants.j2 k x0 x1 x3 x4 x18 ((rd_T36 x1 x18).f0) ((rd_T36 x1 x18).f1) ((rd_T36 x1 x18).f2)))))) else (none)) else (abacuslaw12_LabelsWants.l1 k x3 x4 0)
def abacuslaw12_LabelsWants.j2 : Nat → List (S59) → List (S36) → ByteArray → ByteArray → Int → Int → ByteArray → ByteArray → Option (Bool)
  | 0, _, _, _, _, _, _, _, _ => none
  | k + 1, x0, x1, x3, x4, x18, x566000, x566001, x566002 => if 0 ≤ x18 then (if x18 < (x1.length : Int) then ((labels_Matches.f k x0 (([(⟨(rd_T36 x1 x18).f0, (rd_T36 x1 x18).f1, (rd_T36 x1 x18).f2⟩ : S36)] : List (S36)))).bind fun bt570 => ((labels_Matches.f k x0 (([(⟨x566000, x566001, x566002⟩ : S36)] : List (S36)))).bind fun bt575 => (if bt570.2 = bt575.2 then (if bt570.2 = 0 then (if (bt570.1 == bt575.1) = true then (some false) else (abacuslaw12_LabelsWants.l0 k x0 x1 x3 x4 (wrap64 (x18 + 1)))) else (abacuslaw12_LabelsWants.l0 k x0 x1 x3 x4 (wrap64 (x18 + 1)))) else (some false)))) else (none)) else (none)
def abacuslaw12_LabelsWants.l1 : Nat → ByteArray → ByteArray → Int → Option (Bool)
  | 0, _, _, _ => none
  | k + 1, x3, x4, x24 => if x24 < (x3.size : Int) then (if 0 ≤ x24 then (if (bt x3 x24) = 42 then ((labels_Says.f k (⟨#[42]⟩ : ByteArray) x4).bind fun t577 => (some t577)) else (if (bt x3 x24) = 63 then ((labels_Says.f k (⟨#[42]⟩ : ByteArray) x4).bind fun t578 => (some t578)) else (if (bt x3 x24) = 92 then ((labels_Says.f k (⟨#[42]⟩ : ByteArray) x4).bind fun t579 => (some t579)) else (abacuslaw12_LabelsWants.l1 k x3 x4 (wrap64 (x24 + 1)))))) else (none)) else ((labels_Value.f x3).bind fun t580 => (if x3.toList = ([] : List UInt8) then (abacuslaw12_LabelsWants.j4 k x3 x4 false) else (abacuslaw12_LabelsWants.j4 k x3 x4 (decide (t580 ≥ 0)))))
def abacuslaw12_LabelsWants.j4 : Nat → ByteArray → ByteArray → Bool → Option (Bool)
  | 0, _, _, _ => none
  | k + 1, x3, x4, x153 => if x153 = true then ((labels_Says.f k x3 x3).bind fun t581 => (if t581 = true then (some false) else ((labels_Says.f k (⟨#[42]⟩ : ByteArray) x4).bind fun t582 => (some t582)))) else ((labels_Says.f k x3 x3).bind fun t583 => (if t583 = true then ((labels_Says.f k x3 x4).bind fun t584 => (if (t584 == (x3.toList == x4.toList)) = true then ((labels_Says.f k (⟨#[42]⟩ : ByteArray) x4).bind fun t585 => (some t585)) else (some false))) else (some false)))
end
def abacuslaw12_LabelsWants.f (k : Nat) (l0 : List (S59)) (l1 : List (S36)) (l2 : List (S36)) (a3 : ByteArray) (a4 : ByteArray) : Option (Bool) := (abacuslaw12_begins.f k).bind fun t548 => (if t548 = true then ((labels_Matches.f k l0 l1).bind fun bt549 => ((labels_Matches.f k l0 l2).bind fun bt551 => ((some (([] : List (S36)) : List (S36))).bind fun y553 => (if y553.length + l1.length < 3518437208883 then ((some (y553 ++ l1 : List (S36))).bind fun y556 => (if y556.length + l2.length < 3518437208883 then ((labels_Matches.f k l0 (y556 ++ l2)).bind fun bt562 => (if bt549.2 = 0 then (if bt551.2 = 0 then (if bt562.2 = 0 then (if bt549.1 = true then (abacuslaw12_LabelsWants.j0 k l0 l1 a3 a4 (bt562.1 != bt551.1)) else (abacuslaw12_LabelsWants.j0 k l0 l1 a3 a4 (bt562.1 != false))) else (abacuslaw12_LabelsWants.j0 k l0 l1 a3 a4 false)) else (abacuslaw12_LabelsWants.j0 k l0 l1 a3 a4 false)) else (abacuslaw12_LabelsWants.j0 k l0 l1 a3 a4 false))) else (none))) else (none))))) else (some false))
set_option maxHeartbeats 8000000 in
set_option maxRecDepth 100000 in
theorem abacuslaw12_LabelsWants.calls (k : Nat) (A0 : Option Addr) (c0 : Nat) (l0 : List (S59)) (A1 : Option Addr) (c1 : Nat) (l1 : List (S36)) (A2 : Option Addr) (c2 : Nat) (l2 : List (S36)) (a3 : ByteArray) (a4 : ByteArray) (w : World) (hr0 : Kd.C k59 w A0 l0.length l0) (hc0 : l0.length ≤ c0) (hr1 : Kd.C k36 w A1 l1.length l1) (hc1 : l1.length ≤ c1) (hr2 : Kd.C k36 w A2 l2.length l2) (hc2 : l2.length ≤ c2) (hG : G w) (h : abacuslaw12_LabelsWants.f k l0 l1 l2 a3 a4 = some true) :
    Calls Tryd.prog 4 #[.slice A0 l0.length c0, .slice A1 l1.length c1, .slice A2 l2.length c2, .string a3, .string a4] w fun e w' => e = .returned (.bool true) ∧ Below w.heap.size w w' := by
  have hu36 := Tryd.underlying36
  have HR0 := Aside0.mk hr0
  have HC0 := Aside0.mk hc0
  clear hr0 hc0
  have HR1 := Aside0.mk hr1
  have HC1 := Aside0.mk hc1
  clear hr1 hc1
  have HR2 := Aside0.mk hr2
  have HC2 := Aside0.mk hc2
  clear hr2 hc2
  have HB := Aside0.mk (Below.refl w.heap.size w)
  have HG := Aside0.mk hG
  clear hG
  have H : ((abacuslaw12_begins.f k).bind fun t548 => (if t548 = true then ((labels_Matches.f k l0 l1).bind fun bt549 => ((labels_Matches.f k l0 l2).bind fun bt551 => ((some (([] : List (S36)) : List (S36))).bind fun y553 => (if y553.length + l1.length < 3518437208883 then ((some (y553 ++ l1 : List (S36))).bind fun y556 => (if y556.length + l2.length < 3518437208883 then ((labels_Matches.f k l0 (y556 ++ l2)).bind fun bt562 => (if bt549.2 = 0 then (if bt551.2 = 0 then (if bt562.2 = 0 then (if bt549.1 = true then (abacuslaw12_LabelsWants.j0 k l0 l1 a3 a4 (bt562.1 != bt551.1)) else (abacuslaw12_LabelsWants.j0 k l0 l1 a3 a4 (bt562.1 != false))) else (abacuslaw12_LabelsWants.j0 k l0 l1 a3 a4 false)) else (abacuslaw12_LabelsWants.j0 k l0 l1 a3 a4 false)) else (abacuslaw12_LabelsWants.j0 k l0 l1 a3 a4 false))) else (none))) else (none))))) else (some false))) = some true := h
  clear h
  replace H := Option.bind_eq_some_iff.mp H
  obtain ⟨t548, A60, H⟩ := H
  replace H : (if t548 = true then ((labels_Matches.f k l0 l1).bind fun bt549 => ((labels_Matches.f k l0 l2).bind fun bt551 => ((some (([] : List (S36)) : List (S36))).bind fun y553 => (if y553.length + l1.length < 3518437208883 then ((some (y553 ++ l1 : List (S36))).bind fun y556 => (if y556.length + l2.length < 3518437208883 then ((labels_Matches.f k l0 (y556 ++ l2)).bind fun bt562 => (if bt549.2 = 0 then (if bt551.2 = 0 then (if bt562.2 = 0 then (if bt549.1 = true then (abacuslaw12_LabelsWants.j0 k l0 l1 a3 a4 (bt562.1 != bt551.1)) else (abacuslaw12_LabelsWants.j0 k l0 l1 a3 a4 (bt562.1 != false))) else (abacuslaw12_LabelsWants.j0 k l0 l1 a3 a4 false)) else (abacuslaw12_LabelsWants.j0 k l0 l1 a3 a4 false)) else (abacuslaw12_LabelsWants.j0 k l0 l1 a3 a4 false))) else (none))) else (none))))) else (some false)) = some true := H
  have A6 := Aside0.mk A60
  clear A60
  by_cases c7 : t548 = true
  · subst c7
    have H1 : ((labels_Matches.f k l0 l1).bind fun bt549 => ((labels_Matches.f k l0 l2).bind fun bt551 => ((some (([] : List (S36)) : List (S36))).bind fun y553 => (if y553.length + l1.length < 3518437208883 then ((some (y553 ++ l1 : List (S36))).bind fun y556 => (if y556.length + l2.length < 3518437208883 then ((labels_Matches.f k l0 (y556 ++ l2)).bind fun bt562 => (if bt549.2 = 0 then (if bt551.2 = 0 then (if bt562.2 = 0 then (if bt549.1 = true then (abacuslaw12_LabelsWants.j0 k l0 l1 a3 a4 (bt562.1 != bt551.1)) else (abacuslaw12_LabelsWants.j0 k l0 l1 a3 a4 (bt562.1 != false))) else (abacuslaw12_LabelsWants.j0 k l0 l1 a3 a4 false)) else (abacuslaw12_LabelsWants.j0 k l0 l1 a3 a4 false)) else (abacuslaw12_LabelsWants.j0 k l0 l1 a3 a4 false))) else (none))) else (none))))) = some true := by rw [if_pos rfl] at H; exact H
    clear H
    have H := H1
    clear H1
    replace H := Option.bind_eq_some_iff.mp H
    obtain ⟨⟨t549, t550⟩, A80, H⟩ := H
    replace H : ((labels_Matches.f k l0 l2).bind fun bt551 => ((some (([] : List (S36)) : List (S36))).bind fun y553 => (if y553.length + l1.length < 3518437208883 then ((some (y553 ++ l1 : List (S36))).bind fun y556 => (if y556.length + l2.length < 3518437208883 then ((labels_Matches.f k l0 (y556 ++ l2)).bind fun bt562 => (if t550 = 0 then (if bt551.2 = 0 then (if bt562.2 = 0 then (if t549 = true then (abacuslaw12_LabelsWants.j0 k l0 l1 a3 a4 (bt562.1 != bt551.1)) else (abacuslaw12_LabelsWants.j0 k l0 l1 a3 a4 (bt562.1 != false))) else (abacuslaw12_LabelsWants.j0 k l0 l1 a3 a4 false)) else (abacuslaw12_LabelsWants.j0 k l0 l1 a3 a4 false)) else (abacuslaw12_LabelsWants.j0 k l0 l1 a3 a4 false))) else (none))) else (none)))) = some true := H
    have A8 := Aside0.mk A80
    clear A80
    replace H := Option.bind_eq_some_iff.mp H
    obtain ⟨⟨t551, t552⟩, A90, H⟩ := H
    replace H : ((some (([] : List (S36)) : List (S36))).bind fun y553 => (if y553.length + l1.length < 3518437208883 then ((some (y553 ++ l1 : List (S36))).bind fun y556 => (if y556.length + l2.length < 3518437208883 then ((labels_Matches.f k l0 (y556 ++ l2)).bind fun bt562 => (if t550 = 0 then (if t552 = 0 then (if bt562.2 = 0 then (if t549 = true then (abacuslaw12_LabelsWants.j0 k l0 l1 a3 a4 (bt562.1 != t551)) else (abacuslaw12_LabelsWants.j0 k l0 l1 a3 a4 (bt562.1 != false))) else (abacuslaw12_LabelsWants.j0 k l0 l1 a3 a4 false)) else (abacuslaw12_LabelsWants.j0 k l0 l1 a3 a4 false)) else (abacuslaw12_LabelsWants.j0 k l0 l1 a3 a4 false))) else (none))) else (none))) = some true := H
    have A9 := Aside0.mk A90
    clear A90
    obtain ⟨y553, hy553⟩ : ∃ y_ : List (S36), y_ = (([] : List (S36))) := ⟨_, rfl⟩
    replace H : (if y553.length + l1.length < 3518437208883 then ((some (y553 ++ l1 : List (S36))).bind fun y556 => (if y556.length + l2.length < 3518437208883 then ((labels_Matches.f k l0 (y556 ++ l2)).bind fun bt562 => (if t550 = 0 then (if t552 = 0 then (if bt562.2 = 0 then (if t549 = true then (abacuslaw12_LabelsWants.j0 k l0 l1 a3 a4 (bt562.1 != t551)) else (abacuslaw12_LabelsWants.j0 k l0 l1 a3 a4 (bt562.1 != false))) else (abacuslaw12_LabelsWants.j0 k l0 l1 a3 a4 false)) else (abacuslaw12_LabelsWants.j0 k l0 l1 a3 a4 false)) else (abacuslaw12_LabelsWants.j0 k l0 l1 a3 a4 false))) else (none))) else (none)) = some true := by first | (rw [hy553]; with_reducible exact H) | (have H2_ := (Option.bind_some _ _).symm.trans H; rw [hy553]; with_reducible exact H2_) | (have H2_ := (Option.bind_some _ _).symm.trans H; with_reducible exact H2_) | with_reducible exact H | (rw [hy553]; exact H) | exact H
    have Ny553 := Aside0.mk hy553
    clear hy553
    by_cases c10 : y553.length + l1.length < 3518437208883
    · rw [if_pos c10] at H
      have LMc10 := Aside0.mk c10
      clear c10
      obtain ⟨y556, hy556⟩ : ∃ y_ : List (S36), y_ = (y553 ++ l1) := ⟨_, rfl⟩
      replace H : (if y556.length + l2.length < 3518437208883 then ((labels_Matches.f k l0 (y556 ++ l2)).bind fun bt562 => (if t550 = 0 then (if t552 = 0 then (if bt562.2 = 0 then (if t549 = true then (abacuslaw12_LabelsWants.j0 k l0 l1 a3 a4 (bt562.1 != t551)) else (abacuslaw12_LabelsWants.j0 k l0 l1 a3 a4 (bt562.1 != false))) else (abacuslaw12_LabelsWants.j0 k l0 l1 a3 a4 false)) else (abacuslaw12_LabelsWants.j0 k l0 l1 a3 a4 false)) else (abacuslaw12_LabelsWants.j0 k l0 l1 a3 a4 false))) else (none)) = some true := by first | (rw [hy556]; with_reducible exact H) | (have H2_ := (Option.bind_some _ _).symm.trans H; rw [hy556]; with_reducible exact H2_) | (have H2_ := (Option.bind_some _ _).symm.trans H; with_reducible exact H2_) | with_reducible exact H | (rw [hy556]; exact H) | exact H
      have Ny556 := Aside0.mk hy556
      clear hy556
      by_cases c11 : y556.length + l2.length < 3518437208883
      · rw [if_pos c11] at H
        have LMc11 := Aside0.mk c11
        clear c11
        obtain ⟨y559, hy559⟩ : ∃ y_ : List (S36), y_ = (y556 ++ l2) := ⟨_, rfl⟩
        replace H : ((labels_Matches.f k l0 y559).bind fun bt562 => (if t550 = 0 then (if t552 = 0 then (if bt562.2 = 0 then (if t549 = true then (abacuslaw12_LabelsWants.j0 k l0 l1 a3 a4 (bt562.1 != t551)) else (abacuslaw12_LabelsWants.j0 k l0 l1 a3 a4 (bt562.1 != false))) else (abacuslaw12_LabelsWants.j0 k l0 l1 a3 a4 false)) else (abacuslaw12_LabelsWants.j0 k l0 l1 a3 a4 false)) else (abacuslaw12_LabelsWants.j0 k l0 l1 a3 a4 false))) = some true := by first | (rw [hy559]; with_reducible exact H) | (have H2_ := (Option.bind_some _ _).symm.trans H; rw [hy559]; with_reducible exact H2_) | (have H2_ := (Option.bind_some _ _).symm.trans H; with_reducible exact H2_) | with_reducible exact H | (rw [hy559]; exact H) | exact H
        have Ny559 := Aside0.mk hy559
        clear hy559
        replace H := Option.bind_eq_some_iff.mp H
        obtain ⟨⟨t562, t563⟩, A120, H⟩ := H
        replace H : (if t550 = 0 then (if t552 = 0 then (if t563 = 0 then (if t549 = true then (abacuslaw12_LabelsWants.j0 k l0 l1 a3 a4 (t562 != t551)) else (abacuslaw12_LabelsWants.j0 k l0 l1 a3 a4 (t562 != false))) else (abacuslaw12_LabelsWants.j0 k l0 l1 a3 a4 false)) else (abacuslaw12_LabelsWants.j0 k l0 l1 a3 a4 false)) else (abacuslaw12_LabelsWants.j0 k l0 l1 a3 a4 false)) = some true := H
        have A12 := Aside0.mk A120
        clear A120
        have HC13 := Aside0.mk H
        clear H
        go_enter Tryd.func4, Tryd.ntmps4
        go_upto_region 7 with (first | ((with_reducible refine gate_callee (f := 17) rfl ?_); refine goesL_ (some 26) rfl rfl Tryd.func17 (by kernel_rfl) rfl #[] rfl zl ?_; (with_reducible refine (abacuslaw12_begins.calls k  true _ ?side1 A6.out).mono ?_); (case side1 => first | (with_reducible exact HG.out) | (with_reducible exact G.drewN HG.out _) | exact G.below HG.out (zb HB.out)); rintro e w14 ⟨rfl, hb⟩; refine ⟨_, rfl, ?_⟩; have n0_ := Aside0.mk (below_step (zb HB.out) hb); clear HB; have HB := n0_; clear n0_; (try clear hb); (try clear hb2); (try clear hk); (try clear hi)) | ((with_reducible refine gate_callee (f := 18) rfl ?_); refine goesL_ (some 31) rfl rfl Tryd.func18 (by kernel_rfl) rfl #[.slice A0 l0.length c0, .slice A1 l1.length c1] rfl zl ?_; (with_reducible refine (labels_Matches.calls k _ _ l0 _ _ l1 t549 t550 _ ?side1 ?side2 ?side3 ?side4 ?side5 A8.out).mono ?_); (case side1 => exact zc (Kd.C_below HR0.out HB.out)); (case side2 => exact HC0.out); (case side3 => exact zc (Kd.C_below HR1.out HB.out)); (case side4 => exact HC1.out); (case side5 => first | (with_reducible exact HG.out) | (with_reducible exact G.drewN HG.out _) | exact G.below HG.out (zb HB.out)); rintro e w15 ⟨rfl, hb⟩; refine ⟨_, rfl, ?_⟩; have n0_ := Aside0.mk (below_step (zb HB.out) hb); clear HB; have HB := n0_; clear n0_; (try clear hb); (try clear hb2); (try clear hk); (try clear hi)) | ((with_reducible refine gate_callee (f := 18) rfl ?_); refine goesL_ (some 37) rfl rfl Tryd.func18 (by kernel_rfl) rfl #[.slice A0 l0.length c0, .slice A2 l2.length c2] rfl zl ?_; (with_reducible refine (labels_Matches.calls k _ _ l0 _ _ l2 t551 t552 _ ?side1 ?side2 ?side3 ?side4 ?side5 A9.out).mono ?_); (case side1 => exact zc (Kd.C_below HR0.out HB.out)); (case side2 => exact HC0.out); (case side3 => exact zc (Kd.C_below HR2.out HB.out)); (case side4 => exact HC2.out); (case side5 => first | (with_reducible exact HG.out) | (with_reducible exact G.drewN HG.out _) | exact G.below HG.out (zb HB.out)); rintro e w16 ⟨rfl, hb⟩; refine ⟨_, rfl, ?_⟩; have n0_ := Aside0.mk (below_step (zb HB.out) hb); clear HB; have HB := n0_; clear n0_; (try clear hb); (try clear hb2); (try clear hk); (try clear hi)) | ((with_reducible refine gate_dst (N := 40) rfl ?_); refine Kd.R_lit k36 _ 36 ?hg (N := 40) ?hd (xs := ([] : List (S36))) (inner := []) (ok := fun _ => True) (okp := fun _ => True) ?hr ?hp (fun _ hk => hk) trivial (Below.refl _ _) (Nat.le_refl _) (by simp) ?_; (case hd => rfl); (case hg => rfl); (case hr => first | (go_simp; done) | (go_simp; rfl)); (case hp => exact (Reps.none _ _)); intro v554 w17 ho18 hb hg_ hnew_; clear hg_ hnew_; (first | rw [← Ny553.out] at ho18 | (simp only [Int.reduceToNat] at ho18; rw [← Ny553.out] at ho18)); have n0_ := Aside0.mk (Kd.R_lower ho18 (below_size (zb HB.out))); have n1_ := Aside0.mk (below_step (zb HB.out) hb); clear HB; have HO555 := n0_; have HB := n1_; clear n0_ n1_; clear hb ho18) | ((with_reducible refine gate_builtin (b := .append) (xs := #[.tmp 40, .tmp 41]) rfl ?_); at_builtin; refine Kd.R_append_rows k36 (w0 := w) w.heap.size rfl (.tmp 40) (.tmp 41) 31 36 (.agg #[(.int .u8 0), (.string ⟨#[]⟩), (.string ⟨#[]⟩)]) 40 rfl Tryd.underlying31 info36 rfl (by decide) (by omega) v554 y553 l1 _ _ _ (fun _ => True) (fun _ => False) rfl rfl ?aO ?aR (fun _ _ h => h) (fun _ h => h.elim) ?aF ?aB ?aS ?aL ?_; (case aR => exact zc (Kd.C_below HR1.out HB.out)); (case aB => exact (zb HB.out)); (case aF => exact (fun _ _ => trivial)); (case aO => exact (zr HO555.out)); (case aS => exact (below_size (zb HB.out))); (case aL => have := LMc10.out; omega); intro v557 w19 ho hb hg hat; rw [← Ny556.out] at ho; have n0_ := Aside0.mk (hb); have n1_ := Aside0.mk (ho); clear HB; clear HO555; have HB := n0_; have HO558 := n1_; clear n0_ n1_; clear ho hb hg hat) | ((with_reducible refine gate_builtin (b := .append) (xs := #[.tmp 42, .tmp 43]) rfl ?_); at_builtin; refine Kd.R_append_rows k36 (w0 := w) w.heap.size rfl (.tmp 42) (.tmp 43) 31 36 (.agg #[(.int .u8 0), (.string ⟨#[]⟩), (.string ⟨#[]⟩)]) 40 rfl Tryd.underlying31 info36 rfl (by decide) (by omega) v557 y556 l2 _ _ _ (fun _ => True) (fun _ => False) rfl rfl ?aO ?aR (fun _ _ h => h) (fun _ h => h.elim) ?aF ?aB ?aS ?aL ?_; (case aR => exact zc (Kd.C_below HR2.out HB.out)); (case aB => exact (zb HB.out)); (case aF => exact (fun _ _ => trivial)); (case aO => exact (zr HO558.out)); (case aS => exact (below_size (zb HB.out))); (case aL => have := LMc11.out; omega); intro v560 w20 ho hb hg hat; rw [← Ny559.out] at ho; have n0_ := Aside0.mk (hb); have n1_ := Aside0.mk (ho); clear HB; clear HO558; have HB := n0_; have HO561 := n1_; clear n0_ n1_; clear ho hb hg hat; obtain ⟨Ao21, co21, eo21⟩ := Kd.R_slice HO561.out; subst eo21) | ((with_reducible refine gate_callee (f := 18) rfl ?_); refine goesL_ (some 48) rfl rfl Tryd.func18 (by kernel_rfl) rfl #[.slice A0 l0.length c0, .slice Ao21 y559.length co21] rfl zl ?_; (with_reducible refine (labels_Matches.calls k _ _ l0 _ _ y559 t562 t563 _ ?side1 ?side2 ?side3 ?side4 ?side5 A12.out).mono ?_); (case side1 => exact zc (Kd.C_below HR0.out HB.out)); (case side2 => exact HC0.out); (case side3 => exact zc (Kd.R_reads' HO561.out).2.2); (case side4 => exact (Kd.R_reads' HO561.out).2.1); (case side5 => first | (with_reducible exact HG.out) | (with_reducible exact G.drewN HG.out _) | exact G.below HG.out (zb HB.out)); rintro e w22 ⟨rfl, hb⟩; refine ⟨_, rfl, ?_⟩; have n0_ := Aside0.mk (Kd.R_below (zr HO561.out) hb); have n1_ := Aside0.mk (below_step (zb HB.out) hb); clear HO561; clear HB; have HO561 := n0_; have HB := n1_; clear n0_ n1_; (try clear hb); (try clear hb2); (try clear hk); (try clear hi)))
        (try simp only [Act.put, List.setIfInBounds_toArray, List.set_cons_zero, List.set_cons_succ])
        go_cut [68] (fun v68 wc => ∃ (kq : Nat) (x68_12 : Bool), v68 = .bool x68_12 ∧ Aside0 (abacuslaw12_LabelsWants.j0 kq l0 l1 a3 a4 x68_12 = some true) ∧ Aside0 (kq ≤ k) ∧ Aside0 (Below w.heap.size w wc))
        case first =>
          have H := HC13.out
          clear HC13
          by_cases c23 : t550 = 0
          · rw [if_pos c23] at H
            have c23b0 : (t550 == 0) = true := beq_iff_eq.mpr c23
            have c23b1 : (t550 != 0) = false := bne_eq_false_iff_eq.mpr c23
            clear c23
            (first | rw [c23b0] | (simp only [i64_w, i32_w]; rw [c23b0]) | skip)
            by_cases c24 : t552 = 0
            · rw [if_pos c24] at H
              have c24b0 : (t552 == 0) = true := beq_iff_eq.mpr c24
              have c24b1 : (t552 != 0) = false := bne_eq_false_iff_eq.mpr c24
              clear c24
              by_cases c25 : t563 = 0
              · rw [if_pos c25] at H
                have c25b0 : (t563 == 0) = true := beq_iff_eq.mpr c25
                have c25b1 : (t563 != 0) = false := bne_eq_false_iff_eq.mpr c25
                clear c25
                by_cases c26 : t549 = true
                · subst c26
                  have H1 : (abacuslaw12_LabelsWants.j0 k l0 l1 a3 a4 (t562 != t551)) = some true := by rw [if_pos rfl] at H; exact H
                  clear H
                  have H := H1
                  clear H1
                  have H' := Aside0.mk H
                  clear H
                  go_wp2
                  go_meet
                  case rel => exact ⟨_, ((t562 != t551)), zs, H', ⟨by first | omega | exact Nat.le_refl _⟩, ⟨zb HB.out⟩⟩
                · replace c26 := Bool.eq_false_iff.mpr c26
                  subst c26
                  have H1 : (abacuslaw12_LabelsWants.j0 k l0 l1 a3 a4 (t562 != false)) = some true := by rw [if_neg (show ¬ (false = true) by decide)] at H; exact H
                  clear H
                  have H := H1
                  clear H1
                  have H' := Aside0.mk H
                  clear H
                  go_wp2
                  go_meet
                  case rel => exact ⟨_, ((t562 != false)), zs, H', ⟨by first | omega | exact Nat.le_refl _⟩, ⟨zb HB.out⟩⟩
              · rw [if_neg c25] at H
                have c25b0 : (t563 == 0) = false := beq_eq_false_iff_ne.mpr c25
                have c25b1 : (t563 != 0) = true := bne_iff_ne.mpr c25
                have H' := Aside0.mk H
                clear H
                go_wp2
                go_meet
                case rel => exact ⟨_, (false), zs, H', ⟨by first | omega | exact Nat.le_refl _⟩, ⟨zb HB.out⟩⟩
            · rw [if_neg c24] at H
              have c24b0 : (t552 == 0) = false := beq_eq_false_iff_ne.mpr c24
              have c24b1 : (t552 != 0) = true := bne_iff_ne.mpr c24
              have H' := Aside0.mk H
              clear H
              go_wp2
              go_meet
              case rel => exact ⟨_, (false), zs, H', ⟨by first | omega | exact Nat.le_refl _⟩, ⟨zb HB.out⟩⟩
          · rw [if_neg c23] at H
            have c23b0 : (t550 == 0) = false := beq_eq_false_iff_ne.mpr c23
            have c23b1 : (t550 != 0) = true := bne_iff_ne.mpr c23
            (first | rw [c23b0] | (simp only [i64_w, i32_w]; rw [c23b0]) | skip)
            have H' := Aside0.mk H
            clear H
            go_wp2
            go_meet
            case rel => exact ⟨_, (false), zs, H', ⟨by first | omega | exact Nat.le_refl _⟩, ⟨zb HB.out⟩⟩
        case rest =>
          clear HC13
          try clear c1
          try clear c2
          try clear p2
          try clear c4
          try clear c7
          try clear c10
          try clear c11
          try clear c17
          try clear c18
          try clear c23
          try clear c23b0
          try clear c23b1
          try clear c24
          try clear c24b0
          try clear c24b1
          try clear c25
          try clear c25b0
          try clear c25b1
          try clear c26
          obtain ⟨kq, x68_12, rfl, HA, HJ12, HB⟩ := hcut
          cases kq with
          | zero => exact absurd HA.out (by simp [abacuslaw12_LabelsWants.j0])
          | succ kj12 =>
            have H := HA.out
            clear HA
            simp only [abacuslaw12_LabelsWants.j0] at H
            by_cases c27 : x68_12 = true
            · subst c27
              have H1 : (some false) = some true := by rw [if_pos rfl] at H; exact H
              clear H
              have H := H1
              clear H1
              cases Option.some.inj H
            · replace c27 := Bool.eq_false_iff.mpr c27
              subst c27
              have H1 : (abacuslaw12_LabelsWants.l0 kj12 l0 l1 a3 a4 0) = some true := by rw [if_neg (show ¬ (false = true) by decide)] at H; exact H
              clear H
              have H := H1
              clear H1
              have H' := Aside0.mk H
              clear H
              go_wp2
              go_loopg [18] kj12 (fun kq v18 w' => ∃ (x18_2 : Int), v18 = .int .i64 x18_2 ∧ Aside0 (abacuslaw12_LabelsWants.l0 kq l0 l1 a3 a4 x18_2 = some true) ∧ Aside0 (kq ≤ kj12) ∧ Aside0 (Below w.heap.size w w'))
              case atStart => exact ⟨(0), zs, H', ⟨Nat.le_refl _⟩, ⟨zb HB.out⟩⟩
              case round =>
                clear H'
                try clear c1
                try clear c2
                try clear p2
                try clear c4
                try clear c7
                try clear c10
                try clear c11
                try clear c17
                try clear c18
                try clear c23
                try clear c23b0
                try clear c23b1
                try clear c24
                try clear c24b0
                try clear c24b1
                try clear c25
                try clear c25b0
                try clear c25b1
                try clear c26
                try clear c27
                try clear p2
                obtain ⟨x18_2, rfl, HA, HK2, HB⟩ := hrel
                cases gk with
                | zero => exact absurd HA.out (by simp [abacuslaw12_LabelsWants.l0])
                | succ k2 =>
                  have H := HA.out
                  clear HA
                  simp only [abacuslaw12_LabelsWants.l0] at H
                  by_cases c28 : x18_2 < (l1.length : Int)
                  · rw [if_pos c28] at H
                    have c28b0 : decide (x18_2 < (l1.length : Int)) = true := decide_eq_true c28
                    clear c28
                    by_cases c29 : 0 ≤ x18_2
                    · rw [if_pos c29] at H
                      have c29b0 : decide (0 ≤ x18_2) = true := decide_eq_true c29
                      clear c29
                      have HC30 := Aside0.mk H
                      clear H
                      have p564 : 0 ≤ (x18_2 : Int) := of_decide_eq_true za
                      have q564 : x18_2 < (l1.length : Int) := of_decide_eq_true za
                      obtain ⟨ad564, e564, hx564_0, hx564_1, hx564_2⟩ := at_T36 HR1.out x18_2 p564 q564
                      cases e564
                      replace hx564_0 := (HB.out.cell (World.block_lt_of_cell? w _ hx564_0)).trans hx564_0
                      replace hx564_1 := (HB.out.cell (World.block_lt_of_cell? w _ hx564_1)).trans hx564_1
                      replace hx564_2 := (HB.out.cell (World.block_lt_of_cell? w _ hx564_2)).trans hx564_2
                      replace p564 := eq_true p564
                      replace q564 := eq_true q564
                      go_upto_block 2 with (first | ((with_reducible refine gate_dst (N := 19) rfl ?_); refine box_event ?hg (N := 19) ?hd (cs := #[.int .u8 0, .string (⟨#[]⟩ : ByteArray), .string (⟨#[]⟩ : ByteArray)]) (t := 36) ?hr ?_; (case hd => rfl); (case hg => rfl); (case hr => first | (go_simp; done) | (go_simp; rfl)); intro gb565 hg w31 hbox hb; have n0_ := Aside0.mk (below_step (zb HB.out) hb); have n1_ := Aside0.mk (hbox); have n2_ := Aside0.mk ((by rw [hg]; exact (below_size (zb HB.out)) : w.heap.size ≤ gb565)); have n3_ := Aside0.mk ((by rw [hg]; exact (below_size (zb HB.out)) : w.heap.size ≤ gb565)); clear HB; have HB := n0_; have BK565 := n1_; have GW565 := n2_; have GE565 := n3_; clear n0_ n1_ n2_ n3_; clear hb hbox hg; have hcz32_0 : w31.cell? ⟨gb565, 0, none⟩ = some (.int .u8 0) := (blk_cell BK565.out 0).trans rfl; have hcz32_1 : w31.cell? ⟨gb565, 1, none⟩ = some (.string (⟨#[]⟩ : ByteArray)) := (blk_cell BK565.out 1).trans rfl; have hcz32_2 : w31.cell? ⟨gb565, 2, none⟩ = some (.string (⟨#[]⟩ : ByteArray)) := (blk_cell BK565.out 2).trans rfl; have hfz32_0 := blk_frozen BK565.out 0; have hfz32_1 := blk_frozen BK565.out 1; have hfz32_2 := blk_frozen BK565.out 2))
                      (try simp only [Act.put, List.setIfInBounds_toArray, List.set_cons_zero, List.set_cons_succ])
                      go_cut [] (fun wc => ∃ (kq : Nat) (x566000_29 : Int), Aside0 (abacuslaw12_LabelsWants.j2 kq l0 l1 a3 a4 x18_2 x566000_29 ((rd_T36 l1 x18_2).f1) ((rd_T36 l1 x18_2).f2) = some true) ∧ Aside0 (kq ≤ k2) ∧ Aside0 (wc.heap[gb565]? = some (.cells #[.int .u8 x566000_29, .string ((rd_T36 l1 x18_2).f1), .string ((rd_T36 l1 x18_2).f2)] 36 (0, 0))) ∧ Aside0 (Below w.heap.size w wc))
                      case first =>
                        have H := HC30.out
                        clear HC30
                        by_cases c33 : ((rd_T36 l1 x18_2).f0) = 1
                        · rw [if_pos c33] at H
                          have c33b0 : (((rd_T36 l1 x18_2).f0) == 1) = true := beq_iff_eq.mpr c33
                          have c33b1 : (((rd_T36 l1 x18_2).f0) != 1) = false := bne_eq_false_iff_eq.mpr c33
                          clear c33
                          (first | rw [c33b0] | (simp only [i64_w, i32_w]; rw [c33b0]) | skip)
                          have H' := Aside0.mk H
                          clear H
                          have hcz34_0 : w31.cell? ⟨gb565, 0, none⟩ = some (.int .u8 0) := (blk_cell BK565.out 0).trans rfl
                          have hcz34_1 : w31.cell? ⟨gb565, 1, none⟩ = some (.string (⟨#[]⟩ : ByteArray)) := (blk_cell BK565.out 1).trans rfl
                          have hcz34_2 : w31.cell? ⟨gb565, 2, none⟩ = some (.string (⟨#[]⟩ : ByteArray)) := (blk_cell BK565.out 2).trans rfl
                          have hfz34_0 := blk_frozen BK565.out 0
                          have hfz34_1 := blk_frozen BK565.out 1
                          have hfz34_2 := blk_frozen BK565.out 2
                          go_wp2
                          go_meet
                          case rel => exact ⟨_, (2), H', ⟨by have := HJ12.out; have := HK2.out; first | omega | exact Nat.le_refl _⟩, ⟨by (with_reducible repeat (first | refine blk_drewN ?_ _ | refine blk_drew ?_ | refine blk_alloc ?_ _)); refine blk_put (cs := #[.int .u8 ((rd_T36 l1 x18_2).f0), .string ((rd_T36 l1 x18_2).f1), .string ((rd_T36 l1 x18_2).f2)]) ?_ 0 _ rfl; (with_reducible repeat (first | refine blk_drewN ?_ _ | refine blk_drew ?_ | refine blk_alloc ?_ _)); refine blk_put (cs := #[.int .u8 ((rd_T36 l1 x18_2).f0), .string ((rd_T36 l1 x18_2).f1), .string (⟨#[]⟩ : ByteArray)]) ?_ 2 _ rfl; (with_reducible repeat (first | refine blk_drewN ?_ _ | refine blk_drew ?_ | refine blk_alloc ?_ _)); refine blk_put (cs := #[.int .u8 ((rd_T36 l1 x18_2).f0), .string (⟨#[]⟩ : ByteArray), .string (⟨#[]⟩ : ByteArray)]) ?_ 1 _ rfl; (with_reducible repeat (first | refine blk_drewN ?_ _ | refine blk_drew ?_ | refine blk_alloc ?_ _)); refine blk_put (cs := #[.int .u8 0, .string (⟨#[]⟩ : ByteArray), .string (⟨#[]⟩ : ByteArray)]) ?_ 0 _ rfl; (with_reducible repeat (first | refine blk_drewN ?_ _ | refine blk_drew ?_ | refine blk_alloc ?_ _)); exact BK565.out⟩, ⟨by repeat (first | (with_reducible first | exact HB.out | apply below_alloc | apply pw_below_drewN | apply below_drew1 | refine below_set ?_ GE565.out) | exact HB.out)⟩⟩
                        · rw [if_neg c33] at H
                          have c33b0 : (((rd_T36 l1 x18_2).f0) == 1) = false := beq_eq_false_iff_ne.mpr c33
                          have c33b1 : (((rd_T36 l1 x18_2).f0) != 1) = true := bne_iff_ne.mpr c33
                          (first | rw [c33b0] | (simp only [i64_w, i32_w]; rw [c33b0]) | skip)
                          by_cases c35 : ((rd_T36 l1 x18_2).f0) = 2
                          · rw [if_pos c35] at H
                            have c35b0 : (((rd_T36 l1 x18_2).f0) == 2) = true := beq_iff_eq.mpr c35
                            have c35b1 : (((rd_T36 l1 x18_2).f0) != 2) = false := bne_eq_false_iff_eq.mpr c35
                            clear c35
                            have H' := Aside0.mk H
                            clear H
                            have hcz36_0 : w31.cell? ⟨gb565, 0, none⟩ = some (.int .u8 0) := (blk_cell BK565.out 0).trans rfl
                            have hcz36_1 : w31.cell? ⟨gb565, 1, none⟩ = some (.string (⟨#[]⟩ : ByteArray)) := (blk_cell BK565.out 1).trans rfl
                            have hcz36_2 : w31.cell? ⟨gb565, 2, none⟩ = some (.string (⟨#[]⟩ : ByteArray)) := (blk_cell BK565.out 2).trans rfl
                            have hfz36_0 := blk_frozen BK565.out 0
                            have hfz36_1 := blk_frozen BK565.out 1
                            have hfz36_2 := blk_frozen BK565.out 2
                            go_wp2
                            go_meet
                            case rel => exact ⟨_, (1), H', ⟨by have := HJ12.out; have := HK2.out; first | omega | exact Nat.le_refl _⟩, ⟨by (with_reducible repeat (first | refine blk_drewN ?_ _ | refine blk_drew ?_ | refine blk_alloc ?_ _)); refine blk_put (cs := #[.int .u8 ((rd_T36 l1 x18_2).f0), .string ((rd_T36 l1 x18_2).f1), .string ((rd_T36 l1 x18_2).f2)]) ?_ 0 _ rfl; (with_reducible repeat (first | refine blk_drewN ?_ _ | refine blk_drew ?_ | refine blk_alloc ?_ _)); refine blk_put (cs := #[.int .u8 ((rd_T36 l1 x18_2).f0), .string ((rd_T36 l1 x18_2).f1), .string (⟨#[]⟩ : ByteArray)]) ?_ 2 _ rfl; (with_reducible repeat (first | refine blk_drewN ?_ _ | refine blk_drew ?_ | refine blk_alloc ?_ _)); refine blk_put (cs := #[.int .u8 ((rd_T36 l1 x18_2).f0), .string (⟨#[]⟩ : ByteArray), .string (⟨#[]⟩ : ByteArray)]) ?_ 1 _ rfl; (with_reducible repeat (first | refine blk_drewN ?_ _ | refine blk_drew ?_ | refine blk_alloc ?_ _)); refine blk_put (cs := #[.int .u8 0, .string (⟨#[]⟩ : ByteArray), .string (⟨#[]⟩ : ByteArray)]) ?_ 0 _ rfl; (with_reducible repeat (first | refine blk_drewN ?_ _ | refine blk_drew ?_ | refine blk_alloc ?_ _)); exact BK565.out⟩, ⟨by repeat (first | (with_reducible first | exact HB.out | apply below_alloc | apply pw_below_drewN | apply below_drew1 | refine below_set ?_ GE565.out) | exact HB.out)⟩⟩
                          · rw [if_neg c35] at H
                            have c35b0 : (((rd_T36 l1 x18_2).f0) == 2) = false := beq_eq_false_iff_ne.mpr c35
                            have c35b1 : (((rd_T36 l1 x18_2).f0) != 2) = true := bne_iff_ne.mpr c35
                            by_cases c37 : ((rd_T36 l1 x18_2).f0) = 3
                            · rw [if_pos c37] at H
                              have c37b0 : (((rd_T36 l1 x18_2).f0) == 3) = true := beq_iff_eq.mpr c37
                              have c37b1 : (((rd_T36 l1 x18_2).f0) != 3) = false := bne_eq_false_iff_eq.mpr c37
                              clear c37
                              have H' := Aside0.mk H
                              clear H
                              have hcz38_0 : w31.cell? ⟨gb565, 0, none⟩ = some (.int .u8 0) := (blk_cell BK565.out 0).trans rfl
                              have hcz38_1 : w31.cell? ⟨gb565, 1, none⟩ = some (.string (⟨#[]⟩ : ByteArray)) := (blk_cell BK565.out 1).trans rfl
                              have hcz38_2 : w31.cell? ⟨gb565, 2, none⟩ = some (.string (⟨#[]⟩ : ByteArray)) := (blk_cell BK565.out 2).trans rfl
                              have hfz38_0 := blk_frozen BK565.out 0
                              have hfz38_1 := blk_frozen BK565.out 1
                              have hfz38_2 := blk_frozen BK565.out 2
                              go_wp2
                              go_meet
                              case rel => exact ⟨_, (4), H', ⟨by have := HJ12.out; have := HK2.out; first | omega | exact Nat.le_refl _⟩, ⟨by (with_reducible repeat (first | refine blk_drewN ?_ _ | refine blk_drew ?_ | refine blk_alloc ?_ _)); refine blk_put (cs := #[.int .u8 ((rd_T36 l1 x18_2).f0), .string ((rd_T36 l1 x18_2).f1), .string ((rd_T36 l1 x18_2).f2)]) ?_ 0 _ rfl; (with_reducible repeat (first | refine blk_drewN ?_ _ | refine blk_drew ?_ | refine blk_alloc ?_ _)); refine blk_put (cs := #[.int .u8 ((rd_T36 l1 x18_2).f0), .string ((rd_T36 l1 x18_2).f1), .string (⟨#[]⟩ : ByteArray)]) ?_ 2 _ rfl; (with_reducible repeat (first | refine blk_drewN ?_ _ | refine blk_drew ?_ | refine blk_alloc ?_ _)); refine blk_put (cs := #[.int .u8 ((rd_T36 l1 x18_2).f0), .string (⟨#[]⟩ : ByteArray), .string (⟨#[]⟩ : ByteArray)]) ?_ 1 _ rfl; (with_reducible repeat (first | refine blk_drewN ?_ _ | refine blk_drew ?_ | refine blk_alloc ?_ _)); refine blk_put (cs := #[.int .u8 0, .string (⟨#[]⟩ : ByteArray), .string (⟨#[]⟩ : ByteArray)]) ?_ 0 _ rfl; (with_reducible repeat (first | refine blk_drewN ?_ _ | refine blk_drew ?_ | refine blk_alloc ?_ _)); exact BK565.out⟩, ⟨by repeat (first | (with_reducible first | exact HB.out | apply below_alloc | apply pw_below_drewN | apply below_drew1 | refine below_set ?_ GE565.out) | exact HB.out)⟩⟩
                            · rw [if_neg c37] at H
                              have c37b0 : (((rd_T36 l1 x18_2).f0) == 3) = false := beq_eq_false_iff_ne.mpr c37
                              have c37b1 : (((rd_T36 l1 x18_2).f0) != 3) = true := bne_iff_ne.mpr c37
                              by_cases c39 : ((rd_T36 l1 x18_2).f0) = 4
                              · rw [if_pos c39] at H
                                have c39b0 : (((rd_T36 l1 x18_2).f0) == 4) = true := beq_iff_eq.mpr c39
                                have c39b1 : (((rd_T36 l1 x18_2).f0) != 4) = false := bne_eq_false_iff_eq.mpr c39
                                clear c39
                                have H' := Aside0.mk H
                                clear H
                                have hcz40_0 : w31.cell? ⟨gb565, 0, none⟩ = some (.int .u8 0) := (blk_cell BK565.out 0).trans rfl
                                have hcz40_1 : w31.cell? ⟨gb565, 1, none⟩ = some (.string (⟨#[]⟩ : ByteArray)) := (blk_cell BK565.out 1).trans rfl
                                have hcz40_2 : w31.cell? ⟨gb565, 2, none⟩ = some (.string (⟨#[]⟩ : ByteArray)) := (blk_cell BK565.out 2).trans rfl
                                have hfz40_0 := blk_frozen BK565.out 0
                                have hfz40_1 := blk_frozen BK565.out 1
                                have hfz40_2 := blk_frozen BK565.out 2
                                go_wp2
                                go_meet
                                case rel => exact ⟨_, (3), H', ⟨by have := HJ12.out; have := HK2.out; first | omega | exact Nat.le_refl _⟩, ⟨by (with_reducible repeat (first | refine blk_drewN ?_ _ | refine blk_drew ?_ | refine blk_alloc ?_ _)); refine blk_put (cs := #[.int .u8 ((rd_T36 l1 x18_2).f0), .string ((rd_T36 l1 x18_2).f1), .string ((rd_T36 l1 x18_2).f2)]) ?_ 0 _ rfl; (with_reducible repeat (first | refine blk_drewN ?_ _ | refine blk_drew ?_ | refine blk_alloc ?_ _)); refine blk_put (cs := #[.int .u8 ((rd_T36 l1 x18_2).f0), .string ((rd_T36 l1 x18_2).f1), .string (⟨#[]⟩ : ByteArray)]) ?_ 2 _ rfl; (with_reducible repeat (first | refine blk_drewN ?_ _ | refine blk_drew ?_ | refine blk_alloc ?_ _)); refine blk_put (cs := #[.int .u8 ((rd_T36 l1 x18_2).f0), .string (⟨#[]⟩ : ByteArray), .string (⟨#[]⟩ : ByteArray)]) ?_ 1 _ rfl; (with_reducible repeat (first | refine blk_drewN ?_ _ | refine blk_drew ?_ | refine blk_alloc ?_ _)); refine blk_put (cs := #[.int .u8 0, .string (⟨#[]⟩ : ByteArray), .string (⟨#[]⟩ : ByteArray)]) ?_ 0 _ rfl; (with_reducible repeat (first | refine blk_drewN ?_ _ | refine blk_drew ?_ | refine blk_alloc ?_ _)); exact BK565.out⟩, ⟨by repeat (first | (with_reducible first | exact HB.out | apply below_alloc | apply pw_below_drewN | apply below_drew1 | refine below_set ?_ GE565.out) | exact HB.out)⟩⟩
                              · rw [if_neg c39] at H
                                have c39b0 : (((rd_T36 l1 x18_2).f0) == 4) = false := beq_eq_false_iff_ne.mpr c39
                                have c39b1 : (((rd_T36 l1 x18_2).f0) != 4) = true := bne_iff_ne.mpr c39
                                have H' := Aside0.mk H
                                clear H
                                go_wp2
                                go_meet
                                case rel => exact ⟨_, ((rd_T36 l1 x18_2).f0), H', ⟨by have := HJ12.out; have := HK2.out; first | omega | exact Nat.le_refl _⟩, ⟨by (with_reducible repeat (first | refine blk_drewN ?_ _ | refine blk_drew ?_ | refine blk_alloc ?_ _)); refine blk_put (cs := #[.int .u8 ((rd_T36 l1 x18_2).f0), .string ((rd_T36 l1 x18_2).f1), .string (⟨#[]⟩ : ByteArray)]) ?_ 2 _ rfl; (with_reducible repeat (first | refine blk_drewN ?_ _ | refine blk_drew ?_ | refine blk_alloc ?_ _)); refine blk_put (cs := #[.int .u8 ((rd_T36 l1 x18_2).f0), .string (⟨#[]⟩ : ByteArray), .string (⟨#[]⟩ : ByteArray)]) ?_ 1 _ rfl; (with_reducible repeat (first | refine blk_drewN ?_ _ | refine blk_drew ?_ | refine blk_alloc ?_ _)); refine blk_put (cs := #[.int .u8 0, .string (⟨#[]⟩ : ByteArray), .string (⟨#[]⟩ : ByteArray)]) ?_ 0 _ rfl; (with_reducible repeat (first | refine blk_drewN ?_ _ | refine blk_drew ?_ | refine blk_alloc ?_ _)); exact BK565.out⟩, ⟨by repeat (first | (with_reducible first | exact HB.out | apply below_alloc | apply pw_below_drewN | apply below_drew1 | refine below_set ?_ GE565.out) | exact HB.out)⟩⟩
                      case rest =>
                        clear HC30
                        try clear c1
                        try clear c2
                        try clear p2
                        try clear c3
                        try clear c4
                        try clear p5
                        try clear q5
                        try clear hx5
                        try clear c7
                        try clear c10
                        try clear c11
                        try clear c17
                        try clear c18
                        try clear c23
                        try clear c23b0
                        try clear c23b1
                        try clear c24
                        try clear c24b0
                        try clear c24b1
                        try clear c25
                        try clear c25b0
                        try clear c25b1
                        try clear c26
                        try clear c27
                        try clear c28
                        try clear c28b0
                        try clear c29
                        try clear c29b0
                        try clear c33
                        try clear c33b0
                        try clear c33b1
                        try clear c35
                        try clear c35b0
                        try clear c35b1
                        try clear c37
                        try clear c37b0
                        try clear c37b1
                        try clear c39
                        try clear c39b0
                        try clear c39b1
                        try clear hcz32_0
                        try clear hcz32_1
                        try clear hcz32_2
                        try clear hcz34_0
                        try clear hcz34_1
                        try clear hcz34_2
                        try clear hcz36_0
                        try clear hcz36_1
                        try clear hcz36_2
                        try clear hcz38_0
                        try clear hcz38_1
                        try clear hcz38_2
                        try clear hcz40_0
                        try clear hcz40_1
                        try clear hcz40_2
                        try clear hfz32_0
                        try clear hfz32_1
                        try clear hfz32_2
                        try clear hfz34_0
                        try clear hfz34_1
                        try clear hfz34_2
                        try clear hfz36_0
                        try clear hfz36_1
                        try clear hfz36_2
                        try clear hfz38_0
                        try clear hfz38_1
                        try clear hfz38_2
                        try clear hfz40_0
                        try clear hfz40_1
                        try clear hfz40_2
                        try clear hx564_0
                        try clear hx564_1
                        try clear hx564_2
                        try clear p2
                        try clear p564
                        try clear q564
                        obtain ⟨kq, x566000_29, HA, HJ29, BK565, HB⟩ := hcut
                        cases kq with
                        | zero => exact absurd HA.out (by simp [abacuslaw12_LabelsWants.j2])
                        | succ kj29 =>
                          have H := HA.out
                          clear HA
                          simp only [abacuslaw12_LabelsWants.j2] at H
                          by_cases c41 : 0 ≤ x18_2
                          · rw [if_pos c41] at H
                            have c41b0 : decide (0 ≤ x18_2) = true := decide_eq_true c41
                            clear c41
                            by_cases c42 : x18_2 < (l1.length : Int)
                            · rw [if_pos c42] at H
                              have c42b0 : decide (x18_2 < (l1.length : Int)) = true := decide_eq_true c42
                              clear c42
                              obtain ⟨y567, hy567⟩ : ∃ y_ : List (S36), y_ = (([(⟨(rd_T36 l1 x18_2).f0, (rd_T36 l1 x18_2).f1, (rd_T36 l1 x18_2).f2⟩ : S36)] : List (S36))) := ⟨_, rfl⟩
                              replace H : ((labels_Matches.f kj29 l0 y567).bind fun bt570 => ((labels_Matches.f kj29 l0 (([(⟨x566000_29, ((rd_T36 l1 x18_2).f1), ((rd_T36 l1 x18_2).f2)⟩ : S36)] : List (S36)))).bind fun bt575 => (if bt570.2 = bt575.2 then (if bt570.2 = 0 then (if (bt570.1 == bt575.1) = true then (some false) else (abacuslaw12_LabelsWants.l0 kj29 l0 l1 a3 a4 (wrap64 (x18_2 + 1)))) else (abacuslaw12_LabelsWants.l0 kj29 l0 l1 a3 a4 (wrap64 (x18_2 + 1)))) else (some false)))) = some true := by first | (rw [hy567]; with_reducible exact H) | (have H2_ := (Option.bind_some _ _).symm.trans H; rw [hy567]; with_reducible exact H2_) | (have H2_ := (Option.bind_some _ _).symm.trans H; with_reducible exact H2_) | with_reducible exact H | (rw [hy567]; exact H) | exact H
                              have Ny567 := Aside0.mk hy567
                              clear hy567
                              replace H := Option.bind_eq_some_iff.mp H
                              obtain ⟨⟨t570, t571⟩, A430, H⟩ := H
                              replace H : ((labels_Matches.f kj29 l0 (([(⟨x566000_29, ((rd_T36 l1 x18_2).f1), ((rd_T36 l1 x18_2).f2)⟩ : S36)] : List (S36)))).bind fun bt575 => (if t571 = bt575.2 then (if t571 = 0 then (if (t570 == bt575.1) = true then (some false) else (abacuslaw12_LabelsWants.l0 kj29 l0 l1 a3 a4 (wrap64 (x18_2 + 1)))) else (abacuslaw12_LabelsWants.l0 kj29 l0 l1 a3 a4 (wrap64 (x18_2 + 1)))) else (some false))) = some true := H
                              have A43 := Aside0.mk A430
                              clear A430
                              obtain ⟨y572, hy572⟩ : ∃ y_ : List (S36), y_ = (([(⟨x566000_29, ((rd_T36 l1 x18_2).f1), ((rd_T36 l1 x18_2).f2)⟩ : S36)] : List (S36))) := ⟨_, rfl⟩
                              replace H : ((labels_Matches.f kj29 l0 y572).bind fun bt575 => (if t571 = bt575.2 then (if t571 = 0 then (if (t570 == bt575.1) = true then (some false) else (abacuslaw12_LabelsWants.l0 kj29 l0 l1 a3 a4 (wrap64 (x18_2 + 1)))) else (abacuslaw12_LabelsWants.l0 kj29 l0 l1 a3 a4 (wrap64 (x18_2 + 1)))) else (some false))) = some true := by first | (rw [hy572]; with_reducible exact H) | (have H2_ := (Option.bind_some _ _).symm.trans H; rw [hy572]; with_reducible exact H2_) | (have H2_ := (Option.bind_some _ _).symm.trans H; with_reducible exact H2_) | with_reducible exact H | (rw [hy572]; exact H) | exact H
                              have Ny572 := Aside0.mk hy572
                              clear hy572
                              replace H := Option.bind_eq_some_iff.mp H
                              obtain ⟨⟨t575, t576⟩, A440, H⟩ := H
                              replace H : (if t571 = t576 then (if t571 = 0 then (if (t570 == t575) = true then (some false) else (abacuslaw12_LabelsWants.l0 kj29 l0 l1 a3 a4 (wrap64 (x18_2 + 1)))) else (abacuslaw12_LabelsWants.l0 kj29 l0 l1 a3 a4 (wrap64 (x18_2 + 1)))) else (some false)) = some true := H
                              have A44 := Aside0.mk A440
                              clear A440
                              by_cases c45 : t571 = t576
                              · rw [if_pos c45] at H
                                have c45b0 : (t571 == t576) = true := beq_iff_eq.mpr c45
                                have c45b1 : (t571 != t576) = false := bne_eq_false_iff_eq.mpr c45
                                clear c45
                                by_cases c46 : t571 = 0
                                · rw [if_pos c46] at H
                                  have c46b0 : (t571 == 0) = true := beq_iff_eq.mpr c46
                                  have c46b1 : (t571 != 0) = false := bne_eq_false_iff_eq.mpr c46
                                  clear c46
                                  by_cases c47 : (t570 == t575) = true
                                  · rw [if_pos c47] at H
                                    have c47b0 : (t570 == t575) = true := c47
                                    (try (have c47b1 : decide (t570 = t575) = true := by simpa using c47))
                                    (try (have c47b2 : (t570 == t575) = true := by simpa using c47))
                                    clear c47
                                    cases Option.some.inj H
                                  · rw [if_neg c47] at H
                                    have c47b0 : (t570 == t575) = false := by simpa using c47
                                    (try (have c47b1 : decide (t570 = t575) = false := by simpa using c47))
                                    (try (have c47b2 : (t570 == t575) = false := by simpa using c47))
                                    (try (have c47b3 : ¬ (t570 = t575) := by simpa using c47))
                                    clear c47
                                    have H' := Aside0.mk H
                                    clear H
                                    have p566 : 0 ≤ (x18_2 : Int) := of_decide_eq_true za
                                    have q566 : x18_2 < (l1.length : Int) := of_decide_eq_true za
                                    obtain ⟨ad566, e566, hx566_0, hx566_1, hx566_2⟩ := at_T36 HR1.out x18_2 p566 q566
                                    obtain rfl : ad564 = ad566 := (by injection e566)
                                    replace hx566_0 := (HB.out.cell (World.block_lt_of_cell? w _ hx566_0)).trans hx566_0
                                    replace hx566_1 := (HB.out.cell (World.block_lt_of_cell? w _ hx566_1)).trans hx566_1
                                    replace hx566_2 := (HB.out.cell (World.block_lt_of_cell? w _ hx566_2)).trans hx566_2
                                    replace p566 := eq_true p566
                                    replace q566 := eq_true q566
                                    go_wp2_with (first | ((with_reducible refine gate_dst (N := 99) rfl ?_); refine Kd.R_lit k36 _ 36 ?hg (N := 99) ?hd (xs := ([(⟨(rd_T36 l1 x18_2).f0, (rd_T36 l1 x18_2).f1, (rd_T36 l1 x18_2).f2⟩ : S36)] : List (S36))) (inner := [.int .u8 ((rd_T36 l1 x18_2).f0), .string ((rd_T36 l1 x18_2).f1), .string ((rd_T36 l1 x18_2).f2)]) (ok := fun _ => True) (okp := fun _ => True) ?hr ?hp (fun _ hk => hk) trivial (Below.refl _ _) (Nat.le_refl _) (by simp) ?_; (case hd => rfl); (case hg => rfl); (case hr => first | (go_simp; done) | (go_simp; rfl)); (case hp => exact (Reps.c3 (show Kd.M k36 _ _ _ (⟨(rd_T36 l1 x18_2).f0, (rd_T36 l1 x18_2).f1, (rd_T36 l1 x18_2).f2⟩ : S36) [.int .u8 ((rd_T36 l1 x18_2).f0), .string ((rd_T36 l1 x18_2).f1), .string ((rd_T36 l1 x18_2).f2)] from (k36_mkM _ _ _ (⟨(rd_T36 l1 x18_2).f0, (rd_T36 l1 x18_2).f1, (rd_T36 l1 x18_2).f2⟩ : S36) )) (Reps.none _ _))); intro v568 w57 ho58 hb hg_ hnew_; clear hg_ hnew_; (first | rw [← Ny567.out] at ho58 | (simp only [Int.reduceToNat] at ho58; rw [← Ny567.out] at ho58)); have n0_ := Aside0.mk (Kd.R_lower (Kd.R_newB ho58 (g := gb565) (o := .cells #[.int .u8 x566000_29, .string ((rd_T36 l1 x18_2).f1), .string ((rd_T36 l1 x18_2).f2)] 36 (0, 0)) (by (with_reducible repeat (first | refine blk_drewN ?_ _ | refine blk_drew ?_ | refine blk_alloc ?_ _)); exact BK565.out)) (below_size (by repeat (first | (with_reducible first | exact HB.out | apply below_alloc | apply pw_below_drewN | apply below_drew1 | refine below_set ?_ GE565.out) | exact HB.out)))); have n1_ := Aside0.mk (blk_below (g := gb565) (o := .cells #[.int .u8 x566000_29, .string ((rd_T36 l1 x18_2).f1), .string ((rd_T36 l1 x18_2).f2)] 36 (0, 0)) (by (with_reducible repeat (first | refine blk_drewN ?_ _ | refine blk_drew ?_ | refine blk_alloc ?_ _)); exact BK565.out) hb); have n2_ := Aside0.mk (below_step (by repeat (first | (with_reducible first | exact HB.out | apply below_alloc | apply pw_below_drewN | apply below_drew1 | refine below_set ?_ GE565.out) | exact HB.out)) hb); clear BK565; clear HB; have HO569 := n0_; have BK565 := n1_; have HB := n2_; clear n0_ n1_ n2_; clear hb ho58; obtain ⟨Ao59, co59, eo59⟩ := Kd.R_slice HO569.out; subst eo59) | ((with_reducible refine gate_callee (f := 18) rfl ?_); refine goesL_ (some 100) rfl rfl Tryd.func18 (by kernel_rfl) rfl #[.slice A0 l0.length c0, .slice Ao59 y567.length co59] rfl zl ?_; (with_reducible refine (labels_Matches.calls kj29 _ _ l0 _ _ y567 t570 t571 _ ?side1 ?side2 ?side3 ?side4 ?side5 A43.out).mono ?_); (case side1 => exact zc (Kd.C_below HR0.out HB.out)); (case side2 => exact HC0.out); (case side3 => exact zc (Kd.R_reads' HO569.out).2.2); (case side4 => exact (Kd.R_reads' HO569.out).2.1); (case side5 => first | (with_reducible exact HG.out) | (with_reducible exact G.drewN HG.out _) | exact G.below HG.out (by repeat (first | (with_reducible first | exact HB.out | apply below_alloc | apply pw_below_drewN | apply below_drew1 | refine below_set ?_ GE565.out) | exact HB.out))); rintro e w60 ⟨rfl, hb⟩; refine ⟨_, rfl, ?_⟩; have n0_ := Aside0.mk (Kd.R_below (zr HO569.out) hb); have n1_ := Aside0.mk (blk_below (g := gb565) (o := .cells #[.int .u8 x566000_29, .string ((rd_T36 l1 x18_2).f1), .string ((rd_T36 l1 x18_2).f2)] 36 (0, 0)) (by (with_reducible repeat (first | refine blk_drewN ?_ _ | refine blk_drew ?_ | refine blk_alloc ?_ _)); exact BK565.out) hb); have n2_ := Aside0.mk (below_step (by repeat (first | (with_reducible first | exact HB.out | apply below_alloc | apply pw_below_drewN | apply below_drew1 | refine below_set ?_ GE565.out) | exact HB.out)) hb); clear HO569; clear BK565; clear HB; have HO569 := n0_; have BK565 := n1_; have HB := n2_; clear n0_ n1_ n2_; (try clear hb); (try clear hb2); (try clear hk); (try clear hi); have hcz61_0 : w60.cell? ⟨gb565, 0, none⟩ = some (.int .u8 x566000_29) := (blk_cell BK565.out 0).trans rfl; have hcz61_1 : w60.cell? ⟨gb565, 1, none⟩ = some (.string ((rd_T36 l1 x18_2).f1)) := (blk_cell BK565.out 1).trans rfl; have hcz61_2 : w60.cell? ⟨gb565, 2, none⟩ = some (.string ((rd_T36 l1 x18_2).f2)) := (blk_cell BK565.out 2).trans rfl; have hfz61_0 := blk_frozen BK565.out 0; have hfz61_1 := blk_frozen BK565.out 1; have hfz61_2 := blk_frozen BK565.out 2) | ((with_reducible refine gate_dst (N := 106) rfl ?_); refine Kd.R_lit k36 _ 36 ?hg (N := 106) ?hd (xs := ([(⟨x566000_29, ((rd_T36 l1 x18_2).f1), ((rd_T36 l1 x18_2).f2)⟩ : S36)] : List (S36))) (inner := [.int .u8 x566000_29, .string ((rd_T36 l1 x18_2).f1), .string ((rd_T36 l1 x18_2).f2)]) (ok := fun _ => True) (okp := fun _ => True) ?hr ?hp (fun _ hk => hk) trivial (Below.refl _ _) (Nat.le_refl _) (by simp) ?_; (case hd => rfl); (case hg => rfl); (case hr => first | (go_simp; done) | (go_simp; rfl)); (case hp => exact (Reps.c3 (show Kd.M k36 _ _ _ (⟨x566000_29, ((rd_T36 l1 x18_2).f1), ((rd_T36 l1 x18_2).f2)⟩ : S36) [.int .u8 x566000_29, .string ((rd_T36 l1 x18_2).f1), .string ((rd_T36 l1 x18_2).f2)] from (k36_mkM _ _ _ (⟨x566000_29, ((rd_T36 l1 x18_2).f1), ((rd_T36 l1 x18_2).f2)⟩ : S36) )) (Reps.none _ _))); intro v573 w62 ho63 hb hg_ hnew_; clear hg_ hnew_; (first | rw [← Ny572.out] at ho63 | (simp only [Int.reduceToNat] at ho63; rw [← Ny572.out] at ho63)); have n0_ := Aside0.mk (Kd.R_elder' (zr HO569.out) (Kd.R_base ho63) hb); have n1_ := Aside0.mk (Kd.R_lower (Kd.R_newB (Kd.R_new' ho63 (Kd.R_lt (zr HO569.out))) (g := gb565) (o := .cells #[.int .u8 x566000_29, .string ((rd_T36 l1 x18_2).f1), .string ((rd_T36 l1 x18_2).f2)] 36 (0, 0)) (by (with_reducible repeat (first | refine blk_drewN ?_ _ | refine blk_drew ?_ | refine blk_alloc ?_ _)); exact BK565.out)) (below_size (by repeat (first | (with_reducible first | exact HB.out | apply below_alloc | apply pw_below_drewN | apply below_drew1 | refine below_set ?_ GE565.out) | exact HB.out)))); have n2_ := Aside0.mk (blk_below (g := gb565) (o := .cells #[.int .u8 x566000_29, .string ((rd_T36 l1 x18_2).f1), .string ((rd_T36 l1 x18_2).f2)] 36 (0, 0)) (by (with_reducible repeat (first | refine blk_drewN ?_ _ | refine blk_drew ?_ | refine blk_alloc ?_ _)); exact BK565.out) hb); have n3_ := Aside0.mk (below_step (by repeat (first | (with_reducible first | exact HB.out | apply below_alloc | apply pw_below_drewN | apply below_drew1 | refine below_set ?_ GE565.out) | exact HB.out)) hb); clear HO569; clear BK565; clear HB; have HO569 := n0_; have HO574 := n1_; have BK565 := n2_; have HB := n3_; clear n0_ n1_ n2_ n3_; clear hb ho63; obtain ⟨Ao64, co64, eo64⟩ := Kd.R_slice HO574.out; subst eo64) | ((with_reducible refine gate_callee (f := 18) rfl ?_); refine goesL_ (some 107) rfl rfl Tryd.func18 (by kernel_rfl) rfl #[.slice A0 l0.length c0, .slice Ao64 y572.length co64] rfl zl ?_; (with_reducible refine (labels_Matches.calls kj29 _ _ l0 _ _ y572 t575 t576 _ ?side1 ?side2 ?side3 ?side4 ?side5 A44.out).mono ?_); (case side1 => exact zc (Kd.C_below HR0.out HB.out)); (case side2 => exact HC0.out); (case side3 => exact zc (Kd.R_reads' HO574.out).2.2); (case side4 => exact (Kd.R_reads' HO574.out).2.1); (case side5 => first | (with_reducible exact HG.out) | (with_reducible exact G.drewN HG.out _) | exact G.below HG.out (by repeat (first | (with_reducible first | exact HB.out | apply below_alloc | apply pw_below_drewN | apply below_drew1 | refine below_set ?_ GE565.out) | exact HB.out))); rintro e w65 ⟨rfl, hb⟩; refine ⟨_, rfl, ?_⟩; have n0_ := Aside0.mk (Kd.R_below (zr HO569.out) hb); have n1_ := Aside0.mk (Kd.R_below (zr HO574.out) hb); have n2_ := Aside0.mk (blk_below (g := gb565) (o := .cells #[.int .u8 x566000_29, .string ((rd_T36 l1 x18_2).f1), .string ((rd_T36 l1 x18_2).f2)] 36 (0, 0)) (by (with_reducible repeat (first | refine blk_drewN ?_ _ | refine blk_drew ?_ | refine blk_alloc ?_ _)); exact BK565.out) hb); have n3_ := Aside0.mk (below_step (by repeat (first | (with_reducible first | exact HB.out | apply below_alloc | apply pw_below_drewN | apply below_drew1 | refine below_set ?_ GE565.out) | exact HB.out)) hb); clear HO569; clear HO574; clear BK565; clear HB; have HO569 := n0_; have HO574 := n1_; have BK565 := n2_; have HB := n3_; clear n0_ n1_ n2_ n3_; (try clear hb); (try clear hb2); (try clear hk); (try clear hi)))
                                    go_roundg kj29
                                    case measure => have := HJ12.out; have := HK2.out; have := HJ29.out; omega
                                    case rel => exact ⟨(wrap64 (x18_2 + 1)), zs, H', ⟨by have := HJ12.out; have := HK2.out; have := HJ29.out; omega⟩, ⟨by repeat (first | (with_reducible first | exact HB.out | apply below_alloc | apply pw_below_drewN | apply below_drew1 | refine below_set ?_ GE565.out) | exact HB.out)⟩⟩
                                · rw [if_neg c46] at H
                                  have c46b0 : (t571 == 0) = false := beq_eq_false_iff_ne.mpr c46
                                  have c46b1 : (t571 != 0) = true := bne_iff_ne.mpr c46
                                  have H' := Aside0.mk H
                                  clear H
                                  have p566 : 0 ≤ (x18_2 : Int) := of_decide_eq_true za
                                  have q566 : x18_2 < (l1.length : Int) := of_decide_eq_true za
                                  obtain ⟨ad566, e566, hx566_0, hx566_1, hx566_2⟩ := at_T36 HR1.out x18_2 p566 q566
                                  obtain rfl : ad564 = ad566 := (by injection e566)
                                  replace hx566_0 := (HB.out.cell (World.block_lt_of_cell? w _ hx566_0)).trans hx566_0
                                  replace hx566_1 := (HB.out.cell (World.block_lt_of_cell? w _ hx566_1)).trans hx566_1
                                  replace hx566_2 := (HB.out.cell (World.block_lt_of_cell? w _ hx566_2)).trans hx566_2
                                  replace p566 := eq_true p566
                                  replace q566 := eq_true q566
                                  go_wp2_with (first | ((with_reducible refine gate_dst (N := 99) rfl ?_); refine Kd.R_lit k36 _ 36 ?hg (N := 99) ?hd (xs := ([(⟨(rd_T36 l1 x18_2).f0, (rd_T36 l1 x18_2).f1, (rd_T36 l1 x18_2).f2⟩ : S36)] : List (S36))) (inner := [.int .u8 ((rd_T36 l1 x18_2).f0), .string ((rd_T36 l1 x18_2).f1), .string ((rd_T36 l1 x18_2).f2)]) (ok := fun _ => True) (okp := fun _ => True) ?hr ?hp (fun _ hk => hk) trivial (Below.refl _ _) (Nat.le_refl _) (by simp) ?_; (case hd => rfl); (case hg => rfl); (case hr => first | (go_simp; done) | (go_simp; rfl)); (case hp => exact (Reps.c3 (show Kd.M k36 _ _ _ (⟨(rd_T36 l1 x18_2).f0, (rd_T36 l1 x18_2).f1, (rd_T36 l1 x18_2).f2⟩ : S36) [.int .u8 ((rd_T36 l1 x18_2).f0), .string ((rd_T36 l1 x18_2).f1), .string ((rd_T36 l1 x18_2).f2)] from (k36_mkM _ _ _ (⟨(rd_T36 l1 x18_2).f0, (rd_T36 l1 x18_2).f1, (rd_T36 l1 x18_2).f2⟩ : S36) )) (Reps.none _ _))); intro v568 w66 ho67 hb hg_ hnew_; clear hg_ hnew_; (first | rw [← Ny567.out] at ho67 | (simp only [Int.reduceToNat] at ho67; rw [← Ny567.out] at ho67)); have n0_ := Aside0.mk (Kd.R_lower (Kd.R_newB ho67 (g := gb565) (o := .cells #[.int .u8 x566000_29, .string ((rd_T36 l1 x18_2).f1), .string ((rd_T36 l1 x18_2).f2)] 36 (0, 0)) (by (with_reducible repeat (first | refine blk_drewN ?_ _ | refine blk_drew ?_ | refine blk_alloc ?_ _)); exact BK565.out)) (below_size (by repeat (first | (with_reducible first | exact HB.out | apply below_alloc | apply pw_below_drewN | apply below_drew1 | refine below_set ?_ GE565.out) | exact HB.out)))); have n1_ := Aside0.mk (blk_below (g := gb565) (o := .cells #[.int .u8 x566000_29, .string ((rd_T36 l1 x18_2).f1), .string ((rd_T36 l1 x18_2).f2)] 36 (0, 0)) (by (with_reducible repeat (first | refine blk_drewN ?_ _ | refine blk_drew ?_ | refine blk_alloc ?_ _)); exact BK565.out) hb); have n2_ := Aside0.mk (below_step (by repeat (first | (with_reducible first | exact HB.out | apply below_alloc | apply pw_below_drewN | apply below_drew1 | refine below_set ?_ GE565.out) | exact HB.out)) hb); clear BK565; clear HB; have HO569 := n0_; have BK565 := n1_; have HB := n2_; clear n0_ n1_ n2_; clear hb ho67; obtain ⟨Ao68, co68, eo68⟩ := Kd.R_slice HO569.out; subst eo68) | ((with_reducible refine gate_callee (f := 18) rfl ?_); refine goesL_ (some 100) rfl rfl Tryd.func18 (by kernel_rfl) rfl #[.slice A0 l0.length c0, .slice Ao68 y567.length co68] rfl zl ?_; (with_reducible refine (labels_Matches.calls kj29 _ _ l0 _ _ y567 t570 t571 _ ?side1 ?side2 ?side3 ?side4 ?side5 A43.out).mono ?_); (case side1 => exact zc (Kd.C_below HR0.out HB.out)); (case side2 => exact HC0.out); (case side3 => exact zc (Kd.R_reads' HO569.out).2.2); (case side4 => exact (Kd.R_reads' HO569.out).2.1); (case side5 => first | (with_reducible exact HG.out) | (with_reducible exact G.drewN HG.out _) | exact G.below HG.out (by repeat (first | (with_reducible first | exact HB.out | apply below_alloc | apply pw_below_drewN | apply below_drew1 | refine below_set ?_ GE565.out) | exact HB.out))); rintro e w69 ⟨rfl, hb⟩; refine ⟨_, rfl, ?_⟩; have n0_ := Aside0.mk (Kd.R_below (zr HO569.out) hb); have n1_ := Aside0.mk (blk_below (g := gb565) (o := .cells #[.int .u8 x566000_29, .string ((rd_T36 l1 x18_2).f1), .string ((rd_T36 l1 x18_2).f2)] 36 (0, 0)) (by (with_reducible repeat (first | refine blk_drewN ?_ _ | refine blk_drew ?_ | refine blk_alloc ?_ _)); exact BK565.out) hb); have n2_ := Aside0.mk (below_step (by repeat (first | (with_reducible first | exact HB.out | apply below_alloc | apply pw_below_drewN | apply below_drew1 | refine below_set ?_ GE565.out) | exact HB.out)) hb); clear HO569; clear BK565; clear HB; have HO569 := n0_; have BK565 := n1_; have HB := n2_; clear n0_ n1_ n2_; (try clear hb); (try clear hb2); (try clear hk); (try clear hi); have hcz70_0 : w69.cell? ⟨gb565, 0, none⟩ = some (.int .u8 x566000_29) := (blk_cell BK565.out 0).trans rfl; have hcz70_1 : w69.cell? ⟨gb565, 1, none⟩ = some (.string ((rd_T36 l1 x18_2).f1)) := (blk_cell BK565.out 1).trans rfl; have hcz70_2 : w69.cell? ⟨gb565, 2, none⟩ = some (.string ((rd_T36 l1 x18_2).f2)) := (blk_cell BK565.out 2).trans rfl; have hfz70_0 := blk_frozen BK565.out 0; have hfz70_1 := blk_frozen BK565.out 1; have hfz70_2 := blk_frozen BK565.out 2) | ((with_reducible refine gate_dst (N := 106) rfl ?_); refine Kd.R_lit k36 _ 36 ?hg (N := 106) ?hd (xs := ([(⟨x566000_29, ((rd_T36 l1 x18_2).f1), ((rd_T36 l1 x18_2).f2)⟩ : S36)] : List (S36))) (inner := [.int .u8 x566000_29, .string ((rd_T36 l1 x18_2).f1), .string ((rd_T36 l1 x18_2).f2)]) (ok := fun _ => True) (okp := fun _ => True) ?hr ?hp (fun _ hk => hk) trivial (Below.refl _ _) (Nat.le_refl _) (by simp) ?_; (case hd => rfl); (case hg => rfl); (case hr => first | (go_simp; done) | (go_simp; rfl)); (case hp => exact (Reps.c3 (show Kd.M k36 _ _ _ (⟨x566000_29, ((rd_T36 l1 x18_2).f1), ((rd_T36 l1 x18_2).f2)⟩ : S36) [.int .u8 x566000_29, .string ((rd_T36 l1 x18_2).f1), .string ((rd_T36 l1 x18_2).f2)] from (k36_mkM _ _ _ (⟨x566000_29, ((rd_T36 l1 x18_2).f1), ((rd_T36 l1 x18_2).f2)⟩ : S36) )) (Reps.none _ _))); intro v573 w71 ho72 hb hg_ hnew_; clear hg_ hnew_; (first | rw [← Ny572.out] at ho72 | (simp only [Int.reduceToNat] at ho72; rw [← Ny572.out] at ho72)); have n0_ := Aside0.mk (Kd.R_elder' (zr HO569.out) (Kd.R_base ho72) hb); have n1_ := Aside0.mk (Kd.R_lower (Kd.R_newB (Kd.R_new' ho72 (Kd.R_lt (zr HO569.out))) (g := gb565) (o := .cells #[.int .u8 x566000_29, .string ((rd_T36 l1 x18_2).f1), .string ((rd_T36 l1 x18_2).f2)] 36 (0, 0)) (by (with_reducible repeat (first | refine blk_drewN ?_ _ | refine blk_drew ?_ | refine blk_alloc ?_ _)); exact BK565.out)) (below_size (by repeat (first | (with_reducible first | exact HB.out | apply below_alloc | apply pw_below_drewN | apply below_drew1 | refine below_set ?_ GE565.out) | exact HB.out)))); have n2_ := Aside0.mk (blk_below (g := gb565) (o := .cells #[.int .u8 x566000_29, .string ((rd_T36 l1 x18_2).f1), .string ((rd_T36 l1 x18_2).f2)] 36 (0, 0)) (by (with_reducible repeat (first | refine blk_drewN ?_ _ | refine blk_drew ?_ | refine blk_alloc ?_ _)); exact BK565.out) hb); have n3_ := Aside0.mk (below_step (by repeat (first | (with_reducible first | exact HB.out | apply below_alloc | apply pw_below_drewN | apply below_drew1 | refine below_set ?_ GE565.out) | exact HB.out)) hb); clear HO569; clear BK565; clear HB; have HO569 := n0_; have HO574 := n1_; have BK565 := n2_; have HB := n3_; clear n0_ n1_ n2_ n3_; clear hb ho72; obtain ⟨Ao73, co73, eo73⟩ := Kd.R_slice HO574.out; subst eo73) | ((with_reducible refine gate_callee (f := 18) rfl ?_); refine goesL_ (some 107) rfl rfl Tryd.func18 (by kernel_rfl) rfl #[.slice A0 l0.length c0, .slice Ao73 y572.length co73] rfl zl ?_; (with_reducible refine (labels_Matches.calls kj29 _ _ l0 _ _ y572 t575 t576 _ ?side1 ?side2 ?side3 ?side4 ?side5 A44.out).mono ?_); (case side1 => exact zc (Kd.C_below HR0.out HB.out)); (case side2 => exact HC0.out); (case side3 => exact zc (Kd.R_reads' HO574.out).2.2); (case side4 => exact (Kd.R_reads' HO574.out).2.1); (case side5 => first | (with_reducible exact HG.out) | (with_reducible exact G.drewN HG.out _) | exact G.below HG.out (by repeat (first | (with_reducible first | exact HB.out | apply below_alloc | apply pw_below_drewN | apply below_drew1 | refine below_set ?_ GE565.out) | exact HB.out))); rintro e w74 ⟨rfl, hb⟩; refine ⟨_, rfl, ?_⟩; have n0_ := Aside0.mk (Kd.R_below (zr HO569.out) hb); have n1_ := Aside0.mk (Kd.R_below (zr HO574.out) hb); have n2_ := Aside0.mk (blk_below (g := gb565) (o := .cells #[.int .u8 x566000_29, .string ((rd_T36 l1 x18_2).f1), .string ((rd_T36 l1 x18_2).f2)] 36 (0, 0)) (by (with_reducible repeat (first | refine blk_drewN ?_ _ | refine blk_drew ?_ | refine blk_alloc ?_ _)); exact BK565.out) hb); have n3_ := Aside0.mk (below_step (by repeat (first | (with_reducible first | exact HB.out | apply below_alloc | apply pw_below_drewN | apply below_drew1 | refine below_set ?_ GE565.out) | exact HB.out)) hb); clear HO569; clear HO574; clear BK565; clear HB; have HO569 := n0_; have HO574 := n1_; have BK565 := n2_; have HB := n3_; clear n0_ n1_ n2_ n3_; (try clear hb); (try clear hb2); (try clear hk); (try clear hi)))
                                  go_roundg kj29
                                  case measure => have := HJ12.out; have := HK2.out; have := HJ29.out; omega
                                  case rel => exact ⟨(wrap64 (x18_2 + 1)), zs, H', ⟨by have := HJ12.out; have := HK2.out; have := HJ29.out; omega⟩, ⟨by repeat (first | (with_reducible first | exact HB.out | apply below_alloc | apply pw_below_drewN | apply below_drew1 | refine below_set ?_ GE565.out) | exact HB.out)⟩⟩
                              · rw [if_neg c45] at H
                                have c45b0 : (t571 == t576) = false := beq_eq_false_iff_ne.mpr c45
                                have c45b1 : (t571 != t576) = true := bne_iff_ne.mpr c45
                                cases Option.some.inj H
                            · rw [if_neg c42] at H
                              exact absurd H (by simp)
                          · rw [if_neg c41] at H
                            exact absurd H (by simp)
                    · rw [if_neg c29] at H
                      exact absurd H (by simp)
                  · rw [if_neg c28] at H
                    have c28b0 : decide (x18_2 < (l1.length : Int)) = false := decide_eq_false c28
                    clear c28
                    have H' := Aside0.mk H
                    clear H
                    go_wp2
                    go_loopg [24] k2 (fun kq v24 w' => ∃ (x24_3 : Int), v24 = .int .i64 x24_3 ∧ Aside0 (abacuslaw12_LabelsWants.l1 kq a3 a4 x24_3 = some true) ∧ Aside0 (kq ≤ k2) ∧ Aside0 (Below w.heap.size w w'))
                    case atStart => exact ⟨(0), zs, H', ⟨Nat.le_refl _⟩, ⟨zb HB.out⟩⟩
                    case round =>
                      clear H'
                      try clear c1
                      try clear c2
                      try clear p2
                      try clear c3
                      try clear c4
                      try clear p5
                      try clear q5
                      try clear hx5
                      try clear p6
                      try clear c7
                      try clear c10
                      try clear c11
                      try clear c17
                      try clear c18
                      try clear c23
                      try clear c23b0
                      try clear c23b1
                      try clear c24
                      try clear c24b0
                      try clear c24b1
                      try clear c25
                      try clear c25b0
                      try clear c25b1
                      try clear c26
                      try clear c27
                      try clear c28
                      try clear c28b0
                      try clear c29
                      try clear c29b0
                      try clear c33
                      try clear c33b0
                      try clear c33b1
                      try clear c35
                      try clear c35b0
                      try clear c35b1
                      try clear c37
                      try clear c37b0
                      try clear c37b1
                      try clear c39
                      try clear c39b0
                      try clear c39b1
                      try clear c41
                      try clear c41b0
                      try clear c42
                      try clear c42b0
                      try clear c45
                      try clear c45b0
                      try clear c45b1
                      try clear c46
                      try clear c46b0
                      try clear c46b1
                      try clear c47
                      try clear c47b0
                      try clear c47b1
                      try clear c47b2
                      try clear p56
                      try clear q56
                      try clear hx56
                      try clear p64
                      try clear hcz32_0
                      try clear hcz32_1
                      try clear hcz32_2
                      try clear hcz34_0
                      try clear hcz34_1
                      try clear hcz34_2
                      try clear hcz36_0
                      try clear hcz36_1
                      try clear hcz36_2
                      try clear hcz38_0
                      try clear hcz38_1
                      try clear hcz38_2
                      try clear hcz40_0
                      try clear hcz40_1
                      try clear hcz40_2
                      try clear hcz52_0
                      try clear hcz52_1
                      try clear hcz52_2
                      try clear hcz61_0
                      try clear hcz61_1
                      try clear hcz61_2
                      try clear hcz70_0
                      try clear hcz70_1
                      try clear hcz70_2
                      try clear hcz79_0
                      try clear hcz79_1
                      try clear hcz79_2
                      try clear hfz32_0
                      try clear hfz32_1
                      try clear hfz32_2
                      try clear hfz34_0
                      try clear hfz34_1
                      try clear hfz34_2
                      try clear hfz36_0
                      try clear hfz36_1
                      try clear hfz36_2
                      try clear hfz38_0
                      try clear hfz38_1
                      try clear hfz38_2
                      try clear hfz40_0
                      try clear hfz40_1
                      try clear hfz40_2
                      try clear hfz52_0
                      try clear hfz52_1
                      try clear hfz52_2
                      try clear hfz61_0
                      try clear hfz61_1
                      try clear hfz61_2
                      try clear hfz70_0
                      try clear hfz70_1
                      try clear hfz70_2
                      try clear hfz79_0
                      try clear hfz79_1
                      try clear hfz79_2
                      try clear hx564_0
                      try clear hx564_1
                      try clear hx564_2
                      try clear hx566_0
                      try clear hx566_1
                      try clear hx566_2
                      try clear p2
                      try clear p5
                      try clear p564
                      try clear p566
                      try clear q5
                      try clear q564
                      try clear q566
                      obtain ⟨x24_3, rfl, HA, HK3, HB⟩ := hrel
                      cases gk with
                      | zero => exact absurd HA.out (by simp [abacuslaw12_LabelsWants.l1])
                      | succ k3 =>
                        have H := HA.out
                        clear HA
                        simp only [abacuslaw12_LabelsWants.l1] at H
                        by_cases c84 : x24_3 < (a3.size : Int)
                        · rw [if_pos c84] at H
                          have c84b0 : decide (x24_3 < (a3.size : Int)) = true := decide_eq_true c84
                          clear c84
                          by_cases c85 : 0 ≤ x24_3
                          · rw [if_pos c85] at H
                            have c85b0 : decide (0 ≤ x24_3) = true := decide_eq_true c85
                            clear c85
                            by_cases c87 : (bt a3 x24_3) = 42
                            · rw [if_pos c87] at H
                              have c87b0 : ((bt a3 x24_3) == 42) = true := beq_iff_eq.mpr c87
                              have c87b1 : ((bt a3 x24_3) != 42) = false := bne_eq_false_iff_eq.mpr c87
                              clear c87
                              replace H := Option.bind_eq_some_iff.mp H
                              obtain ⟨t577, A880, H⟩ := H
                              replace H : (some t577) = some true := H
                              have A88 := Aside0.mk A880
                              clear A880
                              have hr_ := Option.some.inj H
                              have p86 : 0 ≤ (x24_3 : Int) := of_decide_eq_true za
                              have q86 : x24_3 < (a3.size : Int) := of_decide_eq_true za
                              have hx86 := bt_at a3 x24_3
                              replace p86 := eq_true p86
                              replace q86 := eq_true q86
                              go_wp2_with (first | ((with_reducible refine gate_callee (f := 19) rfl ?_); refine goesL_ (some 145) rfl rfl Tryd.func19 (by kernel_rfl) rfl #[.string (⟨#[42]⟩ : ByteArray), .string a4] rfl zl ?_; (with_reducible refine (labels_Says.calls k3 (⟨#[42]⟩ : ByteArray) a4 t577 _ ?side1 A88.out).mono ?_); (case side1 => first | (with_reducible exact HG.out) | (with_reducible exact G.drewN HG.out _) | exact G.below HG.out (zb HB.out)); rintro e w89 ⟨rfl, hb⟩; refine ⟨_, rfl, ?_⟩; have n0_ := Aside0.mk (below_step (zb HB.out) hb); clear HB; have HB := n0_; clear n0_; (try clear hb); (try clear hb2); (try clear hk); (try clear hi)))
                              go_ret
                              exact ⟨ze, zb HB.out⟩
                            · rw [if_neg c87] at H
                              have c87b0 : ((bt a3 x24_3) == 42) = false := beq_eq_false_iff_ne.mpr c87
                              have c87b1 : ((bt a3 x24_3) != 42) = true := bne_iff_ne.mpr c87
                              by_cases c91 : (bt a3 x24_3) = 63
                              · rw [if_pos c91] at H
                                have c91b0 : ((bt a3 x24_3) == 63) = true := beq_iff_eq.mpr c91
                                have c91b1 : ((bt a3 x24_3) != 63) = false := bne_eq_false_iff_eq.mpr c91
                                clear c91
                                replace H := Option.bind_eq_some_iff.mp H
                                obtain ⟨t578, A920, H⟩ := H
                                replace H : (some t578) = some true := H
                                have A92 := Aside0.mk A920
                                clear A920
                                have hr_ := Option.some.inj H
                                have p86 : 0 ≤ (x24_3 : Int) := of_decide_eq_true za
                                have q86 : x24_3 < (a3.size : Int) := of_decide_eq_true za
                                have hx86 := bt_at a3 x24_3
                                replace p86 := eq_true p86
                                replace q86 := eq_true q86
                                have p90 : 0 ≤ (x24_3 : Int) := of_decide_eq_true za
                                have q90 : x24_3 < (a3.size : Int) := of_decide_eq_true za
                                have hx90 := bt_at a3 x24_3
                                replace p90 := eq_true p90
                                replace q90 := eq_true q90
                                go_wp2_with (first | ((with_reducible refine gate_callee (f := 19) rfl ?_); refine goesL_ (some 145) rfl rfl Tryd.func19 (by kernel_rfl) rfl #[.string (⟨#[42]⟩ : ByteArray), .string a4] rfl zl ?_; (with_reducible refine (labels_Says.calls k3 (⟨#[42]⟩ : ByteArray) a4 t578 _ ?side1 A92.out).mono ?_); (case side1 => first | (with_reducible exact HG.out) | (with_reducible exact G.drewN HG.out _) | exact G.below HG.out (zb HB.out)); rintro e w93 ⟨rfl, hb⟩; refine ⟨_, rfl, ?_⟩; have n0_ := Aside0.mk (below_step (zb HB.out) hb); clear HB; have HB := n0_; clear n0_; (try clear hb); (try clear hb2); (try clear hk); (try clear hi)))
                                go_ret
                                exact ⟨ze, zb HB.out⟩
                              · rw [if_neg c91] at H
                                have c91b0 : ((bt a3 x24_3) == 63) = false := beq_eq_false_iff_ne.mpr c91
                                have c91b1 : ((bt a3 x24_3) != 63) = true := bne_iff_ne.mpr c91
                                by_cases c95 : (bt a3 x24_3) = 92
                                · rw [if_pos c95] at H
                                  have c95b0 : ((bt a3 x24_3) == 92) = true := beq_iff_eq.mpr c95
                                  have c95b1 : ((bt a3 x24_3) != 92) = false := bne_eq_false_iff_eq.mpr c95
                                  clear c95
                                  replace H := Option.bind_eq_some_iff.mp H
                                  obtain ⟨t579, A960, H⟩ := H
                                  replace H : (some t579) = some true := H
                                  have A96 := Aside0.mk A960
                                  clear A960
                                  have hr_ := Option.some.inj H
                                  have p86 : 0 ≤ (x24_3 : Int) := of_decide_eq_true za
                                  have q86 : x24_3 < (a3.size : Int) := of_decide_eq_true za
                                  have hx86 := bt_at a3 x24_3
                                  replace p86 := eq_true p86
                                  replace q86 := eq_true q86
                                  have p90 : 0 ≤ (x24_3 : Int) := of_decide_eq_true za
                                  have q90 : x24_3 < (a3.size : Int) := of_decide_eq_true za
                                  have hx90 := bt_at a3 x24_3
                                  replace p90 := eq_true p90
                                  replace q90 := eq_true q90
                                  have p94 : 0 ≤ (x24_3 : Int) := of_decide_eq_true za
                                  have q94 : x24_3 < (a3.size : Int) := of_decide_eq_true za
                                  have hx94 := bt_at a3 x24_3
                                  replace p94 := eq_true p94
                                  replace q94 := eq_true q94
                                  go_wp2_with (first | ((with_reducible refine gate_callee (f := 19) rfl ?_); refine goesL_ (some 145) rfl rfl Tryd.func19 (by kernel_rfl) rfl #[.string (⟨#[42]⟩ : ByteArray), .string a4] rfl zl ?_; (with_reducible refine (labels_Says.calls k3 (⟨#[42]⟩ : ByteArray) a4 t579 _ ?side1 A96.out).mono ?_); (case side1 => first | (with_reducible exact HG.out) | (with_reducible exact G.drewN HG.out _) | exact G.below HG.out (zb HB.out)); rintro e w97 ⟨rfl, hb⟩; refine ⟨_, rfl, ?_⟩; have n0_ := Aside0.mk (below_step (zb HB.out) hb); clear HB; have HB := n0_; clear n0_; (try clear hb); (try clear hb2); (try clear hk); (try clear hi)))
                                  go_ret
                                  exact ⟨ze, zb HB.out⟩
                                · rw [if_neg c95] at H
                                  have c95b0 : ((bt a3 x24_3) == 92) = false := beq_eq_false_iff_ne.mpr c95
                                  have c95b1 : ((bt a3 x24_3) != 92) = true := bne_iff_ne.mpr c95
                                  have H' := Aside0.mk H
                                  clear H
                                  have p86 : 0 ≤ (x24_3 : Int) := of_decide_eq_true za
                                  have q86 : x24_3 < (a3.size : Int) := of_decide_eq_true za
                                  have hx86 := bt_at a3 x24_3
                                  replace p86 := eq_true p86
                                  replace q86 := eq_true q86
                                  have p90 : 0 ≤ (x24_3 : Int) := of_decide_eq_true za
                                  have q90 : x24_3 < (a3.size : Int) := of_decide_eq_true za
                                  have hx90 := bt_at a3 x24_3
                                  replace p90 := eq_true p90
                                  replace q90 := eq_true q90
                                  have p94 : 0 ≤ (x24_3 : Int) := of_decide_eq_true za
                                  have q94 : x24_3 < (a3.size : Int) := of_decide_eq_true za
                                  have hx94 := bt_at a3 x24_3
                                  replace p94 := eq_true p94
                                  replace q94 := eq_true q94
                                  go_wp2
                                  go_roundg k3
                                  case measure => have := HJ12.out; have := HK2.out; have := HK3.out; omega
                                  case rel => exact ⟨(wrap64 (x24_3 + 1)), zs, H', ⟨by have := HJ12.out; have := HK2.out; have := HK3.out; omega⟩, ⟨zb HB.out⟩⟩
                          · rw [if_neg c85] at H
                            exact absurd H (by simp)
                        · rw [if_neg c84] at H
                          have c84b0 : decide (x24_3 < (a3.size : Int)) = false := decide_eq_false c84
                          clear c84
                          replace H := Option.bind_eq_some_iff.mp H
                          obtain ⟨t580, A980, H⟩ := H
                          replace H : (if a3.toList = ([] : List UInt8) then (abacuslaw12_LabelsWants.j4 k3 a3 a4 false) else (abacuslaw12_LabelsWants.j4 k3 a3 a4 (decide (t580 ≥ 0)))) = some true := H
                          have A98 := Aside0.mk A980
                          clear A980
                          have HC99 := Aside0.mk H
                          clear H
                          go_upto_region 32 with (first | ((with_reducible refine gate_callee (f := 20) rfl ?_); refine goesL_ (some 147) rfl rfl Tryd.func20 (by kernel_rfl) rfl #[.string a3] rfl zl ?_; (with_reducible refine (labels_Value.calls a3 t580 _ ?side1 A98.out).mono ?_); (case side1 => first | (with_reducible exact HG.out) | (with_reducible exact G.drewN HG.out _) | exact G.below HG.out (zb HB.out)); rintro e w100 ⟨rfl, hb⟩; refine ⟨_, rfl, ?_⟩; have n0_ := Aside0.mk (below_step (zb HB.out) hb); clear HB; have HB := n0_; clear n0_; (try clear hb); (try clear hb2); (try clear hk); (try clear hi)))
                          (try simp only [Act.put, List.setIfInBounds_toArray, List.set_cons_zero, List.set_cons_succ])
                          go_cut [153] (fun v153 wc => ∃ (kq : Nat) (x153_98 : Bool), v153 = .bool x153_98 ∧ Aside0 (abacuslaw12_LabelsWants.j4 kq a3 a4 x153_98 = some true) ∧ Aside0 (kq ≤ k3) ∧ Aside0 (Below w.heap.size w wc))
                          case first =>
                            have H := HC99.out
                            clear HC99
                            by_cases c101 : a3.toList = ([] : List UInt8)
                            · rw [if_pos c101] at H
                              have c101b0 : (a3.toList == ([] : List UInt8)) = true := beq_iff_eq.mpr c101
                              have c101b1 : (a3.toList != ([] : List UInt8)) = false := bne_eq_false_iff_eq.mpr c101
                              clear c101
                              (first | rw [c101b0] | (simp only [i64_w, i32_w]; rw [c101b0]) | skip)
                              have H' := Aside0.mk H
                              clear H
                              go_wp2
                              go_meet
                              case rel => exact ⟨_, (false), zs, H', ⟨by have := HJ12.out; have := HK2.out; have := HK3.out; first | omega | exact Nat.le_refl _⟩, ⟨zb HB.out⟩⟩
                            · rw [if_neg c101] at H
                              have c101b0 : (a3.toList == ([] : List UInt8)) = false := beq_eq_false_iff_ne.mpr c101
                              have c101b1 : (a3.toList != ([] : List UInt8)) = true := bne_iff_ne.mpr c101
                              (first | rw [c101b0] | (simp only [i64_w, i32_w]; rw [c101b0]) | skip)
                              have H' := Aside0.mk H
                              clear H
                              go_wp2
                              go_meet
                              case rel => exact ⟨_, (decide (t580 ≥ 0)), zs, H', ⟨by have := HJ12.out; have := HK2.out; have := HK3.out; first | omega | exact Nat.le_refl _⟩, ⟨zb HB.out⟩⟩
                          case rest =>
                            clear HC99
                            try clear c1
                            try clear c2
                            try clear p2
                            try clear c3
                            try clear c4
                            try clear p5
                            try clear q5
                            try clear hx5
                            try clear p6
                            try clear c7
                            try clear c8
                            try clear p8
                            try clear q8
                            try clear hx8
                            try clear c9
                            try clear p9
                            try clear q9
                            try clear hx9
                            try clear c10
                            try clear c11
                            try clear c17
                            try clear c18
                            try clear c19
                            try clear c20
                            try clear c23
                            try clear c23b0
                            try clear c23b1
                            try clear c24
                            try clear c24b0
                            try clear c24b1
                            try clear c25
                            try clear c25b0
                            try clear c25b1
                            try clear c26
                            try clear c27
                            try clear c28
                            try clear c28b0
                            try clear c29
                            try clear c29b0
                            try clear c33
                            try clear c33b0
                            try clear c33b1
                            try clear c35
                            try clear c35b0
                            try clear c35b1
                            try clear c37
                            try clear c37b0
                            try clear c37b1
                            try clear c39
                            try clear c39b0
                            try clear c39b1
                            try clear c41
                            try clear c41b0
                            try clear c42
                            try clear c42b0
                            try clear c45
                            try clear c45b0
                            try clear c45b1
                            try clear c46
                            try clear c46b0
                            try clear c46b1
                            try clear c47
                            try clear c47b0
                            try clear c47b1
                            try clear c47b2
                            try clear p56
                            try clear q56
                            try clear hx56
                            try clear p64
                            try clear c84
                            try clear c84b0
                            try clear c85
                            try clear c85b0
                            try clear p86
                            try clear q86
                            try clear hx86
                            try clear c87
                            try clear c87b0
                            try clear c87b1
                            try clear p90
                            try clear q90
                            try clear hx90
                            try clear c91
                            try clear c91b0
                            try clear c91b1
                            try clear p94
                            try clear q94
                            try clear hx94
                            try clear c95
                            try clear c95b0
                            try clear c95b1
                            try clear c101
                            try clear c101b0
                            try clear c101b1
                            try clear hcz32_0
                            try clear hcz32_1
                            try clear hcz32_2
                            try clear hcz34_0
                            try clear hcz34_1
                            try clear hcz34_2
                            try clear hcz36_0
                            try clear hcz36_1
                            try clear hcz36_2
                            try clear hcz38_0
                            try clear hcz38_1
                            try clear hcz38_2
                            try clear hcz40_0
                            try clear hcz40_1
                            try clear hcz40_2
                            try clear hcz52_0
                            try clear hcz52_1
                            try clear hcz52_2
                            try clear hcz61_0
                            try clear hcz61_1
                            try clear hcz61_2
                            try clear hcz70_0
                            try clear hcz70_1
                            try clear hcz70_2
                            try clear hcz79_0
                            try clear hcz79_1
                            try clear hcz79_2
                            try clear hfz32_0
                            try clear hfz32_1
                            try clear hfz32_2
                            try clear hfz34_0
                            try clear hfz34_1
                            try clear hfz34_2
                            try clear hfz36_0
                            try clear hfz36_1
                            try clear hfz36_2
                            try clear hfz38_0
                            try clear hfz38_1
                            try clear hfz38_2
                            try clear hfz40_0
                            try clear hfz40_1
                            try clear hfz40_2
                            try clear hfz52_0
                            try clear hfz52_1
                            try clear hfz52_2
                            try clear hfz61_0
                            try clear hfz61_1
                            try clear hfz61_2
                            try clear hfz70_0
                            try clear hfz70_1
                            try clear hfz70_2
                            try clear hfz79_0
                            try clear hfz79_1
                            try clear hfz79_2
                            try clear hx564_0
                            try clear hx564_1
                            try clear hx564_2
                            try clear hx566_0
                            try clear hx566_1
                            try clear hx566_2
                            try clear p2
                            try clear p5
                            try clear p56
                            try clear p564
                            try clear p566
                            try clear p6
                            try clear p64
                            try clear p86
                            try clear p90
                            try clear p94
                            try clear q5
                            try clear q56
                            try clear q564
                            try clear q566
                            try clear q86
                            try clear q90
                            try clear q94
                            obtain ⟨kq, x153_98, rfl, HA, HJ98, HB⟩ := hcut
                            cases kq with
                            | zero => exact absurd HA.out (by simp [abacuslaw12_LabelsWants.j4])
                            | succ kj98 =>
                              have H := HA.out
                              clear HA
                              simp only [abacuslaw12_LabelsWants.j4] at H
                              by_cases c102 : x153_98 = true
                              · subst c102
                                have H1 : ((labels_Says.f kj98 a3 a3).bind fun t581 => (if t581 = true then (some false) else ((labels_Says.f kj98 (⟨#[42]⟩ : ByteArray) a4).bind fun t582 => (some t582)))) = some true := by rw [if_pos rfl] at H; exact H
                                clear H
                                have H := H1
                                clear H1
                                replace H := Option.bind_eq_some_iff.mp H
                                obtain ⟨t581, A1030, H⟩ := H
                                replace H : (if t581 = true then (some false) else ((labels_Says.f kj98 (⟨#[42]⟩ : ByteArray) a4).bind fun t582 => (some t582))) = some true := H
                                have A103 := Aside0.mk A1030
                                clear A1030
                                by_cases c104 : t581 = true
                                · subst c104
                                  have H1 : (some false) = some true := by rw [if_pos rfl] at H; exact H
                                  clear H
                                  have H := H1
                                  clear H1
                                  cases Option.some.inj H
                                · replace c104 := Bool.eq_false_iff.mpr c104
                                  subst c104
                                  have H1 : ((labels_Says.f kj98 (⟨#[42]⟩ : ByteArray) a4).bind fun t582 => (some t582)) = some true := by rw [if_neg (show ¬ (false = true) by decide)] at H; exact H
                                  clear H
                                  have H := H1
                                  clear H1
                                  replace H := Option.bind_eq_some_iff.mp H
                                  obtain ⟨t582, A1060, H⟩ := H
                                  replace H : (some t582) = some true := H
                                  have A106 := Aside0.mk A1060
                                  clear A1060
                                  have hr_ := Option.some.inj H
                                  go_wp2_with (first | ((with_reducible refine gate_callee (f := 19) rfl ?_); refine goesL_ (some 156) rfl rfl Tryd.func19 (by kernel_rfl) rfl #[.string a3, .string a3] rfl zl ?_; (with_reducible refine (labels_Says.calls kj98 a3 a3 false _ ?side1 A103.out).mono ?_); (case side1 => first | (with_reducible exact HG.out) | (with_reducible exact G.drewN HG.out _) | exact G.below HG.out (zb HB.out)); rintro e w107 ⟨rfl, hb⟩; refine ⟨_, rfl, ?_⟩; have n0_ := Aside0.mk (below_step (zb HB.out) hb); clear HB; have HB := n0_; clear n0_; (try clear hb); (try clear hb2); (try clear hk); (try clear hi)) | (go_at_call 19; (with_reducible refine (labels_Says.calls kj98 (⟨#[42]⟩ : ByteArray) a4 t582 _ ?side1 A106.out).mono ?_); (case side1 => first | (with_reducible exact HG.out) | (with_reducible exact G.drewN HG.out _) | exact G.below HG.out (zb HB.out)); rintro e w108 ⟨rfl, hb⟩; have n0_ := Aside0.mk (below_step (zb HB.out) hb); clear HB; have HB := n0_; clear n0_; (try clear hb); (try clear hb2); (try clear hk); (try clear hi)))
                                  go_ret
                                  exact ⟨ze, zb HB.out⟩
                              · replace c102 := Bool.eq_false_iff.mpr c102
                                subst c102
                                have H1 : ((labels_Says.f kj98 a3 a3).bind fun t583 => (if t583 = true then ((labels_Says.f kj98 a3 a4).bind fun t584 => (if (t584 == (a3.toList == a4.toList)) = true then ((labels_Says.f kj98 (⟨#[42]⟩ : ByteArray) a4).bind fun t585 => (some t585)) else (some false))) else (some false))) = some true := by rw [if_neg (show ¬ (false = true) by decide)] at H; exact H
                                clear H
                                have H := H1
                                clear H1
                                replace H := Option.bind_eq_some_iff.mp H
                                obtain ⟨t583, A1090, H⟩ := H
                                replace H : (if t583 = true then ((labels_Says.f kj98 a3 a4).bind fun t584 => (if (t584 == (a3.toList == a4.toList)) = true then ((labels_Says.f kj98 (⟨#[42]⟩ : ByteArray) a4).bind fun t585 => (some t585)) else (some false))) else (some false)) = some true := H
                                have A109 := Aside0.mk A1090
                                clear A1090
                                by_cases c110 : t583 = true
                                · subst c110
                                  have H1 : ((labels_Says.f kj98 a3 a4).bind fun t584 => (if (t584 == (a3.toList == a4.toList)) = true then ((labels_Says.f kj98 (⟨#[42]⟩ : ByteArray) a4).bind fun t585 => (some t585)) else (some false))) = some true := by rw [if_pos rfl] at H; exact H
                                  clear H
                                  have H := H1
                                  clear H1
                                  replace H := Option.bind_eq_some_iff.mp H
                                  obtain ⟨t584, A1110, H⟩ := H
                                  replace H : (if (t584 == (a3.toList == a4.toList)) = true then ((labels_Says.f kj98 (⟨#[42]⟩ : ByteArray) a4).bind fun t585 => (some t585)) else (some false)) = some true := H
                                  have A111 := Aside0.mk A1110
                                  clear A1110
                                  by_cases c112 : (t584 == (a3.toList == a4.toList)) = true
                                  · rw [if_pos c112] at H
                                    have c112b0 : (t584 == (a3.toList == a4.toList)) = true := c112
                                    (try (have c112b1 : decide (t584 = (a3.toList == a4.toList)) = true := by simpa using c112))
                                    (try (have c112b2 : (t584 == (a3.toList == a4.toList)) = true := by simpa using c112))
                                    clear c112
                                    replace H := Option.bind_eq_some_iff.mp H
                                    obtain ⟨t585, A1130, H⟩ := H
                                    replace H : (some t585) = some true := H
                                    have A113 := Aside0.mk A1130
                                    clear A1130
                                    have hr_ := Option.some.inj H
                                    go_wp2_with (first | ((with_reducible refine gate_callee (f := 19) rfl ?_); refine goesL_ (some 164) rfl rfl Tryd.func19 (by kernel_rfl) rfl #[.string a3, .string a3] rfl zl ?_; (with_reducible refine (labels_Says.calls kj98 a3 a3 true _ ?side1 A109.out).mono ?_); (case side1 => first | (with_reducible exact HG.out) | (with_reducible exact G.drewN HG.out _) | exact G.below HG.out (zb HB.out)); rintro e w114 ⟨rfl, hb⟩; refine ⟨_, rfl, ?_⟩; have n0_ := Aside0.mk (below_step (zb HB.out) hb); clear HB; have HB := n0_; clear n0_; (try clear hb); (try clear hb2); (try clear hk); (try clear hi)) | (go_at_call 19; (with_reducible refine (labels_Says.calls kj98 a3 a4 t584 _ ?side1 A111.out).mono ?_); (case side1 => first | (with_reducible exact HG.out) | (with_reducible exact G.drewN HG.out _) | exact G.below HG.out (zb HB.out)); rintro e w115 ⟨rfl, hb⟩; have n0_ := Aside0.mk (below_step (zb HB.out) hb); clear HB; have HB := n0_; clear n0_; (try clear hb); (try clear hb2); (try clear hk); (try clear hi)) | (go_at_call 19; (with_reducible refine (labels_Says.calls kj98 (⟨#[42]⟩ : ByteArray) a4 t585 _ ?side1 A113.out).mono ?_); (case side1 => first | (with_reducible exact HG.out) | (with_reducible exact G.drewN HG.out _) | exact G.below HG.out (zb HB.out)); rintro e w116 ⟨rfl, hb⟩; have n0_ := Aside0.mk (below_step (zb HB.out) hb); clear HB; have HB := n0_; clear n0_; (try clear hb); (try clear hb2); (try clear hk); (try clear hi)))
                                    go_ret
                                    exact ⟨ze, zb HB.out⟩
                                  · rw [if_neg c112] at H
                                    have c112b0 : (t584 == (a3.toList == a4.toList)) = false := by simpa using c112
                                    (try (have c112b1 : decide (t584 = (a3.toList == a4.toList)) = false := by simpa using c112))
                                    (try (have c112b2 : (t584 == (a3.toList == a4.toList)) = false := by simpa using c112))
                                    (try (have c112b3 : ¬ (t584 = (a3.toList == a4.toList)) := by simpa using c112))
                                    clear c112
                                    cases Option.some.inj H
                                · replace c110 := Bool.eq_false_iff.mpr c110
                                  subst c110
                                  have H1 : (some false) = some true := by rw [if_neg (show ¬ (false = true) by decide)] at H; exact H
                                  clear H
                                  have H := H1
                                  clear H1
                                  cases Option.some.inj H
      · rw [if_neg c11] at H
        exact absurd H (by simp)
    · rw [if_neg c10] at H
      exact absurd H (by simp)
  · replace c7 := Bool.eq_false_iff.mpr c7
    subst c7
    have H1 : (some false) = some true := by rw [if_neg (show ¬ (false = true) by decide)] at H; exact H
    clear H
    have H := H1
    clear H1
    cases Option.some.inj H

end Go.Proofs.YtogegkfefpgbcaaDoor.PL
