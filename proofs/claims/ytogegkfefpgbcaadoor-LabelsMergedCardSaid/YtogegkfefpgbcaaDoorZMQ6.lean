/- Functions of the labels (packed). -/
import Derived.Test.YtogegkfefpgbcaaDoorZMPLx0
import Derived.Test.YtogegkfefpgbcaaDoorZMPLx1
import Derived.Test.YtogegkfefpgbcaaDoorZMPLx2
import Derived.Test.YtogegkfefpgbcaaDoorZMQ1
import Derived.Test.YtogegkfefpgbcaaDoorZMQ2
import Derived.Test.YtogegkfefpgbcaaDoorZMQ3
import Derived.Test.YtogegkfefpgbcaaDoorZMHB
import Derived.Test.YtogegkfefpgbcaaDoorZMHG0
import Derived.Test.YtogegkfefpgbcaaDoorZMPD
import Derived.Test.YtogegkfefpgbcaaDoorZMShelf
import Derived.Test.YtogegkfefpgbcaaDoorZMHA
import Derived.Test.YtogegkfefpgbcaaDoorZMHD
import Derived.Test.YtogegkfefpgbcaaDoorZMHI
import Derived.Test.YtogegkfefpgbcaaDoorZMLC
import Derived.Test.YtogegkfefpgbcaaDoorZMLB
import Derived.Test.YtogegkfefpgbcaaDoorZMLD
import Derived.Test.YtogegkfefpgbcaaDoorZMQ4
import Derived.Test.YtogegkfefpgbcaaDoorZMQ5
import Derived.Test.YtogegkfefpgbcaaDoorZMPA
import Derived.Test.YtogegkfefpgbcaaDoorZMPB
import Derived.Test.YtogegkfefpgbcaaDoorZMHG
import Derived.Test.YtogegkfefpgbcaaDoorZMHK
import Derived.Test.YtogegkfefpgbcaaDoorZMPC
import Derived.Test.YtogegkfefpgbcaaDoorZMHL
import Derived.Test.YtogegkfefpgbcaaDoorZMHM
import Derived.Test.YtogegkfefpgbcaaDoorZMHP
namespace Go.Proofs.YtogegkfefpgbcaaDoor.PL
open Go.RowKit Go.Proofs.YtogegkfefpgbcaaDoorW.PrintWords Go.Proofs.YtogegkfefpgbcaaDoorW.PrintLast Go.Proofs.YtogegkfefpgbcaaDoorW.PrintMore
attribute [local go_sem] max2_int min2_int max_two min_two max_three min_three max_four min_four   -- for this text's walks alone
set_option linter.unusedVariables false
set_option linter.unusedSimpArgs false
attribute [local go_sem high] eqA59
attribute [local go_sem high] eqA36

/-! ### abacuslaw12_begins: function 17 -/
def abacuslaw12_begins.f (k : Nat)  : Option (Bool) := (labels_Parse.f (⟨#[123, 98, 61, 34, 49, 34, 44, 97, 61, 34, 120, 34, 125]⟩ : ByteArray)).bind fun bt518 => ((labels_Print.f k bt518.1).bind fun bt523 => ((labels_Matches.f k bt518.1 (([(⟨3, (⟨#[97]⟩ : ByteArray), (⟨#[63]⟩ : ByteArray)⟩ : S36)] : List (S36)))).bind fun bt528 => (if bt518.2.1 = 0 then (if bt523.2 = 0 then (if bt523.1.toList = ([123, 97, 61, 34, 120, 34, 44, 98, 61, 34, 49, 34, 125] : List UInt8) then (if bt528.2 = 0 then (if bt528.1 = true then ((labels_Value.f (⟨#[97, 233]⟩ : ByteArray)).bind fun t530 => (if t530 = 1 then ((labels_Says.f k (⟨#[63, 63]⟩ : ByteArray) (⟨#[195, 169]⟩ : ByteArray)).bind fun t531 => (some (!t531))) else (some false))) else (some false)) else (some false)) else (some false)) else (some false)) else (some false))))
theorem abacuslaw12_begins.mono : ∀ k, LeO (abacuslaw12_begins.f k ) (abacuslaw12_begins.f (k + 1) ) := by
  intro  k
  unfold abacuslaw12_begins.f
  repeat' first
      | (with_reducible exact labels_Matches.mono _ _ _)
      | (with_reducible exact labels_Print.mono _ _)
      | (with_reducible exact labels_Says.mono _ _ _)
      | (with_reducible exact LeO.refl _)
      | (with_reducible exact LeO.none _)
      | (with_reducible refine LeO.ite ?_ ?_)
      | (with_reducible refine LeO.bind ?_ (fun _ => ?_))
      | exact labels_Matches.mono _ _ _
      | exact labels_Print.mono _ _
      | exact labels_Says.mono _ _ _
      | exact LeO.none _
      | refine LeO.ite ?_ ?_
      | refine LeO.bind ?_ (fun _ => ?_)
theorem abacuslaw12_begins_r (k : Nat) (r : Bool) (h : abacuslaw12_begins.f k = some r) : r = true := by
  have h0 : abacuslaw12_begins.f 100 = some true := by kernel_rfl
  have up : ∀ n j r, abacuslaw12_begins.f j = some r → abacuslaw12_begins.f (j + n) = some r := by
    intro n
    induction n with
    | zero => intro j r h; exact h
    | succ n ih => intro j r h; exact abacuslaw12_begins.mono (j + n) r (ih j r h)
  have a := up 100 k r h
  have b := up k 100 true h0
  rw [Nat.add_comm] at b
  exact Option.some.inj (a.symm.trans b)
set_option maxHeartbeats 8000000 in
set_option maxRecDepth 100000 in
theorem abacuslaw12_begins.calls (k : Nat)  (r : Bool) (w : World) (hG : G w) (h : abacuslaw12_begins.f k  = some r) :
    Calls Tryd.prog 17 #[] w fun e w' => e = .returned (.bool r) ∧ Below w.heap.size w w' := by
  obtain rfl := abacuslaw12_begins_r k r h
  have hu36 := Tryd.underlying36
  have HB := Aside0.mk (Below.refl w.heap.size w)
  have HG := Aside0.mk hG
  clear hG
  have H : ((labels_Parse.f (⟨#[123, 98, 61, 34, 49, 34, 44, 97, 61, 34, 120, 34, 125]⟩ : ByteArray)).bind fun bt518 => ((labels_Print.f k bt518.1).bind fun bt523 => ((labels_Matches.f k bt518.1 (([(⟨3, (⟨#[97]⟩ : ByteArray), (⟨#[63]⟩ : ByteArray)⟩ : S36)] : List (S36)))).bind fun bt528 => (if bt518.2.1 = 0 then (if bt523.2 = 0 then (if bt523.1.toList = ([123, 97, 61, 34, 120, 34, 44, 98, 61, 34, 49, 34, 125] : List UInt8) then (if bt528.2 = 0 then (if bt528.1 = true then ((labels_Value.f (⟨#[97, 233]⟩ : ByteArray)).bind fun t530 => (if t530 = 1 then ((labels_Says.f k (⟨#[63, 63]⟩ : ByteArray) (⟨#[195, 169]⟩ : ByteArray)).bind fun t531 => (some (!t531))) else (some false))) else (some false)) else (some false)) else (some false)) else (some false)) else (some false))))) = some true := h
  clear h
  replace H := Option.bind_eq_some_iff.mp H
  obtain ⟨⟨t518, t519, t520⟩, A10, H⟩ := H
  replace H : ((labels_Print.f k t518).bind fun bt523 => ((labels_Matches.f k t518 (([(⟨3, (⟨#[97]⟩ : ByteArray), (⟨#[63]⟩ : ByteArray)⟩ : S36)] : List (S36)))).bind fun bt528 => (if t519 = 0 then (if bt523.2 = 0 then (if bt523.1.toList = ([123, 97, 61, 34, 120, 34, 44, 98, 61, 34, 49, 34, 125] : List UInt8) then (if bt528.2 = 0 then (if bt528.1 = true then ((labels_Value.f (⟨#[97, 233]⟩ : ByteArray)).bind fun t530 => (if t530 = 1 then ((labels_Says.f k (⟨#[63, 63]⟩ : ByteArray) (⟨#[195, 169]⟩ : ByteArray)).bind fun t531 => (some (!t531))) else (some false))) else (some false)) else (some false)) else (some false)) else (some false)) else (some false)))) = some true := H
  have A1 := Aside0.mk A10
  clear A10
  replace H := Option.bind_eq_some_iff.mp H
  obtain ⟨⟨t523, t524⟩, A20, H⟩ := H
  replace H : ((labels_Matches.f k t518 (([(⟨3, (⟨#[97]⟩ : ByteArray), (⟨#[63]⟩ : ByteArray)⟩ : S36)] : List (S36)))).bind fun bt528 => (if t519 = 0 then (if t524 = 0 then (if t523.toList = ([123, 97, 61, 34, 120, 34, 44, 98, 61, 34, 49, 34, 125] : List UInt8) then (if bt528.2 = 0 then (if bt528.1 = true then ((labels_Value.f (⟨#[97, 233]⟩ : ByteArray)).bind fun t530 => (if t530 = 1 then ((labels_Says.f k (⟨#[63, 63]⟩ : ByteArray) (⟨#[195, 169]⟩ : ByteArray)).bind fun t531 => (some (!t531))) else (some false))) else (some false)) else (some false)) else (some false)) else (some false)) else (some false))) = some true := H
  have A2 := Aside0.mk A20
  clear A20
  obtain ⟨y525, hy525⟩ : ∃ y_ : List (S36), y_ = (([(⟨3, (⟨#[97]⟩ : ByteArray), (⟨#[63]⟩ : ByteArray)⟩ : S36)] : List (S36))) := ⟨_, rfl⟩
  replace H : ((labels_Matches.f k t518 y525).bind fun bt528 => (if t519 = 0 then (if t524 = 0 then (if t523.toList = ([123, 97, 61, 34, 120, 34, 44, 98, 61, 34, 49, 34, 125] : List UInt8) then (if bt528.2 = 0 then (if bt528.1 = true then ((labels_Value.f (⟨#[97, 233]⟩ : ByteArray)).bind fun t530 => (if t530 = 1 then ((labels_Says.f k (⟨#[63, 63]⟩ : ByteArray) (⟨#[195, 169]⟩ : ByteArray)).bind fun t531 => (some (!t531))) else (some false))) else (some false)) else (some false)) else (some false)) else (some false)) else (some false))) = some true := by first | (rw [hy525]; with_reducible exact H) | (have H2_ := (Option.bind_some _ _).symm.trans H; rw [hy525]; with_reducible exact H2_) | (have H2_ := (Option.bind_some _ _).symm.trans H; with_reducible exact H2_) | with_reducible exact H | (rw [hy525]; exact H) | exact H
  have Ny525 := Aside0.mk hy525
  clear hy525
  replace H := Option.bind_eq_some_iff.mp H
  obtain ⟨⟨t528, t529⟩, A30, H⟩ := H
  replace H : (if t519 = 0 then (if t524 = 0 then (if t523.toList = ([123, 97, 61, 34, 120, 34, 44, 98, 61, 34, 49, 34, 125] : List UInt8) then (if t529 = 0 then (if t528 = true then ((labels_Value.f (⟨#[97, 233]⟩ : ByteArray)).bind fun t530 => (if t530 = 1 then ((labels_Says.f k (⟨#[63, 63]⟩ : ByteArray) (⟨#[195, 169]⟩ : ByteArray)).bind fun t531 => (some (!t531))) else (some false))) else (some false)) else (some false)) else (some false)) else (some false)) else (some false)) = some true := H
  have A3 := Aside0.mk A30
  clear A30
  by_cases c4 : t519 = 0
  · rw [if_pos c4] at H
    have c4b0 : (t519 == 0) = true := beq_iff_eq.mpr c4
    have c4b1 : (t519 != 0) = false := bne_eq_false_iff_eq.mpr c4
    clear c4
    by_cases c5 : t524 = 0
    · rw [if_pos c5] at H
      have c5b0 : (t524 == 0) = true := beq_iff_eq.mpr c5
      have c5b1 : (t524 != 0) = false := bne_eq_false_iff_eq.mpr c5
      clear c5
      by_cases c6 : t523.toList = ([123, 97, 61, 34, 120, 34, 44, 98, 61, 34, 49, 34, 125] : List UInt8)
      · rw [if_pos c6] at H
        have c6b0 : (t523.toList == ([123, 97, 61, 34, 120, 34, 44, 98, 61, 34, 49, 34, 125] : List UInt8)) = true := beq_iff_eq.mpr c6
        have c6b1 : (t523.toList != ([123, 97, 61, 34, 120, 34, 44, 98, 61, 34, 49, 34, 125] : List UInt8)) = false := bne_eq_false_iff_eq.mpr c6
        clear c6
        by_cases c7 : t529 = 0
        · rw [if_pos c7] at H
          have c7b0 : (t529 == 0) = true := beq_iff_eq.mpr c7
          have c7b1 : (t529 != 0) = false := bne_eq_false_iff_eq.mpr c7
          clear c7
          by_cases c8 : t528 = true
          · subst c8
            have H1 : ((labels_Value.f (⟨#[97, 233]⟩ : ByteArray)).bind fun t530 => (if t530 = 1 then ((labels_Says.f k (⟨#[63, 63]⟩ : ByteArray) (⟨#[195, 169]⟩ : ByteArray)).bind fun t531 => (some (!t531))) else (some false))) = some true := by rw [if_pos rfl] at H; exact H
            clear H
            have H := H1
            clear H1
            replace H := Option.bind_eq_some_iff.mp H
            obtain ⟨t530, A90, H⟩ := H
            replace H : (if t530 = 1 then ((labels_Says.f k (⟨#[63, 63]⟩ : ByteArray) (⟨#[195, 169]⟩ : ByteArray)).bind fun t531 => (some (!t531))) else (some false)) = some true := H
            have A9 := Aside0.mk A90
            clear A90
            by_cases c10 : t530 = 1
            · rw [if_pos c10] at H
              have c10b0 : (t530 == 1) = true := beq_iff_eq.mpr c10
              have c10b1 : (t530 != 1) = false := bne_eq_false_iff_eq.mpr c10
              clear c10
              replace H := Option.bind_eq_some_iff.mp H
              obtain ⟨t531, A110, H⟩ := H
              replace H : (some (!t531)) = some true := H
              have A11 := Aside0.mk A110
              clear A110
              have hr_ := Option.some.inj H
              go_enter Tryd.func17, Tryd.ntmps17
              go_wp2_with (first | ((with_reducible refine gate_callee (f := 14) rfl ?_); refine goesL_ (some 9) rfl rfl Tryd.func14 (by kernel_rfl) rfl #[.string (⟨#[123, 98, 61, 34, 49, 34, 44, 97, 61, 34, 120, 34, 125]⟩ : ByteArray)] rfl zl ?_; (with_reducible refine (labels_Parse.calls (⟨#[123, 98, 61, 34, 49, 34, 44, 97, 61, 34, 120, 34, 125]⟩ : ByteArray) t518 t519 t520 _ ?side1 A1.out).mono ?_); (case side1 => first | (with_reducible exact HG.out) | (with_reducible exact G.drewN HG.out _) | exact G.below HG.out (zb HB.out)); rintro e w12 ⟨v521, rfl, ho0, hb⟩; refine ⟨_, rfl, ?_⟩; have n0_ := Aside0.mk (Kd.R_lower ho0 (below_size (zb HB.out))); have n1_ := Aside0.mk (below_step (zb HB.out) hb); clear HB; have HO522 := n0_; have HB := n1_; clear n0_ n1_; (try clear hb); (try clear hb2); (try clear hk); (try clear hi); (try clear ho0); obtain ⟨Ao13, co13, eo13⟩ := Kd.R_slice HO522.out; subst eo13) | ((with_reducible refine gate_callee (f := 12) rfl ?_); refine goesL_ (some 15) rfl rfl Tryd.func12 (by kernel_rfl) rfl #[.slice Ao13 t518.length co13] rfl zl ?_; (with_reducible refine (labels_Print.calls k _ _ t518 t523 t524 _ ?side1 ?side2 ?side3 A2.out).mono ?_); (case side1 => exact zc (Kd.R_reads' HO522.out).2.2); (case side2 => exact (Kd.R_reads' HO522.out).2.1); (case side3 => first | (with_reducible exact HG.out) | (with_reducible exact G.drewN HG.out _) | exact G.below HG.out (zb HB.out)); rintro e w14 ⟨rfl, hb⟩; refine ⟨_, rfl, ?_⟩; have n0_ := Aside0.mk (Kd.R_below (zr HO522.out) hb); have n1_ := Aside0.mk (below_step (zb HB.out) hb); clear HO522; clear HB; have HO522 := n0_; have HB := n1_; clear n0_ n1_; (try clear hb); (try clear hb2); (try clear hk); (try clear hi)) | ((with_reducible refine gate_dst (N := 21) rfl ?_); refine Kd.R_lit k36 _ 36 ?hg (N := 21) ?hd (xs := ([(⟨3, (⟨#[97]⟩ : ByteArray), (⟨#[63]⟩ : ByteArray)⟩ : S36)] : List (S36))) (inner := [.int .u8 3, .string (⟨#[97]⟩ : ByteArray), .string (⟨#[63]⟩ : ByteArray)]) (ok := fun _ => True) (okp := fun _ => True) ?hr ?hp (fun _ hk => hk) trivial (Below.refl _ _) (Nat.le_refl _) (by simp) ?_; (case hd => rfl); (case hg => rfl); (case hr => first | (go_simp; done) | (go_simp; rfl)); (case hp => exact (Reps.c3 (show Kd.M k36 _ _ _ (⟨3, (⟨#[97]⟩ : ByteArray), (⟨#[63]⟩ : ByteArray)⟩ : S36) [.int .u8 3, .string (⟨#[97]⟩ : ByteArray), .string (⟨#[63]⟩ : ByteArray)] from (k36_mkM _ _ _ (⟨3, (⟨#[97]⟩ : ByteArray), (⟨#[63]⟩ : ByteArray)⟩ : S36) )) (Reps.none _ _))); intro v526 w15 ho16 hb hg_ hnew_; clear hg_ hnew_; (first | rw [← Ny525.out] at ho16 | (simp only [Int.reduceToNat] at ho16; rw [← Ny525.out] at ho16)); have n0_ := Aside0.mk (Kd.R_below (zr HO522.out) hb); have n1_ := Aside0.mk (Kd.R_lower ho16 (below_size (zb HB.out))); have n2_ := Aside0.mk (below_step (zb HB.out) hb); clear HO522; clear HB; have HO522 := n0_; have HO527 := n1_; have HB := n2_; clear n0_ n1_ n2_; clear hb ho16; obtain ⟨Ao17, co17, eo17⟩ := Kd.R_slice HO527.out; subst eo17) | ((with_reducible refine gate_callee (f := 18) rfl ?_); refine goesL_ (some 22) rfl rfl Tryd.func18 (by kernel_rfl) rfl #[.slice Ao13 t518.length co13, .slice Ao17 y525.length co17] rfl zl ?_; (with_reducible refine (labels_Matches.calls k _ _ t518 _ _ y525 true t529 _ ?side1 ?side2 ?side3 ?side4 ?side5 A3.out).mono ?_); (case side1 => exact zc (Kd.R_reads' HO522.out).2.2); (case side2 => exact (Kd.R_reads' HO522.out).2.1); (case side3 => exact zc (Kd.R_reads' HO527.out).2.2); (case side4 => exact (Kd.R_reads' HO527.out).2.1); (case side5 => first | (with_reducible exact HG.out) | (with_reducible exact G.drewN HG.out _) | exact G.below HG.out (zb HB.out)); rintro e w18 ⟨rfl, hb⟩; refine ⟨_, rfl, ?_⟩; have n0_ := Aside0.mk (Kd.R_below (zr HO522.out) hb); have n1_ := Aside0.mk (Kd.R_below (zr HO527.out) hb); have n2_ := Aside0.mk (below_step (zb HB.out) hb); clear HO522; clear HO527; clear HB; have HO522 := n0_; have HO527 := n1_; have HB := n2_; clear n0_ n1_ n2_; (try clear hb); (try clear hb2); (try clear hk); (try clear hi)) | (go_at_call 20; (with_reducible refine (labels_Value.calls (⟨#[97, 233]⟩ : ByteArray) t530 _ ?side1 A9.out).mono ?_); (case side1 => first | (with_reducible exact HG.out) | (with_reducible exact G.drewN HG.out _) | exact G.below HG.out (zb HB.out)); rintro e w19 ⟨rfl, hb⟩; have n0_ := Aside0.mk (Kd.R_below (zr HO522.out) hb); have n1_ := Aside0.mk (Kd.R_below (zr HO527.out) hb); have n2_ := Aside0.mk (below_step (zb HB.out) hb); clear HO522; clear HO527; clear HB; have HO522 := n0_; have HO527 := n1_; have HB := n2_; clear n0_ n1_ n2_; (try clear hb); (try clear hb2); (try clear hk); (try clear hi)) | (go_at_call 19; (with_reducible refine (labels_Says.calls k (⟨#[63, 63]⟩ : ByteArray) (⟨#[195, 169]⟩ : ByteArray) t531 _ ?side1 A11.out).mono ?_); (case side1 => first | (with_reducible exact HG.out) | (with_reducible exact G.drewN HG.out _) | exact G.below HG.out (zb HB.out)); rintro e w20 ⟨rfl, hb⟩; have n0_ := Aside0.mk (Kd.R_below (zr HO522.out) hb); have n1_ := Aside0.mk (Kd.R_below (zr HO527.out) hb); have n2_ := Aside0.mk (below_step (zb HB.out) hb); clear HO522; clear HO527; clear HB; have HO522 := n0_; have HO527 := n1_; have HB := n2_; clear n0_ n1_ n2_; (try clear hb); (try clear hb2); (try clear hk); (try clear hi)))
              go_ret
              exact ⟨ze, zb HB.out⟩
            · rw [if_neg c10] at H
              have c10b0 : (t530 == 1) = false := beq_eq_false_iff_ne.mpr c10
              have c10b1 : (t530 != 1) = true := bne_iff_ne.mpr c10
              cases Option.some.inj H
          · replace c8 := Bool.eq_false_iff.mpr c8
            subst c8
            have H1 : (some false) = some true := by rw [if_neg (show ¬ (false = true) by decide)] at H; exact H
            clear H
            have H := H1
            clear H1
            cases Option.some.inj H
        · rw [if_neg c7] at H
          have c7b0 : (t529 == 0) = false := beq_eq_false_iff_ne.mpr c7
          have c7b1 : (t529 != 0) = true := bne_iff_ne.mpr c7
          cases Option.some.inj H
      · rw [if_neg c6] at H
        have c6b0 : (t523.toList == ([123, 97, 61, 34, 120, 34, 44, 98, 61, 34, 49, 34, 125] : List UInt8)) = false := beq_eq_false_iff_ne.mpr c6
        have c6b1 : (t523.toList != ([123, 97, 61, 34, 120, 34, 44, 98, 61, 34, 49, 34, 125] : List UInt8)) = true := bne_iff_ne.mpr c6
        cases Option.some.inj H
    · rw [if_neg c5] at H
      have c5b0 : (t524 == 0) = false := beq_eq_false_iff_ne.mpr c5
      have c5b1 : (t524 != 0) = true := bne_iff_ne.mpr c5
      cases Option.some.inj H
  · rw [if_neg c4] at H
    have c4b0 : (t519 == 0) = false := beq_eq_false_iff_ne.mpr c4
    have c4b1 : (t519 != 0) = true := bne_iff_ne.mpr c4
    cases Option.some.inj H

/-! ### abacuslaw12_LabelsMerged: function 9 -/
mutual
def abacuslaw12_LabelsMerged.j0 : Nat → List (S59) → List (S59) → List (S59) → List ByteArray → Bool → Option (Bool)
  | 0, _, _, _, _, _ => none
  | k + 1, x0, x1, x2, x3, x35 => if x35 = true then (some true) else ((labels_Merge.f k x0 x1).bind fun bt828 => ((labels_Merge.f k x1 x2).bind fun bt832 => (if bt828.2 = 0 then (abacuslaw12_LabelsMerged.j1 k x0 x2 x3 bt828.1 bt832.1 (bt832.2 == 0)) else (abacuslaw12_LabelsMerged.j1 k x0 x2 x3 bt828.1 bt832.1 false))))
def abacuslaw12_LabelsMerged.j1 : Nat → List (S59) → List (S59) → List ByteArray → List (S59) → List (S59) → Bool → Option (Bool)
  | 0, _, _, _, _, _, _ => none
  | k + 1, x0, x2, x3, x9, x11, x53 => if x53 = true then ((labels_Merge.f k x9 x2).bind fun bt836 => ((labels_Merge.f k x0 x11).bind fun bt840 => (if bt836.2 = bt840.2 then ((abacusref12_Same.f k bt836.1 bt840.1).bind fun t844 => (if t844 = true then (if bt836.2 = 0 then ((labels_Right.f k bt836.1).bind fun t845 => (if t845 = true then (abacuslaw12_LabelsMerged.j2 k x0 x3) else (some false))) else (abacuslaw12_LabelsMerged.j2 k x0 x3)) else (some false))) else (some false)))) else (abacuslaw12_LabelsMerged.j2 k x0 x3)
def abacuslaw12_LabelsMerged.j2 : Nat → List (S59) → List ByteArray → Option (Bool)
  | 0, _, _ => none
  | k + 1, x0, x3 => (labels_Merge.f k x0 x0).bind fun bt846 => ((labels_Keep.f k x0 x3).bind fun t850 => ((labels_Without.f k x0 x3).bind fun t853 => ((labels_Merge.f k t850 t853).bind fun bt856 => (if bt846.2 = 0 then ((abacusref12_Same.f k bt846.1 x0).bind fun t860 => (if t860 = true then (if bt856.2 = 0 then ((abacusref12_Same.f k bt856.1 x0).bind fun t861 => (if t861 = true then (some ((wrap64 ((t850.length : Int) + (t853.length : Int))) == (x0.length : Int))) else (some false))) else (some false)) else (some false))) else (some false)))))
end
def abacuslaw12_LabelsMerged.f (k : Nat) (l0 : List (S59)) (l1 : List (S59)) (l2 : List (S59)) (l3 : List ByteArray) : Option (Bool) := (abacuslaw12_begins.f k).bind fun t824 => (if t824 = true then ((labels_Right.f k l0).bind fun t825 => (if t825 = true then ((labels_Right.f k l1).bind fun t826 => (if t826 = true then ((labels_Right.f k l2).bind fun t827 => (abacuslaw12_LabelsMerged.j0 k l0 l1 l2 l3 (!t827))) else (abacuslaw12_LabelsMerged.j0 k l0 l1 l2 l3 true))) else (abacuslaw12_LabelsMerged.j0 k l0 l1 l2 l3 true))) else (some false))
set_option maxHeartbeats 8000000 in
set_option maxRecDepth 100000 in
theorem abacuslaw12_LabelsMerged.calls (k : Nat) (A0 : Option Addr) (c0 : Nat) (l0 : List (S59)) (A1 : Option Addr) (c1 : Nat) (l1 : List (S59)) (A2 : Option Addr) (c2 : Nat) (l2 : List (S59)) (A3 : Option Addr) (c3 : Nat) (l3 : List ByteArray) (w : World) (hr0 : Kd.C k59 w A0 l0.length l0) (hc0 : l0.length ≤ c0) (hr1 : Kd.C k59 w A1 l1.length l1) (hc1 : l1.length ≤ c1) (hr2 : Kd.C k59 w A2 l2.length l2) (hc2 : l2.length ≤ c2) (hr3 : Kd.C Kd.string w A3 l3.length l3) (hc3 : l3.length ≤ c3) (hG : G w) (h : abacuslaw12_LabelsMerged.f k l0 l1 l2 l3 = some true) :
    Calls Tryd.prog 9 #[.slice A0 l0.length c0, .slice A1 l1.length c1, .slice A2 l2.length c2, .slice A3 l3.length c3] w fun e w' => e = .returned (.bool true) ∧ Below w.heap.size w w' := by
  have HR0 := Aside0.mk hr0
  have HC0 := Aside0.mk hc0
  clear hr0 hc0
  have HR1 := Aside0.mk hr1
  have HC1 := Aside0.mk hc1
  clear hr1 hc1
  have HR2 := Aside0.mk hr2
  have HC2 := Aside0.mk hc2
  clear hr2 hc2
  have HR3 := Aside0.mk hr3
  have HC3 := Aside0.mk hc3
  clear hr3 hc3
  have HB := Aside0.mk (Below.refl w.heap.size w)
  have HG := Aside0.mk hG
  clear hG
  have H : ((abacuslaw12_begins.f k).bind fun t824 => (if t824 = true then ((labels_Right.f k l0).bind fun t825 => (if t825 = true then ((labels_Right.f k l1).bind fun t826 => (if t826 = true then ((labels_Right.f k l2).bind fun t827 => (abacuslaw12_LabelsMerged.j0 k l0 l1 l2 l3 (!t827))) else (abacuslaw12_LabelsMerged.j0 k l0 l1 l2 l3 true))) else (abacuslaw12_LabelsMerged.j0 k l0 l1 l2 l3 true))) else (some false))) = some true := h
  clear h
  replace H := Option.bind_eq_some_iff.mp H
  obtain ⟨t824, A50, H⟩ := H
  replace H : (if t824 = true then ((labels_Right.f k l0).bind fun t825 => (if t825 = true then ((labels_Right.f k l1).bind fun t826 => (if t826 = true then ((labels_Right.f k l2).bind fun t827 => (abacuslaw12_LabelsMerged.j0 k l0 l1 l2 l3 (!t827))) else (abacuslaw12_LabelsMerged.j0 k l0 l1 l2 l3 true))) else (abacuslaw12_LabelsMerged.j0 k l0 l1 l2 l3 true))) else (some false)) = some true := H
  have A5 := Aside0.mk A50
  clear A50
  by_cases c6 : t824 = true
  · subst c6
    have H1 : ((labels_Right.f k l0).bind fun t825 => (if t825 = true then ((labels_Right.f k l1).bind fun t826 => (if t826 = true then ((labels_Right.f k l2).bind fun t827 => (abacuslaw12_LabelsMerged.j0 k l0 l1 l2 l3 (!t827))) else (abacuslaw12_LabelsMerged.j0 k l0 l1 l2 l3 true))) else (abacuslaw12_LabelsMerged.j0 k l0 l1 l2 l3 true))) = some true := by rw [if_pos rfl] at H; exact H
    clear H
    have H := H1
    clear H1
    have HC7 := Aside0.mk H
    clear H
    go_enter Tryd.func9, Tryd.ntmps9
    go_upto_region 3 with (first | ((with_reducible refine gate_callee (f := 17) rfl ?_); refine goesL_ (some 21) rfl rfl Tryd.func17 (by kernel_rfl) rfl #[] rfl zl ?_; (with_reducible refine (abacuslaw12_begins.calls k  true _ ?side1 A5.out).mono ?_); (case side1 => first | (with_reducible exact HG.out) | (with_reducible exact G.drewN HG.out _) | exact G.below HG.out (zb HB.out)); rintro e w8 ⟨rfl, hb⟩; refine ⟨_, rfl, ?_⟩; have n0_ := Aside0.mk (below_step (zb HB.out) hb); clear HB; have HB := n0_; clear n0_; (try clear hb); (try clear hb2); (try clear hk); (try clear hi)))
    (try simp only [Act.put, List.setIfInBounds_toArray, List.set_cons_zero, List.set_cons_succ])
    go_cut [35] (fun v35 wc => ∃ (kq : Nat) (x35_6 : Bool), v35 = .bool x35_6 ∧ Aside0 (abacuslaw12_LabelsMerged.j0 kq l0 l1 l2 l3 x35_6 = some true) ∧ Aside0 (kq ≤ k) ∧ Aside0 (Below w.heap.size w wc))
    case first =>
      have H := HC7.out
      clear HC7
      replace H := Option.bind_eq_some_iff.mp H
      obtain ⟨t825, A90, H⟩ := H
      replace H : (if t825 = true then ((labels_Right.f k l1).bind fun t826 => (if t826 = true then ((labels_Right.f k l2).bind fun t827 => (abacuslaw12_LabelsMerged.j0 k l0 l1 l2 l3 (!t827))) else (abacuslaw12_LabelsMerged.j0 k l0 l1 l2 l3 true))) else (abacuslaw12_LabelsMerged.j0 k l0 l1 l2 l3 true)) = some true := H
      have A9 := Aside0.mk A90
      clear A90
      by_cases c10 : t825 = true
      · subst c10
        have H1 : ((labels_Right.f k l1).bind fun t826 => (if t826 = true then ((labels_Right.f k l2).bind fun t827 => (abacuslaw12_LabelsMerged.j0 k l0 l1 l2 l3 (!t827))) else (abacuslaw12_LabelsMerged.j0 k l0 l1 l2 l3 true))) = some true := by rw [if_pos rfl] at H; exact H
        clear H
        have H := H1
        clear H1
        replace H := Option.bind_eq_some_iff.mp H
        obtain ⟨t826, A110, H⟩ := H
        replace H : (if t826 = true then ((labels_Right.f k l2).bind fun t827 => (abacuslaw12_LabelsMerged.j0 k l0 l1 l2 l3 (!t827))) else (abacuslaw12_LabelsMerged.j0 k l0 l1 l2 l3 true)) = some true := H
        have A11 := Aside0.mk A110
        clear A110
        by_cases c12 : t826 = true
        · subst c12
          have H1 : ((labels_Right.f k l2).bind fun t827 => (abacuslaw12_LabelsMerged.j0 k l0 l1 l2 l3 (!t827))) = some true := by rw [if_pos rfl] at H; exact H
          clear H
          have H := H1
          clear H1
          replace H := Option.bind_eq_some_iff.mp H
          obtain ⟨t827, A130, H⟩ := H
          replace H : (abacuslaw12_LabelsMerged.j0 k l0 l1 l2 l3 (!t827)) = some true := H
          have A13 := Aside0.mk A130
          clear A130
          have H' := Aside0.mk H
          clear H
          go_wp2_with (first | ((with_reducible refine gate_callee (f := 28) rfl ?_); refine goesL_ (some 24) rfl rfl Tryd.func28 (by kernel_rfl) rfl #[.slice A0 l0.length c0] rfl zl ?_; (with_reducible refine (labels_Right.calls k _ _ l0 true _ ?side1 ?side2 ?side3 A9.out).mono ?_); (case side1 => exact zc (Kd.C_below HR0.out HB.out)); (case side2 => exact HC0.out); (case side3 => first | (with_reducible exact HG.out) | (with_reducible exact G.drewN HG.out _) | exact G.below HG.out (zb HB.out)); rintro e w14 ⟨rfl, hb⟩; refine ⟨_, rfl, ?_⟩; have n0_ := Aside0.mk (below_step (zb HB.out) hb); clear HB; have HB := n0_; clear n0_; (try clear hb); (try clear hb2); (try clear hk); (try clear hi)) | (go_at_call 28; (with_reducible refine (labels_Right.calls k _ _ l1 true _ ?side1 ?side2 ?side3 A11.out).mono ?_); (case side1 => exact zc (Kd.C_below HR1.out HB.out)); (case side2 => exact HC1.out); (case side3 => first | (with_reducible exact HG.out) | (with_reducible exact G.drewN HG.out _) | exact G.below HG.out (zb HB.out)); rintro e w15 ⟨rfl, hb⟩; have n0_ := Aside0.mk (below_step (zb HB.out) hb); clear HB; have HB := n0_; clear n0_; (try clear hb); (try clear hb2); (try clear hk); (try clear hi)) | (go_at_call 28; (with_reducible refine (labels_Right.calls k _ _ l2 t827 _ ?side1 ?side2 ?side3 A13.out).mono ?_); (case side1 => exact zc (Kd.C_below HR2.out HB.out)); (case side2 => exact HC2.out); (case side3 => first | (with_reducible exact HG.out) | (with_reducible exact G.drewN HG.out _) | exact G.below HG.out (zb HB.out)); rintro e w16 ⟨rfl, hb⟩; have n0_ := Aside0.mk (below_step (zb HB.out) hb); clear HB; have HB := n0_; clear n0_; (try clear hb); (try clear hb2); (try clear hk); (try clear hi)))
          go_meet
          case rel => exact ⟨_, (!t827), zs, H', ⟨by first | omega | exact Nat.le_refl _⟩, ⟨zb HB.out⟩⟩
        · replace c12 := Bool.eq_false_iff.mpr c12
          subst c12
          have H1 : (abacuslaw12_LabelsMerged.j0 k l0 l1 l2 l3 true) = some true := by rw [if_neg (show ¬ (false = true) by decide)] at H; exact H
          clear H
          have H := H1
          clear H1
          have H' := Aside0.mk H
          clear H
          go_wp2_with (first | ((with_reducible refine gate_callee (f := 28) rfl ?_); refine goesL_ (some 24) rfl rfl Tryd.func28 (by kernel_rfl) rfl #[.slice A0 l0.length c0] rfl zl ?_; (with_reducible refine (labels_Right.calls k _ _ l0 true _ ?side1 ?side2 ?side3 A9.out).mono ?_); (case side1 => exact zc (Kd.C_below HR0.out HB.out)); (case side2 => exact HC0.out); (case side3 => first | (with_reducible exact HG.out) | (with_reducible exact G.drewN HG.out _) | exact G.below HG.out (zb HB.out)); rintro e w17 ⟨rfl, hb⟩; refine ⟨_, rfl, ?_⟩; have n0_ := Aside0.mk (below_step (zb HB.out) hb); clear HB; have HB := n0_; clear n0_; (try clear hb); (try clear hb2); (try clear hk); (try clear hi)) | (go_at_call 28; (with_reducible refine (labels_Right.calls k _ _ l1 false _ ?side1 ?side2 ?side3 A11.out).mono ?_); (case side1 => exact zc (Kd.C_below HR1.out HB.out)); (case side2 => exact HC1.out); (case side3 => first | (with_reducible exact HG.out) | (with_reducible exact G.drewN HG.out _) | exact G.below HG.out (zb HB.out)); rintro e w18 ⟨rfl, hb⟩; have n0_ := Aside0.mk (below_step (zb HB.out) hb); clear HB; have HB := n0_; clear n0_; (try clear hb); (try clear hb2); (try clear hk); (try clear hi)))
          go_meet
          case rel => exact ⟨_, (true), zs, H', ⟨by first | omega | exact Nat.le_refl _⟩, ⟨zb HB.out⟩⟩
      · replace c10 := Bool.eq_false_iff.mpr c10
        subst c10
        have H1 : (abacuslaw12_LabelsMerged.j0 k l0 l1 l2 l3 true) = some true := by rw [if_neg (show ¬ (false = true) by decide)] at H; exact H
        clear H
        have H := H1
        clear H1
        have H' := Aside0.mk H
        clear H
        go_wp2_with (first | ((with_reducible refine gate_callee (f := 28) rfl ?_); refine goesL_ (some 24) rfl rfl Tryd.func28 (by kernel_rfl) rfl #[.slice A0 l0.length c0] rfl zl ?_; (with_reducible refine (labels_Right.calls k _ _ l0 false _ ?side1 ?side2 ?side3 A9.out).mono ?_); (case side1 => exact zc (Kd.C_below HR0.out HB.out)); (case side2 => exact HC0.out); (case side3 => first | (with_reducible exact HG.out) | (with_reducible exact G.drewN HG.out _) | exact G.below HG.out (zb HB.out)); rintro e w19 ⟨rfl, hb⟩; refine ⟨_, rfl, ?_⟩; have n0_ := Aside0.mk (below_step (zb HB.out) hb); clear HB; have HB := n0_; clear n0_; (try clear hb); (try clear hb2); (try clear hk); (try clear hi)))
        go_meet
        case rel => exact ⟨_, (true), zs, H', ⟨by first | omega | exact Nat.le_refl _⟩, ⟨zb HB.out⟩⟩
    case rest =>
      clear HC7
      try clear c1
      try clear c2
      try clear p2
      try clear c3
      try clear c6
      try clear c9
      try clear c10
      try clear c12
      try clear c17
      obtain ⟨kq, x35_6, rfl, HA, HJ6, HB⟩ := hcut
      cases kq with
      | zero => exact absurd HA.out (by simp [abacuslaw12_LabelsMerged.j0])
      | succ kj6 =>
        have H := HA.out
        clear HA
        simp only [abacuslaw12_LabelsMerged.j0] at H
        by_cases c20 : x35_6 = true
        · subst c20
          have H1 : (some true) = some true := rfl
          clear H
          have H := H1
          clear H1
          go_wp2
          go_ret
          exact ⟨ze, zb HB.out⟩
        · replace c20 := Bool.eq_false_iff.mpr c20
          subst c20
          have H1 : ((labels_Merge.f kj6 l0 l1).bind fun bt828 => ((labels_Merge.f kj6 l1 l2).bind fun bt832 => (if bt828.2 = 0 then (abacuslaw12_LabelsMerged.j1 kj6 l0 l2 l3 bt828.1 bt832.1 (bt832.2 == 0)) else (abacuslaw12_LabelsMerged.j1 kj6 l0 l2 l3 bt828.1 bt832.1 false)))) = some true := by rw [if_neg (show ¬ (false = true) by decide)] at H; exact H
          clear H
          have H := H1
          clear H1
          replace H := Option.bind_eq_some_iff.mp H
          obtain ⟨⟨t828, t829⟩, A210, H⟩ := H
          replace H : ((labels_Merge.f kj6 l1 l2).bind fun bt832 => (if t829 = 0 then (abacuslaw12_LabelsMerged.j1 kj6 l0 l2 l3 t828 bt832.1 (bt832.2 == 0)) else (abacuslaw12_LabelsMerged.j1 kj6 l0 l2 l3 t828 bt832.1 false))) = some true := H
          have A21 := Aside0.mk A210
          clear A210
          replace H := Option.bind_eq_some_iff.mp H
          obtain ⟨⟨t832, t833⟩, A220, H⟩ := H
          replace H : (if t829 = 0 then (abacuslaw12_LabelsMerged.j1 kj6 l0 l2 l3 t828 t832 (t833 == 0)) else (abacuslaw12_LabelsMerged.j1 kj6 l0 l2 l3 t828 t832 false)) = some true := H
          have A22 := Aside0.mk A220
          clear A220
          have HC23 := Aside0.mk H
          clear H
          go_upto_region 7 with (first | ((with_reducible refine gate_callee (f := 37) rfl ?_); refine goesL_ (some 39) rfl rfl Tryd.func37 (by kernel_rfl) rfl #[.slice A0 l0.length c0, .slice A1 l1.length c1] rfl zl ?_; (with_reducible refine (labels_Merge.calls kj6 _ _ l0 _ _ l1 t828 t829 _ ?side1 ?side2 ?side3 ?side4 ?side5 A21.out).mono ?_); (case side1 => exact zc (Kd.C_below HR0.out HB.out)); (case side2 => exact HC0.out); (case side3 => exact zc (Kd.C_below HR1.out HB.out)); (case side4 => exact HC1.out); (case side5 => first | (with_reducible exact HG.out) | (with_reducible exact G.drewN HG.out _) | exact G.below HG.out (zb HB.out)); rintro e w24 ⟨v830, rfl, ho0, hb⟩; refine ⟨_, rfl, ?_⟩; have n0_ := Aside0.mk (Kd.R_lower ho0 (below_size (zb HB.out))); have n1_ := Aside0.mk (below_step (zb HB.out) hb); clear HB; have HO831 := n0_; have HB := n1_; clear n0_ n1_; (try clear hb); (try clear hb2); (try clear hk); (try clear hi); (try clear ho0)) | ((with_reducible refine gate_callee (f := 37) rfl ?_); refine goesL_ (some 45) rfl rfl Tryd.func37 (by kernel_rfl) rfl #[.slice A1 l1.length c1, .slice A2 l2.length c2] rfl zl ?_; (with_reducible refine (labels_Merge.calls kj6 _ _ l1 _ _ l2 t832 t833 _ ?side1 ?side2 ?side3 ?side4 ?side5 A22.out).mono ?_); (case side1 => exact zc (Kd.C_below HR1.out HB.out)); (case side2 => exact HC1.out); (case side3 => exact zc (Kd.C_below HR2.out HB.out)); (case side4 => exact HC2.out); (case side5 => first | (with_reducible exact HG.out) | (with_reducible exact G.drewN HG.out _) | exact G.below HG.out (zb HB.out)); rintro e w25 ⟨v834, rfl, ho0, hb⟩; refine ⟨_, rfl, ?_⟩; have n0_ := Aside0.mk (Kd.R_elder' (zr HO831.out) (Kd.R_base ho0) hb); have n1_ := Aside0.mk (Kd.R_lower (Kd.R_new' ho0 (Kd.R_lt (zr HO831.out))) (below_size (zb HB.out))); have n2_ := Aside0.mk (below_step (zb HB.out) hb); clear HO831; clear HB; have HO831 := n0_; have HO835 := n1_; have HB := n2_; clear n0_ n1_ n2_; (try clear hb); (try clear hb2); (try clear hk); (try clear hi); (try clear ho0)))
          (try simp only [Act.put, List.setIfInBounds_toArray, List.set_cons_zero, List.set_cons_succ])
          go_cut [53] (fun v53 wc => ∃ (kq : Nat) (x53_22 : Bool), v53 = .bool x53_22 ∧ Aside0 (abacuslaw12_LabelsMerged.j1 kq l0 l2 l3 t828 t832 x53_22 = some true) ∧ Aside0 (kq ≤ kj6) ∧ Aside0 (Kd.R k59 59 wc w.heap.size (fun k_ => some k_ ≠ (v834 : Value).ownBlock) v830 t828) ∧ Aside0 (Kd.R k59 59 wc w.heap.size (fun k_ => some k_ ≠ (v830 : Value).ownBlock) v834 t832) ∧ Aside0 (Below w.heap.size w wc))
          case first =>
            have H := HC23.out
            clear HC23
            by_cases c26 : t829 = 0
            · rw [if_pos c26] at H
              have c26b0 : (t829 == 0) = true := beq_iff_eq.mpr c26
              have c26b1 : (t829 != 0) = false := bne_eq_false_iff_eq.mpr c26
              clear c26
              (first | rw [c26b0] | (simp only [i64_w, i32_w]; rw [c26b0]) | skip)
              have H' := Aside0.mk H
              clear H
              go_wp2
              go_meet
              case rel => exact ⟨_, ((t833 == 0)), zs, H', ⟨by have := HJ6.out; first | omega | exact Nat.le_refl _⟩, ⟨by (with_reducible repeat (first | apply Kd.R_alloc | apply Kd.R_drewN | apply Kd.R_drew)); exact Kd.R_mono HO831.out (fun _ hk => hk.2)⟩, ⟨by (with_reducible repeat (first | apply Kd.R_alloc | apply Kd.R_drewN | apply Kd.R_drew)); exact Kd.R_mono HO835.out (fun _ hk => hk.2)⟩, ⟨zb HB.out⟩⟩
            · rw [if_neg c26] at H
              have c26b0 : (t829 == 0) = false := beq_eq_false_iff_ne.mpr c26
              have c26b1 : (t829 != 0) = true := bne_iff_ne.mpr c26
              (first | rw [c26b0] | (simp only [i64_w, i32_w]; rw [c26b0]) | skip)
              have H' := Aside0.mk H
              clear H
              go_wp2
              go_meet
              case rel => exact ⟨_, (false), zs, H', ⟨by have := HJ6.out; first | omega | exact Nat.le_refl _⟩, ⟨by (with_reducible repeat (first | apply Kd.R_alloc | apply Kd.R_drewN | apply Kd.R_drew)); exact Kd.R_mono HO831.out (fun _ hk => hk.2)⟩, ⟨by (with_reducible repeat (first | apply Kd.R_alloc | apply Kd.R_drewN | apply Kd.R_drew)); exact Kd.R_mono HO835.out (fun _ hk => hk.2)⟩, ⟨zb HB.out⟩⟩
          case rest =>
            clear HC23
            try clear c1
            try clear c2
            try clear p2
            try clear c3
            try clear c6
            try clear c9
            try clear c10
            try clear c12
            try clear c17
            try clear c20
            try clear c26
            try clear c26b0
            try clear c26b1
            try clear p2
            obtain ⟨kq, x53_22, rfl, HA, HJ22, HO_9, HO_11, HB⟩ := hcut
            cases kq with
            | zero => exact absurd HA.out (by simp [abacuslaw12_LabelsMerged.j1])
            | succ kj22 =>
              have H := HA.out
              clear HA
              simp only [abacuslaw12_LabelsMerged.j1] at H
              have HC27 := Aside0.mk H
              clear H
              go_upto_if 53 with (fail)
              go_cut [] (fun wc => ∃ (kq : Nat), Aside0 (abacuslaw12_LabelsMerged.j2 kq l0 l3 = some true) ∧ Aside0 (kq ≤ kj22) ∧ Aside0 (Below w.heap.size w wc))
              case first =>
                have H := HC27.out
                clear HC27
                by_cases c28 : x53_22 = true
                · subst c28
                  have H1 : ((labels_Merge.f kj22 t828 l2).bind fun bt836 => ((labels_Merge.f kj22 l0 t832).bind fun bt840 => (if bt836.2 = bt840.2 then ((abacusref12_Same.f kj22 bt836.1 bt840.1).bind fun t844 => (if t844 = true then (if bt836.2 = 0 then ((labels_Right.f kj22 bt836.1).bind fun t845 => (if t845 = true then (abacuslaw12_LabelsMerged.j2 kj22 l0 l3) else (some false))) else (abacuslaw12_LabelsMerged.j2 kj22 l0 l3)) else (some false))) else (some false)))) = some true := by rw [if_pos rfl] at H; exact H
                  clear H
                  have H := H1
                  clear H1
                  replace H := Option.bind_eq_some_iff.mp H
                  obtain ⟨⟨t836, t837⟩, A290, H⟩ := H
                  replace H : ((labels_Merge.f kj22 l0 t832).bind fun bt840 => (if t837 = bt840.2 then ((abacusref12_Same.f kj22 t836 bt840.1).bind fun t844 => (if t844 = true then (if t837 = 0 then ((labels_Right.f kj22 t836).bind fun t845 => (if t845 = true then (abacuslaw12_LabelsMerged.j2 kj22 l0 l3) else (some false))) else (abacuslaw12_LabelsMerged.j2 kj22 l0 l3)) else (some false))) else (some false))) = some true := H
                  have A29 := Aside0.mk A290
                  clear A290
                  replace H := Option.bind_eq_some_iff.mp H
                  obtain ⟨⟨t840, t841⟩, A300, H⟩ := H
                  replace H : (if t837 = t841 then ((abacusref12_Same.f kj22 t836 t840).bind fun t844 => (if t844 = true then (if t837 = 0 then ((labels_Right.f kj22 t836).bind fun t845 => (if t845 = true then (abacuslaw12_LabelsMerged.j2 kj22 l0 l3) else (some false))) else (abacuslaw12_LabelsMerged.j2 kj22 l0 l3)) else (some false))) else (some false)) = some true := H
                  have A30 := Aside0.mk A300
                  clear A300
                  by_cases c31 : t837 = t841
                  · rw [if_pos c31] at H
                    have c31b0 : (t837 == t841) = true := beq_iff_eq.mpr c31
                    have c31b1 : (t837 != t841) = false := bne_eq_false_iff_eq.mpr c31
                    clear c31
                    (first | rw [c31b0] | (simp only [i64_w, i32_w]; rw [c31b0]) | skip)
                    replace H := Option.bind_eq_some_iff.mp H
                    obtain ⟨t844, A320, H⟩ := H
                    replace H : (if t844 = true then (if t837 = 0 then ((labels_Right.f kj22 t836).bind fun t845 => (if t845 = true then (abacuslaw12_LabelsMerged.j2 kj22 l0 l3) else (some false))) else (abacuslaw12_LabelsMerged.j2 kj22 l0 l3)) else (some false)) = some true := H
                    have A32 := Aside0.mk A320
                    clear A320
                    by_cases c33 : t844 = true
                    · subst c33
                      have H1 : (if t837 = 0 then ((labels_Right.f kj22 t836).bind fun t845 => (if t845 = true then (abacuslaw12_LabelsMerged.j2 kj22 l0 l3) else (some false))) else (abacuslaw12_LabelsMerged.j2 kj22 l0 l3)) = some true := by rw [if_pos rfl] at H; exact H
                      clear H
                      have H := H1
                      clear H1
                      by_cases c34 : t837 = 0
                      · rw [if_pos c34] at H
                        have c34b0 : (t837 == 0) = true := beq_iff_eq.mpr c34
                        have c34b1 : (t837 != 0) = false := bne_eq_false_iff_eq.mpr c34
                        clear c34
                        replace H := Option.bind_eq_some_iff.mp H
                        obtain ⟨t845, A350, H⟩ := H
                        replace H : (if t845 = true then (abacuslaw12_LabelsMerged.j2 kj22 l0 l3) else (some false)) = some true := H
                        have A35 := Aside0.mk A350
                        clear A350
                        by_cases c36 : t845 = true
                        · subst c36
                          have H1 : (abacuslaw12_LabelsMerged.j2 kj22 l0 l3) = some true := by rw [if_pos rfl] at H; exact H
                          clear H
                          have H := H1
                          clear H1
                          have H' := Aside0.mk H
                          clear H
                          obtain ⟨Ao37, co37, eo37⟩ := Kd.R_slice HO_9.out
                          subst eo37
                          go_wp2_with (first | ((with_reducible refine gate_callee (f := 37) rfl ?_); refine goesL_ (some 57) rfl rfl Tryd.func37 (by kernel_rfl) rfl #[.slice Ao37 t828.length co37, .slice A2 l2.length c2] rfl zl ?_; (with_reducible refine (labels_Merge.calls kj22 _ _ t828 _ _ l2 t836 t837 _ ?side1 ?side2 ?side3 ?side4 ?side5 A29.out).mono ?_); (case side1 => exact zc (Kd.R_reads' HO_9.out).2.2); (case side2 => exact (Kd.R_reads' HO_9.out).2.1); (case side3 => exact zc (Kd.C_below HR2.out HB.out)); (case side4 => exact HC2.out); (case side5 => first | (with_reducible exact HG.out) | (with_reducible exact G.drewN HG.out _) | exact G.below HG.out (zb HB.out)); rintro e w38 ⟨v838, rfl, ho0, hb⟩; refine ⟨_, rfl, ?_⟩; have n0_ := Aside0.mk (Kd.R_elder' (zr HO_9.out) (Kd.R_base ho0) hb); have n1_ := Aside0.mk (Kd.R_elder' (zr HO_11.out) (Kd.R_base ho0) hb); have n2_ := Aside0.mk (Kd.R_lower (Kd.R_new' (Kd.R_new' ho0 (Kd.R_lt (zr HO_9.out))) (Kd.R_lt (zr HO_11.out))) (below_size (zb HB.out))); have n3_ := Aside0.mk (below_step (zb HB.out) hb); clear HO_9; clear HO_11; clear HB; have HO_9 := n0_; have HO_11 := n1_; have HO839 := n2_; have HB := n3_; clear n0_ n1_ n2_ n3_; (try clear hb); (try clear hb2); (try clear hk); (try clear hi); (try clear ho0); obtain ⟨Ao39, co39, eo39⟩ := Kd.R_slice HO_11.out; subst eo39) | ((with_reducible refine gate_callee (f := 37) rfl ?_); refine goesL_ (some 63) rfl rfl Tryd.func37 (by kernel_rfl) rfl #[.slice A0 l0.length c0, .slice Ao39 t832.length co39] rfl zl ?_; (with_reducible refine (labels_Merge.calls kj22 _ _ l0 _ _ t832 t840 t841 _ ?side1 ?side2 ?side3 ?side4 ?side5 A30.out).mono ?_); (case side1 => exact zc (Kd.C_below HR0.out HB.out)); (case side2 => exact HC0.out); (case side3 => exact zc (Kd.R_reads' HO_11.out).2.2); (case side4 => exact (Kd.R_reads' HO_11.out).2.1); (case side5 => first | (with_reducible exact HG.out) | (with_reducible exact G.drewN HG.out _) | exact G.below HG.out (zb HB.out)); rintro e w40 ⟨v842, rfl, ho0, hb⟩; refine ⟨_, rfl, ?_⟩; have n0_ := Aside0.mk (Kd.R_elder' (zr HO_9.out) (Kd.R_base ho0) hb); have n1_ := Aside0.mk (Kd.R_elder' (zr HO_11.out) (Kd.R_base ho0) hb); have n2_ := Aside0.mk (Kd.R_elder' (zr HO839.out) (Kd.R_base ho0) hb); have n3_ := Aside0.mk (Kd.R_lower (Kd.R_new' (Kd.R_new' (Kd.R_new' ho0 (Kd.R_lt (zr HO_9.out))) (Kd.R_lt (zr HO_11.out))) (Kd.R_lt (zr HO839.out))) (below_size (zb HB.out))); have n4_ := Aside0.mk (below_step (zb HB.out) hb); clear HO_9; clear HO_11; clear HO839; clear HB; have HO_9 := n0_; have HO_11 := n1_; have HO839 := n2_; have HO843 := n3_; have HB := n4_; clear n0_ n1_ n2_ n3_ n4_; (try clear hb); (try clear hb2); (try clear hk); (try clear hi); (try clear ho0); obtain ⟨Ao41, co41, eo41⟩ := Kd.R_slice HO839.out; subst eo41; obtain ⟨Ao42, co42, eo42⟩ := Kd.R_slice HO843.out; subst eo42) | (go_at_call 16; (with_reducible refine (abacusref12_Same.calls kj22 _ _ t836 _ _ t840 true _ ?side1 ?side2 ?side3 ?side4 A32.out).mono ?_); (case side1 => exact zc (Kd.R_reads' HO839.out).2.2); (case side2 => exact (Kd.R_reads' HO839.out).2.1); (case side3 => exact zc (Kd.R_reads' HO843.out).2.2); (case side4 => exact (Kd.R_reads' HO843.out).2.1); rintro e w' ⟨rfl, ⟨nd, rfl⟩⟩) | (go_at_call 28; (with_reducible refine (labels_Right.calls kj22 _ _ t836 true _ ?side1 ?side2 ?side3 A35.out).mono ?_); (case side1 => exact zc (Kd.R_reads' HO839.out).2.2); (case side2 => exact (Kd.R_reads' HO839.out).2.1); (case side3 => first | (with_reducible exact HG.out) | (with_reducible exact G.drewN HG.out _) | exact G.below HG.out (zb HB.out)); rintro e w43 ⟨rfl, hb⟩; have n0_ := Aside0.mk (Kd.R_below (zr HO_9.out) hb); have n1_ := Aside0.mk (Kd.R_below (zr HO_11.out) hb); have n2_ := Aside0.mk (Kd.R_below (zr HO839.out) hb); have n3_ := Aside0.mk (Kd.R_below (zr HO843.out) hb); have n4_ := Aside0.mk (below_step (zb HB.out) hb); clear HO_9; clear HO_11; clear HO839; clear HO843; clear HB; have HO_9 := n0_; have HO_11 := n1_; have HO839 := n2_; have HO843 := n3_; have HB := n4_; clear n0_ n1_ n2_ n3_ n4_; (try clear hb); (try clear hb2); (try clear hk); (try clear hi)))
                          go_meet
                          case rel => exact ⟨_, H', ⟨by have := HJ6.out; have := HJ22.out; first | omega | exact Nat.le_refl _⟩, ⟨zb HB.out⟩⟩
                        · replace c36 := Bool.eq_false_iff.mpr c36
                          subst c36
                          have H1 : (some false) = some true := by rw [if_neg (show ¬ (false = true) by decide)] at H; exact H
                          clear H
                          have H := H1
                          clear H1
                          cases Option.some.inj H
                      · rw [if_neg c34] at H
                        have c34b0 : (t837 == 0) = false := beq_eq_false_iff_ne.mpr c34
                        have c34b1 : (t837 != 0) = true := bne_iff_ne.mpr c34
                        have H' := Aside0.mk H
                        clear H
                        obtain ⟨Ao51, co51, eo51⟩ := Kd.R_slice HO_9.out
                        subst eo51
                        go_wp2_with (first | ((with_reducible refine gate_callee (f := 37) rfl ?_); refine goesL_ (some 57) rfl rfl Tryd.func37 (by kernel_rfl) rfl #[.slice Ao51 t828.length co51, .slice A2 l2.length c2] rfl zl ?_; (with_reducible refine (labels_Merge.calls kj22 _ _ t828 _ _ l2 t836 t837 _ ?side1 ?side2 ?side3 ?side4 ?side5 A29.out).mono ?_); (case side1 => exact zc (Kd.R_reads' HO_9.out).2.2); (case side2 => exact (Kd.R_reads' HO_9.out).2.1); (case side3 => exact zc (Kd.C_below HR2.out HB.out)); (case side4 => exact HC2.out); (case side5 => first | (with_reducible exact HG.out) | (with_reducible exact G.drewN HG.out _) | exact G.below HG.out (zb HB.out)); rintro e w52 ⟨v838, rfl, ho0, hb⟩; refine ⟨_, rfl, ?_⟩; have n0_ := Aside0.mk (Kd.R_elder' (zr HO_9.out) (Kd.R_base ho0) hb); have n1_ := Aside0.mk (Kd.R_elder' (zr HO_11.out) (Kd.R_base ho0) hb); have n2_ := Aside0.mk (Kd.R_lower (Kd.R_new' (Kd.R_new' ho0 (Kd.R_lt (zr HO_9.out))) (Kd.R_lt (zr HO_11.out))) (below_size (zb HB.out))); have n3_ := Aside0.mk (below_step (zb HB.out) hb); clear HO_9; clear HO_11; clear HB; have HO_9 := n0_; have HO_11 := n1_; have HO839 := n2_; have HB := n3_; clear n0_ n1_ n2_ n3_; (try clear hb); (try clear hb2); (try clear hk); (try clear hi); (try clear ho0); obtain ⟨Ao53, co53, eo53⟩ := Kd.R_slice HO_11.out; subst eo53) | ((with_reducible refine gate_callee (f := 37) rfl ?_); refine goesL_ (some 63) rfl rfl Tryd.func37 (by kernel_rfl) rfl #[.slice A0 l0.length c0, .slice Ao53 t832.length co53] rfl zl ?_; (with_reducible refine (labels_Merge.calls kj22 _ _ l0 _ _ t832 t840 t841 _ ?side1 ?side2 ?side3 ?side4 ?side5 A30.out).mono ?_); (case side1 => exact zc (Kd.C_below HR0.out HB.out)); (case side2 => exact HC0.out); (case side3 => exact zc (Kd.R_reads' HO_11.out).2.2); (case side4 => exact (Kd.R_reads' HO_11.out).2.1); (case side5 => first | (with_reducible exact HG.out) | (with_reducible exact G.drewN HG.out _) | exact G.below HG.out (zb HB.out)); rintro e w54 ⟨v842, rfl, ho0, hb⟩; refine ⟨_, rfl, ?_⟩; have n0_ := Aside0.mk (Kd.R_elder' (zr HO_9.out) (Kd.R_base ho0) hb); have n1_ := Aside0.mk (Kd.R_elder' (zr HO_11.out) (Kd.R_base ho0) hb); have n2_ := Aside0.mk (Kd.R_elder' (zr HO839.out) (Kd.R_base ho0) hb); have n3_ := Aside0.mk (Kd.R_lower (Kd.R_new' (Kd.R_new' (Kd.R_new' ho0 (Kd.R_lt (zr HO_9.out))) (Kd.R_lt (zr HO_11.out))) (Kd.R_lt (zr HO839.out))) (below_size (zb HB.out))); have n4_ := Aside0.mk (below_step (zb HB.out) hb); clear HO_9; clear HO_11; clear HO839; clear HB; have HO_9 := n0_; have HO_11 := n1_; have HO839 := n2_; have HO843 := n3_; have HB := n4_; clear n0_ n1_ n2_ n3_ n4_; (try clear hb); (try clear hb2); (try clear hk); (try clear hi); (try clear ho0); obtain ⟨Ao55, co55, eo55⟩ := Kd.R_slice HO839.out; subst eo55; obtain ⟨Ao56, co56, eo56⟩ := Kd.R_slice HO843.out; subst eo56) | (go_at_call 16; (with_reducible refine (abacusref12_Same.calls kj22 _ _ t836 _ _ t840 true _ ?side1 ?side2 ?side3 ?side4 A32.out).mono ?_); (case side1 => exact zc (Kd.R_reads' HO839.out).2.2); (case side2 => exact (Kd.R_reads' HO839.out).2.1); (case side3 => exact zc (Kd.R_reads' HO843.out).2.2); (case side4 => exact (Kd.R_reads' HO843.out).2.1); rintro e w' ⟨rfl, ⟨nd, rfl⟩⟩))
                        go_meet
                        case rel => exact ⟨_, H', ⟨by have := HJ6.out; have := HJ22.out; first | omega | exact Nat.le_refl _⟩, ⟨zb HB.out⟩⟩
                    · replace c33 := Bool.eq_false_iff.mpr c33
                      subst c33
                      have H1 : (some false) = some true := by rw [if_neg (show ¬ (false = true) by decide)] at H; exact H
                      clear H
                      have H := H1
                      clear H1
                      cases Option.some.inj H
                  · rw [if_neg c31] at H
                    have c31b0 : (t837 == t841) = false := beq_eq_false_iff_ne.mpr c31
                    have c31b1 : (t837 != t841) = true := bne_iff_ne.mpr c31
                    (first | rw [c31b0] | (simp only [i64_w, i32_w]; rw [c31b0]) | skip)
                    cases Option.some.inj H
                · replace c28 := Bool.eq_false_iff.mpr c28
                  subst c28
                  have H1 : (abacuslaw12_LabelsMerged.j2 kj22 l0 l3) = some true := by rw [if_neg (show ¬ (false = true) by decide)] at H; exact H
                  clear H
                  have H := H1
                  clear H1
                  have H' := Aside0.mk H
                  clear H
                  go_wp2
                  go_meet
                  case rel => exact ⟨_, H', ⟨by have := HJ6.out; have := HJ22.out; first | omega | exact Nat.le_refl _⟩, ⟨zb HB.out⟩⟩
              case rest =>
                clear HC27
                try clear c1
                try clear c2
                try clear p2
                try clear c3
                try clear c6
                try clear c9
                try clear c10
                try clear c12
                try clear c17
                try clear c20
                try clear c26
                try clear c26b0
                try clear c26b1
                try clear c28
                try clear c31
                try clear c31b0
                try clear c31b1
                try clear c33
                try clear c34
                try clear c34b0
                try clear c34b1
                try clear c36
                try clear c37
                try clear p2
                obtain ⟨kq, HA, HJ26, HB⟩ := hcut
                cases kq with
                | zero => exact absurd HA.out (by simp [abacuslaw12_LabelsMerged.j2])
                | succ kj26 =>
                  have H := HA.out
                  clear HA
                  simp only [abacuslaw12_LabelsMerged.j2] at H
                  replace H := Option.bind_eq_some_iff.mp H
                  obtain ⟨⟨t846, t847⟩, A670, H⟩ := H
                  replace H : ((labels_Keep.f kj26 l0 l3).bind fun t850 => ((labels_Without.f kj26 l0 l3).bind fun t853 => ((labels_Merge.f kj26 t850 t853).bind fun bt856 => (if t847 = 0 then ((abacusref12_Same.f kj26 t846 l0).bind fun t860 => (if t860 = true then (if bt856.2 = 0 then ((abacusref12_Same.f kj26 bt856.1 l0).bind fun t861 => (if t861 = true then (some ((wrap64 ((t850.length : Int) + (t853.length : Int))) == (l0.length : Int))) else (some false))) else (some false)) else (some false))) else (some false))))) = some true := H
                  have A67 := Aside0.mk A670
                  clear A670
                  replace H := Option.bind_eq_some_iff.mp H
                  obtain ⟨t850, A680, H⟩ := H
                  replace H : ((labels_Without.f kj26 l0 l3).bind fun t853 => ((labels_Merge.f kj26 t850 t853).bind fun bt856 => (if t847 = 0 then ((abacusref12_Same.f kj26 t846 l0).bind fun t860 => (if t860 = true then (if bt856.2 = 0 then ((abacusref12_Same.f kj26 bt856.1 l0).bind fun t861 => (if t861 = true then (some ((wrap64 ((t850.length : Int) + (t853.length : Int))) == (l0.length : Int))) else (some false))) else (some false)) else (some false))) else (some false)))) = some true := H
                  have A68 := Aside0.mk A680
                  clear A680
                  replace H := Option.bind_eq_some_iff.mp H
                  obtain ⟨t853, A690, H⟩ := H
                  replace H : ((labels_Merge.f kj26 t850 t853).bind fun bt856 => (if t847 = 0 then ((abacusref12_Same.f kj26 t846 l0).bind fun t860 => (if t860 = true then (if bt856.2 = 0 then ((abacusref12_Same.f kj26 bt856.1 l0).bind fun t861 => (if t861 = true then (some ((wrap64 ((t850.length : Int) + (t853.length : Int))) == (l0.length : Int))) else (some false))) else (some false)) else (some false))) else (some false))) = some true := H
                  have A69 := Aside0.mk A690
                  clear A690
                  replace H := Option.bind_eq_some_iff.mp H
                  obtain ⟨⟨t856, t857⟩, A700, H⟩ := H
                  replace H : (if t847 = 0 then ((abacusref12_Same.f kj26 t846 l0).bind fun t860 => (if t860 = true then (if t857 = 0 then ((abacusref12_Same.f kj26 t856 l0).bind fun t861 => (if t861 = true then (some ((wrap64 ((t850.length : Int) + (t853.length : Int))) == (l0.length : Int))) else (some false))) else (some false)) else (some false))) else (some false)) = some true := H
                  have A70 := Aside0.mk A700
                  clear A700
                  by_cases c71 : t847 = 0
                  · rw [if_pos c71] at H
                    have c71b0 : (t847 == 0) = true := beq_iff_eq.mpr c71
                    have c71b1 : (t847 != 0) = false := bne_eq_false_iff_eq.mpr c71
                    clear c71
                    replace H := Option.bind_eq_some_iff.mp H
                    obtain ⟨t860, A720, H⟩ := H
                    replace H : (if t860 = true then (if t857 = 0 then ((abacusref12_Same.f kj26 t856 l0).bind fun t861 => (if t861 = true then (some ((wrap64 ((t850.length : Int) + (t853.length : Int))) == (l0.length : Int))) else (some false))) else (some false)) else (some false)) = some true := H
                    have A72 := Aside0.mk A720
                    clear A720
                    by_cases c73 : t860 = true
                    · subst c73
                      have H1 : (if t857 = 0 then ((abacusref12_Same.f kj26 t856 l0).bind fun t861 => (if t861 = true then (some ((wrap64 ((t850.length : Int) + (t853.length : Int))) == (l0.length : Int))) else (some false))) else (some false)) = some true := by rw [if_pos rfl] at H; exact H
                      clear H
                      have H := H1
                      clear H1
                      by_cases c74 : t857 = 0
                      · rw [if_pos c74] at H
                        have c74b0 : (t857 == 0) = true := beq_iff_eq.mpr c74
                        have c74b1 : (t857 != 0) = false := bne_eq_false_iff_eq.mpr c74
                        clear c74
                        replace H := Option.bind_eq_some_iff.mp H
                        obtain ⟨t861, A750, H⟩ := H
                        replace H : (if t861 = true then (some ((wrap64 ((t850.length : Int) + (t853.length : Int))) == (l0.length : Int))) else (some false)) = some true := H
                        have A75 := Aside0.mk A750
                        clear A750
                        by_cases c76 : t861 = true
                        · subst c76
                          have H1 : (some ((wrap64 ((t850.length : Int) + (t853.length : Int))) == (l0.length : Int))) = some true := by rw [if_pos rfl] at H; exact H
                          clear H
                          have H := H1
                          clear H1
                          have hr_ := Option.some.inj H
                          go_wp2_with (first | ((with_reducible refine gate_callee (f := 37) rfl ?_); refine goesL_ (some 87) rfl rfl Tryd.func37 (by kernel_rfl) rfl #[.slice A0 l0.length c0, .slice A0 l0.length c0] rfl zl ?_; (with_reducible refine (labels_Merge.calls kj26 _ _ l0 _ _ l0 t846 t847 _ ?side1 ?side2 ?side3 ?side4 ?side5 A67.out).mono ?_); (case side1 => exact zc (Kd.C_below HR0.out HB.out)); (case side2 => exact HC0.out); (case side3 => exact zc (Kd.C_below HR0.out HB.out)); (case side4 => exact HC0.out); (case side5 => first | (with_reducible exact HG.out) | (with_reducible exact G.drewN HG.out _) | exact G.below HG.out (zb HB.out)); rintro e w77 ⟨v848, rfl, ho0, hb⟩; refine ⟨_, rfl, ?_⟩; have n0_ := Aside0.mk (Kd.R_lower ho0 (below_size (zb HB.out))); have n1_ := Aside0.mk (below_step (zb HB.out) hb); clear HB; have HO849 := n0_; have HB := n1_; clear n0_ n1_; (try clear hb); (try clear hb2); (try clear hk); (try clear hi); (try clear ho0)) | ((with_reducible refine gate_callee (f := 38) rfl ?_); refine goesL_ (some 92) rfl rfl Tryd.func38 (by kernel_rfl) rfl #[.slice A0 l0.length c0, .slice A3 l3.length c3] rfl zl ?_; (with_reducible refine (labels_Keep.calls kj26 _ _ l0 _ _ l3 t850 _ ?side1 ?side2 ?side3 ?side4 A68.out).mono ?_); (case side1 => exact zc (Kd.C_below HR0.out HB.out)); (case side2 => exact HC0.out); (case side3 => exact zc (Kd.C_below HR3.out HB.out)); (case side4 => exact HC3.out); rintro e w78 ⟨v851, rfl, ho0, hb⟩; refine ⟨_, rfl, ?_⟩; have n0_ := Aside0.mk (Kd.R_elder' (zr HO849.out) (Kd.R_base ho0) hb); have n1_ := Aside0.mk (Kd.R_lower (Kd.R_new' ho0 (Kd.R_lt (zr HO849.out))) (below_size (zb HB.out))); have n2_ := Aside0.mk (below_step (zb HB.out) hb); clear HO849; clear HB; have HO849 := n0_; have HO852 := n1_; have HB := n2_; clear n0_ n1_ n2_; (try clear hb); (try clear hb2); (try clear hk); (try clear hi); (try clear ho0)) | ((with_reducible refine gate_callee (f := 39) rfl ?_); refine goesL_ (some 95) rfl rfl Tryd.func39 (by kernel_rfl) rfl #[.slice A0 l0.length c0, .slice A3 l3.length c3] rfl zl ?_; (with_reducible refine (labels_Without.calls kj26 _ _ l0 _ _ l3 t853 _ ?side1 ?side2 ?side3 ?side4 A69.out).mono ?_); (case side1 => exact zc (Kd.C_below HR0.out HB.out)); (case side2 => exact HC0.out); (case side3 => exact zc (Kd.C_below HR3.out HB.out)); (case side4 => exact HC3.out); rintro e w79 ⟨v854, rfl, ho0, hb⟩; refine ⟨_, rfl, ?_⟩; have n0_ := Aside0.mk (Kd.R_elder' (zr HO849.out) (Kd.R_base ho0) hb); have n1_ := Aside0.mk (Kd.R_elder' (zr HO852.out) (Kd.R_base ho0) hb); have n2_ := Aside0.mk (Kd.R_lower (Kd.R_new' (Kd.R_new' ho0 (Kd.R_lt (zr HO849.out))) (Kd.R_lt (zr HO852.out))) (below_size (zb HB.out))); have n3_ := Aside0.mk (below_step (zb HB.out) hb); clear HO849; clear HO852; clear HB; have HO849 := n0_; have HO852 := n1_; have HO855 := n2_; have HB := n3_; clear n0_ n1_ n2_ n3_; (try clear hb); (try clear hb2); (try clear hk); (try clear hi); (try clear ho0); obtain ⟨Ao80, co80, eo80⟩ := Kd.R_slice HO852.out; subst eo80; obtain ⟨Ao81, co81, eo81⟩ := Kd.R_slice HO855.out; subst eo81) | ((with_reducible refine gate_callee (f := 37) rfl ?_); refine goesL_ (some 99) rfl rfl Tryd.func37 (by kernel_rfl) rfl #[.slice Ao80 t850.length co80, .slice Ao81 t853.length co81] rfl zl ?_; (with_reducible refine (labels_Merge.calls kj26 _ _ t850 _ _ t853 t856 t857 _ ?side1 ?side2 ?side3 ?side4 ?side5 A70.out).mono ?_); (case side1 => exact zc (Kd.R_reads' HO852.out).2.2); (case side2 => exact (Kd.R_reads' HO852.out).2.1); (case side3 => exact zc (Kd.R_reads' HO855.out).2.2); (case side4 => exact (Kd.R_reads' HO855.out).2.1); (case side5 => first | (with_reducible exact HG.out) | (with_reducible exact G.drewN HG.out _) | exact G.below HG.out (zb HB.out)); rintro e w82 ⟨v858, rfl, ho0, hb⟩; refine ⟨_, rfl, ?_⟩; have n0_ := Aside0.mk (Kd.R_elder' (zr HO849.out) (Kd.R_base ho0) hb); have n1_ := Aside0.mk (Kd.R_elder' (zr HO852.out) (Kd.R_base ho0) hb); have n2_ := Aside0.mk (Kd.R_elder' (zr HO855.out) (Kd.R_base ho0) hb); have n3_ := Aside0.mk (Kd.R_lower (Kd.R_new' (Kd.R_new' (Kd.R_new' ho0 (Kd.R_lt (zr HO849.out))) (Kd.R_lt (zr HO852.out))) (Kd.R_lt (zr HO855.out))) (below_size (zb HB.out))); have n4_ := Aside0.mk (below_step (zb HB.out) hb); clear HO849; clear HO852; clear HO855; clear HB; have HO849 := n0_; have HO852 := n1_; have HO855 := n2_; have HO859 := n3_; have HB := n4_; clear n0_ n1_ n2_ n3_ n4_; (try clear hb); (try clear hb2); (try clear hk); (try clear hi); (try clear ho0); obtain ⟨Ao83, co83, eo83⟩ := Kd.R_slice HO849.out; subst eo83) | (go_at_call 16; (with_reducible refine (abacusref12_Same.calls kj26 _ _ t846 _ _ l0 true _ ?side1 ?side2 ?side3 ?side4 A72.out).mono ?_); (case side1 => exact zc (Kd.R_reads' HO849.out).2.2); (case side2 => exact (Kd.R_reads' HO849.out).2.1); (case side3 => exact zc (Kd.C_below HR0.out HB.out)); (case side4 => exact HC0.out); rintro e w' ⟨rfl, ⟨nd, rfl⟩⟩; obtain ⟨Ao84, co84, eo84⟩ := Kd.R_slice HO859.out; subst eo84) | (go_at_call 16; (with_reducible refine (abacusref12_Same.calls kj26 _ _ t856 _ _ l0 true _ ?side1 ?side2 ?side3 ?side4 A75.out).mono ?_); (case side1 => exact zc (Kd.R_reads' HO859.out).2.2); (case side2 => exact (Kd.R_reads' HO859.out).2.1); (case side3 => repeat (first | exact (Kd.C_below HR0.out (zb HB.out)) | (with_reducible refine Kd.C_alloc ?_ _) | (with_reducible refine Kd.C_drewN ?_ _) | (with_reducible refine Kd.C_drew ?_))); (case side4 => exact HC0.out); rintro e w' ⟨rfl, ⟨nd, rfl⟩⟩))
                          go_ret
                          exact ⟨ze, zb HB.out⟩
                        · replace c76 := Bool.eq_false_iff.mpr c76
                          subst c76
                          have H1 : (some false) = some true := by rw [if_neg (show ¬ (false = true) by decide)] at H; exact H
                          clear H
                          have H := H1
                          clear H1
                          cases Option.some.inj H
                      · rw [if_neg c74] at H
                        have c74b0 : (t857 == 0) = false := beq_eq_false_iff_ne.mpr c74
                        have c74b1 : (t857 != 0) = true := bne_iff_ne.mpr c74
                        cases Option.some.inj H
                    · replace c73 := Bool.eq_false_iff.mpr c73
                      subst c73
                      have H1 : (some false) = some true := by rw [if_neg (show ¬ (false = true) by decide)] at H; exact H
                      clear H
                      have H := H1
                      clear H1
                      cases Option.some.inj H
                  · rw [if_neg c71] at H
                    have c71b0 : (t847 == 0) = false := beq_eq_false_iff_ne.mpr c71
                    have c71b1 : (t847 != 0) = true := bne_iff_ne.mpr c71
                    cases Option.some.inj H
  · replace c6 := Bool.eq_false_iff.mpr c6
    subst c6
    have H1 : (some false) = some true := by rw [if_neg (show ¬ (false = true) by decide)] at H; exact H
    clear H
    have H := H1
    clear H1
    cases Option.some.inj H

-- NOT PRINTED: function 10 (abacuslaw12_LabelsOwn)

end Go.Proofs.YtogegkfefpgbcaaDoor.PL
