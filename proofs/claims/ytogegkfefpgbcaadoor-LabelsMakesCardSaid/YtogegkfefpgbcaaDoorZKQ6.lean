/- Functions of the labels (packed). -/
import Derived.Test.YtogegkfefpgbcaaDoorZKPLx0
import Derived.Test.YtogegkfefpgbcaaDoorZKPLx1
import Derived.Test.YtogegkfefpgbcaaDoorZKPLx2
import Derived.Test.YtogegkfefpgbcaaDoorZKQ1
import Derived.Test.YtogegkfefpgbcaaDoorZKQ2
import Derived.Test.YtogegkfefpgbcaaDoorZKHB
import Derived.Test.YtogegkfefpgbcaaDoorZKHG0
import Derived.Test.YtogegkfefpgbcaaDoorZKPD
import Derived.Test.YtogegkfefpgbcaaDoorZKShelf
import Derived.Test.YtogegkfefpgbcaaDoorZKHA
import Derived.Test.YtogegkfefpgbcaaDoorZKHD
import Derived.Test.YtogegkfefpgbcaaDoorZKLC
import Derived.Test.YtogegkfefpgbcaaDoorZKLB
import Derived.Test.YtogegkfefpgbcaaDoorZKLD
import Derived.Test.YtogegkfefpgbcaaDoorZKQ3
import Derived.Test.YtogegkfefpgbcaaDoorZKQ4
import Derived.Test.YtogegkfefpgbcaaDoorZKHI
import Derived.Test.YtogegkfefpgbcaaDoorZKPA
import Derived.Test.YtogegkfefpgbcaaDoorZKHF
import Derived.Test.YtogegkfefpgbcaaDoorZKQ5
import Derived.Test.YtogegkfefpgbcaaDoorZKPB
import Derived.Test.YtogegkfefpgbcaaDoorZKHG
import Derived.Test.YtogegkfefpgbcaaDoorZKHK
import Derived.Test.YtogegkfefpgbcaaDoorZKPC
import Derived.Test.YtogegkfefpgbcaaDoorZKHL
import Derived.Test.YtogegkfefpgbcaaDoorZKHM
import Derived.Test.YtogegkfefpgbcaaDoorZKHP
namespace Go.Proofs.YtogegkfefpgbcaaDoor.PL
open Go.RowKit Go.Proofs.YtogegkfefpgbcaaDoorW.PrintWords Go.Proofs.YtogegkfefpgbcaaDoorW.PrintLast Go.Proofs.YtogegkfefpgbcaaDoorW.PrintMore
attribute [local go_sem] max2_int min2_int max_two min_two max_three min_three max_four min_four   -- for this text's walks alone
set_option linter.unusedVariables false
set_option linter.unusedSimpArgs false
attribute [local go_sem high] eqA59
attribute [local go_sem high] eqA36

/-! ### abacuslaw12_begins: function 17 -/
def abacuslaw12_begins.f (k : Nat)  : Option (Bool) := (labels_Parse.f (⟨#[123, 98, 61, 34, 49, 34, 44, 97, 61, 34, 120, 34, 125]⟩ : ByteArray)).bind fun bt593 => ((labels_Print.f k bt593.1).bind fun bt598 => ((labels_Matches.f k bt593.1 (([(⟨3, (⟨#[97]⟩ : ByteArray), (⟨#[63]⟩ : ByteArray)⟩ : S36)] : List (S36)))).bind fun bt603 => (if bt593.2.1 = 0 then (if bt598.2 = 0 then (if bt598.1.toList = ([123, 97, 61, 34, 120, 34, 44, 98, 61, 34, 49, 34, 125] : List UInt8) then (if bt603.2 = 0 then (if bt603.1 = true then ((labels_Value.f (⟨#[97, 233]⟩ : ByteArray)).bind fun t605 => (if t605 = 1 then ((labels_Says.f k (⟨#[63, 63]⟩ : ByteArray) (⟨#[195, 169]⟩ : ByteArray)).bind fun t606 => (some (!t606))) else (some false))) else (some false)) else (some false)) else (some false)) else (some false)) else (some false))))
theorem abacuslaw12_begins.mono : ∀ k, LeO (abacuslaw12_begins.f k ) (abacuslaw12_begins.f (k + 1) ) := by
  intro  k
  unfold abacuslaw12_begins.f
  repeat' first
      | (with_reducible exact labels_Matches.mono _ _ _)
      | (with_reducible exact labels_Print.mono _ _)
      | (with_reducible exact labels_Says.mono _ _ _)
      | (with_reducible exact LeO.refl _)
      | (with_reducible exact LeO.none _)
      | (with_reducible refine LeO.ite ?_ ?_)
      | (with_reducible refine LeO.bind ?_ (fun _ => ?_))
      | exact labels_Matches.mono _ _ _
      | exact labels_Print.mono _ _
      | exact labels_Says.mono _ _ _
      | exact LeO.none _
      | refine LeO.ite ?_ ?_
      | refine LeO.bind ?_ (fun _ => ?_)
theorem abacuslaw12_begins_r (k : Nat) (r : Bool) (h : abacuslaw12_begins.f k = some r) : r = true := by
  have h0 : abacuslaw12_begins.f 100 = some true := by kernel_rfl
  have up : ∀ n j r, abacuslaw12_begins.f j = some r → abacuslaw12_begins.f (j + n) = some r := by
    intro n
    induction n with
    | zero => intro j r h; exact h
    | succ n ih => intro j r h; exact abacuslaw12_begins.mono (j + n) r (ih j r h)
  have a := up 100 k r h
  have b := up k 100 true h0
  rw [Nat.add_comm] at b
  exact Option.some.inj (a.symm.trans b)
set_option maxHeartbeats 8000000 in
set_option maxRecDepth 100000 in
theorem abacuslaw12_begins.calls (k : Nat)  (r : Bool) (w : World) (hG : G w) (h : abacuslaw12_begins.f k  = some r) :
    Calls Tryd.prog 17 #[] w fun e w' => e = .returned (.bool r) ∧ Below w.heap.size w w' := by
  obtain rfl := abacuslaw12_begins_r k r h
  have hu36 := Tryd.underlying36
  have HB := Aside0.mk (Below.refl w.heap.size w)
  have HG := Aside0.mk hG
  clear hG
  have H : ((labels_Parse.f (⟨#[123, 98, 61, 34, 49, 34, 44, 97, 61, 34, 120, 34, 125]⟩ : ByteArray)).bind fun bt593 => ((labels_Print.f k bt593.1).bind fun bt598 => ((labels_Matches.f k bt593.1 (([(⟨3, (⟨#[97]⟩ : ByteArray), (⟨#[63]⟩ : ByteArray)⟩ : S36)] : List (S36)))).bind fun bt603 => (if bt593.2.1 = 0 then (if bt598.2 = 0 then (if bt598.1.toList = ([123, 97, 61, 34, 120, 34, 44, 98, 61, 34, 49, 34, 125] : List UInt8) then (if bt603.2 = 0 then (if bt603.1 = true then ((labels_Value.f (⟨#[97, 233]⟩ : ByteArray)).bind fun t605 => (if t605 = 1 then ((labels_Says.f k (⟨#[63, 63]⟩ : ByteArray) (⟨#[195, 169]⟩ : ByteArray)).bind fun t606 => (some (!t606))) else (some false))) else (some false)) else (some false)) else (some false)) else (some false)) else (some false))))) = some true := h
  clear h
  replace H := Option.bind_eq_some_iff.mp H
  obtain ⟨⟨t593, t594, t595⟩, A10, H⟩ := H
  replace H : ((labels_Print.f k t593).bind fun bt598 => ((labels_Matches.f k t593 (([(⟨3, (⟨#[97]⟩ : ByteArray), (⟨#[63]⟩ : ByteArray)⟩ : S36)] : List (S36)))).bind fun bt603 => (if t594 = 0 then (if bt598.2 = 0 then (if bt598.1.toList = ([123, 97, 61, 34, 120, 34, 44, 98, 61, 34, 49, 34, 125] : List UInt8) then (if bt603.2 = 0 then (if bt603.1 = true then ((labels_Value.f (⟨#[97, 233]⟩ : ByteArray)).bind fun t605 => (if t605 = 1 then ((labels_Says.f k (⟨#[63, 63]⟩ : ByteArray) (⟨#[195, 169]⟩ : ByteArray)).bind fun t606 => (some (!t606))) else (some false))) else (some false)) else (some false)) else (some false)) else (some false)) else (some false)))) = some true := H
  have A1 := Aside0.mk A10
  clear A10
  replace H := Option.bind_eq_some_iff.mp H
  obtain ⟨⟨t598, t599⟩, A20, H⟩ := H
  replace H : ((labels_Matches.f k t593 (([(⟨3, (⟨#[97]⟩ : ByteArray), (⟨#[63]⟩ : ByteArray)⟩ : S36)] : List (S36)))).bind fun bt603 => (if t594 = 0 then (if t599 = 0 then (if t598.toList = ([123, 97, 61, 34, 120, 34, 44, 98, 61, 34, 49, 34, 125] : List UInt8) then (if bt603.2 = 0 then (if bt603.1 = true then ((labels_Value.f (⟨#[97, 233]⟩ : ByteArray)).bind fun t605 => (if t605 = 1 then ((labels_Says.f k (⟨#[63, 63]⟩ : ByteArray) (⟨#[195, 169]⟩ : ByteArray)).bind fun t606 => (some (!t606))) else (some false))) else (some false)) else (some false)) else (some false)) else (some false)) else (some false))) = some true := H
  have A2 := Aside0.mk A20
  clear A20
  obtain ⟨y600, hy600⟩ : ∃ y_ : List (S36), y_ = (([(⟨3, (⟨#[97]⟩ : ByteArray), (⟨#[63]⟩ : ByteArray)⟩ : S36)] : List (S36))) := ⟨_, rfl⟩
  replace H : ((labels_Matches.f k t593 y600).bind fun bt603 => (if t594 = 0 then (if t599 = 0 then (if t598.toList = ([123, 97, 61, 34, 120, 34, 44, 98, 61, 34, 49, 34, 125] : List UInt8) then (if bt603.2 = 0 then (if bt603.1 = true then ((labels_Value.f (⟨#[97, 233]⟩ : ByteArray)).bind fun t605 => (if t605 = 1 then ((labels_Says.f k (⟨#[63, 63]⟩ : ByteArray) (⟨#[195, 169]⟩ : ByteArray)).bind fun t606 => (some (!t606))) else (some false))) else (some false)) else (some false)) else (some false)) else (some false)) else (some false))) = some true := by first | (rw [hy600]; with_reducible exact H) | (have H2_ := (Option.bind_some _ _).symm.trans H; rw [hy600]; with_reducible exact H2_) | (have H2_ := (Option.bind_some _ _).symm.trans H; with_reducible exact H2_) | with_reducible exact H | (rw [hy600]; exact H) | exact H
  have Ny600 := Aside0.mk hy600
  clear hy600
  replace H := Option.bind_eq_some_iff.mp H
  obtain ⟨⟨t603, t604⟩, A30, H⟩ := H
  replace H : (if t594 = 0 then (if t599 = 0 then (if t598.toList = ([123, 97, 61, 34, 120, 34, 44, 98, 61, 34, 49, 34, 125] : List UInt8) then (if t604 = 0 then (if t603 = true then ((labels_Value.f (⟨#[97, 233]⟩ : ByteArray)).bind fun t605 => (if t605 = 1 then ((labels_Says.f k (⟨#[63, 63]⟩ : ByteArray) (⟨#[195, 169]⟩ : ByteArray)).bind fun t606 => (some (!t606))) else (some false))) else (some false)) else (some false)) else (some false)) else (some false)) else (some false)) = some true := H
  have A3 := Aside0.mk A30
  clear A30
  by_cases c4 : t594 = 0
  · rw [if_pos c4] at H
    have c4b0 : (t594 == 0) = true := beq_iff_eq.mpr c4
    have c4b1 : (t594 != 0) = false := bne_eq_false_iff_eq.mpr c4
    clear c4
    by_cases c5 : t599 = 0
    · rw [if_pos c5] at H
      have c5b0 : (t599 == 0) = true := beq_iff_eq.mpr c5
      have c5b1 : (t599 != 0) = false := bne_eq_false_iff_eq.mpr c5
      clear c5
      by_cases c6 : t598.toList = ([123, 97, 61, 34, 120, 34, 44, 98, 61, 34, 49, 34, 125] : List UInt8)
      · rw [if_pos c6] at H
        have c6b0 : (t598.toList == ([123, 97, 61, 34, 120, 34, 44, 98, 61, 34, 49, 34, 125] : List UInt8)) = true := beq_iff_eq.mpr c6
        have c6b1 : (t598.toList != ([123, 97, 61, 34, 120, 34, 44, 98, 61, 34, 49, 34, 125] : List UInt8)) = false := bne_eq_false_iff_eq.mpr c6
        clear c6
        by_cases c7 : t604 = 0
        · rw [if_pos c7] at H
          have c7b0 : (t604 == 0) = true := beq_iff_eq.mpr c7
          have c7b1 : (t604 != 0) = false := bne_eq_false_iff_eq.mpr c7
          clear c7
          by_cases c8 : t603 = true
          · subst c8
            have H1 : ((labels_Value.f (⟨#[97, 233]⟩ : ByteArray)).bind fun t605 => (if t605 = 1 then ((labels_Says.f k (⟨#[63, 63]⟩ : ByteArray) (⟨#[195, 169]⟩ : ByteArray)).bind fun t606 => (some (!t606))) else (some false))) = some true := by rw [if_pos rfl] at H; exact H
            clear H
            have H := H1
            clear H1
            replace H := Option.bind_eq_some_iff.mp H
            obtain ⟨t605, A90, H⟩ := H
            replace H : (if t605 = 1 then ((labels_Says.f k (⟨#[63, 63]⟩ : ByteArray) (⟨#[195, 169]⟩ : ByteArray)).bind fun t606 => (some (!t606))) else (some false)) = some true := H
            have A9 := Aside0.mk A90
            clear A90
            by_cases c10 : t605 = 1
            · rw [if_pos c10] at H
              have c10b0 : (t605 == 1) = true := beq_iff_eq.mpr c10
              have c10b1 : (t605 != 1) = false := bne_eq_false_iff_eq.mpr c10
              clear c10
              replace H := Option.bind_eq_some_iff.mp H
              obtain ⟨t606, A110, H⟩ := H
              replace H : (some (!t606)) = some true := H
              have A11 := Aside0.mk A110
              clear A110
              have hr_ := Option.some.inj H
              go_enter Tryd.func17, Tryd.ntmps17
              go_wp2_with (first | ((with_reducible refine gate_callee (f := 14) rfl ?_); refine goesL_ (some 9) rfl rfl Tryd.func14 (by kernel_rfl) rfl #[.string (⟨#[123, 98, 61, 34, 49, 34, 44, 97, 61, 34, 120, 34, 125]⟩ : ByteArray)] rfl zl ?_; (with_reducible refine (labels_Parse.calls (⟨#[123, 98, 61, 34, 49, 34, 44, 97, 61, 34, 120, 34, 125]⟩ : ByteArray) t593 t594 t595 _ ?side1 A1.out).mono ?_); (case side1 => first | (with_reducible exact HG.out) | (with_reducible exact G.drewN HG.out _) | exact G.below HG.out (zb HB.out)); rintro e w12 ⟨v596, rfl, ho0, hb⟩; refine ⟨_, rfl, ?_⟩; have n0_ := Aside0.mk (Kd.R_lower ho0 (below_size (zb HB.out))); have n1_ := Aside0.mk (below_step (zb HB.out) hb); clear HB; have HO597 := n0_; have HB := n1_; clear n0_ n1_; (try clear hb); (try clear hb2); (try clear hk); (try clear hi); (try clear ho0); obtain ⟨Ao13, co13, eo13⟩ := Kd.R_slice HO597.out; subst eo13) | ((with_reducible refine gate_callee (f := 12) rfl ?_); refine goesL_ (some 15) rfl rfl Tryd.func12 (by kernel_rfl) rfl #[.slice Ao13 t593.length co13] rfl zl ?_; (with_reducible refine (labels_Print.calls k _ _ t593 t598 t599 _ ?side1 ?side2 ?side3 A2.out).mono ?_); (case side1 => exact zc (Kd.R_reads' HO597.out).2.2); (case side2 => exact (Kd.R_reads' HO597.out).2.1); (case side3 => first | (with_reducible exact HG.out) | (with_reducible exact G.drewN HG.out _) | exact G.below HG.out (zb HB.out)); rintro e w14 ⟨rfl, hb⟩; refine ⟨_, rfl, ?_⟩; have n0_ := Aside0.mk (Kd.R_below (zr HO597.out) hb); have n1_ := Aside0.mk (below_step (zb HB.out) hb); clear HO597; clear HB; have HO597 := n0_; have HB := n1_; clear n0_ n1_; (try clear hb); (try clear hb2); (try clear hk); (try clear hi)) | ((with_reducible refine gate_dst (N := 21) rfl ?_); refine Kd.R_lit k36 _ 36 ?hg (N := 21) ?hd (xs := ([(⟨3, (⟨#[97]⟩ : ByteArray), (⟨#[63]⟩ : ByteArray)⟩ : S36)] : List (S36))) (inner := [.int .u8 3, .string (⟨#[97]⟩ : ByteArray), .string (⟨#[63]⟩ : ByteArray)]) (ok := fun _ => True) (okp := fun _ => True) ?hr ?hp (fun _ hk => hk) trivial (Below.refl _ _) (Nat.le_refl _) (by simp) ?_; (case hd => rfl); (case hg => rfl); (case hr => first | (go_simp; done) | (go_simp; rfl)); (case hp => exact (Reps.c3 (show Kd.M k36 _ _ _ (⟨3, (⟨#[97]⟩ : ByteArray), (⟨#[63]⟩ : ByteArray)⟩ : S36) [.int .u8 3, .string (⟨#[97]⟩ : ByteArray), .string (⟨#[63]⟩ : ByteArray)] from (k36_mkM _ _ _ (⟨3, (⟨#[97]⟩ : ByteArray), (⟨#[63]⟩ : ByteArray)⟩ : S36) )) (Reps.none _ _))); intro v601 w15 ho16 hb hg_ hnew_; clear hg_ hnew_; (first | rw [← Ny600.out] at ho16 | (simp only [Int.reduceToNat] at ho16; rw [← Ny600.out] at ho16)); have n0_ := Aside0.mk (Kd.R_below (zr HO597.out) hb); have n1_ := Aside0.mk (Kd.R_lower ho16 (below_size (zb HB.out))); have n2_ := Aside0.mk (below_step (zb HB.out) hb); clear HO597; clear HB; have HO597 := n0_; have HO602 := n1_; have HB := n2_; clear n0_ n1_ n2_; clear hb ho16; obtain ⟨Ao17, co17, eo17⟩ := Kd.R_slice HO602.out; subst eo17) | ((with_reducible refine gate_callee (f := 18) rfl ?_); refine goesL_ (some 22) rfl rfl Tryd.func18 (by kernel_rfl) rfl #[.slice Ao13 t593.length co13, .slice Ao17 y600.length co17] rfl zl ?_; (with_reducible refine (labels_Matches.calls k _ _ t593 _ _ y600 true t604 _ ?side1 ?side2 ?side3 ?side4 ?side5 A3.out).mono ?_); (case side1 => exact zc (Kd.R_reads' HO597.out).2.2); (case side2 => exact (Kd.R_reads' HO597.out).2.1); (case side3 => exact zc (Kd.R_reads' HO602.out).2.2); (case side4 => exact (Kd.R_reads' HO602.out).2.1); (case side5 => first | (with_reducible exact HG.out) | (with_reducible exact G.drewN HG.out _) | exact G.below HG.out (zb HB.out)); rintro e w18 ⟨rfl, hb⟩; refine ⟨_, rfl, ?_⟩; have n0_ := Aside0.mk (Kd.R_below (zr HO597.out) hb); have n1_ := Aside0.mk (Kd.R_below (zr HO602.out) hb); have n2_ := Aside0.mk (below_step (zb HB.out) hb); clear HO597; clear HO602; clear HB; have HO597 := n0_; have HO602 := n1_; have HB := n2_; clear n0_ n1_ n2_; (try clear hb); (try clear hb2); (try clear hk); (try clear hi)) | (go_at_call 20; (with_reducible refine (labels_Value.calls (⟨#[97, 233]⟩ : ByteArray) t605 _ ?side1 A9.out).mono ?_); (case side1 => first | (with_reducible exact HG.out) | (with_reducible exact G.drewN HG.out _) | exact G.below HG.out (zb HB.out)); rintro e w19 ⟨rfl, hb⟩; have n0_ := Aside0.mk (Kd.R_below (zr HO597.out) hb); have n1_ := Aside0.mk (Kd.R_below (zr HO602.out) hb); have n2_ := Aside0.mk (below_step (zb HB.out) hb); clear HO597; clear HO602; clear HB; have HO597 := n0_; have HO602 := n1_; have HB := n2_; clear n0_ n1_ n2_; (try clear hb); (try clear hb2); (try clear hk); (try clear hi)) | (go_at_call 19; (with_reducible refine (labels_Says.calls k (⟨#[63, 63]⟩ : ByteArray) (⟨#[195, 169]⟩ : ByteArray) t606 _ ?side1 A11.out).mono ?_); (case side1 => first | (with_reducible exact HG.out) | (with_reducible exact G.drewN HG.out _) | exact G.below HG.out (zb HB.out)); rintro e w20 ⟨rfl, hb⟩; have n0_ := Aside0.mk (Kd.R_below (zr HO597.out) hb); have n1_ := Aside0.mk (Kd.R_below (zr HO602.out) hb); have n2_ := Aside0.mk (below_step (zb HB.out) hb); clear HO597; clear HO602; clear HB; have HO597 := n0_; have HO602 := n1_; have HB := n2_; clear n0_ n1_ n2_; (try clear hb); (try clear hb2); (try clear hk); (try clear hi)))
              go_ret
              exact ⟨ze, zb HB.out⟩
            · rw [if_neg c10] at H
              have c10b0 : (t605 == 1) = false := beq_eq_false_iff_ne.mpr c10
              have c10b1 : (t605 != 1) = true := bne_iff_ne.mpr c10
              cases Option.some.inj H
          · replace c8 := Bool.eq_false_iff.mpr c8
            subst c8
            have H1 : (some false) = some true := by rw [if_neg (show ¬ (false = true) by decide)] at H; exact H
            clear H
            have H := H1
            clear H1
            cases Option.some.inj H
        · rw [if_neg c7] at H
          have c7b0 : (t604 == 0) = false := beq_eq_false_iff_ne.mpr c7
          have c7b1 : (t604 != 0) = true := bne_iff_ne.mpr c7
          cases Option.some.inj H
      · rw [if_neg c6] at H
        have c6b0 : (t598.toList == ([123, 97, 61, 34, 120, 34, 44, 98, 61, 34, 49, 34, 125] : List UInt8)) = false := beq_eq_false_iff_ne.mpr c6
        have c6b1 : (t598.toList != ([123, 97, 61, 34, 120, 34, 44, 98, 61, 34, 49, 34, 125] : List UInt8)) = true := bne_iff_ne.mpr c6
        cases Option.some.inj H
    · rw [if_neg c5] at H
      have c5b0 : (t599 == 0) = false := beq_eq_false_iff_ne.mpr c5
      have c5b1 : (t599 != 0) = true := bne_iff_ne.mpr c5
      cases Option.some.inj H
  · rw [if_neg c4] at H
    have c4b0 : (t594 == 0) = false := beq_eq_false_iff_ne.mpr c4
    have c4b1 : (t594 != 0) = true := bne_iff_ne.mpr c4
    cases Option.some.inj H

/-! ### abacuslaw12_LabelsMakes: function 7 -/
def abacuslaw12_LabelsMakes.j0 : Nat → List (S59) → List (S59) → Bool → Option (Bool)
  | 0, _, _, _ => none
  | k + 1, x0, x5, x32 => if x32 = true then (some false) else ((labels_Make.f x5).bind fun bt834 => ((abacusref12_Make.f k x0).bind fun bt839 => ((abacusref12_Same.f k bt834.1 bt839.1).bind fun t844 => (if t844 = true then (if bt834.2.1 = bt839.2.1 then (if bt834.2.2 = bt839.2.2 then ((abacusref12_Same.f k x5 x0).bind fun t845 => (if t845 = true then ((abacuslaw12_begins.f k).bind fun t846 => (some t846)) else (some false))) else (some false)) else (some false)) else (some false)))))
def abacuslaw12_LabelsMakes.f (k : Nat) (l0 : List (S59)) (a1 : ByteArray) : Option (Bool) := (abacusref12_Copy.f k l0).bind fun t825 => ((labels_Name.f k a1).bind fun t828 => ((abacusref12_Name.f k a1).bind fun t829 => (if (t828 != t829) = true then (abacuslaw12_LabelsMakes.j0 k l0 t825 true) else ((labels_Value.f a1).bind fun t830 => ((abacusref12_Value.f k a1).bind fun t831 => (if t830 = t831 then ((labels_Right.f k t825).bind fun t832 => ((abacusref12_Right.f k l0).bind fun t833 => (abacuslaw12_LabelsMakes.j0 k l0 t825 (t832 != t833)))) else (abacuslaw12_LabelsMakes.j0 k l0 t825 true)))))))
set_option maxHeartbeats 8000000 in
set_option maxRecDepth 100000 in
theorem abacuslaw12_LabelsMakes.calls (k : Nat) (A0 : Option Addr) (c0 : Nat) (l0 : List (S59)) (a1 : ByteArray) (w : World) (hr0 : Kd.C k59 w A0 l0.length l0) (hc0 : l0.length ≤ c0) (hG : G w) (h : abacuslaw12_LabelsMakes.f k l0 a1 = some true) :
    Calls Tryd.prog 7 #[.slice A0 l0.length c0, .string a1] w fun e w' => e = .returned (.bool true) ∧ Below w.heap.size w w' := by
  have HR0 := Aside0.mk hr0
  have HC0 := Aside0.mk hc0
  clear hr0 hc0
  have HB := Aside0.mk (Below.refl w.heap.size w)
  have HG := Aside0.mk hG
  clear hG
  have H : ((abacusref12_Copy.f k l0).bind fun t825 => ((labels_Name.f k a1).bind fun t828 => ((abacusref12_Name.f k a1).bind fun t829 => (if (t828 != t829) = true then (abacuslaw12_LabelsMakes.j0 k l0 t825 true) else ((labels_Value.f a1).bind fun t830 => ((abacusref12_Value.f k a1).bind fun t831 => (if t830 = t831 then ((labels_Right.f k t825).bind fun t832 => ((abacusref12_Right.f k l0).bind fun t833 => (abacuslaw12_LabelsMakes.j0 k l0 t825 (t832 != t833)))) else (abacuslaw12_LabelsMakes.j0 k l0 t825 true)))))))) = some true := h
  clear h
  replace H := Option.bind_eq_some_iff.mp H
  obtain ⟨t825, A30, H⟩ := H
  replace H : ((labels_Name.f k a1).bind fun t828 => ((abacusref12_Name.f k a1).bind fun t829 => (if (t828 != t829) = true then (abacuslaw12_LabelsMakes.j0 k l0 t825 true) else ((labels_Value.f a1).bind fun t830 => ((abacusref12_Value.f k a1).bind fun t831 => (if t830 = t831 then ((labels_Right.f k t825).bind fun t832 => ((abacusref12_Right.f k l0).bind fun t833 => (abacuslaw12_LabelsMakes.j0 k l0 t825 (t832 != t833)))) else (abacuslaw12_LabelsMakes.j0 k l0 t825 true))))))) = some true := H
  have A3 := Aside0.mk A30
  clear A30
  have HC4 := Aside0.mk H
  clear H
  go_enter Tryd.func7, Tryd.ntmps7
  go_upto_region 2 with (first | ((with_reducible refine gate_callee (f := 29) rfl ?_); refine goesL_ (some 13) rfl rfl Tryd.func29 (by kernel_rfl) rfl #[.slice A0 l0.length c0] rfl zl ?_; (with_reducible refine (abacusref12_Copy.calls k _ _ l0 t825 _ ?side1 ?side2 A3.out).mono ?_); (case side1 => repeat (first | exact HR0.out | (with_reducible refine Kd.C_alloc ?_ _) | (with_reducible refine Kd.C_drewN ?_ _) | (with_reducible refine Kd.C_drew ?_))); (case side2 => exact HC0.out); rintro e w5 ⟨v826, rfl, ho0, hb⟩; refine ⟨_, rfl, ?_⟩; have n0_ := Aside0.mk (Kd.R_lower ho0 (below_size (zb HB.out))); have n1_ := Aside0.mk (below_step (zb HB.out) hb); clear HB; have HO827 := n0_; have HB := n1_; clear n0_ n1_; (try clear hb); (try clear hb2); (try clear hk); (try clear hi); (try clear ho0)))
  (try simp only [Act.put, List.setIfInBounds_toArray, List.set_cons_zero, List.set_cons_succ])
  go_cut [32] (fun v32 wc => ∃ (kq : Nat) (x32_3 : Bool), v32 = .bool x32_3 ∧ Aside0 (abacuslaw12_LabelsMakes.j0 kq l0 t825 x32_3 = some true) ∧ Aside0 (kq ≤ k) ∧ Aside0 (Kd.R k59 59 wc w.heap.size (fun _ => True) v826 t825) ∧ Aside0 (Below w.heap.size w wc))
  case first =>
    have H := HC4.out
    clear HC4
    replace H := Option.bind_eq_some_iff.mp H
    obtain ⟨t828, A60, H⟩ := H
    replace H : ((abacusref12_Name.f k a1).bind fun t829 => (if (t828 != t829) = true then (abacuslaw12_LabelsMakes.j0 k l0 t825 true) else ((labels_Value.f a1).bind fun t830 => ((abacusref12_Value.f k a1).bind fun t831 => (if t830 = t831 then ((labels_Right.f k t825).bind fun t832 => ((abacusref12_Right.f k l0).bind fun t833 => (abacuslaw12_LabelsMakes.j0 k l0 t825 (t832 != t833)))) else (abacuslaw12_LabelsMakes.j0 k l0 t825 true)))))) = some true := H
    have A6 := Aside0.mk A60
    clear A60
    replace H := Option.bind_eq_some_iff.mp H
    obtain ⟨t829, A70, H⟩ := H
    replace H : (if (t828 != t829) = true then (abacuslaw12_LabelsMakes.j0 k l0 t825 true) else ((labels_Value.f a1).bind fun t830 => ((abacusref12_Value.f k a1).bind fun t831 => (if t830 = t831 then ((labels_Right.f k t825).bind fun t832 => ((abacusref12_Right.f k l0).bind fun t833 => (abacuslaw12_LabelsMakes.j0 k l0 t825 (t832 != t833)))) else (abacuslaw12_LabelsMakes.j0 k l0 t825 true))))) = some true := H
    have A7 := Aside0.mk A70
    clear A70
    by_cases c8 : (t828 != t829) = true
    · rw [if_pos c8] at H
      have c8b0 : (t828 != t829) = true := c8
      (try (have c8b1 : decide (t828 = t829) = false := by simpa using c8))
      (try (have c8b2 : (t828 == t829) = false := by simpa using c8))
      (try (have c8b3 : ¬ (t828 = t829) := by simpa using c8))
      clear c8
      (first | rw [c8b0] | (simp only [i64_w, i32_w]; rw [c8b0]) | skip)
      have H' := Aside0.mk H
      clear H
      go_wp2_with (first | ((with_reducible refine gate_callee (f := 30) rfl ?_); refine goesL_ (some 15) rfl rfl Tryd.func30 (by kernel_rfl) rfl #[.string a1] rfl zl ?_; (with_reducible refine (labels_Name.calls k a1 t828 _ A6.out).mono ?_); rintro e w' ⟨rfl, ⟨nd, rfl⟩⟩; refine ⟨_, rfl, ?_⟩) | ((with_reducible refine gate_callee (f := 31) rfl ?_); refine goesL_ (some 17) rfl rfl Tryd.func31 (by kernel_rfl) rfl #[.string a1] rfl zl ?_; (with_reducible refine (abacusref12_Name.calls k a1 t829 _ A7.out).mono ?_); rintro e w' ⟨rfl, ⟨nd, rfl⟩⟩; refine ⟨_, rfl, ?_⟩))
      go_meet
      case rel => exact ⟨_, (true), zs, H', ⟨by first | omega | exact Nat.le_refl _⟩, ⟨zr HO827.out⟩, ⟨zb HB.out⟩⟩
    · rw [if_neg c8] at H
      have c8b0 : (t828 != t829) = false := by simpa using c8
      (try (have c8b1 : decide (t828 = t829) = true := by simpa using c8))
      (try (have c8b2 : (t828 == t829) = true := by simpa using c8))
      clear c8
      (first | rw [c8b0] | (simp only [i64_w, i32_w]; rw [c8b0]) | skip)
      replace H := Option.bind_eq_some_iff.mp H
      obtain ⟨t830, A90, H⟩ := H
      replace H : ((abacusref12_Value.f k a1).bind fun t831 => (if t830 = t831 then ((labels_Right.f k t825).bind fun t832 => ((abacusref12_Right.f k l0).bind fun t833 => (abacuslaw12_LabelsMakes.j0 k l0 t825 (t832 != t833)))) else (abacuslaw12_LabelsMakes.j0 k l0 t825 true))) = some true := H
      have A9 := Aside0.mk A90
      clear A90
      replace H := Option.bind_eq_some_iff.mp H
      obtain ⟨t831, A100, H⟩ := H
      replace H : (if t830 = t831 then ((labels_Right.f k t825).bind fun t832 => ((abacusref12_Right.f k l0).bind fun t833 => (abacuslaw12_LabelsMakes.j0 k l0 t825 (t832 != t833)))) else (abacuslaw12_LabelsMakes.j0 k l0 t825 true)) = some true := H
      have A10 := Aside0.mk A100
      clear A100
      by_cases c11 : t830 = t831
      · rw [if_pos c11] at H
        have c11b0 : (t830 == t831) = true := beq_iff_eq.mpr c11
        have c11b1 : (t830 != t831) = false := bne_eq_false_iff_eq.mpr c11
        clear c11
        replace H := Option.bind_eq_some_iff.mp H
        obtain ⟨t832, A120, H⟩ := H
        replace H : ((abacusref12_Right.f k l0).bind fun t833 => (abacuslaw12_LabelsMakes.j0 k l0 t825 (t832 != t833))) = some true := H
        have A12 := Aside0.mk A120
        clear A120
        replace H := Option.bind_eq_some_iff.mp H
        obtain ⟨t833, A130, H⟩ := H
        replace H : (abacuslaw12_LabelsMakes.j0 k l0 t825 (t832 != t833)) = some true := H
        have A13 := Aside0.mk A130
        clear A130
        have H' := Aside0.mk H
        clear H
        go_wp2_with (first | ((with_reducible refine gate_callee (f := 30) rfl ?_); refine goesL_ (some 15) rfl rfl Tryd.func30 (by kernel_rfl) rfl #[.string a1] rfl zl ?_; (with_reducible refine (labels_Name.calls k a1 t828 _ A6.out).mono ?_); rintro e w' ⟨rfl, ⟨nd, rfl⟩⟩; refine ⟨_, rfl, ?_⟩) | ((with_reducible refine gate_callee (f := 31) rfl ?_); refine goesL_ (some 17) rfl rfl Tryd.func31 (by kernel_rfl) rfl #[.string a1] rfl zl ?_; (with_reducible refine (abacusref12_Name.calls k a1 t829 _ A7.out).mono ?_); rintro e w' ⟨rfl, ⟨nd, rfl⟩⟩; refine ⟨_, rfl, ?_⟩) | (go_at_call 20; (with_reducible refine (labels_Value.calls a1 t830 _ ?side1 A9.out).mono ?_); (case side1 => first | (with_reducible exact HG.out) | (with_reducible exact G.drewN HG.out _) | exact G.below HG.out (zb HB.out)); rintro e w14 ⟨rfl, hb⟩; have n0_ := Aside0.mk (Kd.R_below (zr HO827.out) hb); have n1_ := Aside0.mk (below_step (zb HB.out) hb); clear HO827; clear HB; have HO827 := n0_; have HB := n1_; clear n0_ n1_; (try clear hb); (try clear hb2); (try clear hk); (try clear hi)) | (go_at_call 32; (with_reducible refine (abacusref12_Value.calls k a1 t831 _ A10.out).mono ?_); rintro e w' ⟨rfl, ⟨nd, rfl⟩⟩; obtain ⟨Ao15, co15, eo15⟩ := Kd.R_slice HO827.out; subst eo15) | (go_at_call 28; (with_reducible refine (labels_Right.calls k _ _ t825 t832 _ ?side1 ?side2 ?side3 A12.out).mono ?_); (case side1 => exact zc (Kd.R_reads' HO827.out).2.2); (case side2 => exact (Kd.R_reads' HO827.out).2.1); (case side3 => first | (with_reducible exact HG.out) | (with_reducible exact G.drewN HG.out _) | exact G.below HG.out (zb HB.out)); rintro e w16 ⟨rfl, hb⟩; have n0_ := Aside0.mk (Kd.R_below (zr HO827.out) hb); have n1_ := Aside0.mk (below_step (zb HB.out) hb); clear HO827; clear HB; have HO827 := n0_; have HB := n1_; clear n0_ n1_; (try clear hb); (try clear hb2); (try clear hk); (try clear hi)) | (go_at_call 33; (with_reducible refine (abacusref12_Right.calls k _ _ l0 t833 _ ?side1 ?side2 A13.out).mono ?_); (case side1 => exact zc (Kd.C_below HR0.out HB.out)); (case side2 => exact HC0.out); rintro e w' ⟨rfl, ⟨nd, rfl⟩⟩))
        go_meet
        case rel => exact ⟨_, ((t832 != t833)), zs, H', ⟨by first | omega | exact Nat.le_refl _⟩, ⟨zr HO827.out⟩, ⟨zb HB.out⟩⟩
      · rw [if_neg c11] at H
        have c11b0 : (t830 == t831) = false := beq_eq_false_iff_ne.mpr c11
        have c11b1 : (t830 != t831) = true := bne_iff_ne.mpr c11
        have H' := Aside0.mk H
        clear H
        go_wp2_with (first | ((with_reducible refine gate_callee (f := 30) rfl ?_); refine goesL_ (some 15) rfl rfl Tryd.func30 (by kernel_rfl) rfl #[.string a1] rfl zl ?_; (with_reducible refine (labels_Name.calls k a1 t828 _ A6.out).mono ?_); rintro e w' ⟨rfl, ⟨nd, rfl⟩⟩; refine ⟨_, rfl, ?_⟩) | ((with_reducible refine gate_callee (f := 31) rfl ?_); refine goesL_ (some 17) rfl rfl Tryd.func31 (by kernel_rfl) rfl #[.string a1] rfl zl ?_; (with_reducible refine (abacusref12_Name.calls k a1 t829 _ A7.out).mono ?_); rintro e w' ⟨rfl, ⟨nd, rfl⟩⟩; refine ⟨_, rfl, ?_⟩) | (go_at_call 20; (with_reducible refine (labels_Value.calls a1 t830 _ ?side1 A9.out).mono ?_); (case side1 => first | (with_reducible exact HG.out) | (with_reducible exact G.drewN HG.out _) | exact G.below HG.out (zb HB.out)); rintro e w17 ⟨rfl, hb⟩; have n0_ := Aside0.mk (Kd.R_below (zr HO827.out) hb); have n1_ := Aside0.mk (below_step (zb HB.out) hb); clear HO827; clear HB; have HO827 := n0_; have HB := n1_; clear n0_ n1_; (try clear hb); (try clear hb2); (try clear hk); (try clear hi)) | (go_at_call 32; (with_reducible refine (abacusref12_Value.calls k a1 t831 _ A10.out).mono ?_); rintro e w' ⟨rfl, ⟨nd, rfl⟩⟩))
        go_meet
        case rel => exact ⟨_, (true), zs, H', ⟨by first | omega | exact Nat.le_refl _⟩, ⟨zr HO827.out⟩, ⟨zb HB.out⟩⟩
  case rest =>
    clear HC4
    try clear c1
    try clear c2
    try clear p2
    try clear c3
    try clear c7
    try clear c8
    try clear c8b0
    try clear c8b1
    try clear c8b2
    try clear c11
    try clear c11b0
    try clear c11b1
    obtain ⟨kq, x32_3, rfl, HA, HJ3, HO_5, HB⟩ := hcut
    cases kq with
    | zero => exact absurd HA.out (by simp [abacuslaw12_LabelsMakes.j0])
    | succ kj3 =>
      have H := HA.out
      clear HA
      simp only [abacuslaw12_LabelsMakes.j0] at H
      by_cases c18 : x32_3 = true
      · subst c18
        have H1 : (some false) = some true := by rw [if_pos rfl] at H; exact H
        clear H
        have H := H1
        clear H1
        cases Option.some.inj H
      · replace c18 := Bool.eq_false_iff.mpr c18
        subst c18
        have H1 : ((labels_Make.f t825).bind fun bt834 => ((abacusref12_Make.f kj3 l0).bind fun bt839 => ((abacusref12_Same.f kj3 bt834.1 bt839.1).bind fun t844 => (if t844 = true then (if bt834.2.1 = bt839.2.1 then (if bt834.2.2 = bt839.2.2 then ((abacusref12_Same.f kj3 t825 l0).bind fun t845 => (if t845 = true then ((abacuslaw12_begins.f kj3).bind fun t846 => (some t846)) else (some false))) else (some false)) else (some false)) else (some false))))) = some true := by rw [if_neg (show ¬ (false = true) by decide)] at H; exact H
        clear H
        have H := H1
        clear H1
        replace H := Option.bind_eq_some_iff.mp H
        obtain ⟨⟨t834, t835, t836⟩, A190, H⟩ := H
        replace H : ((abacusref12_Make.f kj3 l0).bind fun bt839 => ((abacusref12_Same.f kj3 t834 bt839.1).bind fun t844 => (if t844 = true then (if t835 = bt839.2.1 then (if t836 = bt839.2.2 then ((abacusref12_Same.f kj3 t825 l0).bind fun t845 => (if t845 = true then ((abacuslaw12_begins.f kj3).bind fun t846 => (some t846)) else (some false))) else (some false)) else (some false)) else (some false)))) = some true := H
        have A19 := Aside0.mk A190
        clear A190
        replace H := Option.bind_eq_some_iff.mp H
        obtain ⟨⟨t839, t840, t841⟩, A200, H⟩ := H
        replace H : ((abacusref12_Same.f kj3 t834 t839).bind fun t844 => (if t844 = true then (if t835 = t840 then (if t836 = t841 then ((abacusref12_Same.f kj3 t825 l0).bind fun t845 => (if t845 = true then ((abacuslaw12_begins.f kj3).bind fun t846 => (some t846)) else (some false))) else (some false)) else (some false)) else (some false))) = some true := H
        have A20 := Aside0.mk A200
        clear A200
        replace H := Option.bind_eq_some_iff.mp H
        obtain ⟨t844, A210, H⟩ := H
        replace H : (if t844 = true then (if t835 = t840 then (if t836 = t841 then ((abacusref12_Same.f kj3 t825 l0).bind fun t845 => (if t845 = true then ((abacuslaw12_begins.f kj3).bind fun t846 => (some t846)) else (some false))) else (some false)) else (some false)) else (some false)) = some true := H
        have A21 := Aside0.mk A210
        clear A210
        by_cases c22 : t844 = true
        · subst c22
          have H1 : (if t835 = t840 then (if t836 = t841 then ((abacusref12_Same.f kj3 t825 l0).bind fun t845 => (if t845 = true then ((abacuslaw12_begins.f kj3).bind fun t846 => (some t846)) else (some false))) else (some false)) else (some false)) = some true := by rw [if_pos rfl] at H; exact H
          clear H
          have H := H1
          clear H1
          by_cases c23 : t835 = t840
          · rw [if_pos c23] at H
            have c23b0 : (t835 == t840) = true := beq_iff_eq.mpr c23
            have c23b1 : (t835 != t840) = false := bne_eq_false_iff_eq.mpr c23
            clear c23
            by_cases c24 : t836 = t841
            · rw [if_pos c24] at H
              have c24b0 : (t836 == t841) = true := beq_iff_eq.mpr c24
              have c24b1 : (t836 != t841) = false := bne_eq_false_iff_eq.mpr c24
              clear c24
              replace H := Option.bind_eq_some_iff.mp H
              obtain ⟨t845, A250, H⟩ := H
              replace H : (if t845 = true then ((abacuslaw12_begins.f kj3).bind fun t846 => (some t846)) else (some false)) = some true := H
              have A25 := Aside0.mk A250
              clear A250
              by_cases c26 : t845 = true
              · subst c26
                have H1 : ((abacuslaw12_begins.f kj3).bind fun t846 => (some t846)) = some true := by rw [if_pos rfl] at H; exact H
                clear H
                have H := H1
                clear H1
                replace H := Option.bind_eq_some_iff.mp H
                obtain ⟨t846, A270, H⟩ := H
                replace H : (some t846) = some true := H
                have A27 := Aside0.mk A270
                clear A270
                have hr_ := Option.some.inj H
                obtain ⟨Ao28, co28, eo28⟩ := Kd.R_slice HO_5.out
                subst eo28
                go_wp2_with (first | ((with_reducible refine gate_callee (f := 34) rfl ?_); refine goesL_ (some 35) rfl rfl Tryd.func34 (by kernel_rfl) rfl #[.slice Ao28 t825.length co28] rfl zl ?_; (with_reducible refine (labels_Make.calls _ _ t825 t834 t835 t836 _ ?side1 ?side2 ?side3 A19.out).mono ?_); (case side1 => exact zc (Kd.R_reads' HO_5.out).2.2); (case side2 => exact (Kd.R_reads' HO_5.out).2.1); (case side3 => first | (with_reducible exact HG.out) | (with_reducible exact G.drewN HG.out _) | exact G.below HG.out (zb HB.out)); rintro e w29 ⟨v837, rfl, ho0, hb⟩; refine ⟨_, rfl, ?_⟩; have n0_ := Aside0.mk (Kd.R_elder' (zr HO_5.out) (Kd.R_base ho0) hb); have n1_ := Aside0.mk (Kd.R_lower (Kd.R_new' ho0 (Kd.R_lt (zr HO_5.out))) (below_size (zb HB.out))); have n2_ := Aside0.mk (below_step (zb HB.out) hb); clear HO_5; clear HB; have HO_5 := n0_; have HO838 := n1_; have HB := n2_; clear n0_ n1_ n2_; (try clear hb); (try clear hb2); (try clear hk); (try clear hi); (try clear ho0)) | ((with_reducible refine gate_callee (f := 35) rfl ?_); refine goesL_ (some 41) rfl rfl Tryd.func35 (by kernel_rfl) rfl #[.slice A0 l0.length c0] rfl zl ?_; (with_reducible refine (abacusref12_Make.calls kj3 _ _ l0 t839 t840 t841 _ ?side1 ?side2 A20.out).mono ?_); (case side1 => exact zc (Kd.C_below HR0.out HB.out)); (case side2 => exact HC0.out); rintro e w30 ⟨v842, rfl, ho0, hb⟩; refine ⟨_, rfl, ?_⟩; have n0_ := Aside0.mk (Kd.R_elder' (zr HO_5.out) (Kd.R_base ho0) hb); have n1_ := Aside0.mk (Kd.R_elder' (zr HO838.out) (Kd.R_base ho0) hb); have n2_ := Aside0.mk (Kd.R_lower (Kd.R_new' (Kd.R_new' ho0 (Kd.R_lt (zr HO_5.out))) (Kd.R_lt (zr HO838.out))) (below_size (zb HB.out))); have n3_ := Aside0.mk (below_step (zb HB.out) hb); clear HO_5; clear HO838; clear HB; have HO_5 := n0_; have HO838 := n1_; have HO843 := n2_; have HB := n3_; clear n0_ n1_ n2_ n3_; (try clear hb); (try clear hb2); (try clear hk); (try clear hi); (try clear ho0); obtain ⟨Ao31, co31, eo31⟩ := Kd.R_slice HO838.out; subst eo31; obtain ⟨Ao32, co32, eo32⟩ := Kd.R_slice HO843.out; subst eo32) | ((with_reducible refine gate_callee (f := 16) rfl ?_); refine goesL_ (some 47) rfl rfl Tryd.func16 (by kernel_rfl) rfl #[.slice Ao31 t834.length co31, .slice Ao32 t839.length co32] rfl zl ?_; (with_reducible refine (abacusref12_Same.calls kj3 _ _ t834 _ _ t839 true _ ?side1 ?side2 ?side3 ?side4 A21.out).mono ?_); (case side1 => exact zc (Kd.R_reads' HO838.out).2.2); (case side2 => exact (Kd.R_reads' HO838.out).2.1); (case side3 => exact zc (Kd.R_reads' HO843.out).2.2); (case side4 => exact (Kd.R_reads' HO843.out).2.1); rintro e w' ⟨rfl, ⟨nd, rfl⟩⟩; refine ⟨_, rfl, ?_⟩) | (go_at_call 16; (with_reducible refine (abacusref12_Same.calls kj3 _ _ t825 _ _ l0 true _ ?side1 ?side2 ?side3 ?side4 A25.out).mono ?_); (case side1 => exact zc (Kd.R_reads' HO_5.out).2.2); (case side2 => exact (Kd.R_reads' HO_5.out).2.1); (case side3 => repeat (first | exact (Kd.C_below HR0.out (zb HB.out)) | (with_reducible refine Kd.C_alloc ?_ _) | (with_reducible refine Kd.C_drewN ?_ _) | (with_reducible refine Kd.C_drew ?_))); (case side4 => exact HC0.out); rintro e w' ⟨rfl, ⟨nd, rfl⟩⟩) | (go_at_call 17; (with_reducible refine (abacuslaw12_begins.calls kj3  t846 _ ?side1 A27.out).mono ?_); (case side1 => first | (with_reducible exact HG.out) | (with_reducible exact G.drewN HG.out _) | exact G.below HG.out (zb HB.out)); rintro e w33 ⟨rfl, hb⟩; have n0_ := Aside0.mk (Kd.R_below (zr HO_5.out) hb); have n1_ := Aside0.mk (Kd.R_below (zr HO838.out) hb); have n2_ := Aside0.mk (Kd.R_below (zr HO843.out) hb); have n3_ := Aside0.mk (below_step (zb HB.out) hb); clear HO_5; clear HO838; clear HO843; clear HB; have HO_5 := n0_; have HO838 := n1_; have HO843 := n2_; have HB := n3_; clear n0_ n1_ n2_ n3_; (try clear hb); (try clear hb2); (try clear hk); (try clear hi)))
                go_ret
                exact ⟨ze, zb HB.out⟩
              · replace c26 := Bool.eq_false_iff.mpr c26
                subst c26
                have H1 : (some false) = some true := by rw [if_neg (show ¬ (false = true) by decide)] at H; exact H
                clear H
                have H := H1
                clear H1
                cases Option.some.inj H
            · rw [if_neg c24] at H
              have c24b0 : (t836 == t841) = false := beq_eq_false_iff_ne.mpr c24
              have c24b1 : (t836 != t841) = true := bne_iff_ne.mpr c24
              cases Option.some.inj H
          · rw [if_neg c23] at H
            have c23b0 : (t835 == t840) = false := beq_eq_false_iff_ne.mpr c23
            have c23b1 : (t835 != t840) = true := bne_iff_ne.mpr c23
            cases Option.some.inj H
        · replace c22 := Bool.eq_false_iff.mpr c22
          subst c22
          have H1 : (some false) = some true := by rw [if_neg (show ¬ (false = true) by decide)] at H; exact H
          clear H
          have H := H1
          clear H1
          cases Option.some.inj H

/-! ### abacuslaw12_LabelsTurns: function 11 -/
def abacuslaw12_LabelsTurns.l0 : Nat → List (S59) → List (S59) → List ByteArray → List (S59) → List (S59) → Int → Option (Bool)
  | 0, _, _, _, _, _, _ => none
  | k + 1, x0, x1, x2, x7, x8, x9 => if x9 < (x2.length : Int) then (if 0 ≤ x9 then ((labels_Get.f k x7 (rdOf ByteArray.empty x2 x9)).bind fun bt1001 => ((abacusref12_Get.f k x0 (rdOf ByteArray.empty x2 x9)).bind fun bt1004 => (if bt1001.1.toList = bt1004.1.toList then (if (bt1001.2 != bt1004.2) = true then (some false) else (abacuslaw12_LabelsTurns.l0 k x0 x1 x2 x7 x8 (wrap64 (x9 + 1)))) else (some false)))) else (none)) else ((labels_Merge.f k x7 x8).bind fun bt1006 => ((abacusref12_Merge.f k x0 x1).bind fun bt1010 => ((abacusref12_Same.f k bt1006.1 bt1010.1).bind fun t1014 => (if t1014 = true then (if bt1006.2 = bt1010.2 then ((labels_Keep.f k x7 x2).bind fun t1015 => ((abacusref12_Chosen.f k x0 x2 true).bind fun t1018 => ((abacusref12_Same.f k t1015 t1018).bind fun t1021 => (if t1021 = true then ((labels_Without.f k x7 x2).bind fun t1022 => ((abacusref12_Chosen.f k x0 x2 false).bind fun t1025 => ((abacusref12_Same.f k t1022 t1025).bind fun t1028 => (if t1028 = true then ((labels_Compare.f k x7 x8).bind fun t1029 => ((abacusref12_Compare.f k x0 x1).bind fun t1030 => (if t1029 = t1030 then ((abacusref12_Same.f k x7 x0).bind fun t1031 => (if t1031 = true then ((abacusref12_Same.f k x8 x1).bind fun t1032 => (if t1032 = true then ((abacuslaw12_begins.f k).bind fun t1033 => (some t1033)) else (some false))) else (some false))) else (some false)))) else (some false))))) else (some false))))) else (some false)) else (some false)))))
def abacuslaw12_LabelsTurns.f (k : Nat) (l0 : List (S59)) (l1 : List (S59)) (l2 : List ByteArray) : Option (Bool) := (abacusref12_Copy.f k l0).bind fun t994 => ((abacusref12_Copy.f k l1).bind fun t997 => (abacuslaw12_LabelsTurns.l0 k l0 l1 l2 t994 t997 0))
end Go.Proofs.YtogegkfefpgbcaaDoor.PL
