/- Functions of the labels (packed). -/
import Derived.Test.YtogegkfefpgbcaaDoorZTPLx0
import Derived.Test.YtogegkfefpgbcaaDoorZTPLx1
import Derived.Test.YtogegkfefpgbcaaDoorZTPLx2
import Derived.Test.YtogegkfefpgbcaaDoorZTQ1
import Derived.Test.YtogegkfefpgbcaaDoorZTQ2
import Derived.Test.YtogegkfefpgbcaaDoorZTHB
import Derived.Test.YtogegkfefpgbcaaDoorZTHG0
import Derived.Test.YtogegkfefpgbcaaDoorZTPD
import Derived.Test.YtogegkfefpgbcaaDoorZTShelf
import Derived.Test.YtogegkfefpgbcaaDoorZTHA
import Derived.Test.YtogegkfefpgbcaaDoorZTHD
import Derived.Test.YtogegkfefpgbcaaDoorZTLC
import Derived.Test.YtogegkfefpgbcaaDoorZTLB
import Derived.Test.YtogegkfefpgbcaaDoorZTLD
import Derived.Test.YtogegkfefpgbcaaDoorZTQ3
import Derived.Test.YtogegkfefpgbcaaDoorZTQ4
import Derived.Test.YtogegkfefpgbcaaDoorZTHI
import Derived.Test.YtogegkfefpgbcaaDoorZTPA
import Derived.Test.YtogegkfefpgbcaaDoorZTQ5
import Derived.Test.YtogegkfefpgbcaaDoorZTPB
import Derived.Test.YtogegkfefpgbcaaDoorZTHG
import Derived.Test.YtogegkfefpgbcaaDoorZTHK
import Derived.Test.YtogegkfefpgbcaaDoorZTPC
import Derived.Test.YtogegkfefpgbcaaDoorZTHL
import Derived.Test.YtogegkfefpgbcaaDoorZTHM
import Derived.Test.YtogegkfefpgbcaaDoorZTHP
namespace Go.Proofs.YtogegkfefpgbcaaDoor.PL
open Go.RowKit Go.Proofs.YtogegkfefpgbcaaDoorW.PrintWords Go.Proofs.YtogegkfefpgbcaaDoorW.PrintLast Go.Proofs.YtogegkfefpgbcaaDoorW.PrintMore
attribute [local go_sem] max2_int min2_int max_two min_two max_three min_three max_four min_four   -- for this text's walks alone
set_option linter.unusedVariables false
set_option linter.unusedSimpArgs false
attribute [local go_sem high] eqA59
attribute [local go_sem high] eqA36

/-! ### abacuslaw12_begins: function 17 -/
def abacuslaw12_begins.f (k : Nat)  : Option (Bool) := (labels_Parse.f (⟨#[123, 98, 61, 34, 49, 34, 44, 97, 61, 34, 120, 34, 125]⟩ : ByteArray)).bind fun bt593 => ((labels_Print.f k bt593.1).bind fun bt598 => ((labels_Matches.f k bt593.1 (([(⟨3, (⟨#[97]⟩ : ByteArray), (⟨#[63]⟩ : ByteArray)⟩ : S36)] : List (S36)))).bind fun bt603 => (if bt593.2.1 = 0 then (if bt598.2 = 0 then (if bt598.1.toList = ([123, 97, 61, 34, 120, 34, 44, 98, 61, 34, 49, 34, 125] : List UInt8) then (if bt603.2 = 0 then (if bt603.1 = true then ((labels_Value.f (⟨#[97, 233]⟩ : ByteArray)).bind fun t605 => (if t605 = 1 then ((labels_Says.f k (⟨#[63, 63]⟩ : ByteArray) (⟨#[195, 169]⟩ : ByteArray)).bind fun t606 => (some (!t606))) else (some false))) else (some false)) else (some false)) else (some false)) else (some false)) else (some false))))
theorem abacuslaw12_begins.mono : ∀ k, LeO (abacuslaw12_begins.f k ) (abacuslaw12_begins.f (k + 1) ) := by
  intro  k
  unfold abacuslaw12_begins.f
  repeat' first
      | (with_reducible exact labels_Matches.mono _ _ _)
      | (with_reducible exact labels_Print.mono _ _)
      | (with_reducible exact labels_Says.mono _ _ _)
      | (with_reducible exact LeO.refl _)
      | (with_reducible exact LeO.none _)
      | (with_reducible refine LeO.ite ?_ ?_)
      | (with_reducible refine LeO.bind ?_ (fun _ => ?_))
      | exact labels_Matches.mono _ _ _
      | exact labels_Print.mono _ _
      | exact labels_Says.mono _ _ _
      | exact LeO.none _
      | refine LeO.ite ?_ ?_
      | refine LeO.bind ?_ (fun _ => ?_)
theorem abacuslaw12_begins_r (k : Nat) (r : Bool) (h : abacuslaw12_begins.f k = some r) : r = true := by
  have h0 : abacuslaw12_begins.f 100 = some true := by kernel_rfl
  have up : ∀ n j r, abacuslaw12_begins.f j = some r → abacuslaw12_begins.f (j + n) = some r := by
    intro n
    induction n with
    | zero => intro j r h; exact h
    | succ n ih => intro j r h; exact abacuslaw12_begins.mono (j + n) r (ih j r h)
  have a := up 100 k r h
  have b := up k 100 true h0
  rw [Nat.add_comm] at b
  exact Option.some.inj (a.symm.trans b)
set_option maxHeartbeats 8000000 in
set_option maxRecDepth 100000 in
theorem abacuslaw12_begins.calls (k : Nat)  (r : Bool) (w : World) (hG : G w) (h : abacuslaw12_begins.f k  = some r) :
    Calls Tryd.prog 17 #[] w fun e w' => e = .returned (.bool r) ∧ Below w.heap.size w w' := by
  obtain rfl := abacuslaw12_begins_r k r h
  have hu36 := Tryd.underlying36
  have HB := Aside0.mk (Below.refl w.heap.size w)
  have HG := Aside0.mk hG
  clear hG
  have H : ((labels_Parse.f (⟨#[123, 98, 61, 34, 49, 34, 44, 97, 61, 34, 120, 34, 125]⟩ : ByteArray)).bind fun bt593 => ((labels_Print.f k bt593.1).bind fun bt598 => ((labels_Matches.f k bt593.1 (([(⟨3, (⟨#[97]⟩ : ByteArray), (⟨#[63]⟩ : ByteArray)⟩ : S36)] : List (S36)))).bind fun bt603 => (if bt593.2.1 = 0 then (if bt598.2 = 0 then (if bt598.1.toList = ([123, 97, 61, 34, 120, 34, 44, 98, 61, 34, 49, 34, 125] : List UInt8) then (if bt603.2 = 0 then (if bt603.1 = true then ((labels_Value.f (⟨#[97, 233]⟩ : ByteArray)).bind fun t605 => (if t605 = 1 then ((labels_Says.f k (⟨#[63, 63]⟩ : ByteArray) (⟨#[195, 169]⟩ : ByteArray)).bind fun t606 => (some (!t606))) else (some false))) else (some false)) else (some false)) else (some false)) else (some false)) else (some false))))) = some true := h
  clear h
  replace H := Option.bind_eq_some_iff.mp H
  obtain ⟨⟨t593, t594, t595⟩, A10, H⟩ := H
  replace H : ((labels_Print.f k t593).bind fun bt598 => ((labels_Matches.f k t593 (([(⟨3, (⟨#[97]⟩ : ByteArray), (⟨#[63]⟩ : ByteArray)⟩ : S36)] : List (S36)))).bind fun bt603 => (if t594 = 0 then (if bt598.2 = 0 then (if bt598.1.toList = ([123, 97, 61, 34, 120, 34, 44, 98, 61, 34, 49, 34, 125] : List UInt8) then (if bt603.2 = 0 then (if bt603.1 = true then ((labels_Value.f (⟨#[97, 233]⟩ : ByteArray)).bind fun t605 => (if t605 = 1 then ((labels_Says.f k (⟨#[63, 63]⟩ : ByteArray) (⟨#[195, 169]⟩ : ByteArray)).bind fun t606 => (some (!t606))) else (some false))) else (some false)) else (some false)) else (some false)) else (some false)) else (some false)))) = some true := H
  have A1 := Aside0.mk A10
  clear A10
  replace H := Option.bind_eq_some_iff.mp H
  obtain ⟨⟨t598, t599⟩, A20, H⟩ := H
  replace H : ((labels_Matches.f k t593 (([(⟨3, (⟨#[97]⟩ : ByteArray), (⟨#[63]⟩ : ByteArray)⟩ : S36)] : List (S36)))).bind fun bt603 => (if t594 = 0 then (if t599 = 0 then (if t598.toList = ([123, 97, 61, 34, 120, 34, 44, 98, 61, 34, 49, 34, 125] : List UInt8) then (if bt603.2 = 0 then (if bt603.1 = true then ((labels_Value.f (⟨#[97, 233]⟩ : ByteArray)).bind fun t605 => (if t605 = 1 then ((labels_Says.f k (⟨#[63, 63]⟩ : ByteArray) (⟨#[195, 169]⟩ : ByteArray)).bind fun t606 => (some (!t606))) else (some false))) else (some false)) else (some false)) else (some false)) else (some false)) else (some false))) = some true := H
  have A2 := Aside0.mk A20
  clear A20
  obtain ⟨y600, hy600⟩ : ∃ y_ : List (S36), y_ = (([(⟨3, (⟨#[97]⟩ : ByteArray), (⟨#[63]⟩ : ByteArray)⟩ : S36)] : List (S36))) := ⟨_, rfl⟩
  replace H : ((labels_Matches.f k t593 y600).bind fun bt603 => (if t594 = 0 then (if t599 = 0 then (if t598.toList = ([123, 97, 61, 34, 120, 34, 44, 98, 61, 34, 49, 34, 125] : List UInt8) then (if bt603.2 = 0 then (if bt603.1 = true then ((labels_Value.f (⟨#[97, 233]⟩ : ByteArray)).bind fun t605 => (if t605 = 1 then ((labels_Says.f k (⟨#[63, 63]⟩ : ByteArray) (⟨#[195, 169]⟩ : ByteArray)).bind fun t606 => (some (!t606))) else (some false))) else (some false)) else (some false)) else (some false)) else (some false)) else (some false))) = some true := by first | (rw [hy600]; with_reducible exact H) | (have H2_ := (Option.bind_some _ _).symm.trans H; rw [hy600]; with_reducible exact H2_) | (have H2_ := (Option.bind_some _ _).symm.trans H; with_reducible exact H2_) | with_reducible exact H | (rw [hy600]; exact H) | exact H
  have Ny600 := Aside0.mk hy600
  clear hy600
  replace H := Option.bind_eq_some_iff.mp H
  obtain ⟨⟨t603, t604⟩, A30, H⟩ := H
  replace H : (if t594 = 0 then (if t599 = 0 then (if t598.toList = ([123, 97, 61, 34, 120, 34, 44, 98, 61, 34, 49, 34, 125] : List UInt8) then (if t604 = 0 then (if t603 = true then ((labels_Value.f (⟨#[97, 233]⟩ : ByteArray)).bind fun t605 => (if t605 = 1 then ((labels_Says.f k (⟨#[63, 63]⟩ : ByteArray) (⟨#[195, 169]⟩ : ByteArray)).bind fun t606 => (some (!t606))) else (some false))) else (some false)) else (some false)) else (some false)) else (some false)) else (some false)) = some true := H
  have A3 := Aside0.mk A30
  clear A30
  by_cases c4 : t594 = 0
  · rw [if_pos c4] at H
    have c4b0 : (t594 == 0) = true := beq_iff_eq.mpr c4
    have c4b1 : (t594 != 0) = false := bne_eq_false_iff_eq.mpr c4
    clear c4
    by_cases c5 : t599 = 0
    · rw [if_pos c5] at H
      have c5b0 : (t599 == 0) = true := beq_iff_eq.mpr c5
      have c5b1 : (t599 != 0) = false := bne_eq_false_iff_eq.mpr c5
      clear c5
      by_cases c6 : t598.toList = ([123, 97, 61, 34, 120, 34, 44, 98, 61, 34, 49, 34, 125] : List UInt8)
      · rw [if_pos c6] at H
        have c6b0 : (t598.toList == ([123, 97, 61, 34, 120, 34, 44, 98, 61, 34, 49, 34, 125] : List UInt8)) = true := beq_iff_eq.mpr c6
        have c6b1 : (t598.toList != ([123, 97, 61, 34, 120, 34, 44, 98, 61, 34, 49, 34, 125] : List UInt8)) = false := bne_eq_false_iff_eq.mpr c6
        clear c6
        by_cases c7 : t604 = 0
        · rw [if_pos c7] at H
          have c7b0 : (t604 == 0) = true := beq_iff_eq.mpr c7
          have c7b1 : (t604 != 0) = false := bne_eq_false_iff_eq.mpr c7
          clear c7
          by_cases c8 : t603 = true
          · subst c8
            have H1 : ((labels_Value.f (⟨#[97, 233]⟩ : ByteArray)).bind fun t605 => (if t605 = 1 then ((labels_Says.f k (⟨#[63, 63]⟩ : ByteArray) (⟨#[195, 169]⟩ : ByteArray)).bind fun t606 => (some (!t606))) else (some false))) = some true := by rw [if_pos rfl] at H; exact H
            clear H
            have H := H1
            clear H1
            replace H := Option.bind_eq_some_iff.mp H
            obtain ⟨t605, A90, H⟩ := H
            replace H : (if t605 = 1 then ((labels_Says.f k (⟨#[63, 63]⟩ : ByteArray) (⟨#[195, 169]⟩ : ByteArray)).bind fun t606 => (some (!t606))) else (some false)) = some true := H
            have A9 := Aside0.mk A90
            clear A90
            by_cases c10 : t605 = 1
            · rw [if_pos c10] at H
              have c10b0 : (t605 == 1) = true := beq_iff_eq.mpr c10
              have c10b1 : (t605 != 1) = false := bne_eq_false_iff_eq.mpr c10
              clear c10
              replace H := Option.bind_eq_some_iff.mp H
              obtain ⟨t606, A110, H⟩ := H
              replace H : (some (!t606)) = some true := H
              have A11 := Aside0.mk A110
              clear A110
              have hr_ := Option.some.inj H
              go_enter Tryd.func17, Tryd.ntmps17
              go_wp2_with (first | ((with_reducible refine gate_callee (f := 14) rfl ?_); refine goesL_ (some 9) rfl rfl Tryd.func14 (by kernel_rfl) rfl #[.string (⟨#[123, 98, 61, 34, 49, 34, 44, 97, 61, 34, 120, 34, 125]⟩ : ByteArray)] rfl zl ?_; (with_reducible refine (labels_Parse.calls (⟨#[123, 98, 61, 34, 49, 34, 44, 97, 61, 34, 120, 34, 125]⟩ : ByteArray) t593 t594 t595 _ ?side1 A1.out).mono ?_); (case side1 => first | (with_reducible exact HG.out) | (with_reducible exact G.drewN HG.out _) | exact G.below HG.out (zb HB.out)); rintro e w12 ⟨v596, rfl, ho0, hb⟩; refine ⟨_, rfl, ?_⟩; have n0_ := Aside0.mk (Kd.R_lower ho0 (below_size (zb HB.out))); have n1_ := Aside0.mk (below_step (zb HB.out) hb); clear HB; have HO597 := n0_; have HB := n1_; clear n0_ n1_; (try clear hb); (try clear hb2); (try clear hk); (try clear hi); (try clear ho0); obtain ⟨Ao13, co13, eo13⟩ := Kd.R_slice HO597.out; subst eo13) | ((with_reducible refine gate_callee (f := 12) rfl ?_); refine goesL_ (some 15) rfl rfl Tryd.func12 (by kernel_rfl) rfl #[.slice Ao13 t593.length co13] rfl zl ?_; (with_reducible refine (labels_Print.calls k _ _ t593 t598 t599 _ ?side1 ?side2 ?side3 A2.out).mono ?_); (case side1 => exact zc (Kd.R_reads' HO597.out).2.2); (case side2 => exact (Kd.R_reads' HO597.out).2.1); (case side3 => first | (with_reducible exact HG.out) | (with_reducible exact G.drewN HG.out _) | exact G.below HG.out (zb HB.out)); rintro e w14 ⟨rfl, hb⟩; refine ⟨_, rfl, ?_⟩; have n0_ := Aside0.mk (Kd.R_below (zr HO597.out) hb); have n1_ := Aside0.mk (below_step (zb HB.out) hb); clear HO597; clear HB; have HO597 := n0_; have HB := n1_; clear n0_ n1_; (try clear hb); (try clear hb2); (try clear hk); (try clear hi)) | ((with_reducible refine gate_dst (N := 21) rfl ?_); refine Kd.R_lit k36 _ 36 ?hg (N := 21) ?hd (xs := ([(⟨3, (⟨#[97]⟩ : ByteArray), (⟨#[63]⟩ : ByteArray)⟩ : S36)] : List (S36))) (inner := [.int .u8 3, .string (⟨#[97]⟩ : ByteArray), .string (⟨#[63]⟩ : ByteArray)]) (ok := fun _ => True) (okp := fun _ => True) ?hr ?hp (fun _ hk => hk) trivial (Below.refl _ _) (Nat.le_refl _) (by simp) ?_; (case hd => rfl); (case hg => rfl); (case hr => first | (go_simp; done) | (go_simp; rfl)); (case hp => exact (Reps.c3 (show Kd.M k36 _ _ _ (⟨3, (⟨#[97]⟩ : ByteArray), (⟨#[63]⟩ : ByteArray)⟩ : S36) [.int .u8 3, .string (⟨#[97]⟩ : ByteArray), .string (⟨#[63]⟩ : ByteArray)] from (k36_mkM _ _ _ (⟨3, (⟨#[97]⟩ : ByteArray), (⟨#[63]⟩ : ByteArray)⟩ : S36) )) (Reps.none _ _))); intro v601 w15 ho16 hb hg_ hnew_; clear hg_ hnew_; (first | rw [← Ny600.out] at ho16 | (simp only [Int.reduceToNat] at ho16; rw [← Ny600.out] at ho16)); have n0_ := Aside0.mk (Kd.R_below (zr HO597.out) hb); have n1_ := Aside0.mk (Kd.R_lower ho16 (below_size (zb HB.out))); have n2_ := Aside0.mk (below_step (zb HB.out) hb); clear HO597; clear HB; have HO597 := n0_; have HO602 := n1_; have HB := n2_; clear n0_ n1_ n2_; clear hb ho16; obtain ⟨Ao17, co17, eo17⟩ := Kd.R_slice HO602.out; subst eo17) | ((with_reducible refine gate_callee (f := 18) rfl ?_); refine goesL_ (some 22) rfl rfl Tryd.func18 (by kernel_rfl) rfl #[.slice Ao13 t593.length co13, .slice Ao17 y600.length co17] rfl zl ?_; (with_reducible refine (labels_Matches.calls k _ _ t593 _ _ y600 true t604 _ ?side1 ?side2 ?side3 ?side4 ?side5 A3.out).mono ?_); (case side1 => exact zc (Kd.R_reads' HO597.out).2.2); (case side2 => exact (Kd.R_reads' HO597.out).2.1); (case side3 => exact zc (Kd.R_reads' HO602.out).2.2); (case side4 => exact (Kd.R_reads' HO602.out).2.1); (case side5 => first | (with_reducible exact HG.out) | (with_reducible exact G.drewN HG.out _) | exact G.below HG.out (zb HB.out)); rintro e w18 ⟨rfl, hb⟩; refine ⟨_, rfl, ?_⟩; have n0_ := Aside0.mk (Kd.R_below (zr HO597.out) hb); have n1_ := Aside0.mk (Kd.R_below (zr HO602.out) hb); have n2_ := Aside0.mk (below_step (zb HB.out) hb); clear HO597; clear HO602; clear HB; have HO597 := n0_; have HO602 := n1_; have HB := n2_; clear n0_ n1_ n2_; (try clear hb); (try clear hb2); (try clear hk); (try clear hi)) | (go_at_call 20; (with_reducible refine (labels_Value.calls (⟨#[97, 233]⟩ : ByteArray) t605 _ ?side1 A9.out).mono ?_); (case side1 => first | (with_reducible exact HG.out) | (with_reducible exact G.drewN HG.out _) | exact G.below HG.out (zb HB.out)); rintro e w19 ⟨rfl, hb⟩; have n0_ := Aside0.mk (Kd.R_below (zr HO597.out) hb); have n1_ := Aside0.mk (Kd.R_below (zr HO602.out) hb); have n2_ := Aside0.mk (below_step (zb HB.out) hb); clear HO597; clear HO602; clear HB; have HO597 := n0_; have HO602 := n1_; have HB := n2_; clear n0_ n1_ n2_; (try clear hb); (try clear hb2); (try clear hk); (try clear hi)) | (go_at_call 19; (with_reducible refine (labels_Says.calls k (⟨#[63, 63]⟩ : ByteArray) (⟨#[195, 169]⟩ : ByteArray) t606 _ ?side1 A11.out).mono ?_); (case side1 => first | (with_reducible exact HG.out) | (with_reducible exact G.drewN HG.out _) | exact G.below HG.out (zb HB.out)); rintro e w20 ⟨rfl, hb⟩; have n0_ := Aside0.mk (Kd.R_below (zr HO597.out) hb); have n1_ := Aside0.mk (Kd.R_below (zr HO602.out) hb); have n2_ := Aside0.mk (below_step (zb HB.out) hb); clear HO597; clear HO602; clear HB; have HO597 := n0_; have HO602 := n1_; have HB := n2_; clear n0_ n1_ n2_; (try clear hb); (try clear hb2); (try clear hk); (try clear hi)))
              go_ret
              exact ⟨ze, zb HB.out⟩
            · rw [if_neg c10] at H
              have c10b0 : (t605 == 1) = false := beq_eq_false_iff_ne.mpr c10
              have c10b1 : (t605 != 1) = true := bne_iff_ne.mpr c10
              cases Option.some.inj H
          · replace c8 := Bool.eq_false_iff.mpr c8
            subst c8
            have H1 : (some false) = some true := by rw [if_neg (show ¬ (false = true) by decide)] at H; exact H
            clear H
            have H := H1
            clear H1
            cases Option.some.inj H
        · rw [if_neg c7] at H
          have c7b0 : (t604 == 0) = false := beq_eq_false_iff_ne.mpr c7
          have c7b1 : (t604 != 0) = true := bne_iff_ne.mpr c7
          cases Option.some.inj H
      · rw [if_neg c6] at H
        have c6b0 : (t598.toList == ([123, 97, 61, 34, 120, 34, 44, 98, 61, 34, 49, 34, 125] : List UInt8)) = false := beq_eq_false_iff_ne.mpr c6
        have c6b1 : (t598.toList != ([123, 97, 61, 34, 120, 34, 44, 98, 61, 34, 49, 34, 125] : List UInt8)) = true := bne_iff_ne.mpr c6
        cases Option.some.inj H
    · rw [if_neg c5] at H
      have c5b0 : (t599 == 0) = false := beq_eq_false_iff_ne.mpr c5
      have c5b1 : (t599 != 0) = true := bne_iff_ne.mpr c5
      cases Option.some.inj H
  · rw [if_neg c4] at H
    have c4b0 : (t594 == 0) = false := beq_eq_false_iff_ne.mpr c4
    have c4b1 : (t594 != 0) = true := bne_iff_ne.mpr c4
    cases Option.some.inj H

/-! ### abacuslaw12_LabelsTurns: function 11 -/
def abacuslaw12_LabelsTurns.l0 : Nat → List (S59) → List (S59) → List ByteArray → List (S59) → List (S59) → Int → Option (Bool)
  | 0, _, _, _, _, _, _ => none
  | k + 1, x0, x1, x2, x7, x8, x9 => if x9 < (x2.length : Int) then (if 0 ≤ x9 then ((labels_Get.f k x7 (rdOf ByteArray.empty x2 x9)).bind fun bt1001 => ((abacusref12_Get.f k x0 (rdOf ByteArray.empty x2 x9)).bind fun bt1004 => (if bt1001.1.toList = bt1004.1.toList then (if (bt1001.2 != bt1004.2) = true then (some false) else (abacuslaw12_LabelsTurns.l0 k x0 x1 x2 x7 x8 (wrap64 (x9 + 1)))) else (some false)))) else (none)) else ((labels_Merge.f k x7 x8).bind fun bt1006 => ((abacusref12_Merge.f k x0 x1).bind fun bt1010 => ((abacusref12_Same.f k bt1006.1 bt1010.1).bind fun t1014 => (if t1014 = true then (if bt1006.2 = bt1010.2 then ((labels_Keep.f k x7 x2).bind fun t1015 => ((abacusref12_Chosen.f k x0 x2 true).bind fun t1018 => ((abacusref12_Same.f k t1015 t1018).bind fun t1021 => (if t1021 = true then ((labels_Without.f k x7 x2).bind fun t1022 => ((abacusref12_Chosen.f k x0 x2 false).bind fun t1025 => ((abacusref12_Same.f k t1022 t1025).bind fun t1028 => (if t1028 = true then ((labels_Compare.f k x7 x8).bind fun t1029 => ((abacusref12_Compare.f k x0 x1).bind fun t1030 => (if t1029 = t1030 then ((abacusref12_Same.f k x7 x0).bind fun t1031 => (if t1031 = true then ((abacusref12_Same.f k x8 x1).bind fun t1032 => (if t1032 = true then ((abacuslaw12_begins.f k).bind fun t1033 => (some t1033)) else (some false))) else (some false))) else (some false)))) else (some false))))) else (some false))))) else (some false)) else (some false)))))
def abacuslaw12_LabelsTurns.f (k : Nat) (l0 : List (S59)) (l1 : List (S59)) (l2 : List ByteArray) : Option (Bool) := (abacusref12_Copy.f k l0).bind fun t994 => ((abacusref12_Copy.f k l1).bind fun t997 => (abacuslaw12_LabelsTurns.l0 k l0 l1 l2 t994 t997 0))
set_option maxHeartbeats 8000000 in
set_option maxRecDepth 100000 in
theorem abacuslaw12_LabelsTurns.calls (k : Nat) (A0 : Option Addr) (c0 : Nat) (l0 : List (S59)) (A1 : Option Addr) (c1 : Nat) (l1 : List (S59)) (A2 : Option Addr) (c2 : Nat) (l2 : List ByteArray) (w : World) (hr0 : Kd.C k59 w A0 l0.length l0) (hc0 : l0.length ≤ c0) (hr1 : Kd.C k59 w A1 l1.length l1) (hc1 : l1.length ≤ c1) (hr2 : Kd.C Kd.string w A2 l2.length l2) (hc2 : l2.length ≤ c2) (hG : G w) (h : abacuslaw12_LabelsTurns.f k l0 l1 l2 = some true) :
    Calls Tryd.prog 11 #[.slice A0 l0.length c0, .slice A1 l1.length c1, .slice A2 l2.length c2] w fun e w' => e = .returned (.bool true) ∧ Below w.heap.size w w' := by
  have HR0 := Aside0.mk hr0
  have HC0 := Aside0.mk hc0
  clear hr0 hc0
  have HR1 := Aside0.mk hr1
  have HC1 := Aside0.mk hc1
  clear hr1 hc1
  have HR2 := Aside0.mk hr2
  have HC2 := Aside0.mk hc2
  clear hr2 hc2
  have HB := Aside0.mk (Below.refl w.heap.size w)
  have HG := Aside0.mk hG
  clear hG
  have H : ((abacusref12_Copy.f k l0).bind fun t994 => ((abacusref12_Copy.f k l1).bind fun t997 => (abacuslaw12_LabelsTurns.l0 k l0 l1 l2 t994 t997 0))) = some true := h
  clear h
  replace H := Option.bind_eq_some_iff.mp H
  obtain ⟨t994, A40, H⟩ := H
  replace H : ((abacusref12_Copy.f k l1).bind fun t997 => (abacuslaw12_LabelsTurns.l0 k l0 l1 l2 t994 t997 0)) = some true := H
  have A4 := Aside0.mk A40
  clear A40
  replace H := Option.bind_eq_some_iff.mp H
  obtain ⟨t997, A50, H⟩ := H
  replace H : (abacuslaw12_LabelsTurns.l0 k l0 l1 l2 t994 t997 0) = some true := H
  have A5 := Aside0.mk A50
  clear A50
  have H' := Aside0.mk H
  clear H
  go_enter Tryd.func11, Tryd.ntmps11
  go_wp2_with (first | ((with_reducible refine gate_callee (f := 29) rfl ?_); refine goesL_ (some 19) rfl rfl Tryd.func29 (by kernel_rfl) rfl #[.slice A0 l0.length c0] rfl zl ?_; (with_reducible refine (abacusref12_Copy.calls k _ _ l0 t994 _ ?side1 ?side2 A4.out).mono ?_); (case side1 => repeat (first | exact HR0.out | (with_reducible refine Kd.C_alloc ?_ _) | (with_reducible refine Kd.C_drewN ?_ _) | (with_reducible refine Kd.C_drew ?_))); (case side2 => exact HC0.out); rintro e w6 ⟨v995, rfl, ho0, hb⟩; refine ⟨_, rfl, ?_⟩; have n0_ := Aside0.mk (Kd.R_lower ho0 (below_size (zb HB.out))); have n1_ := Aside0.mk (below_step (zb HB.out) hb); clear HB; have HO996 := n0_; have HB := n1_; clear n0_ n1_; (try clear hb); (try clear hb2); (try clear hk); (try clear hi); (try clear ho0)) | ((with_reducible refine gate_callee (f := 29) rfl ?_); refine goesL_ (some 21) rfl rfl Tryd.func29 (by kernel_rfl) rfl #[.slice A1 l1.length c1] rfl zl ?_; (with_reducible refine (abacusref12_Copy.calls k _ _ l1 t997 _ ?side1 ?side2 A5.out).mono ?_); (case side1 => exact zc (Kd.C_below HR1.out HB.out)); (case side2 => exact HC1.out); rintro e w7 ⟨v998, rfl, ho0, hb⟩; refine ⟨_, rfl, ?_⟩; have n0_ := Aside0.mk (Kd.R_elder' (zr HO996.out) (Kd.R_base ho0) hb); have n1_ := Aside0.mk (Kd.R_lower (Kd.R_new' ho0 (Kd.R_lt (zr HO996.out))) (below_size (zb HB.out))); have n2_ := Aside0.mk (below_step (zb HB.out) hb); clear HO996; clear HB; have HO996 := n0_; have HO999 := n1_; have HB := n2_; clear n0_ n1_ n2_; (try clear hb); (try clear hb2); (try clear hk); (try clear hi); (try clear ho0)))
  go_loopg [9] k (fun kq v9 w' => ∃ (x9_1 : Int), v9 = .int .i64 x9_1 ∧ Aside0 (abacuslaw12_LabelsTurns.l0 kq l0 l1 l2 t994 t997 x9_1 = some true) ∧ Aside0 (kq ≤ k) ∧ Aside0 (Kd.R k59 59 w' w.heap.size (fun k_ => some k_ ≠ (v998 : Value).ownBlock) v995 t994) ∧ Aside0 (Kd.R k59 59 w' w.heap.size (fun k_ => some k_ ≠ (v995 : Value).ownBlock) v998 t997) ∧ Aside0 (Below w.heap.size w w'))
  case atStart => exact ⟨(0), zs, H', ⟨Nat.le_refl _⟩, ⟨by (with_reducible repeat (first | apply Kd.R_alloc | apply Kd.R_drewN | apply Kd.R_drew)); exact Kd.R_mono HO996.out (fun _ hk => hk.2)⟩, ⟨by (with_reducible repeat (first | apply Kd.R_alloc | apply Kd.R_drewN | apply Kd.R_drew)); exact Kd.R_mono HO999.out (fun _ hk => hk.2)⟩, ⟨zb HB.out⟩⟩
  case round =>
    clear H'
    try clear c1
    try clear c2
    try clear p2
    obtain ⟨x9_1, rfl, HA, HK1, HO_7, HO_8, HB⟩ := hrel
    cases gk with
    | zero => exact absurd HA.out (by simp [abacuslaw12_LabelsTurns.l0])
    | succ k1 =>
      have H := HA.out
      clear HA
      simp only [abacuslaw12_LabelsTurns.l0] at H
      by_cases c8 : x9_1 < (l2.length : Int)
      · rw [if_pos c8] at H
        have c8b0 : decide (x9_1 < (l2.length : Int)) = true := decide_eq_true c8
        clear c8
        by_cases c9 : 0 ≤ x9_1
        · rw [if_pos c9] at H
          have c9b0 : decide (0 ≤ x9_1) = true := decide_eq_true c9
          clear c9
          replace H := Option.bind_eq_some_iff.mp H
          obtain ⟨⟨t1001, t1002⟩, A100, H⟩ := H
          replace H : ((abacusref12_Get.f k1 l0 (rdOf ByteArray.empty l2 x9_1)).bind fun bt1004 => (if t1001.toList = bt1004.1.toList then (if (t1002 != bt1004.2) = true then (some false) else (abacuslaw12_LabelsTurns.l0 k1 l0 l1 l2 t994 t997 (wrap64 (x9_1 + 1)))) else (some false))) = some true := H
          have A10 := Aside0.mk A100
          clear A100
          replace H := Option.bind_eq_some_iff.mp H
          obtain ⟨⟨t1004, t1005⟩, A110, H⟩ := H
          replace H : (if t1001.toList = t1004.toList then (if (t1002 != t1005) = true then (some false) else (abacuslaw12_LabelsTurns.l0 k1 l0 l1 l2 t994 t997 (wrap64 (x9_1 + 1)))) else (some false)) = some true := H
          have A11 := Aside0.mk A110
          clear A110
          by_cases c12 : t1001.toList = t1004.toList
          · rw [if_pos c12] at H
            have c12b0 : (t1001.toList == t1004.toList) = true := beq_iff_eq.mpr c12
            have c12b1 : (t1001.toList != t1004.toList) = false := bne_eq_false_iff_eq.mpr c12
            clear c12
            by_cases c13 : (t1002 != t1005) = true
            · rw [if_pos c13] at H
              have c13b0 : (t1002 != t1005) = true := c13
              (try (have c13b1 : decide (t1002 = t1005) = false := by simpa using c13))
              (try (have c13b2 : (t1002 == t1005) = false := by simpa using c13))
              (try (have c13b3 : ¬ (t1002 = t1005) := by simpa using c13))
              clear c13
              cases Option.some.inj H
            · rw [if_neg c13] at H
              have c13b0 : (t1002 != t1005) = false := by simpa using c13
              (try (have c13b1 : decide (t1002 = t1005) = true := by simpa using c13))
              (try (have c13b2 : (t1002 == t1005) = true := by simpa using c13))
              clear c13
              have H' := Aside0.mk H
              clear H
              have p1000 : 0 ≤ (x9_1 : Int) := of_decide_eq_true za
              have q1000 : x9_1 < (l2.length : Int) := of_decide_eq_true za
              obtain ⟨ad1000, e1000, hx1000_0⟩ := Kd.at_string HR2.out x9_1 p1000 q1000
              cases e1000
              replace hx1000_0 := (HB.out.cell (World.block_lt_of_cell? w _ hx1000_0)).trans hx1000_0
              replace p1000 := eq_true p1000
              replace q1000 := eq_true q1000
              obtain ⟨Ao16, co16, eo16⟩ := Kd.R_slice HO_7.out
              subst eo16
              go_wp2_with (first | ((with_reducible refine gate_callee (f := 40) rfl ?_); refine goesL_ (some 34) rfl rfl Tryd.func40 (by kernel_rfl) rfl #[.slice Ao16 t994.length co16, .string (rdOf ByteArray.empty l2 x9_1)] rfl zl ?_; (with_reducible refine (labels_Get.calls k1 _ _ t994 (rdOf ByteArray.empty l2 x9_1) t1001 t1002 _ ?side1 ?side2 A10.out).mono ?_); (case side1 => exact zc (Kd.R_reads' HO_7.out).2.2); (case side2 => exact (Kd.R_reads' HO_7.out).2.1); rintro e w17 ⟨rfl, hb⟩; refine ⟨_, rfl, ?_⟩; have n0_ := Aside0.mk (Kd.R_below (zr HO_7.out) hb); have n1_ := Aside0.mk (Kd.R_below (zr HO_8.out) hb); have n2_ := Aside0.mk (below_step (zb HB.out) hb); clear HO_7; clear HO_8; clear HB; have HO_7 := n0_; have HO_8 := n1_; have HB := n2_; clear n0_ n1_ n2_; (try clear hb); (try clear hb2); (try clear hk); (try clear hi); have p1003 : 0 ≤ (x9_1 : Int) := of_decide_eq_true za; have q1003 : x9_1 < (l2.length : Int) := of_decide_eq_true za; obtain ⟨ad1003, e1003, hx1003_0⟩ := Kd.at_string HR2.out x9_1 p1003 q1003; obtain rfl : ad1000 = ad1003 := (by injection e1003); replace hx1003_0 := (HB.out.cell (World.block_lt_of_cell? w _ hx1003_0)).trans hx1003_0; replace p1003 := eq_true p1003; replace q1003 := eq_true q1003) | ((with_reducible refine gate_callee (f := 41) rfl ?_); refine goesL_ (some 43) rfl rfl Tryd.func41 (by kernel_rfl) rfl #[.slice A0 l0.length c0, .string (rdOf ByteArray.empty l2 x9_1)] rfl zl ?_; (with_reducible refine (abacusref12_Get.calls k1 _ _ l0 (rdOf ByteArray.empty l2 x9_1) t1004 t1005 _ ?side1 ?side2 A11.out).mono ?_); (case side1 => exact zc (Kd.C_below HR0.out HB.out)); (case side2 => exact HC0.out); rintro e w' ⟨rfl, ⟨nd, rfl⟩⟩; refine ⟨_, rfl, ?_⟩))
              go_roundg k1
              case measure => have := HK1.out; omega
              case rel => exact ⟨(wrap64 (x9_1 + 1)), zs, H', ⟨by have := HK1.out; omega⟩, ⟨zr HO_7.out⟩, ⟨zr HO_8.out⟩, ⟨zb HB.out⟩⟩
          · rw [if_neg c12] at H
            have c12b0 : (t1001.toList == t1004.toList) = false := beq_eq_false_iff_ne.mpr c12
            have c12b1 : (t1001.toList != t1004.toList) = true := bne_iff_ne.mpr c12
            cases Option.some.inj H
        · rw [if_neg c9] at H
          exact absurd H (by simp)
      · rw [if_neg c8] at H
        have c8b0 : decide (x9_1 < (l2.length : Int)) = false := decide_eq_false c8
        clear c8
        replace H := Option.bind_eq_some_iff.mp H
        obtain ⟨⟨t1006, t1007⟩, A200, H⟩ := H
        replace H : ((abacusref12_Merge.f k1 l0 l1).bind fun bt1010 => ((abacusref12_Same.f k1 t1006 bt1010.1).bind fun t1014 => (if t1014 = true then (if t1007 = bt1010.2 then ((labels_Keep.f k1 t994 l2).bind fun t1015 => ((abacusref12_Chosen.f k1 l0 l2 true).bind fun t1018 => ((abacusref12_Same.f k1 t1015 t1018).bind fun t1021 => (if t1021 = true then ((labels_Without.f k1 t994 l2).bind fun t1022 => ((abacusref12_Chosen.f k1 l0 l2 false).bind fun t1025 => ((abacusref12_Same.f k1 t1022 t1025).bind fun t1028 => (if t1028 = true then ((labels_Compare.f k1 t994 t997).bind fun t1029 => ((abacusref12_Compare.f k1 l0 l1).bind fun t1030 => (if t1029 = t1030 then ((abacusref12_Same.f k1 t994 l0).bind fun t1031 => (if t1031 = true then ((abacusref12_Same.f k1 t997 l1).bind fun t1032 => (if t1032 = true then ((abacuslaw12_begins.f k1).bind fun t1033 => (some t1033)) else (some false))) else (some false))) else (some false)))) else (some false))))) else (some false))))) else (some false)) else (some false)))) = some true := H
        have A20 := Aside0.mk A200
        clear A200
        replace H := Option.bind_eq_some_iff.mp H
        obtain ⟨⟨t1010, t1011⟩, A210, H⟩ := H
        replace H : ((abacusref12_Same.f k1 t1006 t1010).bind fun t1014 => (if t1014 = true then (if t1007 = t1011 then ((labels_Keep.f k1 t994 l2).bind fun t1015 => ((abacusref12_Chosen.f k1 l0 l2 true).bind fun t1018 => ((abacusref12_Same.f k1 t1015 t1018).bind fun t1021 => (if t1021 = true then ((labels_Without.f k1 t994 l2).bind fun t1022 => ((abacusref12_Chosen.f k1 l0 l2 false).bind fun t1025 => ((abacusref12_Same.f k1 t1022 t1025).bind fun t1028 => (if t1028 = true then ((labels_Compare.f k1 t994 t997).bind fun t1029 => ((abacusref12_Compare.f k1 l0 l1).bind fun t1030 => (if t1029 = t1030 then ((abacusref12_Same.f k1 t994 l0).bind fun t1031 => (if t1031 = true then ((abacusref12_Same.f k1 t997 l1).bind fun t1032 => (if t1032 = true then ((abacuslaw12_begins.f k1).bind fun t1033 => (some t1033)) else (some false))) else (some false))) else (some false)))) else (some false))))) else (some false))))) else (some false)) else (some false))) = some true := H
        have A21 := Aside0.mk A210
        clear A210
        replace H := Option.bind_eq_some_iff.mp H
        obtain ⟨t1014, A220, H⟩ := H
        replace H : (if t1014 = true then (if t1007 = t1011 then ((labels_Keep.f k1 t994 l2).bind fun t1015 => ((abacusref12_Chosen.f k1 l0 l2 true).bind fun t1018 => ((abacusref12_Same.f k1 t1015 t1018).bind fun t1021 => (if t1021 = true then ((labels_Without.f k1 t994 l2).bind fun t1022 => ((abacusref12_Chosen.f k1 l0 l2 false).bind fun t1025 => ((abacusref12_Same.f k1 t1022 t1025).bind fun t1028 => (if t1028 = true then ((labels_Compare.f k1 t994 t997).bind fun t1029 => ((abacusref12_Compare.f k1 l0 l1).bind fun t1030 => (if t1029 = t1030 then ((abacusref12_Same.f k1 t994 l0).bind fun t1031 => (if t1031 = true then ((abacusref12_Same.f k1 t997 l1).bind fun t1032 => (if t1032 = true then ((abacuslaw12_begins.f k1).bind fun t1033 => (some t1033)) else (some false))) else (some false))) else (some false)))) else (some false))))) else (some false))))) else (some false)) else (some false)) = some true := H
        have A22 := Aside0.mk A220
        clear A220
        by_cases c23 : t1014 = true
        · subst c23
          have H1 : (if t1007 = t1011 then ((labels_Keep.f k1 t994 l2).bind fun t1015 => ((abacusref12_Chosen.f k1 l0 l2 true).bind fun t1018 => ((abacusref12_Same.f k1 t1015 t1018).bind fun t1021 => (if t1021 = true then ((labels_Without.f k1 t994 l2).bind fun t1022 => ((abacusref12_Chosen.f k1 l0 l2 false).bind fun t1025 => ((abacusref12_Same.f k1 t1022 t1025).bind fun t1028 => (if t1028 = true then ((labels_Compare.f k1 t994 t997).bind fun t1029 => ((abacusref12_Compare.f k1 l0 l1).bind fun t1030 => (if t1029 = t1030 then ((abacusref12_Same.f k1 t994 l0).bind fun t1031 => (if t1031 = true then ((abacusref12_Same.f k1 t997 l1).bind fun t1032 => (if t1032 = true then ((abacuslaw12_begins.f k1).bind fun t1033 => (some t1033)) else (some false))) else (some false))) else (some false)))) else (some false))))) else (some false))))) else (some false)) = some true := by rw [if_pos rfl] at H; exact H
          clear H
          have H := H1
          clear H1
          by_cases c24 : t1007 = t1011
          · rw [if_pos c24] at H
            have c24b0 : (t1007 == t1011) = true := beq_iff_eq.mpr c24
            have c24b1 : (t1007 != t1011) = false := bne_eq_false_iff_eq.mpr c24
            clear c24
            replace H := Option.bind_eq_some_iff.mp H
            obtain ⟨t1015, A250, H⟩ := H
            replace H : ((abacusref12_Chosen.f k1 l0 l2 true).bind fun t1018 => ((abacusref12_Same.f k1 t1015 t1018).bind fun t1021 => (if t1021 = true then ((labels_Without.f k1 t994 l2).bind fun t1022 => ((abacusref12_Chosen.f k1 l0 l2 false).bind fun t1025 => ((abacusref12_Same.f k1 t1022 t1025).bind fun t1028 => (if t1028 = true then ((labels_Compare.f k1 t994 t997).bind fun t1029 => ((abacusref12_Compare.f k1 l0 l1).bind fun t1030 => (if t1029 = t1030 then ((abacusref12_Same.f k1 t994 l0).bind fun t1031 => (if t1031 = true then ((abacusref12_Same.f k1 t997 l1).bind fun t1032 => (if t1032 = true then ((abacuslaw12_begins.f k1).bind fun t1033 => (some t1033)) else (some false))) else (some false))) else (some false)))) else (some false))))) else (some false)))) = some true := H
            have A25 := Aside0.mk A250
            clear A250
            replace H := Option.bind_eq_some_iff.mp H
            obtain ⟨t1018, A260, H⟩ := H
            replace H : ((abacusref12_Same.f k1 t1015 t1018).bind fun t1021 => (if t1021 = true then ((labels_Without.f k1 t994 l2).bind fun t1022 => ((abacusref12_Chosen.f k1 l0 l2 false).bind fun t1025 => ((abacusref12_Same.f k1 t1022 t1025).bind fun t1028 => (if t1028 = true then ((labels_Compare.f k1 t994 t997).bind fun t1029 => ((abacusref12_Compare.f k1 l0 l1).bind fun t1030 => (if t1029 = t1030 then ((abacusref12_Same.f k1 t994 l0).bind fun t1031 => (if t1031 = true then ((abacusref12_Same.f k1 t997 l1).bind fun t1032 => (if t1032 = true then ((abacuslaw12_begins.f k1).bind fun t1033 => (some t1033)) else (some false))) else (some false))) else (some false)))) else (some false))))) else (some false))) = some true := H
            have A26 := Aside0.mk A260
            clear A260
            replace H := Option.bind_eq_some_iff.mp H
            obtain ⟨t1021, A270, H⟩ := H
            replace H : (if t1021 = true then ((labels_Without.f k1 t994 l2).bind fun t1022 => ((abacusref12_Chosen.f k1 l0 l2 false).bind fun t1025 => ((abacusref12_Same.f k1 t1022 t1025).bind fun t1028 => (if t1028 = true then ((labels_Compare.f k1 t994 t997).bind fun t1029 => ((abacusref12_Compare.f k1 l0 l1).bind fun t1030 => (if t1029 = t1030 then ((abacusref12_Same.f k1 t994 l0).bind fun t1031 => (if t1031 = true then ((abacusref12_Same.f k1 t997 l1).bind fun t1032 => (if t1032 = true then ((abacuslaw12_begins.f k1).bind fun t1033 => (some t1033)) else (some false))) else (some false))) else (some false)))) else (some false))))) else (some false)) = some true := H
            have A27 := Aside0.mk A270
            clear A270
            by_cases c28 : t1021 = true
            · subst c28
              have H1 : ((labels_Without.f k1 t994 l2).bind fun t1022 => ((abacusref12_Chosen.f k1 l0 l2 false).bind fun t1025 => ((abacusref12_Same.f k1 t1022 t1025).bind fun t1028 => (if t1028 = true then ((labels_Compare.f k1 t994 t997).bind fun t1029 => ((abacusref12_Compare.f k1 l0 l1).bind fun t1030 => (if t1029 = t1030 then ((abacusref12_Same.f k1 t994 l0).bind fun t1031 => (if t1031 = true then ((abacusref12_Same.f k1 t997 l1).bind fun t1032 => (if t1032 = true then ((abacuslaw12_begins.f k1).bind fun t1033 => (some t1033)) else (some false))) else (some false))) else (some false)))) else (some false))))) = some true := by rw [if_pos rfl] at H; exact H
              clear H
              have H := H1
              clear H1
              replace H := Option.bind_eq_some_iff.mp H
              obtain ⟨t1022, A290, H⟩ := H
              replace H : ((abacusref12_Chosen.f k1 l0 l2 false).bind fun t1025 => ((abacusref12_Same.f k1 t1022 t1025).bind fun t1028 => (if t1028 = true then ((labels_Compare.f k1 t994 t997).bind fun t1029 => ((abacusref12_Compare.f k1 l0 l1).bind fun t1030 => (if t1029 = t1030 then ((abacusref12_Same.f k1 t994 l0).bind fun t1031 => (if t1031 = true then ((abacusref12_Same.f k1 t997 l1).bind fun t1032 => (if t1032 = true then ((abacuslaw12_begins.f k1).bind fun t1033 => (some t1033)) else (some false))) else (some false))) else (some false)))) else (some false)))) = some true := H
              have A29 := Aside0.mk A290
              clear A290
              replace H := Option.bind_eq_some_iff.mp H
              obtain ⟨t1025, A300, H⟩ := H
              replace H : ((abacusref12_Same.f k1 t1022 t1025).bind fun t1028 => (if t1028 = true then ((labels_Compare.f k1 t994 t997).bind fun t1029 => ((abacusref12_Compare.f k1 l0 l1).bind fun t1030 => (if t1029 = t1030 then ((abacusref12_Same.f k1 t994 l0).bind fun t1031 => (if t1031 = true then ((abacusref12_Same.f k1 t997 l1).bind fun t1032 => (if t1032 = true then ((abacuslaw12_begins.f k1).bind fun t1033 => (some t1033)) else (some false))) else (some false))) else (some false)))) else (some false))) = some true := H
              have A30 := Aside0.mk A300
              clear A300
              replace H := Option.bind_eq_some_iff.mp H
              obtain ⟨t1028, A310, H⟩ := H
              replace H : (if t1028 = true then ((labels_Compare.f k1 t994 t997).bind fun t1029 => ((abacusref12_Compare.f k1 l0 l1).bind fun t1030 => (if t1029 = t1030 then ((abacusref12_Same.f k1 t994 l0).bind fun t1031 => (if t1031 = true then ((abacusref12_Same.f k1 t997 l1).bind fun t1032 => (if t1032 = true then ((abacuslaw12_begins.f k1).bind fun t1033 => (some t1033)) else (some false))) else (some false))) else (some false)))) else (some false)) = some true := H
              have A31 := Aside0.mk A310
              clear A310
              by_cases c32 : t1028 = true
              · subst c32
                have H1 : ((labels_Compare.f k1 t994 t997).bind fun t1029 => ((abacusref12_Compare.f k1 l0 l1).bind fun t1030 => (if t1029 = t1030 then ((abacusref12_Same.f k1 t994 l0).bind fun t1031 => (if t1031 = true then ((abacusref12_Same.f k1 t997 l1).bind fun t1032 => (if t1032 = true then ((abacuslaw12_begins.f k1).bind fun t1033 => (some t1033)) else (some false))) else (some false))) else (some false)))) = some true := by rw [if_pos rfl] at H; exact H
                clear H
                have H := H1
                clear H1
                replace H := Option.bind_eq_some_iff.mp H
                obtain ⟨t1029, A330, H⟩ := H
                replace H : ((abacusref12_Compare.f k1 l0 l1).bind fun t1030 => (if t1029 = t1030 then ((abacusref12_Same.f k1 t994 l0).bind fun t1031 => (if t1031 = true then ((abacusref12_Same.f k1 t997 l1).bind fun t1032 => (if t1032 = true then ((abacuslaw12_begins.f k1).bind fun t1033 => (some t1033)) else (some false))) else (some false))) else (some false))) = some true := H
                have A33 := Aside0.mk A330
                clear A330
                replace H := Option.bind_eq_some_iff.mp H
                obtain ⟨t1030, A340, H⟩ := H
                replace H : (if t1029 = t1030 then ((abacusref12_Same.f k1 t994 l0).bind fun t1031 => (if t1031 = true then ((abacusref12_Same.f k1 t997 l1).bind fun t1032 => (if t1032 = true then ((abacuslaw12_begins.f k1).bind fun t1033 => (some t1033)) else (some false))) else (some false))) else (some false)) = some true := H
                have A34 := Aside0.mk A340
                clear A340
                by_cases c35 : t1029 = t1030
                · rw [if_pos c35] at H
                  have c35b0 : (t1029 == t1030) = true := beq_iff_eq.mpr c35
                  have c35b1 : (t1029 != t1030) = false := bne_eq_false_iff_eq.mpr c35
                  clear c35
                  replace H := Option.bind_eq_some_iff.mp H
                  obtain ⟨t1031, A360, H⟩ := H
                  replace H : (if t1031 = true then ((abacusref12_Same.f k1 t997 l1).bind fun t1032 => (if t1032 = true then ((abacuslaw12_begins.f k1).bind fun t1033 => (some t1033)) else (some false))) else (some false)) = some true := H
                  have A36 := Aside0.mk A360
                  clear A360
                  by_cases c37 : t1031 = true
                  · subst c37
                    have H1 : ((abacusref12_Same.f k1 t997 l1).bind fun t1032 => (if t1032 = true then ((abacuslaw12_begins.f k1).bind fun t1033 => (some t1033)) else (some false))) = some true := by rw [if_pos rfl] at H; exact H
                    clear H
                    have H := H1
                    clear H1
                    replace H := Option.bind_eq_some_iff.mp H
                    obtain ⟨t1032, A380, H⟩ := H
                    replace H : (if t1032 = true then ((abacuslaw12_begins.f k1).bind fun t1033 => (some t1033)) else (some false)) = some true := H
                    have A38 := Aside0.mk A380
                    clear A380
                    by_cases c39 : t1032 = true
                    · subst c39
                      have H1 : ((abacuslaw12_begins.f k1).bind fun t1033 => (some t1033)) = some true := by rw [if_pos rfl] at H; exact H
                      clear H
                      have H := H1
                      clear H1
                      replace H := Option.bind_eq_some_iff.mp H
                      obtain ⟨t1033, A400, H⟩ := H
                      replace H : (some t1033) = some true := H
                      have A40 := Aside0.mk A400
                      clear A400
                      have hr_ := Option.some.inj H
                      obtain ⟨Ao41, co41, eo41⟩ := Kd.R_slice HO_7.out
                      subst eo41
                      obtain ⟨Ao42, co42, eo42⟩ := Kd.R_slice HO_8.out
                      subst eo42
                      go_wp2_with (first | ((with_reducible refine gate_callee (f := 37) rfl ?_); refine goesL_ (some 57) rfl rfl Tryd.func37 (by kernel_rfl) rfl #[.slice Ao41 t994.length co41, .slice Ao42 t997.length co42] rfl zl ?_; (with_reducible refine (labels_Merge.calls k1 _ _ t994 _ _ t997 t1006 t1007 _ ?side1 ?side2 ?side3 ?side4 ?side5 A20.out).mono ?_); (case side1 => exact zc (Kd.R_reads' HO_7.out).2.2); (case side2 => exact (Kd.R_reads' HO_7.out).2.1); (case side3 => exact zc (Kd.R_reads' HO_8.out).2.2); (case side4 => exact (Kd.R_reads' HO_8.out).2.1); (case side5 => first | (with_reducible exact HG.out) | (with_reducible exact G.drewN HG.out _) | exact G.below HG.out (zb HB.out)); rintro e w43 ⟨v1008, rfl, ho0, hb⟩; refine ⟨_, rfl, ?_⟩; have n0_ := Aside0.mk (Kd.R_elder' (zr HO_7.out) (Kd.R_base ho0) hb); have n1_ := Aside0.mk (Kd.R_elder' (zr HO_8.out) (Kd.R_base ho0) hb); have n2_ := Aside0.mk (Kd.R_lower (Kd.R_new' (Kd.R_new' ho0 (Kd.R_lt (zr HO_7.out))) (Kd.R_lt (zr HO_8.out))) (below_size (zb HB.out))); have n3_ := Aside0.mk (below_step (zb HB.out) hb); clear HO_7; clear HO_8; clear HB; have HO_7 := n0_; have HO_8 := n1_; have HO1009 := n2_; have HB := n3_; clear n0_ n1_ n2_ n3_; (try clear hb); (try clear hb2); (try clear hk); (try clear hi); (try clear ho0)) | ((with_reducible refine gate_callee (f := 42) rfl ?_); refine goesL_ (some 63) rfl rfl Tryd.func42 (by kernel_rfl) rfl #[.slice A0 l0.length c0, .slice A1 l1.length c1] rfl zl ?_; (with_reducible refine (abacusref12_Merge.calls k1 _ _ l0 _ _ l1 t1010 t1011 _ ?side1 ?side2 ?side3 ?side4 A21.out).mono ?_); (case side1 => exact zc (Kd.C_below HR0.out HB.out)); (case side2 => exact HC0.out); (case side3 => exact zc (Kd.C_below HR1.out HB.out)); (case side4 => exact HC1.out); rintro e w44 ⟨v1012, rfl, ho0, hb⟩; refine ⟨_, rfl, ?_⟩; have n0_ := Aside0.mk (Kd.R_elder' (zr HO_7.out) (Kd.R_base ho0) hb); have n1_ := Aside0.mk (Kd.R_elder' (zr HO_8.out) (Kd.R_base ho0) hb); have n2_ := Aside0.mk (Kd.R_elder' (zr HO1009.out) (Kd.R_base ho0) hb); have n3_ := Aside0.mk (Kd.R_lower (Kd.R_new' (Kd.R_new' (Kd.R_new' ho0 (Kd.R_lt (zr HO_7.out))) (Kd.R_lt (zr HO_8.out))) (Kd.R_lt (zr HO1009.out))) (below_size (zb HB.out))); have n4_ := Aside0.mk (below_step (zb HB.out) hb); clear HO_7; clear HO_8; clear HO1009; clear HB; have HO_7 := n0_; have HO_8 := n1_; have HO1009 := n2_; have HO1013 := n3_; have HB := n4_; clear n0_ n1_ n2_ n3_ n4_; (try clear hb); (try clear hb2); (try clear hk); (try clear hi); (try clear ho0); obtain ⟨Ao45, co45, eo45⟩ := Kd.R_slice HO1009.out; subst eo45; obtain ⟨Ao46, co46, eo46⟩ := Kd.R_slice HO1013.out; subst eo46) | ((with_reducible refine gate_callee (f := 16) rfl ?_); refine goesL_ (some 68) rfl rfl Tryd.func16 (by kernel_rfl) rfl #[.slice Ao45 t1006.length co45, .slice Ao46 t1010.length co46] rfl zl ?_; (with_reducible refine (abacusref12_Same.calls k1 _ _ t1006 _ _ t1010 true _ ?side1 ?side2 ?side3 ?side4 A22.out).mono ?_); (case side1 => exact zc (Kd.R_reads' HO1009.out).2.2); (case side2 => exact (Kd.R_reads' HO1009.out).2.1); (case side3 => exact zc (Kd.R_reads' HO1013.out).2.2); (case side4 => exact (Kd.R_reads' HO1013.out).2.1); rintro e w' ⟨rfl, ⟨nd, rfl⟩⟩; refine ⟨_, rfl, ?_⟩) | (go_at_call 38; (with_reducible refine (labels_Keep.calls k1 _ _ t994 _ _ l2 t1015 _ ?side1 ?side2 ?side3 ?side4 A25.out).mono ?_); (case side1 => exact zc (Kd.R_reads' HO_7.out).2.2); (case side2 => exact (Kd.R_reads' HO_7.out).2.1); (case side3 => repeat (first | exact (Kd.C_below HR2.out (zb HB.out)) | (with_reducible refine Kd.C_alloc ?_ _) | (with_reducible refine Kd.C_drewN ?_ _) | (with_reducible refine Kd.C_drew ?_))); (case side4 => exact HC2.out); rintro e w47 ⟨v1016, rfl, ho0, hb⟩; have n0_ := Aside0.mk (Kd.R_elder' (zr HO_7.out) (Kd.R_base ho0) hb); have n1_ := Aside0.mk (Kd.R_elder' (zr HO_8.out) (Kd.R_base ho0) hb); have n2_ := Aside0.mk (Kd.R_elder' (zr HO1009.out) (Kd.R_base ho0) hb); have n3_ := Aside0.mk (Kd.R_elder' (zr HO1013.out) (Kd.R_base ho0) hb); have n4_ := Aside0.mk (Kd.R_lower (Kd.R_new' (Kd.R_new' (Kd.R_new' (Kd.R_new' ho0 (Kd.R_lt (zr HO_7.out))) (Kd.R_lt (zr HO_8.out))) (Kd.R_lt (zr HO1009.out))) (Kd.R_lt (zr HO1013.out))) (below_size (zb HB.out))); have n5_ := Aside0.mk (below_step (zb HB.out) hb); clear HO_7; clear HO_8; clear HO1009; clear HO1013; clear HB; have HO_7 := n0_; have HO_8 := n1_; have HO1009 := n2_; have HO1013 := n3_; have HO1017 := n4_; have HB := n5_; clear n0_ n1_ n2_ n3_ n4_ n5_; (try clear hb); (try clear hb2); (try clear hk); (try clear hi); (try clear ho0)) | (go_at_call 43; (with_reducible refine (abacusref12_Chosen.calls k1 _ _ l0 _ _ l2 true t1018 _ ?side1 ?side2 ?side3 ?side4 A26.out).mono ?_); (case side1 => exact zc (Kd.C_below HR0.out HB.out)); (case side2 => exact HC0.out); (case side3 => exact zc (Kd.C_below HR2.out HB.out)); (case side4 => exact HC2.out); rintro e w48 ⟨v1019, rfl, ho0, hb⟩; have n0_ := Aside0.mk (Kd.R_elder' (zr HO_7.out) (Kd.R_base ho0) hb); have n1_ := Aside0.mk (Kd.R_elder' (zr HO_8.out) (Kd.R_base ho0) hb); have n2_ := Aside0.mk (Kd.R_elder' (zr HO1009.out) (Kd.R_base ho0) hb); have n3_ := Aside0.mk (Kd.R_elder' (zr HO1013.out) (Kd.R_base ho0) hb); have n4_ := Aside0.mk (Kd.R_elder' (zr HO1017.out) (Kd.R_base ho0) hb); have n5_ := Aside0.mk (Kd.R_lower (Kd.R_new' (Kd.R_new' (Kd.R_new' (Kd.R_new' (Kd.R_new' ho0 (Kd.R_lt (zr HO_7.out))) (Kd.R_lt (zr HO_8.out))) (Kd.R_lt (zr HO1009.out))) (Kd.R_lt (zr HO1013.out))) (Kd.R_lt (zr HO1017.out))) (below_size (zb HB.out))); have n6_ := Aside0.mk (below_step (zb HB.out) hb); clear HO_7; clear HO_8; clear HO1009; clear HO1013; clear HO1017; clear HB; have HO_7 := n0_; have HO_8 := n1_; have HO1009 := n2_; have HO1013 := n3_; have HO1017 := n4_; have HO1020 := n5_; have HB := n6_; clear n0_ n1_ n2_ n3_ n4_ n5_ n6_; (try clear hb); (try clear hb2); (try clear hk); (try clear hi); (try clear ho0); obtain ⟨Ao49, co49, eo49⟩ := Kd.R_slice HO1017.out; subst eo49; obtain ⟨Ao50, co50, eo50⟩ := Kd.R_slice HO1020.out; subst eo50) | (go_at_call 16; (with_reducible refine (abacusref12_Same.calls k1 _ _ t1015 _ _ t1018 true _ ?side1 ?side2 ?side3 ?side4 A27.out).mono ?_); (case side1 => exact zc (Kd.R_reads' HO1017.out).2.2); (case side2 => exact (Kd.R_reads' HO1017.out).2.1); (case side3 => exact zc (Kd.R_reads' HO1020.out).2.2); (case side4 => exact (Kd.R_reads' HO1020.out).2.1); rintro e w' ⟨rfl, ⟨nd, rfl⟩⟩) | (go_at_call 39; (with_reducible refine (labels_Without.calls k1 _ _ t994 _ _ l2 t1022 _ ?side1 ?side2 ?side3 ?side4 A29.out).mono ?_); (case side1 => exact zc (Kd.R_reads' HO_7.out).2.2); (case side2 => exact (Kd.R_reads' HO_7.out).2.1); (case side3 => repeat (first | exact (Kd.C_below HR2.out (zb HB.out)) | (with_reducible refine Kd.C_alloc ?_ _) | (with_reducible refine Kd.C_drewN ?_ _) | (with_reducible refine Kd.C_drew ?_))); (case side4 => exact HC2.out); rintro e w51 ⟨v1023, rfl, ho0, hb⟩; have n0_ := Aside0.mk (Kd.R_elder' (zr HO_7.out) (Kd.R_base ho0) hb); have n1_ := Aside0.mk (Kd.R_elder' (zr HO_8.out) (Kd.R_base ho0) hb); have n2_ := Aside0.mk (Kd.R_elder' (zr HO1009.out) (Kd.R_base ho0) hb); have n3_ := Aside0.mk (Kd.R_elder' (zr HO1013.out) (Kd.R_base ho0) hb); have n4_ := Aside0.mk (Kd.R_elder' (zr HO1017.out) (Kd.R_base ho0) hb); have n5_ := Aside0.mk (Kd.R_elder' (zr HO1020.out) (Kd.R_base ho0) hb); have n6_ := Aside0.mk (Kd.R_lower (Kd.R_new' (Kd.R_new' (Kd.R_new' (Kd.R_new' (Kd.R_new' (Kd.R_new' ho0 (Kd.R_lt (zr HO_7.out))) (Kd.R_lt (zr HO_8.out))) (Kd.R_lt (zr HO1009.out))) (Kd.R_lt (zr HO1013.out))) (Kd.R_lt (zr HO1017.out))) (Kd.R_lt (zr HO1020.out))) (below_size (zb HB.out))); have n7_ := Aside0.mk (below_step (zb HB.out) hb); clear HO_7; clear HO_8; clear HO1009; clear HO1013; clear HO1017; clear HO1020; clear HB; have HO_7 := n0_; have HO_8 := n1_; have HO1009 := n2_; have HO1013 := n3_; have HO1017 := n4_; have HO1020 := n5_; have HO1024 := n6_; have HB := n7_; clear n0_ n1_ n2_ n3_ n4_ n5_ n6_ n7_; (try clear hb); (try clear hb2); (try clear hk); (try clear hi); (try clear ho0)) | (go_at_call 43; (with_reducible refine (abacusref12_Chosen.calls k1 _ _ l0 _ _ l2 false t1025 _ ?side1 ?side2 ?side3 ?side4 A30.out).mono ?_); (case side1 => exact zc (Kd.C_below HR0.out HB.out)); (case side2 => exact HC0.out); (case side3 => exact zc (Kd.C_below HR2.out HB.out)); (case side4 => exact HC2.out); rintro e w52 ⟨v1026, rfl, ho0, hb⟩; have n0_ := Aside0.mk (Kd.R_elder' (zr HO_7.out) (Kd.R_base ho0) hb); have n1_ := Aside0.mk (Kd.R_elder' (zr HO_8.out) (Kd.R_base ho0) hb); have n2_ := Aside0.mk (Kd.R_elder' (zr HO1009.out) (Kd.R_base ho0) hb); have n3_ := Aside0.mk (Kd.R_elder' (zr HO1013.out) (Kd.R_base ho0) hb); have n4_ := Aside0.mk (Kd.R_elder' (zr HO1017.out) (Kd.R_base ho0) hb); have n5_ := Aside0.mk (Kd.R_elder' (zr HO1020.out) (Kd.R_base ho0) hb); have n6_ := Aside0.mk (Kd.R_elder' (zr HO1024.out) (Kd.R_base ho0) hb); have n7_ := Aside0.mk (Kd.R_lower (Kd.R_new' (Kd.R_new' (Kd.R_new' (Kd.R_new' (Kd.R_new' (Kd.R_new' (Kd.R_new' ho0 (Kd.R_lt (zr HO_7.out))) (Kd.R_lt (zr HO_8.out))) (Kd.R_lt (zr HO1009.out))) (Kd.R_lt (zr HO1013.out))) (Kd.R_lt (zr HO1017.out))) (Kd.R_lt (zr HO1020.out))) (Kd.R_lt (zr HO1024.out))) (below_size (zb HB.out))); have n8_ := Aside0.mk (below_step (zb HB.out) hb); clear HO_7; clear HO_8; clear HO1009; clear HO1013; clear HO1017; clear HO1020; clear HO1024; clear HB; have HO_7 := n0_; have HO_8 := n1_; have HO1009 := n2_; have HO1013 := n3_; have HO1017 := n4_; have HO1020 := n5_; have HO1024 := n6_; have HO1027 := n7_; have HB := n8_; clear n0_ n1_ n2_ n3_ n4_ n5_ n6_ n7_ n8_; (try clear hb); (try clear hb2); (try clear hk); (try clear hi); (try clear ho0); obtain ⟨Ao53, co53, eo53⟩ := Kd.R_slice HO1024.out; subst eo53; obtain ⟨Ao54, co54, eo54⟩ := Kd.R_slice HO1027.out; subst eo54) | (go_at_call 16; (with_reducible refine (abacusref12_Same.calls k1 _ _ t1022 _ _ t1025 true _ ?side1 ?side2 ?side3 ?side4 A31.out).mono ?_); (case side1 => exact zc (Kd.R_reads' HO1024.out).2.2); (case side2 => exact (Kd.R_reads' HO1024.out).2.1); (case side3 => exact zc (Kd.R_reads' HO1027.out).2.2); (case side4 => exact (Kd.R_reads' HO1027.out).2.1); rintro e w' ⟨rfl, ⟨nd, rfl⟩⟩) | (go_at_call 36; (with_reducible refine (labels_Compare.calls k1 _ _ t994 _ _ t997 t1029 _ ?side1 ?side2 ?side3 ?side4 A33.out).mono ?_); (case side1 => exact zc (Kd.R_reads' HO_7.out).2.2); (case side2 => exact (Kd.R_reads' HO_7.out).2.1); (case side3 => exact zc (Kd.R_reads' HO_8.out).2.2); (case side4 => exact (Kd.R_reads' HO_8.out).2.1); rintro e w55 ⟨rfl, hb⟩; have n0_ := Aside0.mk (Kd.R_below (zr HO_7.out) hb); have n1_ := Aside0.mk (Kd.R_below (zr HO_8.out) hb); have n2_ := Aside0.mk (Kd.R_below (zr HO1009.out) hb); have n3_ := Aside0.mk (Kd.R_below (zr HO1013.out) hb); have n4_ := Aside0.mk (Kd.R_below (zr HO1017.out) hb); have n5_ := Aside0.mk (Kd.R_below (zr HO1020.out) hb); have n6_ := Aside0.mk (Kd.R_below (zr HO1024.out) hb); have n7_ := Aside0.mk (Kd.R_below (zr HO1027.out) hb); have n8_ := Aside0.mk (below_step (zb HB.out) hb); clear HO_7; clear HO_8; clear HO1009; clear HO1013; clear HO1017; clear HO1020; clear HO1024; clear HO1027; clear HB; have HO_7 := n0_; have HO_8 := n1_; have HO1009 := n2_; have HO1013 := n3_; have HO1017 := n4_; have HO1020 := n5_; have HO1024 := n6_; have HO1027 := n7_; have HB := n8_; clear n0_ n1_ n2_ n3_ n4_ n5_ n6_ n7_ n8_; (try clear hb); (try clear hb2); (try clear hk); (try clear hi)) | (go_at_call 44; (with_reducible refine (abacusref12_Compare.calls k1 _ _ l0 _ _ l1 t1030 _ ?side1 ?side2 ?side3 ?side4 A34.out).mono ?_); (case side1 => exact zc (Kd.C_below HR0.out HB.out)); (case side2 => exact HC0.out); (case side3 => exact zc (Kd.C_below HR1.out HB.out)); (case side4 => exact HC1.out); rintro e w' ⟨rfl, ⟨nd, rfl⟩⟩) | (go_at_call 16; (with_reducible refine (abacusref12_Same.calls k1 _ _ t994 _ _ l0 true _ ?side1 ?side2 ?side3 ?side4 A36.out).mono ?_); (case side1 => exact zc (Kd.R_reads' HO_7.out).2.2); (case side2 => exact (Kd.R_reads' HO_7.out).2.1); (case side3 => repeat (first | exact (Kd.C_below HR0.out (zb HB.out)) | (with_reducible refine Kd.C_alloc ?_ _) | (with_reducible refine Kd.C_drewN ?_ _) | (with_reducible refine Kd.C_drew ?_))); (case side4 => exact HC0.out); rintro e w' ⟨rfl, ⟨nd, rfl⟩⟩) | (go_at_call 16; (with_reducible refine (abacusref12_Same.calls k1 _ _ t997 _ _ l1 true _ ?side1 ?side2 ?side3 ?side4 A38.out).mono ?_); (case side1 => exact zc (Kd.R_reads' HO_8.out).2.2); (case side2 => exact (Kd.R_reads' HO_8.out).2.1); (case side3 => repeat (first | exact (Kd.C_below HR1.out (zb HB.out)) | (with_reducible refine Kd.C_alloc ?_ _) | (with_reducible refine Kd.C_drewN ?_ _) | (with_reducible refine Kd.C_drew ?_))); (case side4 => exact HC1.out); rintro e w' ⟨rfl, ⟨nd, rfl⟩⟩) | (go_at_call 17; (with_reducible refine (abacuslaw12_begins.calls k1  t1033 _ ?side1 A40.out).mono ?_); (case side1 => first | (with_reducible exact HG.out) | (with_reducible exact G.drewN HG.out _) | exact G.below HG.out (zb HB.out)); rintro e w56 ⟨rfl, hb⟩; have n0_ := Aside0.mk (Kd.R_below (zr HO_7.out) hb); have n1_ := Aside0.mk (Kd.R_below (zr HO_8.out) hb); have n2_ := Aside0.mk (Kd.R_below (zr HO1009.out) hb); have n3_ := Aside0.mk (Kd.R_below (zr HO1013.out) hb); have n4_ := Aside0.mk (Kd.R_below (zr HO1017.out) hb); have n5_ := Aside0.mk (Kd.R_below (zr HO1020.out) hb); have n6_ := Aside0.mk (Kd.R_below (zr HO1024.out) hb); have n7_ := Aside0.mk (Kd.R_below (zr HO1027.out) hb); have n8_ := Aside0.mk (below_step (zb HB.out) hb); clear HO_7; clear HO_8; clear HO1009; clear HO1013; clear HO1017; clear HO1020; clear HO1024; clear HO1027; clear HB; have HO_7 := n0_; have HO_8 := n1_; have HO1009 := n2_; have HO1013 := n3_; have HO1017 := n4_; have HO1020 := n5_; have HO1024 := n6_; have HO1027 := n7_; have HB := n8_; clear n0_ n1_ n2_ n3_ n4_ n5_ n6_ n7_ n8_; (try clear hb); (try clear hb2); (try clear hk); (try clear hi)))
                      go_ret
                      exact ⟨ze, zb HB.out⟩
                    · replace c39 := Bool.eq_false_iff.mpr c39
                      subst c39
                      have H1 : (some false) = some true := by rw [if_neg (show ¬ (false = true) by decide)] at H; exact H
                      clear H
                      have H := H1
                      clear H1
                      cases Option.some.inj H
                  · replace c37 := Bool.eq_false_iff.mpr c37
                    subst c37
                    have H1 : (some false) = some true := by rw [if_neg (show ¬ (false = true) by decide)] at H; exact H
                    clear H
                    have H := H1
                    clear H1
                    cases Option.some.inj H
                · rw [if_neg c35] at H
                  have c35b0 : (t1029 == t1030) = false := beq_eq_false_iff_ne.mpr c35
                  have c35b1 : (t1029 != t1030) = true := bne_iff_ne.mpr c35
                  cases Option.some.inj H
              · replace c32 := Bool.eq_false_iff.mpr c32
                subst c32
                have H1 : (some false) = some true := by rw [if_neg (show ¬ (false = true) by decide)] at H; exact H
                clear H
                have H := H1
                clear H1
                cases Option.some.inj H
            · replace c28 := Bool.eq_false_iff.mpr c28
              subst c28
              have H1 : (some false) = some true := by rw [if_neg (show ¬ (false = true) by decide)] at H; exact H
              clear H
              have H := H1
              clear H1
              cases Option.some.inj H
          · rw [if_neg c24] at H
            have c24b0 : (t1007 == t1011) = false := beq_eq_false_iff_ne.mpr c24
            have c24b1 : (t1007 != t1011) = true := bne_iff_ne.mpr c24
            cases Option.some.inj H
        · replace c23 := Bool.eq_false_iff.mpr c23
          subst c23
          have H1 : (some false) = some true := by rw [if_neg (show ¬ (false = true) by decide)] at H; exact H
          clear H
          have H := H1
          clear H1
          cases Option.some.inj H

end Go.Proofs.YtogegkfefpgbcaaDoor.PL
