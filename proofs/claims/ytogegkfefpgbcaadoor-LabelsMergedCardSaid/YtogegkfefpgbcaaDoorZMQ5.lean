/- Functions of the labels (packed). -/
import Derived.Test.YtogegkfefpgbcaaDoorZMPLx0
import Derived.Test.YtogegkfefpgbcaaDoorZMPLx1
import Derived.Test.YtogegkfefpgbcaaDoorZMPLx2
import Derived.Test.YtogegkfefpgbcaaDoorZMQ1
import Derived.Test.YtogegkfefpgbcaaDoorZMQ2
import Derived.Test.YtogegkfefpgbcaaDoorZMQ3
import Derived.Test.YtogegkfefpgbcaaDoorZMHB
import Derived.Test.YtogegkfefpgbcaaDoorZMHG0
import Derived.Test.YtogegkfefpgbcaaDoorZMPD
import Derived.Test.YtogegkfefpgbcaaDoorZMShelf
import Derived.Test.YtogegkfefpgbcaaDoorZMHA
import Derived.Test.YtogegkfefpgbcaaDoorZMHD
import Derived.Test.YtogegkfefpgbcaaDoorZMHI
import Derived.Test.YtogegkfefpgbcaaDoorZMLC
import Derived.Test.YtogegkfefpgbcaaDoorZMLB
import Derived.Test.YtogegkfefpgbcaaDoorZMLD
import Derived.Test.YtogegkfefpgbcaaDoorZMQ4
namespace Go.Proofs.YtogegkfefpgbcaaDoor.PL
open Go.RowKit Go.Proofs.YtogegkfefpgbcaaDoorW.PrintWords Go.Proofs.YtogegkfefpgbcaaDoorW.PrintLast Go.Proofs.YtogegkfefpgbcaaDoorW.PrintMore
attribute [local go_sem] max2_int min2_int max_two min_two max_three min_three max_four min_four   -- for this text's walks alone
set_option linter.unusedVariables false
set_option linter.unusedSimpArgs false
attribute [local go_sem high] eqA59
attribute [local go_sem high] eqA36

/-! ### cmp_Compare_string: function 76 -/
def cmp_Compare_string.f (a0 : ByteArray) (a1 : ByteArray) : Option (Int) := (cmp_isNaN_string.f a0).bind fun t773 => ((cmp_isNaN_string.f a1).bind fun t774 => (if t773 = true then (if t774 = true then (some 0) else (some (-1))) else (if t774 = true then (some 1) else (if (Op.bytesLess a0.toList a1.toList) = true then (some (-1)) else (if (Op.bytesLess a1.toList a0.toList) = true then (some 1) else (some 0))))))
/-! ### labels_Compare_1: function 74 -/
def labels_Compare_1.f (k : Nat) (a0_0 : ByteArray) (a0_1 : ByteArray) (a1_0 : ByteArray) (a1_1 : ByteArray) : Option (Int) := (cmp_Compare_string.f a0_0 a1_0).bind fun t777 => ((cmp_Compare_string.f a0_1 a1_1).bind fun t778 => ((cmp_Or_int.f k (([t777, t778] : List Int))).bind fun t782 => (some t782)))
/-! ### api_Label_73: function 73 -/
def api_Label_73.l0 : Nat → List (S59) → List (S59) → List (S59) → Int → Int → Option (Int)
  | 0, _, _, _, _, _ => none
  | k + 1, x0, x1, x11, x12, x13 => if x13 < x12 then (if 0 ≤ x13 then (if x13 < (x11.length : Int) then (if x13 ≥ (x1.length : Int) then (some 1) else (if x13 < (x1.length : Int) then ((labels_Compare_1.f k ((rd_T59 x11 x13).f0) ((rd_T59 x11 x13).f1) ((rd_T59 x1 x13).f0) ((rd_T59 x1 x13).f1)).bind fun t787 => (if t787 = 0 then (api_Label_73.l0 k x0 x1 x11 x12 (wrap64 (x13 + 1))) else (some t787))) else (none))) else (none)) else (none)) else (if (x0.length : Int) < (x1.length : Int) then (some (-1)) else (some 0))
def api_Label_73.f (k : Nat) (l0 : List (S59)) (l1 : List (S59))  : Option (Int) := api_Label_73.l0 k l0 l1 l0 (l0.length : Int) 0
/-! ### labels_Compare: function 36 -/
def labels_Compare.f (k : Nat) (l0 : List (S59)) (l1 : List (S59)) : Option (Int) := (api_Label_73.f k l0 l1).bind fun t788 => (some t788)
/-! ### labels_Merge: function 37 -/
mutual
def labels_Merge.j0 : Nat → List (S59) → List (S59) → Bool → Option ((List (S59)) × Int)
  | 0, _, _, _ => none
  | k + 1, x0, x1, x18 => if x18 = true then (some (([] : List (S59)), 120)) else ((api_Label_77.f x1).bind fun t797 => (labels_Merge.l0 k x1 t797 x0 (x0.length : Int) 0))
def labels_Merge.l0 : Nat → List (S59) → List (S59) → List (S59) → Int → Int → Option ((List (S59)) × Int)
  | 0, _, _, _, _, _ => none
  | k + 1, x1, x6, x21, x22, x23 => if x23 < x22 then (if 0 ≤ x23 then (if x23 < (x21.length : Int) then ((labels_Get.f k x1 ((rd_T59 x21 x23).f0)).bind fun bt802 => (if bt802.2 = true then (labels_Merge.l0 k x1 x6 x21 x22 (wrap64 (x23 + 1))) else (if x6.length < 4398046511104 then (labels_Merge.l0 k x1 (x6 ++ [(⟨(rd_T59 x21 x23).f0, (rd_T59 x21 x23).f1⟩ : S59)]) x21 x22 (wrap64 (x23 + 1))) else (none)))) else (none)) else (none)) else (if (x6.length : Int) > 32 then (some (([] : List (S59)), 3)) else ((api_Label_string_50.f x6).bind fun t807 => (some (t807, 0))))
end
def labels_Merge.f (k : Nat) (l0 : List (S59)) (l1 : List (S59)) : Option ((List (S59)) × Int) := (labels_Right.f k l0).bind fun t795 => (if t795 = true then ((labels_Right.f k l1).bind fun t796 => (labels_Merge.j0 k l0 l1 (!t796))) else (labels_Merge.j0 k l0 l1 true))
set_option maxHeartbeats 8000000 in
set_option maxRecDepth 100000 in
theorem labels_Merge.calls (k : Nat) (A0 : Option Addr) (c0 : Nat) (l0 : List (S59)) (A1 : Option Addr) (c1 : Nat) (l1 : List (S59)) (r1 : List (S59)) (r2 : Int) (w : World) (hr0 : Kd.C k59 w A0 l0.length l0) (hc0 : l0.length ≤ c0) (hr1 : Kd.C k59 w A1 l1.length l1) (hc1 : l1.length ≤ c1) (hG : G w) (h : labels_Merge.f k l0 l1 = some (r1, r2)) :
    Calls Tryd.prog 37 #[.slice A0 l0.length c0, .slice A1 l1.length c1] w fun e w' => ∃ v0_ : Value, e = .returned (.tuple #[v0_, .int .i64 r2]) ∧ Kd.R k59 59 w' w.heap.size (fun _ => True) v0_ r1 ∧ Below w.heap.size w w' := by
  have hu59 := Tryd.underlying59
  have HR0 := Aside0.mk hr0
  have HC0 := Aside0.mk hc0
  clear hr0 hc0
  have HR1 := Aside0.mk hr1
  have HC1 := Aside0.mk hc1
  clear hr1 hc1
  have HB := Aside0.mk (Below.refl w.heap.size w)
  have HG := Aside0.mk hG
  clear hG
  have H : ((labels_Right.f k l0).bind fun t795 => (if t795 = true then ((labels_Right.f k l1).bind fun t796 => (labels_Merge.j0 k l0 l1 (!t796))) else (labels_Merge.j0 k l0 l1 true))) = some (r1, r2) := h
  clear h
  have HC3 := Aside0.mk H
  clear H
  go_enter Tryd.func37, Tryd.ntmps37
  go_upto_region 1 with (fail)
  go_cut [18] (fun v18 wc => ∃ (kq : Nat) (x18_2 : Bool), v18 = .bool x18_2 ∧ Aside0 (labels_Merge.j0 kq l0 l1 x18_2 = some (r1, r2)) ∧ Aside0 (kq ≤ k) ∧ Aside0 (Below w.heap.size w wc))
  case first =>
    have H := HC3.out
    clear HC3
    replace H := Option.bind_eq_some_iff.mp H
    obtain ⟨t795, A40, H⟩ := H
    replace H : (if t795 = true then ((labels_Right.f k l1).bind fun t796 => (labels_Merge.j0 k l0 l1 (!t796))) else (labels_Merge.j0 k l0 l1 true)) = some (r1, r2) := H
    have A4 := Aside0.mk A40
    clear A40
    by_cases c5 : t795 = true
    · subst c5
      have H1 : ((labels_Right.f k l1).bind fun t796 => (labels_Merge.j0 k l0 l1 (!t796))) = some (r1, r2) := by rw [if_pos rfl] at H; exact H
      clear H
      have H := H1
      clear H1
      replace H := Option.bind_eq_some_iff.mp H
      obtain ⟨t796, A60, H⟩ := H
      replace H : (labels_Merge.j0 k l0 l1 (!t796)) = some (r1, r2) := H
      have A6 := Aside0.mk A60
      clear A60
      have H' := Aside0.mk H
      clear H
      go_wp2_with (first | ((with_reducible refine gate_callee (f := 28) rfl ?_); refine goesL_ (some 12) rfl rfl Tryd.func28 (by kernel_rfl) rfl #[.slice A0 l0.length c0] rfl zl ?_; (with_reducible refine (labels_Right.calls k _ _ l0 true _ ?side1 ?side2 ?side3 A4.out).mono ?_); (case side1 => exact zc (Kd.C_below HR0.out HB.out)); (case side2 => exact HC0.out); (case side3 => first | (with_reducible exact HG.out) | (with_reducible exact G.drewN HG.out _) | exact G.below HG.out (zb HB.out)); rintro e w7 ⟨rfl, hb⟩; refine ⟨_, rfl, ?_⟩; have n0_ := Aside0.mk (below_step (zb HB.out) hb); clear HB; have HB := n0_; clear n0_; (try clear hb); (try clear hb2); (try clear hk); (try clear hi)) | (go_at_call 28; (with_reducible refine (labels_Right.calls k _ _ l1 t796 _ ?side1 ?side2 ?side3 A6.out).mono ?_); (case side1 => exact zc (Kd.C_below HR1.out HB.out)); (case side2 => exact HC1.out); (case side3 => first | (with_reducible exact HG.out) | (with_reducible exact G.drewN HG.out _) | exact G.below HG.out (zb HB.out)); rintro e w8 ⟨rfl, hb⟩; have n0_ := Aside0.mk (below_step (zb HB.out) hb); clear HB; have HB := n0_; clear n0_; (try clear hb); (try clear hb2); (try clear hk); (try clear hi)))
      go_meet
      case rel => exact ⟨_, (!t796), zs, H', ⟨by first | omega | exact Nat.le_refl _⟩, ⟨zb HB.out⟩⟩
    · replace c5 := Bool.eq_false_iff.mpr c5
      subst c5
      have H1 : (labels_Merge.j0 k l0 l1 true) = some (r1, r2) := by rw [if_neg (show ¬ (false = true) by decide)] at H; exact H
      clear H
      have H := H1
      clear H1
      have H' := Aside0.mk H
      clear H
      go_wp2_with (first | ((with_reducible refine gate_callee (f := 28) rfl ?_); refine goesL_ (some 12) rfl rfl Tryd.func28 (by kernel_rfl) rfl #[.slice A0 l0.length c0] rfl zl ?_; (with_reducible refine (labels_Right.calls k _ _ l0 false _ ?side1 ?side2 ?side3 A4.out).mono ?_); (case side1 => exact zc (Kd.C_below HR0.out HB.out)); (case side2 => exact HC0.out); (case side3 => first | (with_reducible exact HG.out) | (with_reducible exact G.drewN HG.out _) | exact G.below HG.out (zb HB.out)); rintro e w9 ⟨rfl, hb⟩; refine ⟨_, rfl, ?_⟩; have n0_ := Aside0.mk (below_step (zb HB.out) hb); clear HB; have HB := n0_; clear n0_; (try clear hb); (try clear hb2); (try clear hk); (try clear hi)))
      go_meet
      case rel => exact ⟨_, (true), zs, H', ⟨by first | omega | exact Nat.le_refl _⟩, ⟨zb HB.out⟩⟩
  case rest =>
    clear HC3
    try clear c1
    try clear c2
    try clear p2
    try clear c3
    try clear c5
    obtain ⟨kq, x18_2, rfl, HA, HJ2, HB⟩ := hcut
    cases kq with
    | zero => exact absurd HA.out (by simp [labels_Merge.j0])
    | succ kj2 =>
      have H := HA.out
      clear HA
      simp only [labels_Merge.j0] at H
      by_cases c10 : x18_2 = true
      · subst c10
        have H1 : (some (([] : List (S59)), 120)) = some (r1, r2) := by rw [if_pos rfl] at H; exact H
        clear H
        have H := H1
        clear H1
        simp only [Option.some.injEq, Prod.mk.injEq] at H
        obtain ⟨rfl, rfl⟩ := H
        go_wp2
        go_ret2
        exact ⟨_, ze, by first | exact Kd.R_nil _ _ _ _ _ | exact Kd.N_nil _ _ _ _ _ | exact Kd.V_nil _ _ _ _ _ | exact Kd.Q_nil _ _ _ _ _ | exact Kd.S_nil _ _ _ _ _, zb HB.out⟩
      · replace c10 := Bool.eq_false_iff.mpr c10
        subst c10
        have H1 : ((api_Label_77.f l1).bind fun t797 => (labels_Merge.l0 kj2 l1 t797 l0 (l0.length : Int) 0)) = some (r1, r2) := by rw [if_neg (show ¬ (false = true) by decide)] at H; exact H
        clear H
        have H := H1
        clear H1
        replace H := Option.bind_eq_some_iff.mp H
        obtain ⟨t797, A110, H⟩ := H
        replace H : (labels_Merge.l0 kj2 l1 t797 l0 (l0.length : Int) 0) = some (r1, r2) := H
        have A11 := Aside0.mk A110
        clear A110
        have H' := Aside0.mk H
        clear H
        go_wp2_with (first | ((with_reducible refine gate_callee (f := 77) rfl ?_); refine goesL_ (some 20) rfl rfl Tryd.func77 (by kernel_rfl) rfl #[.slice A1 l1.length c1] rfl zl ?_; (with_reducible refine (api_Label_77.calls _ _ l1 t797 _ ?side1 ?side2 A11.out).mono ?_); (case side1 => exact zc (Kd.C_below HR1.out HB.out)); (case side2 => exact HC1.out); rintro e w12 ⟨v798, rfl, ho0, hb⟩; refine ⟨_, rfl, ?_⟩; have n0_ := Aside0.mk (Kd.R_lower ho0 (below_size (zb HB.out))); have n1_ := Aside0.mk (below_step (zb HB.out) hb); clear HB; have HO799 := n0_; have HB := n1_; clear n0_ n1_; (try clear hb); (try clear hb2); (try clear hk); (try clear hi); (try clear ho0)))
        go_loopg [6, 23] kj2 (fun kq v6 v23 w' => ∃ (x6_2 : List (S59)) (x23_2 : Int), v23 = .int .i64 x23_2 ∧ Aside0 (labels_Merge.l0 kq l1 x6_2 l0 (l0.length : Int) x23_2 = some (r1, r2)) ∧ Aside0 (kq ≤ kj2) ∧ Aside0 (Kd.R k59 59 w' w.heap.size (fun _ => True) v6 x6_2) ∧ Aside0 (Below w.heap.size w w'))
        case atStart => exact ⟨(t797), (0), zs, H', ⟨Nat.le_refl _⟩, ⟨zr HO799.out⟩, ⟨zb HB.out⟩⟩
        case round =>
          clear H'
          try clear c1
          try clear c2
          try clear p2
          try clear c3
          try clear c5
          try clear c7
          try clear c10
          try clear p2
          obtain ⟨x6_2, x23_2, rfl, HA, HK2, HO_6, HB⟩ := hrel
          cases gk with
          | zero => exact absurd HA.out (by simp [labels_Merge.l0])
          | succ k2 =>
            have H := HA.out
            clear HA
            simp only [labels_Merge.l0] at H
            by_cases c13 : x23_2 < (l0.length : Int)
            · rw [if_pos c13] at H
              have c13b0 : decide (x23_2 < (l0.length : Int)) = true := decide_eq_true c13
              clear c13
              by_cases c14 : 0 ≤ x23_2
              · rw [if_pos c14] at H
                have c14b0 : decide (0 ≤ x23_2) = true := decide_eq_true c14
                clear c14
                by_cases c15 : x23_2 < (l0.length : Int)
                · rw [if_pos c15] at H
                  have c15b0 : decide (x23_2 < (l0.length : Int)) = true := decide_eq_true c15
                  clear c15
                  replace H := Option.bind_eq_some_iff.mp H
                  obtain ⟨⟨t802, t803⟩, A160, H⟩ := H
                  replace H : (if t803 = true then (labels_Merge.l0 k2 l1 x6_2 l0 (l0.length : Int) (wrap64 (x23_2 + 1))) else (if x6_2.length < 4398046511104 then (labels_Merge.l0 k2 l1 (x6_2 ++ [(⟨(rd_T59 l0 x23_2).f0, (rd_T59 l0 x23_2).f1⟩ : S59)]) l0 (l0.length : Int) (wrap64 (x23_2 + 1))) else (none))) = some (r1, r2) := H
                  have A16 := Aside0.mk A160
                  clear A160
                  by_cases c17 : t803 = true
                  · subst c17
                    have H1 : (labels_Merge.l0 k2 l1 x6_2 l0 (l0.length : Int) (wrap64 (x23_2 + 1))) = some (r1, r2) := by rw [if_pos rfl] at H; exact H
                    clear H
                    have H := H1
                    clear H1
                    have H' := Aside0.mk H
                    clear H
                    have p800 : 0 ≤ (x23_2 : Int) := of_decide_eq_true za
                    have q800 : x23_2 < (l0.length : Int) := of_decide_eq_true za
                    obtain ⟨ad800, e800, hx800_0, hx800_1⟩ := at_T59 HR0.out x23_2 p800 q800
                    cases e800
                    replace hx800_0 := (HB.out.cell (World.block_lt_of_cell? w _ hx800_0)).trans hx800_0
                    replace hx800_1 := (HB.out.cell (World.block_lt_of_cell? w _ hx800_1)).trans hx800_1
                    replace p800 := eq_true p800
                    replace q800 := eq_true q800
                    go_wp2_with (first | ((with_reducible refine gate_dst (N := 8) rfl ?_); refine box_event ?hg (N := 8) ?hd (cs := #[.string (⟨#[]⟩ : ByteArray), .string (⟨#[]⟩ : ByteArray)]) (t := 59) ?hr ?_; (case hd => rfl); (case hg => rfl); (case hr => first | (go_simp; done) | (go_simp; rfl)); intro gb801 hg w18 hbox hb; have n0_ := Aside0.mk (Kd.R_below (Kd.R_elderB (zr HO_6.out) gb801 (Nat.le_of_eq hg.symm)) hb); have n1_ := Aside0.mk (below_step (zb HB.out) hb); have n2_ := Aside0.mk (hbox); have n3_ := Aside0.mk ((by rw [hg]; exact (below_size (zb HB.out)) : w.heap.size ≤ gb801)); have n4_ := Aside0.mk ((by rw [hg]; exact (below_size (zb HB.out)) : w.heap.size ≤ gb801)); clear HO_6; clear HB; have HO_6 := n0_; have HB := n1_; have BK801 := n2_; have GW801 := n3_; have GE801 := n4_; clear n0_ n1_ n2_ n3_ n4_; clear hb hbox hg; have hcz19_0 : w18.cell? ⟨gb801, 0, none⟩ = some (.string (⟨#[]⟩ : ByteArray)) := (blk_cell BK801.out 0).trans rfl; have hcz19_1 : w18.cell? ⟨gb801, 1, none⟩ = some (.string (⟨#[]⟩ : ByteArray)) := (blk_cell BK801.out 1).trans rfl; have hfz19_0 := blk_frozen BK801.out 0; have hfz19_1 := blk_frozen BK801.out 1) | ((with_reducible refine gate_callee (f := 40) rfl ?_); refine goesL_ (some 31) rfl rfl Tryd.func40 (by kernel_rfl) rfl #[.slice A1 l1.length c1, .string ((rd_T59 l0 x23_2).f0)] rfl zl ?_; (with_reducible refine (labels_Get.calls k2 _ _ l1 ((rd_T59 l0 x23_2).f0) t802 true _ ?side1 ?side2 A16.out).mono ?_); (case side1 => exact Kd.C_below HR1.out (by repeat (first | (with_reducible first | exact HB.out | apply below_alloc | apply pw_below_drewN | apply below_drew1 | refine below_set ?_ GE801.out) | exact HB.out))); (case side2 => exact HC1.out); rintro e w20 ⟨rfl, hb⟩; refine ⟨_, rfl, ?_⟩; have n0_ := Aside0.mk (Kd.R_below (by (with_reducible repeat (first | apply Kd.R_alloc | apply Kd.R_drewN | apply Kd.R_drew)); exact (Kd.R_mono (Kd.R_far (p := ⟨gb801, 1, none⟩) (Kd.R_far (p := ⟨gb801, 0, none⟩) (Kd.R_mono HO_6.out (fun k_ hk => (⟨hk, hk.2⟩ : _ ∧ k_ ≠ gb801))) (fun _ hk => hk.2) (.string ((rd_T59 l0 x23_2).f0))) (fun _ hk => hk.2) (.string ((rd_T59 l0 x23_2).f1))) (fun _ h_ => h_.1))) hb); have n1_ := Aside0.mk (blk_below (g := gb801) (o := .cells #[.string ((rd_T59 l0 x23_2).f0), .string ((rd_T59 l0 x23_2).f1)] 59 (0, 0)) (by (with_reducible repeat (first | refine blk_drewN ?_ _ | refine blk_drew ?_ | refine blk_alloc ?_ _)); refine blk_put (cs := #[.string ((rd_T59 l0 x23_2).f0), .string (⟨#[]⟩ : ByteArray)]) ?_ 1 _ rfl; (with_reducible repeat (first | refine blk_drewN ?_ _ | refine blk_drew ?_ | refine blk_alloc ?_ _)); refine blk_put (cs := #[.string (⟨#[]⟩ : ByteArray), .string (⟨#[]⟩ : ByteArray)]) ?_ 0 _ rfl; (with_reducible repeat (first | refine blk_drewN ?_ _ | refine blk_drew ?_ | refine blk_alloc ?_ _)); exact BK801.out) hb); have n2_ := Aside0.mk (below_step (by repeat (first | (with_reducible first | exact HB.out | apply below_alloc | apply pw_below_drewN | apply below_drew1 | refine below_set ?_ GE801.out) | exact HB.out)) hb); clear HO_6; clear BK801; clear HB; have HO_6 := n0_; have BK801 := n1_; have HB := n2_; clear n0_ n1_ n2_; (try clear hb); (try clear hb2); (try clear hk); (try clear hi)))
                    go_roundg k2
                    case measure => have := HJ2.out; have := HK2.out; omega
                    case rel => exact ⟨(x6_2), (wrap64 (x23_2 + 1)), zs, H', ⟨by have := HJ2.out; have := HK2.out; omega⟩, ⟨by (with_reducible repeat (first | apply Kd.R_alloc | apply Kd.R_drewN | apply Kd.R_drew)); exact Kd.R_mono HO_6.out (fun _ hk => trivial)⟩, ⟨by repeat (first | (with_reducible first | exact HB.out | apply below_alloc | apply pw_below_drewN | apply below_drew1 | refine below_set ?_ GE801.out) | exact HB.out)⟩⟩
                  · replace c17 := Bool.eq_false_iff.mpr c17
                    subst c17
                    have H1 : (if x6_2.length < 4398046511104 then (labels_Merge.l0 k2 l1 (x6_2 ++ [(⟨(rd_T59 l0 x23_2).f0, (rd_T59 l0 x23_2).f1⟩ : S59)]) l0 (l0.length : Int) (wrap64 (x23_2 + 1))) else (none)) = some (r1, r2) := by rw [if_neg (show ¬ (false = true) by decide)] at H; exact H
                    clear H
                    have H := H1
                    clear H1
                    by_cases c21 : x6_2.length < 4398046511104
                    · rw [if_pos c21] at H
                      have LMc21 := Aside0.mk c21
                      clear c21
                      obtain ⟨y804, hy804⟩ : ∃ y_ : List (S59), y_ = (x6_2 ++ [(⟨(rd_T59 l0 x23_2).f0, (rd_T59 l0 x23_2).f1⟩ : S59)]) := ⟨_, rfl⟩
                      replace H : (labels_Merge.l0 k2 l1 y804 l0 (l0.length : Int) (wrap64 (x23_2 + 1))) = some (r1, r2) := by first | (rw [hy804]; with_reducible exact H) | (have H2_ := (Option.bind_some _ _).symm.trans H; rw [hy804]; with_reducible exact H2_) | (have H2_ := (Option.bind_some _ _).symm.trans H; with_reducible exact H2_) | with_reducible exact H | (rw [hy804]; exact H) | exact H
                      have Ny804 := Aside0.mk hy804
                      clear hy804
                      have H' := Aside0.mk H
                      clear H
                      have p800 : 0 ≤ (x23_2 : Int) := of_decide_eq_true za
                      have q800 : x23_2 < (l0.length : Int) := of_decide_eq_true za
                      obtain ⟨ad800, e800, hx800_0, hx800_1⟩ := at_T59 HR0.out x23_2 p800 q800
                      cases e800
                      replace hx800_0 := (HB.out.cell (World.block_lt_of_cell? w _ hx800_0)).trans hx800_0
                      replace hx800_1 := (HB.out.cell (World.block_lt_of_cell? w _ hx800_1)).trans hx800_1
                      replace p800 := eq_true p800
                      replace q800 := eq_true q800
                      go_wp2_with (first | ((with_reducible refine gate_dst (N := 8) rfl ?_); refine box_event ?hg (N := 8) ?hd (cs := #[.string (⟨#[]⟩ : ByteArray), .string (⟨#[]⟩ : ByteArray)]) (t := 59) ?hr ?_; (case hd => rfl); (case hg => rfl); (case hr => first | (go_simp; done) | (go_simp; rfl)); intro gb801 hg w22 hbox hb; have n0_ := Aside0.mk (Kd.R_below (Kd.R_elderB (zr HO_6.out) gb801 (Nat.le_of_eq hg.symm)) hb); have n1_ := Aside0.mk (below_step (zb HB.out) hb); have n2_ := Aside0.mk (hbox); have n3_ := Aside0.mk ((by rw [hg]; exact (below_size (zb HB.out)) : w.heap.size ≤ gb801)); have n4_ := Aside0.mk ((by rw [hg]; exact (below_size (zb HB.out)) : w.heap.size ≤ gb801)); clear HO_6; clear HB; have HO_6 := n0_; have HB := n1_; have BK801 := n2_; have GW801 := n3_; have GE801 := n4_; clear n0_ n1_ n2_ n3_ n4_; clear hb hbox hg; have hcz23_0 : w22.cell? ⟨gb801, 0, none⟩ = some (.string (⟨#[]⟩ : ByteArray)) := (blk_cell BK801.out 0).trans rfl; have hcz23_1 : w22.cell? ⟨gb801, 1, none⟩ = some (.string (⟨#[]⟩ : ByteArray)) := (blk_cell BK801.out 1).trans rfl; have hfz23_0 := blk_frozen BK801.out 0; have hfz23_1 := blk_frozen BK801.out 1) | ((with_reducible refine gate_callee (f := 40) rfl ?_); refine goesL_ (some 31) rfl rfl Tryd.func40 (by kernel_rfl) rfl #[.slice A1 l1.length c1, .string ((rd_T59 l0 x23_2).f0)] rfl zl ?_; (with_reducible refine (labels_Get.calls k2 _ _ l1 ((rd_T59 l0 x23_2).f0) t802 false _ ?side1 ?side2 A16.out).mono ?_); (case side1 => exact Kd.C_below HR1.out (by repeat (first | (with_reducible first | exact HB.out | apply below_alloc | apply pw_below_drewN | apply below_drew1 | refine below_set ?_ GE801.out) | exact HB.out))); (case side2 => exact HC1.out); rintro e w24 ⟨rfl, hb⟩; refine ⟨_, rfl, ?_⟩; have n0_ := Aside0.mk (Kd.R_below (by (with_reducible repeat (first | apply Kd.R_alloc | apply Kd.R_drewN | apply Kd.R_drew)); exact (Kd.R_mono (Kd.R_far (p := ⟨gb801, 1, none⟩) (Kd.R_far (p := ⟨gb801, 0, none⟩) (Kd.R_mono HO_6.out (fun k_ hk => (⟨hk, hk.2⟩ : _ ∧ k_ ≠ gb801))) (fun _ hk => hk.2) (.string ((rd_T59 l0 x23_2).f0))) (fun _ hk => hk.2) (.string ((rd_T59 l0 x23_2).f1))) (fun _ h_ => h_.1))) hb); have n1_ := Aside0.mk (blk_below (g := gb801) (o := .cells #[.string ((rd_T59 l0 x23_2).f0), .string ((rd_T59 l0 x23_2).f1)] 59 (0, 0)) (by (with_reducible repeat (first | refine blk_drewN ?_ _ | refine blk_drew ?_ | refine blk_alloc ?_ _)); refine blk_put (cs := #[.string ((rd_T59 l0 x23_2).f0), .string (⟨#[]⟩ : ByteArray)]) ?_ 1 _ rfl; (with_reducible repeat (first | refine blk_drewN ?_ _ | refine blk_drew ?_ | refine blk_alloc ?_ _)); refine blk_put (cs := #[.string (⟨#[]⟩ : ByteArray), .string (⟨#[]⟩ : ByteArray)]) ?_ 0 _ rfl; (with_reducible repeat (first | refine blk_drewN ?_ _ | refine blk_drew ?_ | refine blk_alloc ?_ _)); exact BK801.out) hb); have n2_ := Aside0.mk (below_step (by repeat (first | (with_reducible first | exact HB.out | apply below_alloc | apply pw_below_drewN | apply below_drew1 | refine below_set ?_ GE801.out) | exact HB.out)) hb); clear HO_6; clear BK801; clear HB; have HO_6 := n0_; have BK801 := n1_; have HB := n2_; clear n0_ n1_ n2_; (try clear hb); (try clear hb2); (try clear hk); (try clear hi); have hcz25_0 : w24.cell? ⟨gb801, 0, none⟩ = some (.string ((rd_T59 l0 x23_2).f0)) := (blk_cell BK801.out 0).trans rfl; have hcz25_1 : w24.cell? ⟨gb801, 1, none⟩ = some (.string ((rd_T59 l0 x23_2).f1)) := (blk_cell BK801.out 1).trans rfl; have hfz25_0 := blk_frozen BK801.out 0; have hfz25_1 := blk_frozen BK801.out 1) | ((with_reducible refine gate_builtin (b := .append) (xs := #[.tmp 36, .tmp 38]) rfl ?_); at_builtin; refine Kd.R_append k59 (w0 := w) w.heap.size rfl (.tmp 36) (.tmp 38) 22 59 (.agg #[(.string ⟨#[]⟩), (.string ⟨#[]⟩)]) 32 rfl Tryd.underlying22 info59 rfl (by decide) (by omega) u6 x6_2 (⟨(rd_T59 l0 x23_2).f0, (rd_T59 l0 x23_2).f1⟩ : S59) [.string ((rd_T59 l0 x23_2).f0), .string ((rd_T59 l0 x23_2).f1)] (fun k_ => k_ ≠ gb801) (fun _ => False) rfl rfl ?aP (fun _ hk => hk.elim) ?aF ?aO ?aB ?aS ?aL ?_; (case aP => exact k59_mkM _ _ _ (⟨(rd_T59 l0 x23_2).f0, (rd_T59 l0 x23_2).f1⟩ : S59)); (case aB => exact (by repeat (first | (with_reducible first | exact HB.out | apply below_alloc | apply pw_below_drewN | apply below_drew1 | refine below_set ?_ GE801.out) | exact HB.out))); (case aF => exact (fun k_ hk => Kd.freshB (g := gb801) (o := .cells #[.string ((rd_T59 l0 x23_2).f0), .string ((rd_T59 l0 x23_2).f1)] 59 (0, 0)) (by (with_reducible repeat (first | refine blk_drewN ?_ _ | refine blk_drew ?_ | refine blk_alloc ?_ _)); exact BK801.out) k_ hk)); (case aO => exact (by (with_reducible repeat (first | apply Kd.R_alloc | apply Kd.R_drewN | apply Kd.R_drew)); exact Kd.R_mono HO_6.out (fun _ hk => hk.2))); (case aS => exact (below_size (by repeat (first | (with_reducible first | exact HB.out | apply below_alloc | apply pw_below_drewN | apply below_drew1 | refine below_set ?_ GE801.out) | exact HB.out)))); (case aL => have := LMc21.out; omega); intro v805 w26 ho hb hg hat; rw [← Ny804.out] at ho; have n0_ := Aside0.mk (blk_grown (g := gb801) (o := .cells #[.string ((rd_T59 l0 x23_2).f0), .string ((rd_T59 l0 x23_2).f1)] 59 (0, 0)) (by (with_reducible repeat (first | refine blk_drewN ?_ _ | refine blk_drew ?_ | refine blk_alloc ?_ _)); exact BK801.out) hg (Kd.R_away HO_6.out (fun _ hk => hk.2))); have n1_ := Aside0.mk (hb); have n2_ := Aside0.mk (ho); clear BK801; clear HB; clear HO_6; have BK801 := n0_; have HB := n1_; have HO806 := n2_; clear n0_ n1_ n2_; clear ho hb hg hat))
                      go_roundg k2
                      case measure => have := HJ2.out; have := HK2.out; omega
                      case rel => exact ⟨(y804), (wrap64 (x23_2 + 1)), zs, H', ⟨by have := HJ2.out; have := HK2.out; omega⟩, ⟨by (with_reducible repeat (first | apply Kd.R_alloc | apply Kd.R_drewN | apply Kd.R_drew)); exact Kd.R_mono HO806.out (fun _ hk => trivial)⟩, ⟨by repeat (first | (with_reducible first | exact HB.out | apply below_alloc | apply pw_below_drewN | apply below_drew1 | refine below_set ?_ GE801.out) | exact HB.out)⟩⟩
                    · rw [if_neg c21] at H
                      exact absurd H (by simp)
                · rw [if_neg c15] at H
                  exact absurd H (by simp)
              · rw [if_neg c14] at H
                exact absurd H (by simp)
            · rw [if_neg c13] at H
              have c13b0 : decide (x23_2 < (l0.length : Int)) = false := decide_eq_false c13
              clear c13
              by_cases c27 : (x6_2.length : Int) > 32
              · rw [if_pos c27] at H
                have c27b0 : decide (32 < (x6_2.length : Int)) = true := decide_eq_true c27
                have c27b1 : decide (32 < x6_2.length) = true := decide_eq_true (by omega)
                clear c27
                simp only [Option.some.injEq, Prod.mk.injEq] at H
                obtain ⟨rfl, rfl⟩ := H
                obtain ⟨Ao28, co28, eo28⟩ := Kd.R_slice HO_6.out
                subst eo28
                go_wp2
                go_ret2
                exact ⟨_, ze, by first | exact Kd.R_nil _ _ _ _ _ | exact Kd.N_nil _ _ _ _ _ | exact Kd.V_nil _ _ _ _ _ | exact Kd.Q_nil _ _ _ _ _ | exact Kd.S_nil _ _ _ _ _, zb HB.out⟩
              · rw [if_neg c27] at H
                have c27b0 : decide (32 < (x6_2.length : Int)) = false := decide_eq_false c27
                have c27b1 : decide (32 < x6_2.length) = false := decide_eq_false (by omega)
                clear c27
                replace H := Option.bind_eq_some_iff.mp H
                obtain ⟨t807, A290, H⟩ := H
                replace H : (some (t807, 0)) = some (r1, r2) := H
                have A29 := Aside0.mk A290
                clear A290
                simp only [Option.some.injEq, Prod.mk.injEq] at H
                obtain ⟨rfl, rfl⟩ := H
                obtain ⟨Ao30, co30, eo30⟩ := Kd.R_slice HO_6.out
                subst eo30
                go_wp2_with (first | ((with_reducible refine gate_callee (f := 50) rfl ?_); refine goesL_ (some 45) rfl rfl Tryd.func50 (by kernel_rfl) rfl #[.slice Ao30 x6_2.length co30, .func (.func 51) #[] #[]] rfl zl ?_; (with_reducible refine (api_Label_string_50.calls _ _ x6_2  t807 _ ?side1 ?side2 A29.out).mono ?_); (case side1 => exact zc (Kd.R_reads' HO_6.out).2.2); (case side2 => exact (Kd.R_reads' HO_6.out).2.1); rintro e w31 ⟨v808, rfl, ho0, hb⟩; refine ⟨_, rfl, ?_⟩; have n0_ := Aside0.mk (Kd.R_elder' (zr HO_6.out) (Kd.R_base ho0) hb); have n1_ := Aside0.mk (Kd.R_lower (Kd.R_new' ho0 (Kd.R_lt (zr HO_6.out))) (below_size (zb HB.out))); have n2_ := Aside0.mk (below_step (zb HB.out) hb); clear HO_6; clear HB; have HO_6 := n0_; have HO809 := n1_; have HB := n2_; clear n0_ n1_ n2_; (try clear hb); (try clear hb2); (try clear hk); (try clear hi); (try clear ho0)))
                go_ret2
                exact ⟨_, ze, by (with_reducible repeat (first | apply Kd.R_alloc | apply Kd.R_drewN | apply Kd.R_drew)); exact Kd.R_mono HO809.out (fun _ hk => trivial), zb HB.out⟩

end Go.Proofs.YtogegkfefpgbcaaDoor.PL
