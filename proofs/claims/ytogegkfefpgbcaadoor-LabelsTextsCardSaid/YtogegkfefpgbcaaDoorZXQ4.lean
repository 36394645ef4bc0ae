/- Functions of the labels (packed). -/
import Derived.Test.YtogegkfefpgbcaaDoorZXPLx0
import Derived.Test.YtogegkfefpgbcaaDoorZXPLx1
import Derived.Test.YtogegkfefpgbcaaDoorZXPLx2
import Derived.Test.YtogegkfefpgbcaaDoorZXQ1
import Derived.Test.YtogegkfefpgbcaaDoorZXQ2
import Derived.Test.YtogegkfefpgbcaaDoorZXHB
import Derived.Test.YtogegkfefpgbcaaDoorZXHG0
import Derived.Test.YtogegkfefpgbcaaDoorZXPD
import Derived.Test.YtogegkfefpgbcaaDoorZXShelf
import Derived.Test.YtogegkfefpgbcaaDoorZXHA
import Derived.Test.YtogegkfefpgbcaaDoorZXHD
import Derived.Test.YtogegkfefpgbcaaDoorZXLC
import Derived.Test.YtogegkfefpgbcaaDoorZXLB
import Derived.Test.YtogegkfefpgbcaaDoorZXLD
import Derived.Test.YtogegkfefpgbcaaDoorZXQ3
namespace Go.Proofs.YtogegkfefpgbcaaDoor.PL
open Go.RowKit Go.Proofs.YtogegkfefpgbcaaDoorW.PrintWords Go.Proofs.YtogegkfefpgbcaaDoorW.PrintLast Go.Proofs.YtogegkfefpgbcaaDoorW.PrintMore
attribute [local go_sem] max2_int min2_int max_two min_two max_three min_three max_four min_four   -- for this text's walks alone
set_option linter.unusedVariables false
set_option linter.unusedSimpArgs false
attribute [local go_sem high] eqA59
attribute [local go_sem high] eqA36

def labels_wants.f (k : Nat) (a0_0 : Int) (a0_1 : ByteArray) (a0_2 : ByteArray) (a1 : ByteArray) : Option (Bool) := if a0_0 = 1 then (some (a1.toList == a0_2.toList)) else (if a0_0 = 2 then (some (a1.toList != a0_2.toList)) else (if a0_0 = 3 then ((labels_Says.f k a0_2 a1).bind fun t584 => (some t584)) else ((labels_Says.f k a0_2 a1).bind fun t585 => (some (!t585)))))
theorem labels_wants.mono : ∀ a0 a1 a2 a3 k, LeO (labels_wants.f k a0 a1 a2 a3) (labels_wants.f (k + 1) a0 a1 a2 a3) := by
  intro a0 a1 a2 a3 k; unfold labels_wants.f
  repeat' first
      | (with_reducible exact labels_Says.mono _ _ _)
      | (with_reducible exact LeO.refl _)
      | (with_reducible exact LeO.none _)
      | (with_reducible refine LeO.ite ?_ ?_)
      | (with_reducible refine LeO.bind ?_ (fun _ => ?_))
      | exact labels_Says.mono _ _ _
      | exact LeO.none _
      | refine LeO.ite ?_ ?_
      | refine LeO.bind ?_ (fun _ => ?_)
set_option maxHeartbeats 8000000 in
set_option maxRecDepth 100000 in
theorem labels_wants.calls (k : Nat) (a0_0 : Int) (a0_1 : ByteArray) (a0_2 : ByteArray) (a1 : ByteArray) (r : Bool) (w : World) (hG : G w) (h : labels_wants.f k a0_0 a0_1 a0_2 a1 = some r) :
    Calls Tryd.prog 55 #[.agg #[.int .u8 a0_0, .string a0_1, .string a0_2], .string a1] w fun e w' => e = .returned (.bool r) ∧ Below w.heap.size w w' := by
  have hu36 := Tryd.underlying36; have HB := Aside0.mk (Below.refl w.heap.size w); have HG := Aside0.mk hG; clear hG; have H : (if a0_0 = 1 then (some (a1.toList == a0_2.toList)) else (if a0_0 = 2 then (some (a1.toList != a0_2.toList)) else (if a0_0 = 3 then ((labels_Says.f k a0_2 a1).bind fun t584 => (some t584)) else ((labels_Says.f k a0_2 a1).bind fun t585 => (some (!t585)))))) = some r := h; clear h; by_cases c3 : a0_0 = 1
  · rw [if_pos c3] at H
    have c3b0 : (a0_0 == 1) = true := beq_iff_eq.mpr c3; have c3b1 : (a0_0 != 1) = false := bne_eq_false_iff_eq.mpr c3; clear c3; obtain rfl := Option.some.inj H; go_enter Tryd.func55, Tryd.ntmps55; go_wp2_with (first | ((with_reducible refine gate_dst (N := 2) rfl ?_); refine box_event ?hg (N := 2) ?hd (cs := #[.int .u8 a0_0, .string a0_1, .string a0_2]) (t := 36) ?hr ?_; (case hd => rfl); (case hg => rfl); (case hr => first | (go_simp; done) | (go_simp; rfl)); intro gb583 hg w4 hbox hb; have BK583 := Aside0.mk (hbox); have GW583 := Aside0.mk ((by rw [hg]; exact (below_size (zb HB.out)) : w.heap.size ≤ gb583)); have GE583 := Aside0.mk ((by rw [hg]; exact (below_size (zb HB.out)) : w.heap.size ≤ gb583)); replace HB := Aside0.mk (below_step (zb HB.out) hb); clear hb hbox hg; have hcz5_0 : w4.cell? ⟨gb583, 0, none⟩ = some (.int .u8 a0_0) := (blk_cell BK583.out 0).trans rfl; have hcz5_1 : w4.cell? ⟨gb583, 1, none⟩ = some (.string a0_1) := (blk_cell BK583.out 1).trans rfl; have hcz5_2 : w4.cell? ⟨gb583, 2, none⟩ = some (.string a0_2) := (blk_cell BK583.out 2).trans rfl; have hfz5_0 := blk_frozen BK583.out 0; have hfz5_1 := blk_frozen BK583.out 1; have hfz5_2 := blk_frozen BK583.out 2))
    go_ret
    exact ⟨ze, zg HB.out GE583.out⟩
  · rw [if_neg c3] at H
    have c3b0 : (a0_0 == 1) = false := beq_eq_false_iff_ne.mpr c3; have c3b1 : (a0_0 != 1) = true := bne_iff_ne.mpr c3; by_cases c6 : a0_0 = 2
    · rw [if_pos c6] at H
      have c6b0 : (a0_0 == 2) = true := beq_iff_eq.mpr c6; have c6b1 : (a0_0 != 2) = false := bne_eq_false_iff_eq.mpr c6; clear c6; obtain rfl := Option.some.inj H; go_enter Tryd.func55, Tryd.ntmps55; go_wp2_with (first | ((with_reducible refine gate_dst (N := 2) rfl ?_); refine box_event ?hg (N := 2) ?hd (cs := #[.int .u8 a0_0, .string a0_1, .string a0_2]) (t := 36) ?hr ?_; (case hd => rfl); (case hg => rfl); (case hr => first | (go_simp; done) | (go_simp; rfl)); intro gb583 hg w7 hbox hb; have BK583 := Aside0.mk (hbox); have GW583 := Aside0.mk ((by rw [hg]; exact (below_size (zb HB.out)) : w.heap.size ≤ gb583)); have GE583 := Aside0.mk ((by rw [hg]; exact (below_size (zb HB.out)) : w.heap.size ≤ gb583)); replace HB := Aside0.mk (below_step (zb HB.out) hb); clear hb hbox hg; have hcz8_0 : w7.cell? ⟨gb583, 0, none⟩ = some (.int .u8 a0_0) := (blk_cell BK583.out 0).trans rfl; have hcz8_1 : w7.cell? ⟨gb583, 1, none⟩ = some (.string a0_1) := (blk_cell BK583.out 1).trans rfl; have hcz8_2 : w7.cell? ⟨gb583, 2, none⟩ = some (.string a0_2) := (blk_cell BK583.out 2).trans rfl; have hfz8_0 := blk_frozen BK583.out 0; have hfz8_1 := blk_frozen BK583.out 1; have hfz8_2 := blk_frozen BK583.out 2))
      go_ret
      exact ⟨ze, zg HB.out GE583.out⟩
    · rw [if_neg c6] at H
      have c6b0 : (a0_0 == 2) = false := beq_eq_false_iff_ne.mpr c6; have c6b1 : (a0_0 != 2) = true := bne_iff_ne.mpr c6; by_cases c9 : a0_0 = 3
      · rw [if_pos c9] at H
        have c9b0 : (a0_0 == 3) = true := beq_iff_eq.mpr c9; have c9b1 : (a0_0 != 3) = false := bne_eq_false_iff_eq.mpr c9; clear c9; replace H := Option.bind_eq_some_iff.mp H; obtain ⟨t584, A100, H⟩ := H; replace H : (some t584) = some r := H; have A10 := Aside0.mk A100; clear A100; obtain rfl := Option.some.inj H; go_enter Tryd.func55, Tryd.ntmps55
        go_wp2_with (first | ((with_reducible refine gate_dst (N := 2) rfl ?_); refine box_event ?hg (N := 2) ?hd (cs := #[.int .u8 a0_0, .string a0_1, .string a0_2]) (t := 36) ?hr ?_; (case hd => rfl); (case hg => rfl); (case hr => first | (go_simp; done) | (go_simp; rfl)); intro gb583 hg w11 hbox hb; have BK583 := Aside0.mk (hbox); have GW583 := Aside0.mk ((by rw [hg]; exact (below_size (zb HB.out)) : w.heap.size ≤ gb583)); have GE583 := Aside0.mk ((by rw [hg]; exact (below_size (zb HB.out)) : w.heap.size ≤ gb583)); replace HB := Aside0.mk (below_step (zb HB.out) hb); clear hb hbox hg; have hcz12_0 : w11.cell? ⟨gb583, 0, none⟩ = some (.int .u8 a0_0) := (blk_cell BK583.out 0).trans rfl; have hcz12_1 : w11.cell? ⟨gb583, 1, none⟩ = some (.string a0_1) := (blk_cell BK583.out 1).trans rfl; have hcz12_2 : w11.cell? ⟨gb583, 2, none⟩ = some (.string a0_2) := (blk_cell BK583.out 2).trans rfl; have hfz12_0 := blk_frozen BK583.out 0; have hfz12_1 := blk_frozen BK583.out 1; have hfz12_2 := blk_frozen BK583.out 2) | ((with_reducible refine gate_callee (f := 19) rfl ?_); refine goesL_ (some 24) rfl rfl Tryd.func19 (by kernel_rfl) rfl #[.string a0_2, .string a1] rfl zl ?_; (with_reducible refine (labels_Says.calls k a0_2 a1 t584 _ ?side1 A10.out).mono ?_); (case side1 => first | exact zG HG.out | exact G.below HG.out (zg HB.out GE583.out)); rintro e w13 ⟨rfl, hb⟩; refine ⟨_, rfl, ?_⟩; replace BK583 := Aside0.mk (blk_below (g := gb583) (o := .cells #[.int .u8 a0_0, .string a0_1, .string a0_2] 36 (0, 0)) (by (with_reducible repeat (first | refine blk_drewN ?_ _ | refine blk_drew ?_ | refine blk_alloc ?_ _)); exact BK583.out) hb); replace HB := Aside0.mk (below_step (zg HB.out GE583.out) hb); (try clear hb); (try clear hb2); (try clear hk); (try clear hi)))
        go_ret
        exact ⟨ze, zg HB.out GE583.out⟩
      · rw [if_neg c9] at H
        have c9b0 : (a0_0 == 3) = false := beq_eq_false_iff_ne.mpr c9; have c9b1 : (a0_0 != 3) = true := bne_iff_ne.mpr c9; replace H := Option.bind_eq_some_iff.mp H; obtain ⟨t585, A140, H⟩ := H; replace H : (some (!t585)) = some r := H; have A14 := Aside0.mk A140; clear A140; obtain rfl := Option.some.inj H; go_enter Tryd.func55, Tryd.ntmps55
        go_wp2_with (first | ((with_reducible refine gate_dst (N := 2) rfl ?_); refine box_event ?hg (N := 2) ?hd (cs := #[.int .u8 a0_0, .string a0_1, .string a0_2]) (t := 36) ?hr ?_; (case hd => rfl); (case hg => rfl); (case hr => first | (go_simp; done) | (go_simp; rfl)); intro gb583 hg w15 hbox hb; have BK583 := Aside0.mk (hbox); have GW583 := Aside0.mk ((by rw [hg]; exact (below_size (zb HB.out)) : w.heap.size ≤ gb583)); have GE583 := Aside0.mk ((by rw [hg]; exact (below_size (zb HB.out)) : w.heap.size ≤ gb583)); replace HB := Aside0.mk (below_step (zb HB.out) hb); clear hb hbox hg; have hcz16_0 : w15.cell? ⟨gb583, 0, none⟩ = some (.int .u8 a0_0) := (blk_cell BK583.out 0).trans rfl; have hcz16_1 : w15.cell? ⟨gb583, 1, none⟩ = some (.string a0_1) := (blk_cell BK583.out 1).trans rfl; have hcz16_2 : w15.cell? ⟨gb583, 2, none⟩ = some (.string a0_2) := (blk_cell BK583.out 2).trans rfl; have hfz16_0 := blk_frozen BK583.out 0; have hfz16_1 := blk_frozen BK583.out 1; have hfz16_2 := blk_frozen BK583.out 2) | ((with_reducible refine gate_callee (f := 19) rfl ?_); refine goesL_ (some 28) rfl rfl Tryd.func19 (by kernel_rfl) rfl #[.string a0_2, .string a1] rfl zl ?_; (with_reducible refine (labels_Says.calls k a0_2 a1 t585 _ ?side1 A14.out).mono ?_); (case side1 => first | exact zG HG.out | exact G.below HG.out (zg HB.out GE583.out)); rintro e w17 ⟨rfl, hb⟩; refine ⟨_, rfl, ?_⟩; replace BK583 := Aside0.mk (blk_below (g := gb583) (o := .cells #[.int .u8 a0_0, .string a0_1, .string a0_2] 36 (0, 0)) (by (with_reducible repeat (first | refine blk_drewN ?_ _ | refine blk_drew ?_ | refine blk_alloc ?_ _)); exact BK583.out) hb); replace HB := Aside0.mk (below_step (zg HB.out GE583.out) hb); (try clear hb); (try clear hb2); (try clear hk); (try clear hi)))
        go_ret
        exact ⟨ze, zg HB.out GE583.out⟩

def labels_Matches.l0 : Nat → List (S59) → List (S36) → Int → Int → Option (Bool × Int)
  | 0, _, _, _, _ => none
  | k + 1, x0, x19, x20, x21 => if x21 < x20 then (if 0 ≤ x21 then (if x21 < (x19.length : Int) then ((labels_Get.f k x0 ((rd_T36 x19 x21).f1)).bind fun bt590 => ((labels_wants.f k ((rd_T36 x19 x21).f0) ((rd_T36 x19 x21).f1) ((rd_T36 x19 x21).f2) bt590.1).bind fun t592 => (if t592 = true then (labels_Matches.l0 k x0 x19 x20 (wrap64 (x21 + 1))) else (some (false, 0))))) else (none)) else (none)) else (some (true, 0))
def labels_Matches.f (k : Nat) (l0 : List (S59)) (l1 : List (S36)) : Option (Bool × Int) := (labels_Right.f k l0).bind fun t586 => (if t586 = true then ((labels_checked.f k l1).bind fun t587 => (if t587 = 0 then (labels_Matches.l0 k l0 l1 (l1.length : Int) 0) else (some (false, t587)))) else (some (false, 120)))
theorem labels_Matches.mono_l : ∀ k, (∀ y0 y1 y2 y3, LeO (labels_Matches.l0 k y0 y1 y2 y3) (labels_Matches.l0 (k + 1) y0 y1 y2 y3))
  | 0 => fun _ _ _ _ r h => by simp [labels_Matches.l0] at h
  | k + 1 => by
    have ih0 := labels_Matches.mono_l k
    · intro y0 y1 y2 y3
      unfold labels_Matches.l0
      repeat' first
      | (with_reducible exact ih0 _ _ _ _)
      | (with_reducible exact labels_Get.mono _ _ _)
      | (with_reducible exact labels_Right.mono _ _)
      | (with_reducible exact labels_checked.mono _ _)
      | (with_reducible exact labels_wants.mono _ _ _ _ _)
      | (with_reducible exact LeO.refl _)
      | (with_reducible exact LeO.none _)
      | (with_reducible refine LeO.ite ?_ ?_)
      | (with_reducible refine LeO.bind ?_ (fun _ => ?_))
      | exact ih0 _ _ _ _
      | exact labels_Get.mono _ _ _
      | exact labels_Right.mono _ _
      | exact labels_checked.mono _ _
      | exact labels_wants.mono _ _ _ _ _
      | exact LeO.none _
      | refine LeO.ite ?_ ?_
      | refine LeO.bind ?_ (fun _ => ?_)
theorem labels_Matches.mono : ∀ a0 a1 k, LeO (labels_Matches.f k a0 a1) (labels_Matches.f (k + 1) a0 a1) := by
  intro a0 a1 k; have ih0 := labels_Matches.mono_l k; unfold labels_Matches.f
  repeat' first
      | (with_reducible exact ih0 _ _ _ _)
      | (with_reducible exact labels_Get.mono _ _ _)
      | (with_reducible exact labels_Right.mono _ _)
      | (with_reducible exact labels_checked.mono _ _)
      | (with_reducible exact labels_wants.mono _ _ _ _ _)
      | (with_reducible exact LeO.refl _)
      | (with_reducible exact LeO.none _)
      | (with_reducible refine LeO.ite ?_ ?_)
      | (with_reducible refine LeO.bind ?_ (fun _ => ?_))
      | exact ih0 _ _ _ _
      | exact labels_Get.mono _ _ _
      | exact labels_Right.mono _ _
      | exact labels_checked.mono _ _
      | exact labels_wants.mono _ _ _ _ _
      | exact LeO.none _
      | refine LeO.ite ?_ ?_
      | refine LeO.bind ?_ (fun _ => ?_)
set_option maxHeartbeats 8000000 in
set_option maxRecDepth 100000 in
theorem labels_Matches.calls (k : Nat) (A0 : Option Addr) (c0 : Nat) (l0 : List (S59)) (A1 : Option Addr) (c1 : Nat) (l1 : List (S36)) (r1 : Bool) (r2 : Int) (w : World) (hr0 : Kd.C k59 w A0 l0.length l0) (hc0 : l0.length ≤ c0) (hr1 : Kd.C k36 w A1 l1.length l1) (hc1 : l1.length ≤ c1) (hG : G w) (h : labels_Matches.f k l0 l1 = some (r1, r2)) :
    Calls Tryd.prog 18 #[.slice A0 l0.length c0, .slice A1 l1.length c1] w fun e w' => e = .returned (.tuple #[.bool r1, .int .i64 r2]) ∧ Below w.heap.size w w' := by
  have hu36 := Tryd.underlying36; have HR0 := Aside0.mk hr0; have HC0 := Aside0.mk hc0; clear hr0 hc0; have HR1 := Aside0.mk hr1; have HC1 := Aside0.mk hc1; clear hr1 hc1; have HB := Aside0.mk (Below.refl w.heap.size w); have HG := Aside0.mk hG; clear hG; have H : ((labels_Right.f k l0).bind fun t586 => (if t586 = true then ((labels_checked.f k l1).bind fun t587 => (if t587 = 0 then (labels_Matches.l0 k l0 l1 (l1.length : Int) 0) else (some (false, t587)))) else (some (false, 120)))) = some (r1, r2) := h; clear h; replace H := Option.bind_eq_some_iff.mp H; obtain ⟨t586, A30, H⟩ := H; replace H : (if t586 = true then ((labels_checked.f k l1).bind fun t587 => (if t587 = 0 then (labels_Matches.l0 k l0 l1 (l1.length : Int) 0) else (some (false, t587)))) else (some (false, 120))) = some (r1, r2) := H; have A3 := Aside0.mk A30; clear A30; by_cases c4 : t586 = true
  · subst c4
    have H1 : ((labels_checked.f k l1).bind fun t587 => (if t587 = 0 then (labels_Matches.l0 k l0 l1 (l1.length : Int) 0) else (some (false, t587)))) = some (r1, r2) := by rw [if_pos rfl] at H; exact H
    clear H; have H := H1; clear H1; replace H := Option.bind_eq_some_iff.mp H; obtain ⟨t587, A50, H⟩ := H; replace H : (if t587 = 0 then (labels_Matches.l0 k l0 l1 (l1.length : Int) 0) else (some (false, t587))) = some (r1, r2) := H; have A5 := Aside0.mk A50; clear A50; by_cases c6 : t587 = 0
    · rw [if_pos c6] at H
      have c6b0 : (t587 == 0) = true := beq_iff_eq.mpr c6; have c6b1 : (t587 != 0) = false := bne_eq_false_iff_eq.mpr c6; clear c6; have H' := Aside0.mk H; clear H; go_enter Tryd.func18, Tryd.ntmps18; go_wp2_with (first | ((with_reducible refine gate_callee (f := 28) rfl ?_); refine goesL_ (some 12) rfl rfl Tryd.func28 (by kernel_rfl) rfl #[.slice A0 l0.length c0] rfl zl ?_; (with_reducible refine (labels_Right.calls k _ _ l0 true _ ?side1 ?side2 ?side3 A3.out).mono ?_); (case side1 => repeat (first | exact HR0.out | (with_reducible refine Kd.C_alloc ?_ _) | (with_reducible refine Kd.C_drewN ?_ _) | (with_reducible refine Kd.C_drew ?_))); (case side2 => exact HC0.out); (case side3 => first | exact zG HG.out | exact G.below HG.out (zb HB.out)); rintro e w7 ⟨rfl, hb⟩; refine ⟨_, rfl, ?_⟩; replace HB := Aside0.mk (below_step (zb HB.out) hb); (try clear hb); (try clear hb2); (try clear hk); (try clear hi)) | ((with_reducible refine gate_callee (f := 54) rfl ?_); refine goesL_ (some 15) rfl rfl Tryd.func54 (by kernel_rfl) rfl #[.slice A1 l1.length c1] rfl zl ?_; (with_reducible refine (labels_checked.calls k _ _ l1 t587 _ ?side1 ?side2 ?side3 A5.out).mono ?_); (case side1 => exact zc (Kd.C_below HR1.out HB.out)); (case side2 => exact HC1.out); (case side3 => first | exact zG HG.out | exact G.below HG.out (zb HB.out)); rintro e w8 ⟨rfl, hb⟩; refine ⟨_, rfl, ?_⟩; replace HB := Aside0.mk (below_step (zb HB.out) hb); (try clear hb); (try clear hb2); (try clear hk); (try clear hi)))
      go_loopg [21] k (fun kq v21 w' => ∃ (x21_1 : Int), v21 = .int .i64 x21_1 ∧ Aside0 (labels_Matches.l0 kq l0 l1 (l1.length : Int) x21_1 = some (r1, r2)) ∧ Aside0 (kq ≤ k) ∧ Aside0 (Below w.heap.size w w'))
      case atStart => exact ⟨(0), zs, H', ⟨Nat.le_refl _⟩, ⟨zb HB.out⟩⟩
      case round =>
        clear H'; (try clear c1); (try clear c2); (try clear p2); (try clear c4); (try clear c5); (try clear c6); (try clear c6b0); (try clear c6b1); obtain ⟨x21_1, rfl, HA, HK1, HB⟩ := hrel
        cases gk with
        | zero => exact absurd HA.out (by simp [labels_Matches.l0])
        | succ k1 =>
          have H := HA.out; clear HA; simp only [labels_Matches.l0] at H; by_cases c9 : x21_1 < (l1.length : Int)
          · rw [if_pos c9] at H
            have c9b0 : decide (x21_1 < (l1.length : Int)) = true := decide_eq_true c9; clear c9; by_cases c10 : 0 ≤ x21_1
            · rw [if_pos c10] at H
              have c10b0 : decide (0 ≤ x21_1) = true := decide_eq_true c10; clear c10; by_cases c11 : x21_1 < (l1.length : Int)
              · rw [if_pos c11] at H
                have c11b0 : decide (x21_1 < (l1.length : Int)) = true := decide_eq_true c11; clear c11; replace H := Option.bind_eq_some_iff.mp H; obtain ⟨⟨t590, t591⟩, A120, H⟩ := H; replace H : ((labels_wants.f k1 ((rd_T36 l1 x21_1).f0) ((rd_T36 l1 x21_1).f1) ((rd_T36 l1 x21_1).f2) t590).bind fun t592 => (if t592 = true then (labels_Matches.l0 k1 l0 l1 (l1.length : Int) (wrap64 (x21_1 + 1))) else (some (false, 0)))) = some (r1, r2) := H; have A12 := Aside0.mk A120; clear A120; replace H := Option.bind_eq_some_iff.mp H; obtain ⟨t592, A130, H⟩ := H; replace H : (if t592 = true then (labels_Matches.l0 k1 l0 l1 (l1.length : Int) (wrap64 (x21_1 + 1))) else (some (false, 0))) = some (r1, r2) := H; have A13 := Aside0.mk A130; clear A130; by_cases c14 : t592 = true
                · subst c14
                  have H1 : (labels_Matches.l0 k1 l0 l1 (l1.length : Int) (wrap64 (x21_1 + 1))) = some (r1, r2) := by rw [if_pos rfl] at H; exact H
                  clear H; have H := H1; clear H1; have H' := Aside0.mk H; clear H; obtain ⟨ad588, e588, hx588_0, hx588_1, hx588_2⟩ := at_T36 HR1.out x21_1 zd zd
                  cases e588; replace hx588_0 := zw HB.out hx588_0; replace hx588_1 := zw HB.out hx588_1; replace hx588_2 := zw HB.out hx588_2; have p588 := eq_true (zd : 0 ≤ (x21_1 : Int)); have q588 := eq_true (zd : x21_1 < (l1.length : Int))
                  go_wp2_with (first | ((with_reducible refine gate_dst (N := 8) rfl ?_); refine box_event ?hg (N := 8) ?hd (cs := #[.int .u8 0, .string (⟨#[]⟩ : ByteArray), .string (⟨#[]⟩ : ByteArray)]) (t := 36) ?hr ?_; (case hd => rfl); (case hg => rfl); (case hr => first | (go_simp; done) | (go_simp; rfl)); intro gb589 hg w15 hbox hb; have BK589 := Aside0.mk (hbox); have GW589 := Aside0.mk ((by rw [hg]; exact (below_size (zb HB.out)) : w.heap.size ≤ gb589)); have GE589 := Aside0.mk ((by rw [hg]; exact (below_size (zb HB.out)) : w.heap.size ≤ gb589)); replace HB := Aside0.mk (below_step (zb HB.out) hb); clear hb hbox hg; have hcz16_0 : w15.cell? ⟨gb589, 0, none⟩ = some (.int .u8 0) := (blk_cell BK589.out 0).trans rfl; have hcz16_1 : w15.cell? ⟨gb589, 1, none⟩ = some (.string (⟨#[]⟩ : ByteArray)) := (blk_cell BK589.out 1).trans rfl; have hcz16_2 : w15.cell? ⟨gb589, 2, none⟩ = some (.string (⟨#[]⟩ : ByteArray)) := (blk_cell BK589.out 2).trans rfl; have hfz16_0 := blk_frozen BK589.out 0; have hfz16_1 := blk_frozen BK589.out 1; have hfz16_2 := blk_frozen BK589.out 2) | ((with_reducible refine gate_callee (f := 40) rfl ?_); refine goesL_ (some 29) rfl rfl Tryd.func40 (by kernel_rfl) rfl #[.slice A0 l0.length c0, .string ((rd_T36 l1 x21_1).f1)] rfl zl ?_; (with_reducible refine (labels_Get.calls k1 _ _ l0 ((rd_T36 l1 x21_1).f1) t590 t591 _ ?side1 ?side2 A12.out).mono ?_); (case side1 => exact Kd.C_below HR0.out (zg HB.out GE589.out)); (case side2 => exact HC0.out); rintro e w17 ⟨rfl, hb⟩; refine ⟨_, rfl, ?_⟩; replace BK589 := Aside0.mk (blk_below (g := gb589) (o := .cells #[.int .u8 ((rd_T36 l1 x21_1).f0), .string ((rd_T36 l1 x21_1).f1), .string ((rd_T36 l1 x21_1).f2)] 36 (0, 0)) (by (with_reducible repeat (first | refine blk_drewN ?_ _ | refine blk_drew ?_ | refine blk_alloc ?_ _)); refine blk_put (cs := #[.int .u8 ((rd_T36 l1 x21_1).f0), .string ((rd_T36 l1 x21_1).f1), .string (⟨#[]⟩ : ByteArray)]) ?_ 2 _ rfl; (with_reducible repeat (first | refine blk_drewN ?_ _ | refine blk_drew ?_ | refine blk_alloc ?_ _)); refine blk_put (cs := #[.int .u8 ((rd_T36 l1 x21_1).f0), .string (⟨#[]⟩ : ByteArray), .string (⟨#[]⟩ : ByteArray)]) ?_ 1 _ rfl; (with_reducible repeat (first | refine blk_drewN ?_ _ | refine blk_drew ?_ | refine blk_alloc ?_ _)); refine blk_put (cs := #[.int .u8 0, .string (⟨#[]⟩ : ByteArray), .string (⟨#[]⟩ : ByteArray)]) ?_ 0 _ rfl; (with_reducible repeat (first | refine blk_drewN ?_ _ | refine blk_drew ?_ | refine blk_alloc ?_ _)); exact BK589.out) hb); replace HB := Aside0.mk (below_step (zg HB.out GE589.out) hb); (try clear hb); (try clear hb2); (try clear hk); (try clear hi); have hcz18_0 : w17.cell? ⟨gb589, 0, none⟩ = some (.int .u8 ((rd_T36 l1 x21_1).f0)) := (blk_cell BK589.out 0).trans rfl; have hcz18_1 : w17.cell? ⟨gb589, 1, none⟩ = some (.string ((rd_T36 l1 x21_1).f1)) := (blk_cell BK589.out 1).trans rfl; have hcz18_2 : w17.cell? ⟨gb589, 2, none⟩ = some (.string ((rd_T36 l1 x21_1).f2)) := (blk_cell BK589.out 2).trans rfl; have hfz18_0 := blk_frozen BK589.out 0; have hfz18_1 := blk_frozen BK589.out 1; have hfz18_2 := blk_frozen BK589.out 2) | ((with_reducible refine gate_callee (f := 55) rfl ?_); refine goesL_ (some 34) rfl rfl Tryd.func55 (by kernel_rfl) rfl #[.agg #[.int .u8 ((rd_T36 l1 x21_1).f0), .string ((rd_T36 l1 x21_1).f1), .string ((rd_T36 l1 x21_1).f2)], .string t590] rfl zl ?_; (with_reducible refine (labels_wants.calls k1 ((rd_T36 l1 x21_1).f0) ((rd_T36 l1 x21_1).f1) ((rd_T36 l1 x21_1).f2) t590 true _ ?side1 A13.out).mono ?_); (case side1 => first | exact zG HG.out | exact G.below HG.out (zg HB.out GE589.out)); rintro e w19 ⟨rfl, hb⟩; refine ⟨_, rfl, ?_⟩; replace BK589 := Aside0.mk (blk_below (g := gb589) (o := .cells #[.int .u8 ((rd_T36 l1 x21_1).f0), .string ((rd_T36 l1 x21_1).f1), .string ((rd_T36 l1 x21_1).f2)] 36 (0, 0)) (by (with_reducible repeat (first | refine blk_drewN ?_ _ | refine blk_drew ?_ | refine blk_alloc ?_ _)); exact BK589.out) hb); replace HB := Aside0.mk (below_step (zg HB.out GE589.out) hb); (try clear hb); (try clear hb2); (try clear hk); (try clear hi)))
                  go_roundg k1
                  case measure => have := HK1.out; omega
                  case rel => exact ⟨(wrap64 (x21_1 + 1)), zs, H', ⟨by have := HK1.out; omega⟩, ⟨zg HB.out GE589.out⟩⟩
                · replace c14 := Bool.eq_false_iff.mpr c14
                  subst c14; have H1 : (some (false, 0)) = some (r1, r2) := by rw [if_neg (show ¬ (false = true) by decide)] at H; exact H
                  clear H; have H := H1; clear H1; simp only [Option.some.injEq, Prod.mk.injEq] at H; obtain ⟨rfl, rfl⟩ := H; obtain ⟨ad588, e588, hx588_0, hx588_1, hx588_2⟩ := at_T36 HR1.out x21_1 zd zd
                  cases e588; replace hx588_0 := zw HB.out hx588_0; replace hx588_1 := zw HB.out hx588_1; replace hx588_2 := zw HB.out hx588_2; have p588 := eq_true (zd : 0 ≤ (x21_1 : Int)); have q588 := eq_true (zd : x21_1 < (l1.length : Int))
                  go_wp2_with (first | ((with_reducible refine gate_dst (N := 8) rfl ?_); refine box_event ?hg (N := 8) ?hd (cs := #[.int .u8 0, .string (⟨#[]⟩ : ByteArray), .string (⟨#[]⟩ : ByteArray)]) (t := 36) ?hr ?_; (case hd => rfl); (case hg => rfl); (case hr => first | (go_simp; done) | (go_simp; rfl)); intro gb589 hg w20 hbox hb; have BK589 := Aside0.mk (hbox); have GW589 := Aside0.mk ((by rw [hg]; exact (below_size (zb HB.out)) : w.heap.size ≤ gb589)); have GE589 := Aside0.mk ((by rw [hg]; exact (below_size (zb HB.out)) : w.heap.size ≤ gb589)); replace HB := Aside0.mk (below_step (zb HB.out) hb); clear hb hbox hg; have hcz21_0 : w20.cell? ⟨gb589, 0, none⟩ = some (.int .u8 0) := (blk_cell BK589.out 0).trans rfl; have hcz21_1 : w20.cell? ⟨gb589, 1, none⟩ = some (.string (⟨#[]⟩ : ByteArray)) := (blk_cell BK589.out 1).trans rfl; have hcz21_2 : w20.cell? ⟨gb589, 2, none⟩ = some (.string (⟨#[]⟩ : ByteArray)) := (blk_cell BK589.out 2).trans rfl; have hfz21_0 := blk_frozen BK589.out 0; have hfz21_1 := blk_frozen BK589.out 1; have hfz21_2 := blk_frozen BK589.out 2) | ((with_reducible refine gate_callee (f := 40) rfl ?_); refine goesL_ (some 29) rfl rfl Tryd.func40 (by kernel_rfl) rfl #[.slice A0 l0.length c0, .string ((rd_T36 l1 x21_1).f1)] rfl zl ?_; (with_reducible refine (labels_Get.calls k1 _ _ l0 ((rd_T36 l1 x21_1).f1) t590 t591 _ ?side1 ?side2 A12.out).mono ?_); (case side1 => exact Kd.C_below HR0.out (zg HB.out GE589.out)); (case side2 => exact HC0.out); rintro e w22 ⟨rfl, hb⟩; refine ⟨_, rfl, ?_⟩; replace BK589 := Aside0.mk (blk_below (g := gb589) (o := .cells #[.int .u8 ((rd_T36 l1 x21_1).f0), .string ((rd_T36 l1 x21_1).f1), .string ((rd_T36 l1 x21_1).f2)] 36 (0, 0)) (by (with_reducible repeat (first | refine blk_drewN ?_ _ | refine blk_drew ?_ | refine blk_alloc ?_ _)); refine blk_put (cs := #[.int .u8 ((rd_T36 l1 x21_1).f0), .string ((rd_T36 l1 x21_1).f1), .string (⟨#[]⟩ : ByteArray)]) ?_ 2 _ rfl; (with_reducible repeat (first | refine blk_drewN ?_ _ | refine blk_drew ?_ | refine blk_alloc ?_ _)); refine blk_put (cs := #[.int .u8 ((rd_T36 l1 x21_1).f0), .string (⟨#[]⟩ : ByteArray), .string (⟨#[]⟩ : ByteArray)]) ?_ 1 _ rfl; (with_reducible repeat (first | refine blk_drewN ?_ _ | refine blk_drew ?_ | refine blk_alloc ?_ _)); refine blk_put (cs := #[.int .u8 0, .string (⟨#[]⟩ : ByteArray), .string (⟨#[]⟩ : ByteArray)]) ?_ 0 _ rfl; (with_reducible repeat (first | refine blk_drewN ?_ _ | refine blk_drew ?_ | refine blk_alloc ?_ _)); exact BK589.out) hb); replace HB := Aside0.mk (below_step (zg HB.out GE589.out) hb); (try clear hb); (try clear hb2); (try clear hk); (try clear hi); have hcz23_0 : w22.cell? ⟨gb589, 0, none⟩ = some (.int .u8 ((rd_T36 l1 x21_1).f0)) := (blk_cell BK589.out 0).trans rfl; have hcz23_1 : w22.cell? ⟨gb589, 1, none⟩ = some (.string ((rd_T36 l1 x21_1).f1)) := (blk_cell BK589.out 1).trans rfl; have hcz23_2 : w22.cell? ⟨gb589, 2, none⟩ = some (.string ((rd_T36 l1 x21_1).f2)) := (blk_cell BK589.out 2).trans rfl; have hfz23_0 := blk_frozen BK589.out 0; have hfz23_1 := blk_frozen BK589.out 1; have hfz23_2 := blk_frozen BK589.out 2) | ((with_reducible refine gate_callee (f := 55) rfl ?_); refine goesL_ (some 34) rfl rfl Tryd.func55 (by kernel_rfl) rfl #[.agg #[.int .u8 ((rd_T36 l1 x21_1).f0), .string ((rd_T36 l1 x21_1).f1), .string ((rd_T36 l1 x21_1).f2)], .string t590] rfl zl ?_; (with_reducible refine (labels_wants.calls k1 ((rd_T36 l1 x21_1).f0) ((rd_T36 l1 x21_1).f1) ((rd_T36 l1 x21_1).f2) t590 false _ ?side1 A13.out).mono ?_); (case side1 => first | exact zG HG.out | exact G.below HG.out (zg HB.out GE589.out)); rintro e w24 ⟨rfl, hb⟩; refine ⟨_, rfl, ?_⟩; replace BK589 := Aside0.mk (blk_below (g := gb589) (o := .cells #[.int .u8 ((rd_T36 l1 x21_1).f0), .string ((rd_T36 l1 x21_1).f1), .string ((rd_T36 l1 x21_1).f2)] 36 (0, 0)) (by (with_reducible repeat (first | refine blk_drewN ?_ _ | refine blk_drew ?_ | refine blk_alloc ?_ _)); exact BK589.out) hb); replace HB := Aside0.mk (below_step (zg HB.out GE589.out) hb); (try clear hb); (try clear hb2); (try clear hk); (try clear hi)))
                  go_ret2
                  exact ⟨ze, zg HB.out GE589.out⟩
              · rw [if_neg c11] at H
                exact absurd H (by simp)
            · rw [if_neg c10] at H
              exact absurd H (by simp)
          · rw [if_neg c9] at H
            have c9b0 : decide (x21_1 < (l1.length : Int)) = false := decide_eq_false c9; clear c9; simp only [Option.some.injEq, Prod.mk.injEq] at H; obtain ⟨rfl, rfl⟩ := H; go_wp2; go_ret2
            exact ⟨ze, zb HB.out⟩
    · rw [if_neg c6] at H
      have c6b0 : (t587 == 0) = false := beq_eq_false_iff_ne.mpr c6; have c6b1 : (t587 != 0) = true := bne_iff_ne.mpr c6; simp only [Option.some.injEq, Prod.mk.injEq] at H; obtain ⟨rfl, rfl⟩ := H; go_enter Tryd.func18, Tryd.ntmps18; go_wp2_with (first | ((with_reducible refine gate_callee (f := 28) rfl ?_); refine goesL_ (some 12) rfl rfl Tryd.func28 (by kernel_rfl) rfl #[.slice A0 l0.length c0] rfl zl ?_; (with_reducible refine (labels_Right.calls k _ _ l0 true _ ?side1 ?side2 ?side3 A3.out).mono ?_); (case side1 => repeat (first | exact HR0.out | (with_reducible refine Kd.C_alloc ?_ _) | (with_reducible refine Kd.C_drewN ?_ _) | (with_reducible refine Kd.C_drew ?_))); (case side2 => exact HC0.out); (case side3 => first | exact zG HG.out | exact G.below HG.out (zb HB.out)); rintro e w25 ⟨rfl, hb⟩; refine ⟨_, rfl, ?_⟩; replace HB := Aside0.mk (below_step (zb HB.out) hb); (try clear hb); (try clear hb2); (try clear hk); (try clear hi)) | ((with_reducible refine gate_callee (f := 54) rfl ?_); refine goesL_ (some 15) rfl rfl Tryd.func54 (by kernel_rfl) rfl #[.slice A1 l1.length c1] rfl zl ?_; (with_reducible refine (labels_checked.calls k _ _ l1 t587 _ ?side1 ?side2 ?side3 A5.out).mono ?_); (case side1 => exact zc (Kd.C_below HR1.out HB.out)); (case side2 => exact HC1.out); (case side3 => first | exact zG HG.out | exact G.below HG.out (zb HB.out)); rintro e w26 ⟨rfl, hb⟩; refine ⟨_, rfl, ?_⟩; replace HB := Aside0.mk (below_step (zb HB.out) hb); (try clear hb); (try clear hb2); (try clear hk); (try clear hi)))
      go_ret2
      exact ⟨ze, zb HB.out⟩
  · replace c4 := Bool.eq_false_iff.mpr c4
    subst c4; have H1 : (some (false, 120)) = some (r1, r2) := by rw [if_neg (show ¬ (false = true) by decide)] at H; exact H
    clear H; have H := H1; clear H1; simp only [Option.some.injEq, Prod.mk.injEq] at H; obtain ⟨rfl, rfl⟩ := H; go_enter Tryd.func18, Tryd.ntmps18; go_wp2_with (first | ((with_reducible refine gate_callee (f := 28) rfl ?_); refine goesL_ (some 12) rfl rfl Tryd.func28 (by kernel_rfl) rfl #[.slice A0 l0.length c0] rfl zl ?_; (with_reducible refine (labels_Right.calls k _ _ l0 false _ ?side1 ?side2 ?side3 A3.out).mono ?_); (case side1 => repeat (first | exact HR0.out | (with_reducible refine Kd.C_alloc ?_ _) | (with_reducible refine Kd.C_drewN ?_ _) | (with_reducible refine Kd.C_drew ?_))); (case side2 => exact HC0.out); (case side3 => first | exact zG HG.out | exact G.below HG.out (zb HB.out)); rintro e w27 ⟨rfl, hb⟩; refine ⟨_, rfl, ?_⟩; replace HB := Aside0.mk (below_step (zb HB.out) hb); (try clear hb); (try clear hb2); (try clear hk); (try clear hi)))
    go_ret2
    exact ⟨ze, zb HB.out⟩

end Go.Proofs.YtogegkfefpgbcaaDoor.PL
